/-
  An own text of this claim.
-/
import Derived.Test.YtbpoodgegepfjaaGreatDoorA1
import Derived.MapKept
import Derived.Laws.OwnMore
import Derived.OrdersIn
import Derived.Scope
import Derived.RangeFuncLeaves
import Derived.RangeFuncKeeps
import Derived.Orders
set_option linter.unusedSectionVars false
namespace Go.Sx
open Go.RowKit (Below)
theorem zcy {w : World} {X : Nat -> Prop} : ∀ (l : List SV) (cs : List Value), xK l = true -> (zK w X 1 l nob cs ↔ cs = yh l)
 | [], cs, _ => by simp only [zK, yh]
 | .int k n :: r, cs, h => by
   simp only [xK] at h
   simp only [zK, yh, SV.cls, zb]
   constructor
   . rintro ⟨c1, c2, rfl, _, rfl, h2⟩
     rw [(zcy r c2 h).1 h2]
   . intro e
     exact ⟨[.int k n], yh r, e, rfl, rfl, (zcy r _ h).2 rfl⟩
 | .any :: r, _, h | .bool _ :: r, _, h | .tru :: r, _, h | .fls :: r, _, h | .str _ :: r, _, h | .agg _ :: r, _, h | .arr .. :: r, _, h | .tup _ :: r, _, h | .sl .. :: r, _, h | .mt :: r, _, h | .nils :: r, _, h | .iptr _ :: r, _, h | .ptr .. :: r, _, h | .osl .. :: r, _, h | .fn .. :: r, _, h | .nilf :: r, _, h | .nilp :: r, _, h | .nili :: r, _, h | .yld _ :: r, _, h | .mpr _ :: r, _, h | .vsl .. :: r, _, h | .ifc .. :: r, _, h => by cases h
mutual
theorem ya {w : World} {X : Nat -> Prop} {β : Beta} : ∀ (v : SV) (cs : List Value), v.pur = true -> (zb w X v β cs ↔ cs = v.cls)
 | .int .., _, _ => by simp only [zb, SV.cls]
 | .bool _, _, _ => by simp only [zb, SV.cls]
 | .tru, _, _ => by simp only [zb, SV.cls]
 | .fls, _, _ => by simp only [zb, SV.cls]
 | .str _, _, _ => by simp only [zb, SV.cls]
 | .agg fs, cs, h => by
   simp only [zb, SV.cls]
   exact ze0 fs cs h
 | .arr n sz xs, cs, h => by
   simp only [SV.pur] at h
   split at h
   case h_2 => cases h
   rename_i h1 h2
   have h1 := zi h1
   have h2 := zi h2
   subst h2
   simp only [zb, SV.cls]
   rw [zcy xs cs h]
   exact ⟨fun k => k.2, fun k => ⟨h1, k⟩⟩
 | .any, _, h | .tup _, _, h | .sl .., _, h | .mt, _, h | .nils, _, h | .iptr _, _, h | .ptr .., _, h | .osl .., _, h | .fn .., _, h | .nilf, _, h | .nilp, _, h | .nili, _, h | .yld _, _, h | .mpr _, _, h | .vsl .., _, h | .ifc .., _, h => by cases h
theorem ze0 {w : World} {X : Nat -> Prop} {β : Beta} : ∀ (l : List SV) (cs : List Value), zpn l = true -> (qI w X l β cs ↔ cs = yh l)
 | [], cs, _ => by simp only [qI, yh]
 | v :: r, cs, h => by
   simp only [zpn] at h
   split at h
   case h_2 => cases h
   rename_i hv
   simp only [qI, yh]
   constructor
   . rintro ⟨c1, c2, rfl, h1, h2⟩
     rw [(ya v c1 hv).1 h1, (ze0 r c2 h).1 h2]
   . intro e
     exact ⟨v.cls, yh r, e, (ya v _ hv).2 rfl, (ze0 r _ h).2 rfl⟩
end
theorem uA {w : World} {X : Nat -> Prop} {β : Beta} {v : SV} {u : Value} (h : v.pur = true) : rel w X v β u ↔ u = v.val := by
 cases v with
 | agg fs =>
   rw [qe (by simp)]
   simp only [qA, SV.isAgg, SV.val]
   constructor
   . rintro ⟨cs, rfl, h1⟩
     rw [ya _ _ h] at h1
     simp only [SV.cls] at h1
     rw [<- h1]
   . rintro rfl
     exact ⟨_, rfl, by rw [ya _ _ h]; simp [SV.cls]⟩
 | arr n sz xs =>
   rw [qe (by simp)]
   simp only [qA, SV.isAgg, SV.val]
   constructor
   . rintro ⟨cs, rfl, h1⟩
     rw [ya _ _ h] at h1
     simp only [SV.cls] at h1
     rw [<- h1]
   . rintro rfl
     exact ⟨_, rfl, by rw [ya _ _ h]; simp [SV.cls]⟩
 | int k n => rw [qe (by simp), qq rfl (by simp), ya _ _ h]; simp [SV.cls, SV.val]
 | bool b => rw [qe (by simp), qq rfl (by simp), ya _ _ h]; simp [SV.cls, SV.val]
 | tru => rw [qe (by simp), qq rfl (by simp), ya _ _ h]; simp [SV.cls, SV.val]
 | fls => rw [qe (by simp), qq rfl (by simp), ya _ _ h]; simp [SV.cls, SV.val]
 | str s => rw [qe (by simp), qq rfl (by simp), ya _ _ h]; simp [SV.cls, SV.val]
 | _ => cases h
theorem zj6 {P : Program} {d : TD} {T : TypeId} {k p : SV} {t : Bool} {kd : TypeDesc} (hd : match d with | .str => kd = .string | .int k => kd = .int k | _ => True) (h : zgm d k p = some t) : Instr.sameNow kd k.val p.val = some t := by
 unfold zgm at h
 grind [Instr.sameNow, List.headD, SV.cls, SV.val, zlp]
theorem zn4 {tt : List (Nat × TI)} {kT : TypeId} {x y : SV} (h : ∀ n e, (lkT tt kT).d ≠ .arr n e) : yx tt kT x y = zgm (lkT tt kT).d x y := by
 simp_all [yx]
theorem zfe {tt : List (Nat × TI)} {kT : TypeId} {kd : TypeDesc} {k : SV} {Kno Kbad : Prop} {Kyes : Nat -> SV -> Prop} (hbad : ¬ Kbad) (hn : ∀ n e, (lkT tt kT).d ≠ .arr n e) (hd : match (lkT tt kT).d with | .str => kd = .string | .int k => kd = .int k | _ => True) : ∀ (es : List (SV × SV)) (ms : List MapEntry) (i : Nat), ms.map (fun e => (e.key, e.val)) = es.map (fun p => (p.1.val, p.2.val)) -> wa tt kT k Kno Kbad Kyes es i ->
 (Instr.findNow kd k.val ms i = some none /\ Kno) \/ ∃ j v, es[j]? = some v /\ Instr.findNow kd k.val ms i = some (some (i + j, v.2.val)) /\ Kyes (i + j) v.2 /\ yx tt kT k v.1 = some true
 | [], [], i, _, h => .inl ⟨rfl, h⟩
 | [], m :: ms, i, hm, h => by simp at hm
 | p :: r, [], i, hm, h => by simp at hm
 | p :: r, m :: ms, i, hm, h => by
   simp only [List.map_cons, List.cons.injEq, Prod.mk.injEq] at hm
   obtain ⟨⟨h1, h2⟩, h3⟩ := hm
   simp only [wa] at h
   simp only [Instr.findNow]
   split at h
   . rename_i e
     rw [h1, zj6 (P := default) (T := 0) hd (zn4 hn ▸ e)]
     exact .inr ⟨0, p, rfl, by simp [h2], h, e⟩
   . rename_i e
     rw [h1, zj6 (P := default) (T := 0) hd (zn4 hn ▸ e)]
     rcases zfe hbad hn hd r ms (i + 1) h3 h with g | ⟨j, v, g1, g2, g3, g4⟩
     . exact .inl g
     . refine .inr ⟨j + 1, v, g1, ?_, ?_, g4⟩
       . simp only; rw [g2]; congr 3; omega
       . have : i + (j + 1) = i + 1 + j := by omega
         rw [this]; exact g3
   . exact (hbad h).elim
theorem zh2 {k v : SV} : ∀ (es : List (SV × SV)) (j : Nat), zbr k v es j = es.set j (k, v)
 | [], _ => rfl
 | p :: r, 0 => rfl
 | p :: r, j + 1 => by simp only [zbr, List.set_cons_succ, zh2 r j]
theorem zfu {k v : SV} : ∀ (es : List (SV × SV)), jG k v es = es ++ [(k, v)]
 | [] => rfl
 | p :: r => by simp only [jG, zfu r, List.cons_append]
theorem purL_iff : ∀ {es : List (SV × SV)}, zav es = true ↔ ∀ p ∈ es, p.1.pur = true /\ p.2.pur = true
 | [] => by simp [zav]
 | p :: r => by
   have ih := purL_iff (es := r)
   simp only [zav, List.forall_mem_cons]
   cases h1 : p.1.pur <;> cases h2 : p.2.pur <;> simp [ih]
theorem uQ {tt : List (Nat × TI)} {kT : TypeId} {k : SV} (h : ue tt kT k = true) : k.pur = true := by
 unfold ue at h
 split at h
 . split at h <;> first | rfl | cases h
 . split at h <;> first | rfl | cases h
 . split at h
   . split at h
     . simp_all [SV.pur]
     . cases h
   . cases h
 . cases h
theorem zmr {E : Env} (ok : EnvOK E) {w : World} {kT : TypeId} {k : SV} {Kno Kbad : Prop} {Kyes : Nat -> SV -> Prop} (hbad : ¬ Kbad) {n0 : Nat} {e0 : TypeId} (hn : (lkT E.tt kT).d = .arr n0 e0) (hk : k.pur = true) : ∀ (es : List (SV × SV)) (ms : List MapEntry) (i : Nat), ms.map (fun e => (e.key, e.val)) = es.map (fun p => (p.1.val, p.2.val)) -> zav es = true -> wa E.tt kT k Kno Kbad Kyes es i ->
 ((Instr.findAsking kT k.val ms i).run E.P w = .ok none w /\ Kno) \/ ∃ j v, es[j]? = some v /\ (Instr.findAsking kT k.val ms i).run E.P w = .ok (some (i + j, v.2.val)) w /\ Kyes (i + j) v.2 /\ yx E.tt kT k v.1 = some true
 | [], [], i, _, _, h => .inl ⟨by simp [Instr.findAsking], h⟩
 | [], m :: ms, i, hm, _, h => by simp at hm
 | p :: r, [], i, hm, _, h => by simp at hm
 | p :: r, m :: ms, i, hm, hp, h => by
   simp only [List.map_cons, List.cons.injEq, Prod.mk.injEq] at hm
   obtain ⟨⟨h1, h2⟩, h3⟩ := hm
   have hp' := purL_iff.1 hp
   have hpp := (hp' p (by simp)).1
   have hpr : zav r = true := purL_iff.2 fun q hq => hp' q (by simp [hq])
   simp only [wa] at h
   have hask : ∀ b, eqT E.tt 60 kT k p.1 = some b -> (Op.equal kT k.val m.key).run E.P w = .ok b w := by
    intro b hb
    rw [h1]
    exact zf1 (X := fun _ => False) (β := nob) (fun T hT => ok.tt T hT) 60 kT k p.1 b hb _ _ ((uA hk).2 rfl) ((uA hpp).2 rfl) _ (by decide)
   have hq : ∀ b, yx E.tt kT k p.1 = some b -> eqT E.tt 60 kT k p.1 = some b := by
    intro b hb
    unfold yx at hb
    grind
   split at h
   . rename_i e
     refine .inr ⟨0, p, rfl, ?_, h, e⟩
     simp_all [Instr.findAsking, Nat.add_zero, Result.andThen_ok, Sem.run_bind, Sem.run_pure, if_true]
   . rename_i e
     have hrun : (Instr.findAsking kT k.val (m :: ms) i).run E.P w = (Instr.findAsking kT k.val ms (i + 1)).run E.P w := by
      simp_all [Bool.false_eq_true, Instr.findAsking, Result.andThen_ok, Sem.run_bind, if_false]
     rcases zmr ok hbad hn hk r ms (i + 1) h3 hpr h with ⟨g0, g⟩ | ⟨j, v, g1, g2, g3, g4⟩
     . exact .inl ⟨hrun.trans g0, g⟩
     . have hi : i + (j + 1) = i + 1 + j := by omega
       exact .inr ⟨j + 1, v, g1, by rw [hrun, g2, hi], by rw [hi]; exact g3, g4⟩
   . exact (hbad h).elim
theorem xM {P : Program} {kT : TypeId} {k : Value} {kd : TypeDesc} {ms : List MapEntry} {r : Option (Nat × Value)} {w : World} (h : P.underlying kT = some kd) (hf : Instr.findNow kd k ms 0 = some r) : (Instr.findKey kT k ms).run P w = .ok r w := by
 simp only [Instr.findKey, Sem.run_bind, run_underlying h, Result.andThen_ok, hf, Sem.run_pure]
theorem zdg {P : Program} {kT : TypeId} {k : Value} {n : Nat} {e : TypeId} {ms : List MapEntry} {r : Option (Nat × Value)} {w : World} (h : P.underlying kT = some (.array n e)) (hf : (Instr.findAsking kT k ms).run P w = .ok r w) : (Instr.findKey kT k ms).run P w = .ok r w := by
 cases ms with
 | nil =>
   simp [Instr.findAsking] at hf
   simp [Instr.findKey, run_underlying h, Instr.findNow, hf]
 | cons m ms =>
   simp only [Instr.findKey, Sem.run_bind, run_underlying h, Result.andThen_ok, Instr.findNow, Instr.sameNow]
   exact hf
theorem ziu {E : Env} (ok : EnvOK E) {w : World} {kT : TypeId} {k : SV} {Kno Kbad : Prop} {Kyes : Nat -> SV -> Prop} (hkd : ue E.tt kT k = true) (hbad : ¬ Kbad) {es : List (SV × SV)} {ms : List MapEntry} (hm : ms.map (fun e => (e.key, e.val)) = es.map (fun p => (p.1.val, p.2.val))) (hp : zav es = true) (h : wa E.tt kT k Kno Kbad Kyes es 0) :
 ((Instr.findKey kT k.val ms).run E.P w = .ok none w /\ Kno) \/ ∃ j v, es[j]? = some v /\ (Instr.findKey kT k.val ms).run E.P w = .ok (some (j, v.2.val)) w /\ Kyes j v.2 /\ yx E.tt kT k v.1 = some true := by
 cases hd : (lkT E.tt kT).d with
 | arr n0 e0 =>
   have desc := (ok.tt kT (by rw [hd]; simp)).desc
   simp only [hd] at desc
   rcases zmr ok (w := w) hbad hd (uQ hkd) es ms 0 hm hp h with ⟨g0, g⟩ | ⟨j, v, g1, g2, g3, g4⟩
   . exact .inl ⟨zdg desc.1 g0, g⟩
   . rw [Nat.zero_add] at g2 g3
     exact .inr ⟨j, v, g1, zdg desc.1 g2, g3, g4⟩
 | str =>
   have desc := (ok.tt kT (by rw [hd]; simp)).desc
   simp only [hd] at desc
   rcases zfe hbad (by rw [hd]; simp) (kd := .string) (by rw [hd]) es ms 0 hm h with ⟨g0, g⟩ | ⟨j, v, g1, g2, g3, g4⟩
   . exact .inl ⟨xM desc g0, g⟩
   . rw [Nat.zero_add] at g2 g3
     exact .inr ⟨j, v, g1, xM desc g2, g3, g4⟩
 | int q =>
   have desc := (ok.tt kT (by rw [hd]; simp)).desc
   simp only [hd] at desc
   rcases zfe hbad (by rw [hd]; simp) (kd := .int q) (by rw [hd]) es ms 0 hm h with ⟨g0, g⟩ | ⟨j, v, g1, g2, g3, g4⟩
   . exact .inl ⟨xM desc g0, g⟩
   . rw [Nat.zero_add] at g2 g3
     exact .inr ⟨j, v, g1, xM desc g2, g3, g4⟩
 | _ => unfold ue at hkd; rw [hd] at hkd; cases hkd
theorem zmn {P : Program} {kT : TypeId} {s : ByteArray} {em : Bool} {w : World} (n : Nat) (h : P.underlying kT = some .string) : (Instr.checkKey em (n + 1) kT (.string s)).run P w = .ok () w := by
 simp [Instr.checkKey, run_underlying h]
theorem zc3 {P : Program} {kT : TypeId} {k k' : IntKind} {i : Int} {em : Bool} {w : World} (n : Nat) (h : P.underlying kT = some (.int k')) : (Instr.checkKey em (n + 1) kT (.int k i)).run P w = .ok () w := by
 simp [Instr.checkKey, run_underlying h]
theorem zm2 : ∀ {xs : List SV}, xK xs = true -> (yh xs).length = xs.length /\ ∀ v ∈ yh xs, ∃ k i, v = .int k i
 | [], _ => ⟨rfl, by simp [yh]⟩
 | x :: r, h => by
   cases x <;> simp only [xK] at h <;> first | (cases h; done) | skip
   have ih := zm2 (xs := r) h
   simp only [yh, SV.cls, List.cons_append, List.nil_append, List.length_cons, ih.1, true_and, List.forall_mem_cons]
   exact ⟨⟨_, _, rfl⟩, ih.2⟩
theorem zjg {P : Program} {kT e : TypeId} {n : Nat} {q : IntKind} {ti : TI} {cs : Array Value} {w : World} (hu : P.underlying kT = some (.array n e)) (te : TIok P e ti) (hq : ti.d = .int q) (h1 : ti.size = 1) (hlen : cs.toList.length = n) (hint : ∀ v ∈ cs.toList, ∃ k i, v = .int k i) (em : Bool) (m : Nat) : (Instr.checkKey em (m + 2) kT (.agg cs)).run P w = .ok () w := by
 have desc := te.desc
 rw [hq] at desc
 simp only at desc
 rw [show m + 2 = (m + 1) + 1 from rfl, Instr.checkKey]
 simp only [Sem.run_bind, run_underlying hu, Result.andThen_ok]
 simp only [Std.Legacy.Range.forIn_eq_forIn_range', Std.Legacy.Range.size, Nat.sub_zero, Nat.add_one_sub_one, Nat.div_one]
 have each : ∀ j ∈ List.range' 0 n, ∃ v, cs.toList[j]? = some v /\ ∃ k i, v = Value.int k i := by
  simp_all
 generalize List.range' 0 n = is at each
 induction is with
 | nil => simp
 | cons j is ih =>
   obtain ⟨v, hv, k, i, rfl⟩ := each j (by simp)
   have hlt : j < cs.toList.length := by
    grind
   have hsp : cs.toList = cs.toList.take j ++ [Value.int k i] ++ cs.toList.drop (j + 1) := by
    have := List.take_append_drop j cs.toList
    rw [List.drop_eq_getElem_cons hlt] at this
    grind
   have p1 := jM te (by rw [hq]; simp) hsp (by rw [h1]; rfl) (fun _ => h1) w
   rw [List.length_take, Nat.min_eq_left (by omega), hq] at p1
   have p1' : (part e cs (j * 1)).run P w = .ok (.int k i) w := by rw [Nat.mul_one]; exact p1
   have p2 : (Instr.checkKey em (m + 1) e (.int k i)).run P w = .ok () w := zc3 m desc
   simp only [List.forIn_cons, Sem.run_bind, te.sz, h1, Result.andThen_ok, p1', p2, Sem.run_pure]
   exact ih (fun y hy => each y (by simp [hy]))
theorem zik {E : Env} (ok : EnvOK E) {w : World} {kT : TypeId} {k : SV} (hk : ue E.tt kT k = true) (em : Bool) : (Instr.checkKey em 10000 kT k.val).run E.P w = .ok () w := by
 unfold ue at hk
 split at hk
 . rename_i hd
   have desc := (ok.tt kT (by rw [hd]; simp)).desc
   simp only [hd] at desc
   split at hk
   . exact zmn 9999 desc
   . cases hk
 . rename_i hd
   have desc := (ok.tt kT (by rw [hd]; simp)).desc
   simp only [hd] at desc
   split at hk
   . exact zc3 9999 desc
   . cases hk
 . rename_i n e hd
   have desc := (ok.tt kT (by rw [hd]; simp)).desc
   simp only [hd] at desc
   split at hk
   . rename_i m xs q he
     split at hk
     . rename_i h1 h2 h3
       have h1 := zi h1
       have h2 := zi h2
       have h3 := zi h3
       have hc := zm2 hk
       simp only [SV.val, SV.cls]
       exact zjg desc.1 (ok.tt e (by rw [he]; simp)) he h2 (by rw [List.toList_toArray, hc.1, h3, h1]) (by rw [List.toList_toArray]; exact hc.2) em 9998
     . cases hk
   . cases hk
 . cases hk
theorem zlt {w : World} {X : Nat -> Prop} {β : Beta} {v v' : SV} {u u' : Value} (h : qA w X v β u) (h' : qA w X v' β u') : relL w X [v, v'] β [u, u'] := by
 grind [relL_cons, relL_nil]
theorem zco {P : Program} {w : World} {r : Nat} {es : Array MapEntry} {clock : Nat} (h : w.heap[r]? = some (.map es clock)) : (getObj r).run P w = .ok (.map es clock) w := by simp [getObj, Sem.run, h]
theorem zi0 {P : Program} {w : World} {r : Nat} {es : Array MapEntry} {clock : Nat} {o : Obj} (h : w.heap[r]? = some (.map es clock)) : (setObj r o).run P w = .ok () (World.put w r o) := by simp [setObj, Sem.run, h, World.put]
section
variable {c : Cx} (ok : EnvOK c.E) {o : Oper} {a : Act} {sl : Slots} {h : Heap} {n : Nat} {F : Nat -> Prop} {β : Beta} {Y : Nat -> Prop} {w : World} (m : Mem c h F β Y w) (hF : F n)
 (hev : ∀ x ∈ o.op.operands.toList, rel w (XX c.Z Y β h) (ev c.E sl x) β (a.eval x)) {K : KE} (hK : opE c.E sl h n o.op K)
include m hF hev hK
theorem zrd {T : TypeId} {r : Option Operand} (ho : o.op = .makeMap T r) : ∃ v ns ea, K v ns ea /\ OpOK c o a h n F β Y w v ns ea := by
 rw [ho] at hK hev
 cases r with
 | some r => simp only [opE] at hK
 | none =>
   simp only [opE] at hK
   have hn : β n = none := m.fresh n hF
   have hβ : ∀ b l', β b = some l' -> zW β n ⟨w.heap.size, 0, 0⟩ b = some l' := fun b l' hb => by
    rw [zx]; · exact hb
    . grind
   obtain ⟨m', e⟩ := m.new (k := .mp []) (l := ⟨w.heap.size, 0, 0⟩) (o := .map #[] 0) hF rfl (fun w' X' β' e hβ' hh => ⟨#[], 0, hh, rfl, rfl⟩)
   refine ⟨_, _, _, hK, .value (u := .map (some w.heap.size)) (w' := w.alloc (.map #[] 0)) (β' := zW β n ⟨w.heap.size, 0, 0⟩) ?_ ⟨m', ?_, fun v0 u0 h0 => zv e (zj hβ _) h0⟩⟩
   . simp_all [Instr.makeMap, execOp]
   . rw [qe (by simp), qq rfl (by simp)]
     simp only [zb]
     exact ⟨_, zH .., rfl⟩
include ok in
theorem zst {T : TypeId} {x y : Operand} {b : Bool} (ho : o.op = .lookup T x y b) : ∃ v ns ea, K v ns ea /\ OpOK c o a h n F β Y w v ns ea := by
 rw [ho] at hK hev
 simp only [opE] at hK
 have hx := hev x (by simp [Op.operands])
 have hy := hev y (by simp [Op.operands])
 split at hK
 case h_2 => cases hK
 rename_i kT e bn hd hex
 rw [hex] at hx
 have desc := (ok.tt T (by rw [hd]; simp)).desc
 simp only [hd] at desc
 split at hK
 case h_2 => cases hK
 rename_i es hes
 obtain ⟨hk1, hk2, hK⟩ := qT hK
 split at hK
 case h_2 => cases hK
 rename_i hkd
 obtain ⟨l, hl, ms, clock, g1, g2, g3⟩ := m.blk bn _ hes
 rw [qe (by simp), qq rfl (by simp)] at hx
 simp only [zb] at hx
 obtain ⟨l', hl', hu⟩ := hx
 rw [hl] at hl'; cases hl'
 simp only [List.cons.injEq, and_true] at hu
 have hku := (uA (uQ hkd)).1 hy
 have hck := fun em => zik ok (w := w) hkd em
 have hrun : ∀ (r : Option (Nat × Value)) (u : Value) (t : Bool), (Instr.findKey kT (ev c.E sl y).val ms.toList).run c.E.P w = .ok r w -> ((match r with | some (_, v) => pure (v, true) | none => do pure (<- zeroValue e, false) : Sem (Value × Bool)).run c.E.P w = .ok (u, t) w) ->
  (execOp a.eval o).run c.E.P w = .ok (.value (if b then .tuple #[u, .bool t] else u)) w := by
  intro r u t h1 h2
  simp only [execOp, ho]
  refine zZ ?_
  rw [hu, hku]
  simp only [Instr.lookup, Sem.run_bind, run_underlying desc, Result.andThen_ok, zco g1, Sem.run_pure, hck, h1]
  have h3 := congrArg (fun x => Result.andThen x fun (p : Value × Bool) w' => (pure (if b then Value.tuple #[p.1, .bool p.2] else p.1) : Sem Value).run c.E.P w') h2
  cases r with
  | some q => simpa using h3
  | none =>
    cases hz : (zeroValue e).run c.E.P w with
    | ok z w2 =>
      simp_all
    | _ => simp [Sem.run_map, hz] at h2
 rcases ziu ok (w := w) hkd id g2 g3 hK with ⟨f1, f2⟩ | ⟨j, v, f0, f1, f2, _⟩
 . obtain ⟨hz, htup, f2⟩ := qT f2
   obtain ⟨i, hi, _, _, hzz⟩ := (ok.tz e hz).info
   obtain ⟨z, hz1, hz2⟩ := hzz hz
   have hzr : rel w (XX c.Z Y β h) (lkT c.E.tt e).zero β z := zv (Ext.refl _ _) (zj (fun b l k => by cases k) _) (by rw [qe htup]; exact hz2 w (XX c.Z Y β h))
   have hr := hrun none z false f1 (by simp [zeroValue, typeInfo, hi, hz1])
   cases b with
   | true => exact ⟨_, _, _, f2, .pure m hr ⟨_, rfl, by simpa using zlt (by rw [<- qe htup]; exact hzr) (by rw [<- qe (by simp)]; exact rel_bool.2 rfl)⟩⟩
   | false => exact ⟨_, _, _, f2, .pure m hr hzr⟩
 . have hp := (purL_iff.1 g3 v (List.mem_of_getElem? f0)).2
   have hr := hrun _ v.2.val true f1 (by simp)
   have hvr : rel w (XX c.Z Y β h) v.2 β v.2.val := (uA hp).2 rfl
   have htup : ∀ vs, v.2 ≠ .tup vs := fun vs e => by rw [e] at hp; cases hp
   cases b with
   | true => exact ⟨_, _, _, f2, .pure m hr ⟨_, rfl, by simpa using zlt (by rw [<- qe htup]; exact hvr) (by rw [<- qe (by simp)]; exact rel_bool.2 rfl)⟩⟩
   | false => exact ⟨_, _, _, f2, .pure m hr hvr⟩
omit m hF hev hK in
theorem zk6 : ∀ {xs ys : List SV}, eqI xs ys = true -> xK xs = true -> yh ys = yh xs /\ ∀ n, ((yh ys).zip (yh xs)).all (fun p => Instr.sameBits n p.1 p.2) = true
 | [], [], _, _ => ⟨rfl, fun _ => rfl⟩
 | x :: r, [], h, _ => by cases x <;> simp [eqI] at h
 | [], y :: r, h, _ => by simp [eqI] at h
 | x :: r, y :: r', h, hi => by
   cases x <;> simp only [xK] at hi <;> first | (cases hi; done) | skip
   cases y <;> simp only [eqI] at h <;> first | (cases h; done) | skip
   split at h
   . rename_i e1 e2
     have e1 := of_decide_eq_true e1
     have e2 := of_decide_eq_true e2
     subst e1; subst e2
     obtain ⟨g1, g2⟩ := zk6 h hi
     refine ⟨by simp only [yh, g1], fun n => ?_⟩
     simp only [yh, SV.cls, List.cons_append, List.nil_append, List.zip_cons_cons, List.all_cons, g2 n, Bool.and_true]
     cases n <;> simp [Instr.sameBits]
   . cases h
omit m hF hev hK in
theorem zjh {tt : List (Nat × TI)} {kT : TypeId} {k v : SV} (hk : ue tt kT k = true) (h : yx tt kT k v = some true) (n : Nat) : v.val = k.val /\ Instr.sameBits (n + 1) v.val k.val = true := by
 unfold yx at h
 split at h
 . rename_i n0 e0 hd
   split at h
   . rename_i n1 s1 xs n2 s2 ys
     split at h
     . split at h
       . rename_i he
         have hi : xK xs = true := by
          grind [ue]
         obtain ⟨g1, g2⟩ := zk6 he hi
         simp_all [Bool.and_eq_true, Instr.sameBits, SV.cls, SV.val, beq_iff_eq]
       . cases h
     . cases h
     . cases h
   . cases h
 . unfold zgm at h
   split at h
   . split at h
     . simp only [Option.some.injEq, decide_eq_true_eq] at h; subst h
       grind [Instr.sameBits, List.headD, SV.cls, SV.val, zlp]
     . cases h
   . split at h
     . split at h
       . simp_all [Instr.sameBits, Option.some.injEq, SV.cls, SV.val, decide_eq_true_eq]
       . cases h
     . cases h
   . cases h
include ok in
theorem zl5 {T : TypeId} {x y z : Operand} (ho : o.op = .mapUpdate T x y z) : ∃ v ns ea, K v ns ea /\ OpOK c o a h n F β Y w v ns ea := by
 rw [ho] at hK hev
 simp only [opE] at hK
 have hx := hev x (by simp [Op.operands])
 have hy := hev y (by simp [Op.operands])
 have hz := hev z (by simp [Op.operands])
 split at hK
 case h_2 => cases hK
 rename_i kT e bn hd hex
 rw [hex] at hx
 have desc := (ok.tt T (by rw [hd]; simp)).desc
 simp only [hd] at desc
 split at hK
 case h_2 => cases hK
 rename_i es hes
 obtain ⟨_, _, hK⟩ := qT hK
 obtain ⟨_, _, hK⟩ := qT hK
 split at hK
 case h_2 => cases hK
 rename_i hkd hvp
 obtain ⟨l, hl, ms, clock, g1, g2, g3⟩ := m.blk bn _ hes
 rw [qe (by simp), qq rfl (by simp)] at hx
 simp only [zb] at hx
 obtain ⟨l', hl', hu⟩ := hx
 rw [hl] at hl'; cases hl'
 simp only [List.cons.injEq, and_true] at hu
 have hku := (uA (uQ hkd)).1 hy
 have hvu := (uA hvp).1 hz
 have hck := fun em => zik ok (w := w) hkd em
 have fin : ∀ (es' : List (SV × SV)) (ms' : Array MapEntry) (clock' : Nat), (Instr.mapUpdate T (a.eval x) (a.eval y) (a.eval z)).run c.E.P w = .ok () (World.put w l.r (.map ms' clock')) -> ms'.toList.map (fun e => (e.key, e.val)) = es'.map (fun p => (p.1.val, p.2.val)) -> zav es' = true ->
  OpOK c o a h n F β Y w .any [] (.set bn (.mp es')) := by
  intro es' ms' clock' h1 h2 h3
  obtain ⟨m', e⟩ := m.set (k := .mp es') (o' := .map ms' clock') hes hl rfl rfl g1 fun e hh => ⟨ms', clock', hh, h2, h3⟩
  refine .skip (β' := β) (w' := World.put w l.r (.map ms' clock')) ?_ ⟨m', trivial, fun v0 u0 h0 => zv e (zj (fun _ _ k => k) _) h0⟩
  simp only [execOp, ho, Sem.run_bind, h1, Result.andThen_ok, Sem.run_pure]
 rcases ziu ok (w := w) hkd id g2 g3 hK with ⟨f1, f2⟩ | ⟨j, v, f0, f1, f2, f3⟩
 . refine ⟨_, _, _, f2, fin (jG (ev c.E sl y) (ev c.E sl z) es) (ms.push { key := (ev c.E sl y).val, val := (ev c.E sl z).val, born := clock }) (clock + 1) ?_ ?_ ?_⟩
   . rw [hu, hku, hvu]
     simp only [Instr.mapUpdate, Sem.run_bind, run_underlying desc, Result.andThen_ok, zco g1, hck, f1, zi0 g1]
   . rw [zfu]; simp [g2]
   . rw [zfu, purL_iff]
     intro p hp
     rcases List.mem_append.1 hp with hp | hp
     . exact purL_iff.1 g3 p hp
     . simp at hp; subst hp; exact ⟨uQ hkd, hvp⟩
 . obtain ⟨q1, q2⟩ := zjh hkd f3 9999
   have hmj : ∃ mj, ms[j]? = some mj /\ mj.key = v.1.val /\ mj.val = v.2.val := by
    have := congrArg (·[j]?) g2
    grind
   obtain ⟨mj, hmj, hmk, _⟩ := hmj
   have hrun : (Instr.mapUpdate T (a.eval x) (a.eval y) (a.eval z)).run c.E.P w = .ok () (World.put w l.r (.map (ms.modify j fun e => { e with key := (ev c.E sl y).val, val := (ev c.E sl z).val }) clock)) := by
    rw [hu, hku, hvu]
    simp only [Instr.mapUpdate, Sem.run_bind, run_underlying desc, Result.andThen_ok, zco g1, hck, f1, hmj, Option.map_some, Option.getD_some, hmk, Instr.keyThatStays, q2, if_true, Sem.run_pure, zi0 g1]
   have hlt : j < es.length := by
    grind
   have hset : (ms.modify j fun e => { e with key := (ev c.E sl y).val, val := (ev c.E sl z).val }).toList.map (fun e => (e.key, e.val)) = (es.set j (ev c.E sl y, ev c.E sl z)).map (fun p => (p.1.val, p.2.val)) := by
    apply List.ext_getElem?
    intro i
    have hgi := congrArg (·[i]?) g2
    grind
   have hset' : zav (es.set j (ev c.E sl y, ev c.E sl z)) = true := by
    rw [purL_iff]
    intro p hp
    rcases List.mem_or_eq_of_mem_set hp with hp | hp
    . exact purL_iff.1 g3 p hp
    . subst hp; exact ⟨uQ hkd, hvp⟩
   have fB : K .any [] (.set bn (.mp (zbr (ev c.E sl y) (ev c.E sl z) es j))) -> ∃ v ns ea, K v ns ea /\ OpOK c o a h n F β Y w v ns ea := fun f2 =>
    ⟨_, _, _, f2, fin _ _ clock hrun (by rw [zh2]; exact hset) (by rw [zh2]; exact hset')⟩
   unfold xJ at f2
   split at f2
   . rename_i hz1
     split at f2
     . rename_i hv1
       refine ⟨_, _, _, f2, fin _ _ clock hrun ?_ g3⟩
       rw [hset, List.map_set]
       have e1 : ((ev c.E sl y, ev c.E sl z).1.val, (ev c.E sl y, ev c.E sl z).2.val) = (v.1.val, v.2.val) := by
        grind
       have e2 : (es.map fun p => (p.1.val, p.2.val))[j]? = some (v.1.val, v.2.val) := by rw [List.getElem?_map, f0]; rfl
       rw [e1]
       apply List.ext_getElem?
       grind
     . exact fB f2
   . exact fB f2
end
end Go.Sx
set_option linter.unusedSectionVars false
namespace Go.Sx
open Go.RowKit (Below)
theorem zby {w : World} {X : Nat -> Prop} {z : SV} {u : Value} (h : zb w X z nob [u]) : ∀ n, zK w X 1 (List.replicate n z) nob (List.replicate n u)
 | 0 => by simp [relR_nil]
 | n + 1 => by
   simp only [List.replicate_succ]
   rw [relR_cons]
   exact ⟨[u], _, rfl, rfl, h, zby h n⟩
mutual
theorem zgi {w : World} {X X' : Nat -> Prop} {β β' : Beta} : ∀ (v : SV), v.scalar = true -> ∀ u, rel w X v β u -> rel w X' v β' u
 | .int .., _, u, h => h
 | .bool _, _, u, h => h
 | .tru, _, u, h => h
 | .fls, _, u, h => h
 | .str _, _, u, h => h
 | .tup vs, hs, u, h => by
   obtain ⟨us, h1, h2⟩ := h
   exact ⟨us, h1, zeo vs hs _ h2⟩
 | .any, hs, _, _ | .agg _, hs, _, _ | .arr .., hs, _, _ | .sl .., hs, _, _ | .mt, hs, _, _ | .nils, hs, _, _ | .iptr _, hs, _, _ | .ptr .., hs, _, _ | .osl .., hs, _, _ | .fn .., hs, _, _ | .nilf, hs, _, _ | .nilp, hs, _, _ | .nili, hs, _, _ => by cases hs
theorem zeo {w : World} {X X' : Nat -> Prop} {β β' : Beta} : ∀ (l : List SV), zd5 l = true -> ∀ us, relL w X l β us -> relL w X' l β' us
 | [], _, us, h => by rw [relL_nil] at h ⊢; exact h
 | v :: r, hs, us, h => by
   simp only [zd5] at hs
   cases hv : v.scalar <;> simp only [hv] at hs
   . cases hs
   . rw [relL_cons] at h ⊢
     obtain ⟨u, us', h1, h2, h3⟩ := h
     refine ⟨u, us', h1, ?_, zeo r hs us' h3⟩
     by_cases ht : ∃ vs, v = .tup vs
     . obtain ⟨vs, rfl⟩ := ht
       simp only [qA, SV.isAgg, zb] at h2
     . have e := fun vs e => ht ⟨vs, e⟩
       rw [<- qe e] at h2 ⊢
       exact zgi v hv u h2
end
theorem zbq {w : World} {X : Nat -> Prop} {β : Beta} {v : SV} {u : Value} (h : rel w X v nob u) : rel w X v β u :=
 zv (Ext.refl w X) (zj (fun b l hb => by cases hb) v) h
theorem xI {w : World} {X : Nat -> Prop} {β : Beta} : ∀ {l l' : List SV} {us us' : List Value}, relL w X l β us -> relL w X l' β us' -> relL w X (l ++ l') β (us ++ us')
 | [], l', us, us', h, k => by rw [relL_nil] at h; subst h; simpa using k
 | v :: r, l', us, us', h, k => by
   rw [relL_cons] at h
   obtain ⟨u, us1, rfl, h2, h3⟩ := h
   rw [List.cons_append, relL_cons]
   exact ⟨u, us1 ++ us', by simp, h2, xI h3 k⟩
section
variable {c : Cx} (ok : EnvOK c.E) {o : Oper} {a : Act} {sl : Slots} {h : Heap} {n : Nat} {F : Nat -> Prop} {β : Beta} {Y : Nat -> Prop} {w : World} (m : Mem c h F β Y w) (hF : F n)
 (hev : ∀ x ∈ o.op.operands.toList, rel w (XX c.Z Y β h) (ev c.E sl x) β (a.eval x)) {K : KE} (hK : opE c.E sl h n o.op K)
include m hF hev hK
include ok in
theorem zx3 {cl : Call} {f : Operand} (ho : o.op = .call cl) (hb : cl.callee = .value f) : ∃ v ns ea, K v ns ea /\ OpOK c o a h n F β Y w v ns ea := by
 rw [ho] at hK hev
 simp only [opE, hb] at hK
 have hf := hev f (by simp [Op.operands, Call.operands, hb])
 split at hK
 case h_2 => cases hK
 rename_i g caps he
 rw [he] at hf
 obtain ⟨us, hfu, hcaps⟩ := rel_fn.1 hf
 split at hK
 . rename_i hid
   obtain ⟨⟨fn, hfn, hbody, hname⟩, hcl⟩ := ok.idf g hid
   split at hK
   case h_2 => cases hK
   rename_i x hargs
   obtain ⟨hne, htup, hK⟩ := qT hK
   have ha : cl.args = #[x] := by apply Array.toList_inj.1; simpa using hargs
   have hx := hev x (by simp [Op.operands, Call.operands, hb, ha])
   rw [relL_nil] at hcaps
   have husn : us = #[] := by apply Array.toList_inj.1; simpa using hcaps
   have hrun : (execOp a.eval o).run c.E.P w = .ok (.enter g #[a.eval x]) w := by
    simp only [execOp, ho, resolve, hb, hfu, Deferred.ofValue, Sem.run_bind, Sem.run_pure, Result.andThen_ok, invoke, callFunc, run_program, hfn, ha, husn]
    rw [if_neg (by rw [hname]; simp), if_neg (by simp [Option.isNone_iff_eq_none, Option.isSome_iff_ne_none.1 hbody])]
    simp
   refine ⟨_, _, _, hK, ?_⟩
   intro next Q hn
   rw [hrun, Oper.upon_enter]
   refine (hcl w (a.eval x)).mono ?_
   rintro e w' ⟨rfl, bl⟩
   obtain ⟨m', e'⟩ := m.step bl
   exact hn _ w' β ⟨m', zv e' (zj (fun _ _ k => k) _) hx, fun v0 u0 h0 => zv e' (zj (fun _ _ k => k) _) h0⟩
 simp only [qf] at hK
 split at hK
 case h_2 => cases hK
 rename_i hnt
 have hargs := zaa (w := w) (X := XX c.Z Y β h) (β := β) (a := a) (E := c.E) (sl := sl) cl.args.toList (fun x hx => hev x (by simp [Op.operands, Call.operands, hb]; exact .inr (by simpa using hx))) hnt
 obtain ⟨as, ns1, k1, _, k2⟩ := yl m 60 _ [] _ hK
 obtain ⟨cs, ns, q1, q2, q3⟩ := yl m 60 caps ns1 _ k1
 unfold jw at q1
 obtain ⟨r, ⟨⟨fn, hfn, hbody, hname⟩, hret⟩, hk⟩ := q1
 simp only [zp] at hk
 have hcold := m.cold ns
 have ra := (k2 _ (hcold.mono q2)).2.1 _ hargs
 have rc := (q3 _ hcold).2.1 _ hcaps
 have hall := xI ra rc
 obtain ⟨mi, ei, _⟩ := m.ice ns
 have hrun : (execOp a.eval o).run c.E.P w = .ok (.enter g (cl.args.map a.eval ++ us)) w := by
  simp only [execOp, ho, resolve, hb, hfu, Deferred.ofValue, Sem.run_bind, Sem.run_pure, Result.andThen_ok, invoke, callFunc, run_program, hfn]
  rw [if_neg (by rw [hname]; simp), if_neg (by simp [Option.isNone_iff_eq_none, Option.isSome_iff_ne_none.1 hbody])]
  simp
 have hcalls := hret w (XX c.Z Y β (qy ns h)) (cl.args.map a.eval ++ us) mi.good (by simpa using hall)
 have key : ∀ (v : SV) (ns' : List Nat), K v ns' .nil -> (∀ u w', Below w.heap.size w w' -> rel w' (XX c.Z Y β (qy ns h)) r nob u -> Res c h n F β Y w v ns' .nil u w' β) -> ∃ v ns ea, K v ns ea /\ OpOK c o a h n F β Y w v ns ea := by
  intro v ns' hkv hres
  refine ⟨v, ns', .nil, hkv, ?_⟩
  intro next Q hn
  rw [hrun, Oper.upon_enter]
  refine hcalls.mono ?_
  rintro e w' ⟨u, rfl, bl, hr⟩
  exact hn u w' β (hres u w' bl hr)
 cases ns with
 | nil =>
   refine key r [] hk fun u w' bl hr => ?_
   obtain ⟨m', e'⟩ := m.step bl
   exact ⟨m', zbq hr, fun v0 u0 h0 => zv e' (zj (fun _ _ k => k) _) h0⟩
 | cons b ns =>
   simp only at hk
   split at hk
   . rename_i hs
     refine key r [] hk fun u w' bl hr => ?_
     obtain ⟨m', e'⟩ := m.step bl
     exact ⟨m', zgi r hs u hr, fun v0 u0 h0 => zv e' (zj (fun _ _ k => k) _) h0⟩
   . refine key r (b :: ns) hk fun u w' bl hr => ?_
     obtain ⟨m', e'⟩ := mi.step bl
     exact ⟨m', zbq hr, fun v0 u0 h0 => zv (ei.trans e') (zj (fun _ _ k => k) _) h0⟩
include ok m hF hev hK in
theorem zj4 {T : TypeId} {x y : Operand} (ho : o.op = .makeSlice T x y) : ∃ v ns ea, K v ns ea /\ OpOK c o a h n F β Y w v ns ea := by
 rw [ho] at hK hev
 simp only [opE] at hK
 have hx := hev x (by simp [Op.operands])
 have hy := hev y (by simp [Op.operands])
 split at hK
 case h_2 => cases hK
 rename_i e k1 i k2 j hd hi hj
 rw [hi, relP_int] at hx
 rw [hj, relP_int] at hy
 have desc := (ok.tt T (by rw [hd]; simp)).desc
 simp only [hd] at desc
 obtain ⟨hne, htup, hK2⟩ := qT hK
 clear hK
 split at hK2
 case h_2 => cases hK2
 rename_i hz1 hs1
 have hz1 := zi hz1
 have hs1 := zi hs1
 unfold zO at hK2
 obtain ⟨⟨h0, rfl, hb1, hby⟩, hK2⟩ := hK2
 obtain ⟨ti, g1, g2, g3, g4⟩ := (ok.tz e hne).info
 obtain ⟨z, gz, hzr⟩ := g4 hne
 have hzc := wz (w := w) (X := XX c.Z Y β h) (β := nob) (u := z) hne htup (by rw [qe htup]; exact hzr w (XX c.Z Y β h))
 have hzl := qj _ _ hzc
 have hcz : ∃ u, z.cells = #[u] := by
  have : z.cells.size = 1 := by rw [<- Array.length_toList, hzl, hz1]
  exact Array.size_eq_one_iff.1 this
 obtain ⟨uz, hcz⟩ := hcz
 rw [hcz] at hzc
 have hb0 : 0 <= (ti.bytes : Int) := by omega
 have hrun := run_make (P := c.E.P) w T e ti z desc g1 gz k1 k2 i i h0 (Int.le_refl _) (by rw [g3, Int.mul_comm]; omega) (by omega)
 refine ⟨_, _, _, hK2, .value (u := .slice (some ⟨w.heap.size, 0, none⟩) i.toNat i.toNat) ?_ (Res.newRow m hF (cs := madeCells z.cells (i.toNat * ti.size)) (ty := e) (rest := []) (Nat.le_refl _) (by simp) (Nat.le_refl _) ?_ ?_ (zby hzc _))⟩
 . simp only [execOp, ho, hx, hy]
   exact zZ hrun
 . rw [size_madeCells, g2, hs1]; omega
 . rw [hcz, g2, hs1, Nat.mul_one, toList_madeCells_one]; simp
include ok in
theorem zrz : ∃ v ns ea, K v ns ea /\ OpOK c o a h n F β Y w v ns ea := by
 cases ho : o.op with
 | move x => exact zo1 m hF hev hK (.inl ho)
 | assign x => exact zo1 m hF hev hK (.inr ho)
 | pick x y z => exact zwx m hF hev hK ho
 | alloc T => exact zt8 ok m hF hK ho
 | box T x => exact zy5 m hF hev hK ho
 | build T ps => exact zvj ok m hF hev hK ho
 | buildSlice T l ps => exact zje ok m hF hev hK ho
 | nilCheck x => exact zm8 m hF hev hK ho
 | fieldAddr T x f => exact zkh ok m hF hev hK ho
 | field T x f => exact zua ok m hF hev hK ho
 | load T x => exact zxp ok m hF hev hK ho
 | store T x y => exact zvw ok m hF hev hK ho
 | indexAddr T x y => exact zj1 ok m hF hev hK ho
 | index T x y => exact zvv ok m hF hev hK ho
 | binOp op T x y T' => exact zv7 ok m hF hev hK ho
 | unOp op T x => exact zws m hF hev hK ho
 | convert S T x => exact zrh ok m hF hev hK ho
 | extract x i => exact zpx m hF hev hK ho
 | makeFunc f fst caps => exact znb m hF hev hK ho
 | slice T x lo hi mx => exact zvl ok m hF hev hK ho
 | makeSlice T x y => exact zj4 ok m hF hev hK ho
 | makeMap T r => exact zrd m hF hev hK ho
 | lookup T x y b => exact zst ok m hF hev hK ho
 | mapUpdate T x y z => exact zl5 ok m hF hev hK ho
 | call cl =>
   cases hb : cl.callee with
   | value f => exact zx3 ok m hF hev hK ho hb
   | invoke r s => rw [ho] at hK; simp only [opE, hb] at hK
   | builtin b =>
     cases b
     case len => exact zyx ok m hF hev hK ho hb
     case append => exact zta ok m hF hev hK ho hb
     case min => exact ziw m hF hev hK ho (.inl hb)
     case max => exact ziw m hF hev hK ho (.inr hb)
     all_goals (rw [ho] at hK; simp only [opE, hb] at hK)
 | _ => rw [ho] at hK; simp only [opE] at hK
end
open Go.RowKit (Below)
def FR (ro : Option Nat) : Fence := { Fence.wide with round := ro }
theorem zbb {ro : Option Nat} (n : Nat) : (FR ro).room n := fun _ h => by simp [FR, Fence.wide] at h
theorem callsIn_FR {ro : Option Nat} {n : Nat} {P : Program} {f : FuncId} {args : Array Value} {w : World} {R : Ending -> World -> Prop} : CallsIn (FR ro) n P f args w R ↔ Calls P f args w R :=
 ⟨fun h cs => let ⟨e, w', fr, r, s, x⟩ := h.2 cs (zbb _); ⟨e, w', fr, r, comesIn_wide.1 s, x⟩,
  fun h => ⟨trivial, fun cs _ => let ⟨e, w', fr, r, s, x⟩ := h cs; ⟨e, w', fr, r, comesIn_wide.2 s, x⟩⟩⟩
theorem zrq {ro : Option Nat} {n : Nat} {P : Program} {row : String} {args : Array Value} {w : World} {R : Value -> World -> Prop} (h : Rows P row args w R) : RowsIn (FR ro) n P row args w R :=
 fun c cs _ => let ⟨v, w', r, s⟩ := h c cs; ⟨v, w', r, stepsIn_wide.2 s⟩
theorem zbe {ro : Option Nat} : (FR ro).depth.isSome = true -> 1 <= 0 := fun h => by simp [FR, Fence.wide] at h
theorem jF {P : Program} {o : Oper} {a : Act} {w : World} {ro : Option Nat} {next : Act -> World -> Prop} {Q : Exit -> Act -> World -> Prop} (hd : ∀ c, o.op ≠ .defer c) (h : o.wp P a w next Q) : o.wpIn (FR ro) 0 P a w next Q := by
 refine ⟨fun _ _ => trivial, ?_⟩
 rw [Oper.semAt_eq _ _ _ hd]
 unfold Oper.wp at h
 generalize (execOp a.eval o).run P w = r at h ⊢
 cases r with
 | ok x w' =>
   cases x <;> simp only [Oper.upon] at h <;> first
    | exact h
    | exact ⟨zbe, callsIn_FR.2 h⟩
    | exact ⟨zbe, zrq h⟩
 | halt x w' => cases x <;> simp only [Oper.upon] at h <;> exact h
def zgd (Ds : List Nat) : List Deferred := Ds.map fun D => { target := .collected D, args := #[] }
def DefOK (c : Cx) (Y : Nat -> Prop) (ds : List Deferred) : Prop := (∀ r, c.Y0 r -> Y r) /\ ∃ Ds : List Nat, ds = zgd Ds ++ c.bot /\ Ds.Nodup /\ (∀ D ∈ Ds, Y D /\ ¬ c.Y0 D) /\ (c.nm = true -> Ds = [])
theorem DefOK.nil {c : Cx} {Y : Nat -> Prop} (h : ∀ r, c.Y0 r -> Y r) : DefOK c Y c.bot := ⟨h, [], rfl, List.nodup_nil, fun _ h => (by cases h), fun _ => rfl⟩
theorem DefOK.mono {c : Cx} {Y Y' : Nat -> Prop} {ds : List Deferred} (h : DefOK c Y ds) (hY : ∀ r, Y r -> Y' r) : DefOK c Y' ds := by
 obtain ⟨h0, Ds, h1, h2, h3, h4⟩ := h
 exact ⟨fun r hr => hY r (h0 r hr), Ds, h1, h2, fun D hD => ⟨hY D (h3 D hD).1, (h3 D hD).2⟩, h4⟩
def DenF (c : Cx) (N : Nat) (sl : Slots) (h : Heap) (F : Nat -> Prop) (a : Act) (w : World) : Prop :=
 ∃ β Y, Mem c h F β Y w /\ zM c sl h β Y w a /\ a.tmps.size = N /\ DefOK c Y a.defers
def Den (c : Cx) (N : Nat) (sl : Slots) (h : Heap) (n : Nat) (a : Act) (w : World) : Prop := DenF c N sl h (fun b => n <= b) a w
theorem Mem.lessF {c : Cx} {h : Heap} {F F' : Nat -> Prop} {β : Beta} {Y : Nat -> Prop} {w : World} (m : Mem c h F β Y w) (hF : ∀ b, F' b -> F b) : Mem c h F' β Y w :=
 ⟨fun b hb => m.fresh b (hF b hb), m.blk, m.inj, m.own, m.yy, m.zz, m.size, m.frame, m.os, m.tape, m.output, m.gl⟩
theorem DenF.less {c : Cx} {N : Nat} {sl : Slots} {h : Heap} {F F' : Nat -> Prop} {a : Act} {w : World} (D : DenF c N sl h F a w) (hF : ∀ b, F' b -> F b) : DenF c N sl h F' a w := by
 obtain ⟨β, Y, m, r⟩ := D
 exact ⟨β, Y, m.lessF hF, r⟩
def jY (ea : EA) (sl : Slots) : Slots := match ea with | .app b _ => ul b sl | _ => sl
def wH (d : Option Nat) (v : SV) (sl : Slots) : Slots := match d with | some d => (d, v) :: sl | none => sl
theorem app_iff {v : SV} {ns : List Nat} {ea : EA} {d : Option Nat} {sl : Slots} {h : Heap} {n : Nat} {K : Slots -> Heap -> Prop} : app v ns ea d sl h n K ↔ K (wH d v (jY ea sl)) (hE ns ea h n) := by
 unfold app
 rw [zd0]
 cases ea with
 | nil => cases d <;> exact Iff.rfl
 | new k => cases d <;> exact Iff.rfl
 | set b k => simp only [qW]; cases d <;> exact Iff.rfl
 | app b k => simp only [ub, zau, qW]; cases d <;> exact Iff.rfl
theorem xC {ea : EA} (sl : Slots) (t : Nat) : lk (jY ea sl) t = kE ea (lk sl t) := by
 cases ea <;> first | rfl | exact uC sl t
theorem wA (d : Option Nat) (v : SV) (sl : Slots) (t : Nat) : lk (wH d v sl) t = if d = some t then v else lk sl t := by
 cases d with
 | none => simp [wH]
 | some d =>
   simp only [wH, lk]
   by_cases e : d = t
   . subst e; simp
   . rw [wF e]; simp [e]
theorem ztw (a : Act) (d : Option Nat) (u : Value) (t : Nat) (hd : ∀ d', d = some d' -> d' < a.tmps.size) : (a.put d u).tmps.getD t undef = if d = some t then u else a.tmps.getD t undef := by
 cases d with
 | none => simp [Act.put]
 | some d =>
   have := hd d rfl
   simp only [Act.put]
   by_cases e : d = t
   . subst e
     simp [this]
   . simp_all
theorem wy (a : Act) (d : Option Nat) (u : Value) : (a.put d u).tmps.size = a.tmps.size := by cases d <;> simp [Act.put]
theorem yU (a : Act) (d : Option Nat) (u : Value) : (a.put d u).defers = a.defers := by cases d <;> rfl
theorem jT {c : Cx} (a : Act) (d : Option Nat) (u : Value) (t : Nat) (hd : ∀ d', d = some d' -> d' < a.tmps.size) (hN : a.tmps.size <= 1000000) : qp c (a.put d u) t = if d = some t then u else qp c a t := by
 unfold qp
 by_cases h : t <= 999999
 . rw [if_pos h, if_pos h, ztw _ _ _ _ hd]
 . grind
section
variable {c : Cx} (ok : EnvOK c.E) {N : Nat}
theorem Den.put {o : Oper} {sl : Slots} {h : Heap} {n : Nat} {F : Nat -> Prop} {β : Beta} {Y : Nat -> Prop} {w w' : World} {a : Act} {v : SV} {ns : List Nat} {ea : EA} {u : Value} {β' : Beta} (hs : zM c sl h β Y w a) (hN : a.tmps.size = N) (hdef : DefOK c Y a.defers)
 (hd : ∀ d, o.dst = some d -> d < N) (r : Res c h n F β Y w v ns ea u w' β') : DenF c N (wH o.dst v (jY ea sl)) (hE ns ea h n) (rmF F n) (a.put o.dst u) w' := by
 refine ⟨β', Y, r.mem.lessF (fun b hb => ?_), ⟨by rw [wy]; exact hs.1, fun t => ?_⟩, by rw [wy, hN], by rw [yU]; exact hdef⟩
 . cases ea <;> first | exact hb | exact hb.1
 rw [wA, jT _ _ _ _ (by rw [hN]; exact hd) hs.1]
 by_cases e : o.dst = some t
 . rw [if_pos e, if_pos e]; exact r.val
 . rw [if_neg e, if_neg e, xC]; exact r.keep _ _ (hs.2 t)
include ok in
theorem zil {o : Oper} {sl : Slots} {h : Heap} {n : Nat} {F : Nat -> Prop} {K : Slots -> Heap -> Prop} (hK : opX c.E o sl h n K) (hF : F n) (hd : ∀ d, o.dst = some d -> d < N) {a : Act} {w : World} (D : DenF c N sl h F a w)
 {next : Act -> World -> Prop} {Q : Exit -> Act -> World -> Prop} (hn : ∀ sl' h' a' w', K sl' h' -> DenF c N sl' h' (rmF F n) a' w' -> next a' w') : o.wp c.E.P a w next Q := by
 obtain ⟨β, Y, m, hs, hN, hdef⟩ := D
 unfold opX at hK
 obtain ⟨v, ns, ea, k1, k2⟩ := zrz ok (a := a) m hF (fun x _ => wg m hs x) hK
 have k3 := app_iff.1 k1
 exact k2 next Q fun u w' β' r => hn _ _ _ _ k3 (Den.put hs hN hdef hd r)
theorem DenF.skip {o : Oper} {sl : Slots} {h : Heap} {F : Nat -> Prop} {a : Act} {w : World} (D : DenF c N sl h F a w) (hd : ∀ d, o.dst = some d -> d < N) : DenF c N (wH o.dst und sl) h F (a.put o.dst undef) w := by
 obtain ⟨β, Y, m, hs, hN, hdef⟩ := D
 refine ⟨β, Y, m, ⟨by rw [wy]; exact hs.1, fun t => ?_⟩, by rw [wy, hN], by rw [yU]; exact hdef⟩
 rw [wA, jT _ _ _ _ (by rw [hN]; exact hd) hs.1]
 by_cases e : o.dst = some t
 . rw [if_pos e, if_pos e]; exact ⟨#[], rfl, by simp [relL_nil]⟩
 . rw [if_neg e, if_neg e]; exact hs.2 t
theorem DenF.know {sl : Slots} {h : Heap} {F : Nat -> Prop} {a : Act} {w : World} {d : Nat} {v : SV} (D : DenF c N sl h F a w) (hv : ∀ w X β u, rel w X (lk sl d) β u -> rel w X v β u) : DenF c N ((d, v) :: sl) h F a w := by
 obtain ⟨β, Y, m, hs, hN, hdef⟩ := D
 refine ⟨β, Y, m, ⟨hs.1, fun t => ?_⟩, hN, hdef⟩
 simp only [lk]
 cases hb : Nat.beq d t with
 | true =>
   have := zi hb; subst this
   exact hv _ _ _ _ (hs.2 d)
 | false => exact hs.2 t
theorem xX {ops : Array Oper} (hall : ∀ o ∈ ops.toList, ∀ d, o.dst = some d -> d < N) {g : Option (Nat × Bool)} {sl : Slots} {Kyes Kno : Slots -> Prop} {h : Heap} {F : Nat -> Prop} {a : Act} {w : World} (hK : grd ops.toList g sl Kyes Kno) (D : DenF c N sl h F a w) {o : Oper} (ho : o.guard = g) :
 ∃ sl', DenF c N sl' h F a w /\ (Region.wanted o (yielded ops a.tmps) = true /\ Kyes sl' \/ Region.wanted o (yielded ops a.tmps) = false /\ Kno sl') := by
 unfold grd at hK
 unfold Region.wanted
 rw [ho]
 split at hK
 . grind
 . rename_i j want
   split at hK
   case h_2 => cases hK
   rename_i o' hj
   split at hK
   case h_2 => cases hK
   rename_i d hd
   have hval : ∀ b, a.tmps.getD d undef = .bool b -> yielded ops a.tmps j = some b := by
    intro b hb
    have hlt : a.tmps[d]? = some (.bool b) := by
     rw [Array.getD_eq_getD_getElem?] at hb
     grind [undef]
    simp_all [hlt, yielded]
   have hDd : ∀ b, (∀ w X β u, rel w X (lk sl d) β u -> u = .bool b) -> yielded ops a.tmps j = some b := by
    intro b hb
    obtain ⟨β, Y, m, hs, hN, _⟩ := D
    have hlt : d <= 999999 := Nat.le_of_lt_succ (Nat.lt_of_lt_of_le (hall o' (List.mem_of_getElem? hj) d hd) (hN ▸ hs.1))
    have h3 := hs.2 d
    grind [qp]
   split at hK
   . rename_i hl
     have hy := hDd true (fun w X β u hu => by rw [hl] at hu; exact rel_tru.1 hu)
     grind
   . rename_i hl
     have hy := hDd false (fun w X β u hu => by rw [hl] at hu; exact rel_fls.1 hu)
     grind
   . rename_i b hl
     have hy := hDd b (fun w X β u hu => by rw [hl] at hu; exact rel_bool.1 hu)
     simp only [hy]
     cases want with
     | true =>
       cases b with
       | true => exact ⟨_, D.know (v := .tru) (fun w X β u hu => by rw [hl] at hu; exact rel_tru.2 (rel_bool.1 hu)), .inl ⟨rfl, hK.1 rfl⟩⟩
       | false => exact ⟨_, D.know (v := .fls) (fun w X β u hu => by rw [hl] at hu; exact rel_fls.2 (rel_bool.1 hu)), .inr ⟨rfl, hK.2 rfl⟩⟩
     | false =>
       cases b with
       | true => exact ⟨_, D.know (v := .tru) (fun w X β u hu => by rw [hl] at hu; exact rel_tru.2 (rel_bool.1 hu)), .inr ⟨rfl, hK.2 rfl⟩⟩
       | false => exact ⟨_, D.know (v := .fls) (fun w X β u hu => by rw [hl] at hu; exact rel_fls.2 (rel_bool.1 hu)), .inl ⟨rfl, hK.1 rfl⟩⟩
   . rename_i hl
     have hy : yielded ops a.tmps j = none := by
      have D0 := D
      obtain ⟨β, Y, m, hs, hN, _⟩ := D0
      have hlt : d <= 999999 := Nat.le_of_lt_succ (Nat.lt_of_lt_of_le (hall o' (List.mem_of_getElem? hj) d hd) (hN ▸ hs.1))
      have h3 := hs.2 d
      unfold qp at h3
      rw [if_pos hlt, hl] at h3
      obtain ⟨us, hu, _⟩ := h3
      have hj2 : ops[j]? = some o' := by rw [<- Array.getElem?_toList]; exact hj
      unfold yielded
      simp only [hj2, Option.bind_some, hd]
      have : a.tmps[d]? = some (.tuple us) \/ a.tmps[d]? = none := by
       rw [Array.getD_eq_getD_getElem?] at hu
       grind
      grind
     grind
   . cases hK
theorem zek {E : Env} {o : Oper} {sl : Slots} {h : Heap} {n : Nat} {K : Slots -> Heap -> Prop} (k : opX E o sl h n K) : ∀ c, o.op ≠ .defer c := by
 grind [opE, opX]
include ok in
theorem zf4 {ops : Array Oper} (hall : ∀ o ∈ ops.toList, ∀ d, o.dst = some d -> d < N) {o : Oper} {i : Nat} (hi : ops[i]? = some o) {sl : Slots} {h : Heap} {n : Nat} {F : Nat -> Prop} {K : Slots -> Heap -> Prop} (hK : qm c.E ops.toList o sl h n K) (hF : F n) (hd : ∀ d, o.dst = some d -> d < N) {a : Act} {w : World} (D : DenF c N sl h F a w)
 {next : Act -> World -> Prop} {Q : Exit -> Act -> World -> Prop} (hn : ∀ sl' h' a' w', K sl' h' -> DenF c N sl' h' (rmF F n) a' w' -> next a' w') : wpOpIn (FR c.ro) 0 c.E.P ops Q i next a w := by
 unfold qm at hK
 obtain ⟨sl', D', hw⟩ := xX hall hK D rfl
 unfold wpOpIn
 simp only [hi]
 rcases hw with ⟨h1, h2⟩ | ⟨h1, h2⟩
 . rw [if_pos h1]
   exact jF (zek h2) (zil ok h2 hF hd D' hn)
 . rw [if_neg (by rw [h1]; simp)]
   refine ⟨fun _ _ => trivial, ?_⟩
   refine hn (wH o.dst und sl') h _ _ ?_ ((D'.skip hd).less fun b hb => hb.1)
   cases hdst : o.dst <;> simp only [hdst] at h2 <;> exact h2
end
open Go.RowKit (Below)
def brk (v : SV) (K1 K2 : Prop) : Prop :=
 match v with
 | .bool b => (b = true -> K1) /\ (b = false -> K2)
 | .tru => K1
 | .fls => K2
 | _ => False
abbrev KX := Exit -> Slots -> Heap -> Nat -> Prop
@[irreducible] def SubX (sl' : Slots) (h' : Heap) (n' : Nat) (sl : Slots) (h : Heap) (n : Nat) : Prop :=
 ∀ (c : Cx) (N : Nat) (a : Act) (w : World), Den c N sl' h' n' a w -> Den c N sl h n a w
@[irreducible] def xR (sl : Slots) (h : Heap) (n : Nat) (B : Slots -> Heap -> Nat -> (Slots -> Heap -> Nat -> Prop) -> Prop) : Prop :=
 ∀ I : Slots -> Heap -> Nat -> Prop, (∀ sl h n, B sl h n I -> I sl h n) -> (∀ sl h n sl' h' n', SubX sl' h' n' sl h n -> I sl h n -> I sl' h' n') -> (∀ sl sl' h n, (∀ t, lk sl t = .any \/ lk sl t = lk sl' t) -> I sl h n -> I sl' h n) -> I sl h n
@[irreducible] def zjw (B : KX -> Prop) (K : KX) : Prop :=
 B fun e sl' h' n' => ∃ sl h n, SubX sl' h' n' sl h n /\ K e sl h n
def shS : Slots -> Slots
 | [] => []
 | (t, v) :: r => (t + 1000000, v) :: shS r
def jo {R : Sort _} : Slots -> (Slots -> R) -> R
 | [], K => K []
 | (t, v) :: r, K => jo r fun r => K ((t + 1000000, v) :: r)
theorem xx {R : Sort _} (s : Slots) (K : Slots -> R) : jo s K = K (shS s) := by
 induction s generalizing K with
 | nil => rfl
 | cons x r ih => obtain ⟨t, v⟩ := x; simp only [jo, shS, ih]
def unS : Slots -> Slots
 | [] => []
 | (t, v) :: r => match Nat.ble t 999999 with
   | true => unS r
   | false => (t - 1000000, v) :: unS r
def yI {R : Sort _} : Slots -> (Slots -> R) -> R
 | [], K => K []
 | (t, v) :: r, K => match Nat.ble t 999999 with
   | true => yI r K
   | false => yI r fun r => K ((t - 1000000, v) :: r)
theorem jR {R : Sort _} (s : Slots) (K : Slots -> R) : yI s K = K (unS s) := by
 induction s generalizing K with
 | nil => rfl
 | cons x r ih =>
   obtain ⟨t, v⟩ := x
   simp only [yI, unS]
   split <;> simp only [ih]
@[irreducible] def qu (E : Env) (f : FuncId) (as : List SV) (sl : Slots) (h : Heap) (n : Nat) (K : SV -> Slots -> Heap -> Nat -> Prop) : Prop :=
 qN E.P f /\ ∀ (c : Cx) (a : Act) (w : World) (β : Beta) (Y : Nat -> Prop) (us : Array Value), c.E = E -> Mem c h (fun b => n <= b) β Y w -> zM c sl h β Y w a -> relL w (XX c.Z Y β h) as β us.toList ->
  Calls E.P f us w fun e w' => ∃ u, e = .returned u /\ ∃ r sl' h' n' β' Y', (∀ r, Y r -> Y' r) /\ K r sl' h' n' /\ Mem c h' (fun b => n' <= b) β' Y' w' /\ zM c sl' h' β' Y' w' a /\ rel w' (XX c.Z Y' β' h') r β' u
@[irreducible] def uF (E : Env) (b : Nat) (as : List SV) (sl : Slots) (h : Heap) (n : Nat) (K : SV -> Slots -> Heap -> Nat -> Prop) : Prop :=
 ∀ (c : Cx) (a : Act) (w : World) (β : Beta) (Y : Nat -> Prop) (us : Array Value) (l : Loc), c.E = E -> Mem c h (fun b => n <= b) β Y w -> zM c sl h β Y w a -> relL w (XX c.Z Y β h) as β us.toList -> β b = some l ->
  ∃ fn tmps asg body, (Instr.yield l.r us).run E.P w = .ok (.round l.r fn tmps asg body) w /\ RoundIn Fence.wide 0 E.P l.r fn tmps asg body w fun e w' =>
   ∃ u, e = .returned u /\ ∃ r sl' h' n' β' Y', (∀ r, Y r -> Y' r) /\ K r sl' h' n' /\ Mem c h' (fun b => n' <= b) β' Y' w' /\ zM c sl' h' β' Y' w' a /\ rel w' (XX c.Z Y' β' h') r β' u
def zpu (l : List Nat) (g : Nat) (d : Option Nat) : Bool :=
 match qB g l with
 | true => true
 | false => match d with
   | some t => qB (g + 1000000 * (t + 1)) l
   | none => false
def zgs (E : Env) (d : Option Nat) (o : Op) (sl : Slots) (Kno : Prop) (Kyes : FuncId -> List SV -> Prop) (Kyld : Nat -> List SV -> Prop) : Prop :=
 match o with
 | .call c => match c.callee with
   | .value f => match ev E sl f with
     | .fn g caps => match zpu E.lend g d with
       | true => yN (c.args.toList.map (ev E sl)) fun as => match qX as with
         | true => Kyes g (as ++ caps)
         | false => False
       | false => Kno
     | .yld b => yN (c.args.toList.map (ev E sl)) fun as => match qX as with
        | true => Kyld b as
        | false => False
     | _ => Kno
   | _ => Kno
 | _ => Kno
def zvn (E : Env) (o : Oper) : Option Nat :=
 match o.op with
 | .assign (.const (.slice none 0 0)) => match (lkT E.tt o.type).d with
   | .sl e => match Nat.ble 1 (lkT E.tt e).size with
     | true => some (lkT E.tt e).size
     | false => none
   | _ => none
 | _ => none
def opY (E : Env) (o : Oper) (sl : Slots) (h : Heap) (n : Nat) (K : Slots -> Heap -> Nat -> Prop) : Prop :=
 match zvn E o with
 | some sz => (match o.dst with
   | some d => K ((d, .osl n sz) :: sl) ((n, .row true sz []) :: h) (n + 1)
   | none => K sl h (n + 1))
 | none => zgs E o.dst o.op sl (opX E o sl h n fun sl h => K sl h (n + 1)) (fun f as =>
   qu E f as sl h n fun r sl h n => match o.dst with
    | some d => K ((d, r) :: sl) h n
    | none => K sl h n) fun b as =>
   uF E b as sl h n fun r sl h n => match o.dst with
    | some d => K ((d, r) :: sl) h n
    | none => K sl h n
def zfy (h : Heap) (b : Nat) (K : Exit -> Heap -> Prop) : Prop :=
 match lkB h b with
 | some (.gho q _) => match q.dead with
   | true => False
   | false => (match q.st with
   | .busy => False
   | _ => (match q.pend with
     | none => stK h b .dead fun h => K .normal h
     | some .ret => stK h b .dead fun h => K .ret h
     | some (.exit i) => stK h b .dead fun h => K (.exit i) h
     | _ => False))
 | _ => False
def zey (o : Op) : Option (Nat × Nat × TypeId) :=
 match o with
 | .call c => match c.callee with
   | .builtin .copy => (match c.args.toList, c.argTypes.toList with
     | [.tmp d, .tmp s], [T, _] => some (d, s, T)
     | _, _ => none)
   | _ => none
 | _ => none
inductive SP where
 | none
 | mkI (T : TypeId) (x : Operand)
 | inv (r : Operand) (name : String) (as : List Operand)
 | sl3 (T : TypeId) (x : Operand) (lo : Option Operand) (hi mx : Operand)
 | clr (t : Nat) (T : TypeId)
def spK (o : Op) : SP :=
 match o with
 | .makeInterface T x => .mkI T x
 | .call c => (match c.callee with
   | .invoke r name => .inv r name c.args.toList
   | .builtin .clear => (match c.args.toList, c.argTypes.toList with
     | [.tmp t], [T] => .clr t T
     | _, _ => .none)
   | _ => .none)
 | .slice T x lo (some hi) (some mx) => .sl3 T x lo hi mx
 | _ => .none
def cpB : List Oper -> Bool
 | [] => false
 | o :: r => match zey o.op, spK o.op with | none, .none => cpB r | _, _ => true
def zpg (t : Nat) : List Oper -> Bool
 | [] => false
 | o :: r => match zey o.op with
   | some (d, s, _) => (match Nat.beq d t, Nat.beq s t with | false, false => zpg t r | _, _ => true)
   | none => zpg t r
def ztu (all : List Oper) (o : Oper) : Option (TypeId × Operand × Option Operand) :=
 match o.op, o.dst with
 | .slice T x none hi none, some t => (match zpg t all with | true => some (T, x, hi) | false => none)
 | _, _ => none
def zl9 (E : Env) (T : TypeId) (hi : Option Operand) (sl : Slots) (h : Heap) (b : Nat) (p : List Step) (K : SV -> Prop) : Prop :=
 match lkB h b with
 | some (.var _ v) => nav v p fun u => match u with
   | .arr N sz _ => match (lkT E.tt T).d with
     | .arr m e => (match Nat.beq m N && Nat.beq sz 1 && Nat.beq (lkT E.tt e).size 1 with
       | true => (match hi with
         | none => K (.vsl b p N)
         | some y => match ev E sl y with
           | .int _ i => wm ((List.range (N + 1)).map fun j => SV.vsl b p j) i K
           | _ => False)
       | false => False)
     | _ => False
   | _ => False
 | _ => False
def zfz (E : Env) (T : TypeId) (vd vs : SV) (h : Heap) (K : Nat -> Heap -> Prop) : Prop :=
 match vd, vs with
 | .vsl b p n, .vsl b' p' n' => match jV p, lkB h b, lkB h b' with
   | false, some (.var true v), some (.var _ v') => nav v p fun u => nav v' p' fun u' => match u, u' with
     | .arr N sz xs, .arr N' sz' ys => (match Nat.beq sz 1 && Nat.beq sz' 1 && Nat.ble n N && Nat.ble n' N', (lkT E.tt T).d with
       | true, .sl e => (match Nat.beq (lkT E.tt e).size 1 with
         | true => upd v (.arr N 1 (ys.take (min n' n) ++ xs.drop (min n' n))) p fun v2 => stK h b (.var true v2) fun h2 => K (min n' n) h2
         | false => False)
       | _, _ => False)
     | _, _ => False
   | _, _, _ => False
 | _, _ => False
def zlw (E : Env) (T : TypeId) (v : SV) (K : SV -> Prop) : Prop := match (lkT E.tt T).d with
 | .ifc | .other => False
 | _ => yN [v] fun cs => match qX cs with | true => K (.ifc T cs) | false => False
def zqh (E : Env) (rv : SV) (name : String) (as : List SV) (h : Heap) (K : SV -> Heap -> Prop) : Prop := match rv with
 | .ifc T vs => (match lkM E.mt T name, qX as with
   | some f, true => qD h 60 as [] fun as ns => qD h 60 vs ns fun vs ns => jw E f (vs ++ as) fun r => frc r fun r => xy ns h fun h2 => K r h2
   | _, _ => False)
 | _ => False
def zky : SV -> Bool
 | .sl .. | .osl .. | .nils | .mt => true
 | _ => false
def jX (v : SV) : Bool := match v with
 | .int _ i => decide (i = 0)
 | _ => false
def zmz (E : Env) (T : TypeId) (x : SV) (lo : Option SV) (hi mx : SV) (K : SV -> Prop) : Prop :=
 match (lkT E.tt T).d with
 | .sl e => (match Nat.ble 1 (lkT E.tt e).size with
   | true => (match zky x, lo, jX hi, jX mx with
     | true, none, true, true => K .mt
     | true, some l, true, true => (match jX l with | true => K .mt | false => False)
     | _, _, _, _ => False)
   | false => False)
 | _ => False
def zp4 (t : Nat) : List Oper -> Bool
 | [] => false
 | o :: r => match spK o.op with
   | .clr d _ => (match Nat.beq d t with | true => true | false => zp4 t r)
   | _ => zp4 t r
def zu6 (all : List Oper) (o : Oper) : Option (TypeId × Operand × Operand) :=
 match o.op, o.dst with
 | .slice T x (some lo) none none, some t => (match zp4 t all with | true => some (T, x, lo) | false => none)
 | _, _ => none
def zli (E : Env) (T : TypeId) (lo : SV) (h : Heap) (b sz : Nat) (K : SV -> Prop) : Prop :=
 match lkB h b, lo, (lkT E.tt T).d with
 | some (.row true sz' xs), .int _ i, .sl e => (match Nat.beq sz 1 && Nat.beq sz' 1 && Nat.beq (lkT E.tt e).size 1 with
   | true => zO (0 <= i /\ i < xs.length) (K (.vsl b [.idx i.toNat 1] (xs.length - i.toNat)))
   | false => False)
 | _, _, _ => False
def zkz (E : Env) (T : TypeId) (v : SV) (h : Heap) (K : Heap -> Prop) : Prop :=
 match v, (lkT E.tt T).d with
 | .vsl b [.idx i sz] n, .sl e => (match lkB h b with
   | some (.row true sz' xs) => wU (lkT E.tt e).zero fun z => (match Nat.beq sz 1 && Nat.beq sz' 1 && Nat.beq z.sz 1 && Nat.beq (lkT E.tt e).size 1 with
     | true => zO (1 <= n /\ i + n <= xs.length) (stK h b (.row true 1 (xs.take i ++ (List.replicate n z ++ xs.drop (i + n)))) fun h2 => K h2)
     | false => False)
   | _ => False)
 | _, _ => False
def zq8 (E : Env) (o : Op) : Option TypeId := match o with
 | .alloc T => (match qB T E.bts with | true => some T | false => none)
 | _ => none
def zq5 (v : SV) : Bool := match v with
 | .agg [.nilp, .nils] => true
 | _ => false
def zj3 (E : Env) (T : TypeId) (h : Heap) (n : Nat) (K : SV -> Heap -> Prop) : Prop := match zq5 (lkT E.tt T).zero with
 | true => K (.ptr n []) ((n, .tv T (.agg [.nilp, .nils])) :: h)
 | false => False
def opZ (E : Env) (all : List Oper) (o : Oper) (sl : Slots) (h : Heap) (n : Nat) (K : Slots -> Heap -> Nat -> Prop) : Prop :=
 match zey o.op with
 | some (d, s, T) => zfz E T (ev E sl (.tmp d)) (ev E sl (.tmp s)) h fun k h2 => (match o.dst with | some t => K ((t, .int .i64 k) :: sl) h2 (n + 1) | none => K sl h2 (n + 1))
 | none => match zq8 E o.op with
  | some T => zj3 E T h n fun v h2 => (match o.dst with | some t => K ((t, v) :: sl) h2 (n + 1) | none => K sl h2 (n + 1))
  | none => match spK o.op with
  | .mkI T x => zlw E T (ev E sl x) fun v => (match o.dst with | some t => K ((t, v) :: sl) h (n + 1) | none => K sl h (n + 1))
  | .inv r name as => zqh E (ev E sl r) name (as.map (ev E sl)) h fun v h2 => (match o.dst with | some t => K ((t, v) :: sl) h2 (n + 1) | none => K sl h2 (n + 1))
  | .sl3 T x lo hi mx => zmz E T (ev E sl x) (lo.map (ev E sl)) (ev E sl hi) (ev E sl mx) fun v => (match o.dst with | some t => K ((t, v) :: sl) h (n + 1) | none => K sl h (n + 1))
  | .clr t T => zkz E T (ev E sl (.tmp t)) h fun h2 => (match o.dst with | some _ => False | none => K sl h2 (n + 1))
  | .none => match ztu all o with
   | some (T, x, hi) => (match ev E sl x with
     | .ptr b p => zl9 E T hi sl h b p fun v => (match o.dst with | some t => K ((t, v) :: sl) h (n + 1) | none => K sl h (n + 1))
     | _ => opY E o sl h n K)
   | none => match zu6 all o with
    | some (T, x, lo) => (match ev E sl x with
     | .osl b sz => zli E T (ev E sl lo) h b sz fun v => (match o.dst with | some t => K ((t, v) :: sl) h (n + 1) | none => K sl h (n + 1))
     | _ => opY E o sl h n K)
    | none => opY E o sl h n K
def jp (E : Env) (all : List Oper) (o : Oper) (sl : Slots) (h : Heap) (n : Nat) (K : Slots -> Heap -> Nat -> Prop) : Prop :=
 grd all o.guard sl (fun sl => opZ E all o sl h n K)
  (fun sl => match o.dst with
    | some d => K ((d, und) :: sl) h n
    | none => K sl h n)
def zbn (E : Env) (all : List Oper) : List Oper -> Slots -> Heap -> Nat -> (Slots -> Heap -> Nat -> Prop) -> Prop
 | [], sl, h, n, K => K sl h n
 | o :: r, sl, h, n, K => match r with
   | [] => jp E all o sl h n K
   | o2 :: r2 => jp E all o sl h n fun sl h n => zbn E all (o2 :: r2) sl h n K
theorem zlx {E : Env} {all : List Oper} {sl : Slots} {h : Heap} {n : Nat} {K : Slots -> Heap -> Nat -> Prop} : zbn E all [] sl h n K = K sl h n := rfl
theorem zc1 {E : Env} {all : List Oper} {o : Oper} {r : List Oper} {sl : Slots} {h : Heap} {n : Nat} {K : Slots -> Heap -> Nat -> Prop} : zbn E all (o :: r) sl h n K = jp E all o sl h n fun sl h n => zbn E all r sl h n K := by cases r <;> rfl
def zh4 (L : List Nat) : List Edge -> Bool
 | [] => true
 | e :: r => match Region.binds .any e with
   | true => (match qB e.on L with | true => zh4 L r | false => false)
   | false => zh4 L r
def rdy (L : List Nat) : List Oper -> Nat -> List (Nat × Oper)
 | [], _ => []
 | o :: r, i => match qB i L, zh4 L o.after.toList with
   | false, true => (i, o) :: rdy L r (i + 1)
   | _, _ => rdy L r (i + 1)
def zo4 (f : Nat × Oper -> Prop) : List (Nat × Oper) -> Prop
 | [] => True
 | a :: r => f a /\ zo4 f r
def zbp (E : Env) (ops : List Oper) : Nat -> List Nat -> Slots -> Heap -> Nat -> (Slots -> Heap -> Nat -> Prop) -> Prop
 | 0, L, sl, h, n, K => match rdy L ops 0 with
   | [] => K sl h n
   | _ :: _ => False
 | f + 1, L, sl, h, n, K => match rdy L ops 0 with
   | [] => K sl h n
   | q :: r => zo4 (fun p => jp E ops p.2 sl h n fun sl h n => zbp E ops f (p.1 :: L) sl h n K) (q :: r)
def zAh (o : Oper) : Bool := match o.op with
 | .call c => (match c.callee with | .value (.tmp _) => true | _ => false)
 | _ => false
def zak : List Oper -> Option (List Oper × Oper)
 | [] => none
 | o :: r => match r with
   | [] => (match zAh o with | true => some ([], o) | false => none)
   | _ :: _ => (match zak r with | some (i, l) => some (o :: i, l) | none => none)
theorem zkd : ∀ {l i : List Oper} {o : Oper}, zak l = some (i, o) -> l = i ++ [o]
 | [], i, o, h => by cases h
 | [x], i, o, h => by
   simp only [zak] at h
   split at h
   . cases h; rfl
   . cases h
 | x :: y :: r, i, o, h => by
   simp only [zak] at h
   split at h
   . rename_i i' l e
     cases h
     rw [zkd (l := y :: r) e]; rfl
   . cases h
def zg4 (l : List Nat) : List Oper -> Bool
 | [] => false
 | o :: r => match o.op with
   | .call c => (match c.callee with
     | .value (.func g) => (match zpu l g o.dst with | true => true | false => zg4 l r)
     | _ => zg4 l r)
   | _ => zg4 l r
mutual
def SV.nmd (p : Nat -> Prop) : SV -> Prop
 | .ptr b _ => p b
 | .osl b _ => p b
 | .yld b => p b
 | .mpr b => p b
 | .vsl b _ _ => p b
 | .agg fs => qr p fs
 | .arr _ _ fs => qr p fs
 | .sl _ fs => qr p fs
 | .iptr t => t.nmd p
 | .tup fs => qr p fs
 | .fn _ fs => qr p fs
 | .ifc _ fs => qr p fs
 | _ => True
def qr (p : Nat -> Prop) : List SV -> Prop
 | [] => True
 | v :: r => v.nmd p /\ qr p r
end
def xN (cls : List Nat) : List Edge -> Nat
 | [] => 0
 | e :: r => match Region.binds .any e with
   | true => (1 <<< e.on) ||| (cls.getD e.on 0 ||| xN cls r)
   | false => xN cls r
def je : List Oper -> List Nat -> List Nat
 | [], cls => cls
 | o :: r, cls => je r (cls ++ [xN cls o.after.toList])
def zo5 (Rs : List Nat) (sl : Slots) (h : Heap) : Prop :=
 ∃ Bs : Nat -> Prop, (∀ t ∈ Rs, ∃ f, lk sl t = .ptr f [] /\ Bs f) /\ (∀ t, t ∉ Rs -> (lk sl t).nmd fun b => ¬ Bs b) /\ ∀ b o v, ¬ Bs b -> lkB h b = some (.var o v) -> v.nmd fun b => ¬ Bs b
def zmw (t : Nat) : List Oper -> Bool
 | [] => false
 | o :: r => match o.dst with
   | some d => (match Nat.beq d t with | true => true | false => zmw t r)
   | none => zmw t r
def jA (all : List Oper) : List Oper -> List Nat
 | [] => []
 | o :: r => match o.op with
   | .store _ (.tmp t) _ => (match zmw t all with | true => jA all r | false => t :: jA all r)
   | _ => jA all r
def zBi : Op -> Bool
 | .load .. | .call _ | .build .. | .buildSlice .. | .slice .. | .indexAddr .. | .makeSlice .. => true
 | _ => false
def ztm (m j : Nat) : List Oper -> Nat -> Bool
 | [], _ => false
 | o :: r, p => match Nat.blt p j with
   | false => false
   | true => (match zBi o.op, m.testBit p with
     | true, false => true
     | _, _ => ztm m j r (p + 1))
def zjn (all : List Oper) (cls : List Nat) (Rs : List Nat) : List Oper -> Nat -> Bool
 | [], _ => false
 | o :: r, j => match o.op with
   | .store _ (.tmp t) _ => (match qB t Rs with
     | true => (match ztm (cls.getD j 0) j all 0 with | true => true | false => zjn all cls Rs r (j + 1))
     | false => zjn all cls Rs r (j + 1))
   | _ => zjn all cls Rs r (j + 1)
def zqi (ops : List Oper) : Bool := match jA ops ops with
 | [] => false
 | t :: r => zjn ops (je ops []) (t :: r) ops 0
def zd1 (ops : List Oper) (sl : Slots) (h : Heap) : Prop := match zqi ops with
 | false => True
 | true => zo5 (jA ops ops) sl h
def exec (E : Env) (N : Nat) (cuts : List Nat) : Code -> Slots -> Heap -> Nat -> KX -> Prop
 | .skip, sl, h, n, K => K .normal sl h n
 | .seq a b, sl, h, n, K => exec E N cuts a sl h n fun e sl h n => match e with
   | .normal => exec E N cuts b sl h n K
   | e => K e sl h n
 | .cond c a b, sl, h, n, K => brk (ev E sl c) (exec E N cuts a sl h n K) (exec E N cuts b sl h n K)
 | .block id b, sl, h, n, K => match qB id cuts with
   | false => exec E N cuts b sl h n fun e sl h n => (match e with
     | .exit i => (match Nat.beq i id with | true => K .normal sl h n | false => K (.exit i) sl h n)
     | e => K e sl h n)
   | true => zjw (fun K => exec E N cuts b sl h n fun e sl h n => (match e with
     | .exit i => (match Nat.beq i id with | true => K .normal sl h n | false => K (.exit i) sl h n)
     | e => K e sl h n)) K
 | .exit i, sl, h, n, K => K (.exit i) sl h n
 | .ret, sl, h, n, K => K .ret sl h n
 | .region _ ops true, sl, h, n, K => (match zg4 E.lend ops.toList, cpB ops.toList with
   | false, false => (match zak ops.toList with
     | none => zd1 ops.toList sl h /\ jd E ops.toList ops.toList sl h n fun sl h n => K .normal sl h n
     | some (i, o) => jd E ops.toList i sl h n fun sl h n => jp E ops.toList o sl h n fun sl h n => K .normal sl h n)
   | _, _ => zbp E ops.toList ops.toList.length [] sl h n fun sl h n => K .normal sl h n)
 | .region _ ops false, sl, h, n, K => zbn E ops.toList ops.toList sl h n fun sl h n => K .normal sl h n
 | .loop b, sl, h, n, K => xR sl h n fun sl h n C => exec E N cuts b sl h n fun e sl h n => match e with
   | .normal => C sl h n
   | e => K e sl h n
 | .scope b, sl, h, n, K => exec E N cuts b sl h n fun e sl h n => match e with
   | .goto _ => False
   | e => K e sl h n
 | .label _, sl, h, n, K => K .normal sl h n
 | .rangeFunc f ps asg b, sl, h, n, K => (match ev E sl f with
   | .fn g caps => qu E g (.yld n :: caps) ((1999999, .yld n) :: sl) ((n, .gho ⟨.ready, none, N, ps, asg, b, false⟩ sl) :: h) (n + 1) fun _ sl h n' => (match lk sl 1999999 with
     | .yld b => (match Nat.beq b n with
       | true => zfy h n fun e h => K e ((1999999, .any) :: sl) h n'
       | false => False)
     | _ => False)
   | _ => False)
 | _, _, _, _, _ => False
def ini {R : Sort _} : List SV -> Nat -> Slots -> (Slots -> R) -> R
 | [], _, sl, K => K sl
 | v :: r, i, sl, K => frc v fun v => ini r (i + 1) ((i, v) :: sl) K
def bl : SV -> SV
 | .tru => .bool true
 | .fls => .bool false
 | v => v
def uI (E : Env) (sl : Slots) (h : Heap) : List ResultVar -> (List SV -> Prop) -> Prop
 | [], K => K []
 | .tmp t :: r, K => frz h 60 (bl (ev E sl (.tmp t))) [] fun v _ => uI E sl h r fun vs => K (v :: vs)
 | .cell t T :: r, K => opE E sl h 0 (.load T (.tmp t)) fun v _ _ => frz h 60 v [] fun v _ => uI E sl h r fun vs => K (v :: vs)
def xf (E : Env) (sl : Slots) (h : Heap) : List ResultVar -> (List SV -> Prop) -> Prop
 | [], K => K []
 | .tmp t :: r, K => frc (ev E sl (.tmp t)) fun v => xf E sl h r fun vs => K (v :: vs)
 | .cell t T :: r, K => opE E sl h 0 (.load T (.tmp t)) fun v _ _ => xf E sl h r fun vs => K (v :: vs)
def zfl (E : Env) (fn : Func) (sl : Slots) (h : Heap) (K : SV -> Prop) : Prop :=
 xf E sl h fn.results.toList fun vs => match vs with
  | [v] => K v
  | vs => match qX vs with | true => K (.tup vs) | false => False
def xb (E : Env) (fn : Func) (sl : Slots) (h : Heap) (K : SV -> Prop) : Prop :=
 uI E sl h fn.results.toList fun vs => match vs with
  | [v] => K v
  | vs => match qX vs with | true => K (.tup vs) | false => False
@[irreducible] def Wk (v r : SV) : Prop := ∀ w X β u, rel w X v β u -> rel w X r β u
theorem Wk.refl (v : SV) : Wk v v := by unfold Wk; exact fun _ _ _ _ h => h
theorem Wk.r {v : SV} : Wk v v := .refl v
theorem pT {b : Bool} {p q : Prop} (h : p) (e : ¬ b = false := by decide) : (b = true -> p) /\ (b = false -> q) := ⟨fun _ => h, fun x => absurd x e⟩
theorem pF {b : Bool} {p q : Prop} (h : q) (e : ¬ b = true := by decide) : (b = true -> p) /\ (b = false -> q) := ⟨fun x => absurd x e, fun _ => h⟩
theorem Wk.app {v r : SV} (h : Wk v r) {w : World} {X : Nat -> Prop} {β : Beta} {u : Value} (k : rel w X v β u) : rel w X r β u := by unfold Wk at h; exact h w X β u k
def fnX (E : Env) (cuts : List Nat) (fn : Func) (args : List SV) (r : SV) : Prop :=
 match fn.body with
 | some c => ini args 0 [] fun sl => exec E fn.ntmps cuts c sl [] 0 fun e sl h _ => match e with
   | .normal | .ret => xb E fn sl h fun v => Wk v r
   | _ => False
 | none => False
def zx7 (E : Env) (N : Nat) (ops : Array Oper) : Prop :=
 ∀ (c : Cx), c.E = E -> ∀ (id : Nat) (sl : Slots) (h : Heap) (n : Nat) (K : Slots -> Heap -> Nat -> Prop), zd1 ops.toList sl h -> jd E ops.toList ops.toList sl h n K -> ∀ (a : Act) (w : World), Den c N sl h n a w -> ∀ Q : Exit -> Act -> World -> Prop,
  (∀ sl' h' n' a' w', K sl' h' n' -> Den c N sl' h' n' a' w' -> Q .normal a' w') -> (Code.region id ops true).wpIn (FR c.ro) 0 E.P Q a w
def zyk (E : Env) (N : Nat) (ops : Array Oper) (i : List Oper) (o : Oper) : Prop :=
 ∀ (c : Cx), c.E = E -> ∀ (id : Nat) (sl : Slots) (h : Heap) (n : Nat) (K : Slots -> Heap -> Nat -> Prop), jd E ops.toList i sl h n (fun sl h n => jp E ops.toList o sl h n K) -> ∀ (a : Act) (w : World), Den c N sl h n a w -> ∀ Q : Exit -> Act -> World -> Prop,
  (∀ sl' h' n' a' w', K sl' h' n' -> Den c N sl' h' n' a' w' -> Q .normal a' w') -> (Code.region id ops true).wpIn (FR c.ro) 0 E.P Q a w
def zm7 (E : Env) (N : Nat) (ops : Array Oper) : Prop := match zak ops.toList with
 | none => zx7 E N ops
 | some p => zyk E N ops p.1 p.2
def wB (E : Env) (N : Nat) : Code -> Prop
 | .scope b => wB E N b
 | .region _ ops draw => (∀ o ∈ ops.toList, ∀ d, o.dst = some d -> d < N) /\ (draw = true -> cpB ops.toList = false -> zm7 E N ops)
 | .seq a b => wB E N a /\ wB E N b
 | .cond _ a b => wB E N a /\ wB E N b
 | .block _ b => wB E N b
 | .loop b => wB E N b
 | _ => True
def rfB : Code -> Bool
 | .rangeFunc .. => true
 | .scope b => rfB b
 | .seq a b => match rfB a with | true => true | false => rfB b
 | .cond _ a b => match rfB a with | true => true | false => rfB b
 | .block _ b => rfB b
 | .loop b => rfB b
 | _ => false
def zgo (ro : Option Nat) (P : Program) (c : Code) (Q : Exit -> Act -> World -> Prop) (a : Act) (w : World) : Prop :=
 ∀ (b : Frame) (k : List Item) (cs : List Frame), b.roundOf = ro -> ∃ e a' w', Q e a' w' /\ ArrivesIn (Machine.fenced P (FR ro)) P (lone (b.atR a (.code c :: .inLoop c :: k)) cs w) b k cs e a' w'
theorem jv {P : Program} {b : Frame} {a : Act} {k : List Item} {cs : List Frame} {w : World} {c : Code} : step P (lone (b.atR a (.code (.scope c) :: k)) cs w) = .next (lone (b.atR a (.code c :: .inScope c :: k)) cs w) :=
 step_lone_go (by simp [stepG, stepG.exec, Frame.atR])
theorem zjl {P : Program} {b : Frame} {a : Act} {k : List Item} {cs : List Frame} {w : World} {c : Code} : step P (lone (b.atR a (.inScope c :: k)) cs w) = .next (lone (b.atR a k) cs w) :=
 step_lone_go (by simp [stepG, stepG.exec, Frame.atR])
theorem zwp {P : Program} {ro : Option Nat} {fr : Frame} {cs : List Frame} {w : World} : (lone fr cs w).fenced P (FR ro) := fenced_wide _ _
theorem znt {ro : Option Nat} {P : Program} {c : Code} {Q : Exit -> Act -> World -> Prop} {a : Act} {w : World} (h : c.wpIn (FR ro) 0 P (Exit.then (zgo ro P c Q) Q) a w) : zgo ro P c Q a w := by
 intro b k cs hro
 obtain ⟨e, a₁, w₁, hq, harr⟩ := h b (.inLoop c :: k) cs hro trivial (zbb _)
 cases e with
 | normal =>
   obtain ⟨e₂, a₂, w₂, hq₂, harr₂⟩ := hq b k cs hro
   exact ⟨e₂, a₂, w₂, hq₂, .of_steps (StepsIn.trans harr (.one zwp stepR_inLoop)) harr₂⟩
 | exit id => exact ⟨_, a₁, w₁, hq, .pass (x := .inLoop c) rfl (fun _ _ => .inl (by simp)) harr⟩
 | goto l => exact ⟨_, a₁, w₁, hq, .pass (x := .inLoop c) rfl (fun _ _ => .inl (by simp)) harr⟩
 | ret => exact ⟨_, a₁, w₁, hq, .pass (x := .inLoop c) rfl (fun _ _ => .inl (by simp)) harr⟩
 | panic ch => exact ⟨_, a₁, w₁, hq, .pass (x := .inLoop c) rfl (fun _ _ => .inl (by simp)) harr⟩
 | outgrown => exact ⟨_, a₁, w₁, hq, .pass (x := .inLoop c) rfl (fun _ _ => .inl (by simp)) harr⟩
theorem znl {ro : Option Nat} {P : Program} {c : Code} {Q : Exit -> Act -> World -> Prop} {a : Act} {w : World} (h : zgo ro P c Q a w) : (Code.loop c).wpIn (FR ro) 0 P Q a w := by
 intro b k cs hro _ _
 obtain ⟨e, a', w', hq, harr⟩ := h b k cs hro
 exact ⟨e, a', w', hq, .of_steps (.one zwp stepR_loop) harr⟩
theorem zcj {F : Fence} {n : Nat} {P : Program} {Q : Exit -> Act -> World -> Prop} {a : Act} {w : World} {c : Code} (h : c.wpIn F n P (Exit.noGoto Q) a w) : (Code.scope c).wpIn F n P Q a w := by
 intro b k cs hro hb hr
 have h0 : (lone (b.atR a (.code (.scope c) :: k)) cs w).fenced P F := fenced_calm hb hr rfl
 obtain ⟨e, a₁, w₁, hq, harr⟩ := h b (.inScope c :: k) cs hro hb hr
 cases e with
 | normal => exact ⟨.normal, a₁, w₁, hq, .head h0 jv (StepsIn.trans harr (.one (fenced_calm hb hr rfl) zjl))⟩
 | exit id => exact ⟨_, a₁, w₁, hq, .of_steps (.one h0 jv) ⟨fun k' hk => harr.1 k' (by simp [exitTo, hk]), fun hr' hk => harr.2 hr' (by simp [exitTo, hk])⟩⟩
 | goto l => cases hq
 | ret => exact ⟨_, a₁, w₁, hq, .of_steps (.one h0 jv) harr⟩
 | panic ch => exact ⟨_, a₁, w₁, hq, .of_steps (.one h0 jv) harr⟩
 | outgrown => exact ⟨_, a₁, w₁, hq, .of_steps (.one h0 jv) harr⟩
section
variable {c : Cx} {N : Nat}
theorem SubX.refl {sl : Slots} {h : Heap} {n : Nat} : SubX sl h n sl h n := by unfold SubX; exact fun _ _ _ _ D => D
theorem Den.fewer {sl sl' : Slots} {h : Heap} {n : Nat} {a : Act} {w : World} (hs : ∀ t, lk sl t = .any \/ lk sl t = lk sl' t) (D : Den c N sl' h n a w) : Den c N sl h n a w := by
 obtain ⟨β, Y, m, hsl, hN, hdef⟩ := D
 refine ⟨β, Y, m, ⟨hsl.1, fun t => ?_⟩, hN, hdef⟩
 rcases hs t with e | e
 . rw [e]; exact zdx
 . rw [e]; exact hsl.2 t
theorem zsl {v : SV} {K1 K2 : Prop} (hK : brk v K1 K2) {w : World} {X : Nat -> Prop} {β : Beta} {u : Value} (hv : rel w X v β u) : ∃ t, u = .bool t /\ (t = true -> K1) /\ (t = false -> K2) := by
 unfold brk at hK
 split at hK
 . exact ⟨_, rel_bool.1 hv, hK⟩
 . exact ⟨true, rel_tru.1 hv, fun _ => hK, fun h => by cases h⟩
 . exact ⟨false, rel_fls.1 hv, fun h => (by cases h), fun _ => hK⟩
 . cases hK
theorem Mem.markY {c : Cx} {h : Heap} {F : Nat -> Prop} {β : Beta} {Y : Nat -> Prop} {w : World} (m : Mem c h F β Y w) :
 Mem c h F β (fun r => Y r \/ r = w.heap.size) (w.alloc (.deferred (some []))) /\ Ext w (XX c.Z Y β h) (w.alloc (.deferred (some []))) (XX c.Z (fun r => Y r \/ r = w.heap.size) β h) := by
 have hpush : ∀ r, r < w.heap.size -> (w.alloc (.deferred (some []))).heap[r]? = w.heap[r]? := fun r hr => Below.heap_alloc w _ r hr
 have hnew : (w.alloc (.deferred (some []))).heap[w.heap.size]? = some (.deferred (some [])) := by
  show (w.heap.push _)[w.heap.size]? = _
  simp
 have e : Ext w (XX c.Z Y β h) (w.alloc (.deferred (some []))) (XX c.Z (fun r => Y r \/ r = w.heap.size) β h) := by
  refine ⟨by simp, fun r hr _ => hpush r hr, fun r hr hx => ?_⟩
  rintro (g | (g | g) | g)
  . exact hx (.inl g)
  . exact hx (.inr (.inl g))
  . omega
  . exact hx (.inr (.inr g))
 refine ⟨⟨m.fresh, fun b k hk => ?_, m.inj, fun r hr => ?_, fun r hr => ?_, m.zz, ?_, fun r hr hf => ?_, m.os, m.tape, m.output, fun g t hg ht => zQ e _ _ (zj (fun _ _ k => k) _) (m.gl g t hg ht)⟩, e⟩
 . obtain ⟨l, h1, h2⟩ := m.blk b k hk
   refine ⟨l, h1, ?_⟩
   by_cases hl : l.r < w.heap.size
   . exact h2.ext e (hpush _ hl) (fun _ _ k => k) (fun g1 g2 => e.less _ g1 g2)
   . cases k with
     | var own v =>
       obtain ⟨cs, ty, lo, hi, g1, _⟩ := h2
       exact absurd (qg g1) hl
     | row own sz xs =>
       obtain ⟨g1, g2, g3, g4⟩ := h2
       refine ⟨g1, g2, g3, g4.imp id ?_⟩
       rintro ⟨cs, ty, lo, hi, f1, _⟩
       exact absurd (qg f1) hl
     | gho q s =>
       rcases h2 with h2 | ⟨fn, tmps, D, g1, _⟩
       . exact .inl h2
       . exact absurd (qg g1) hl
     | mp es =>
       obtain ⟨ms, clock, g1, _⟩ := h2
       exact absurd (qg g1) hl
     | tv T v =>
       obtain ⟨cs, g1, _⟩ := h2
       exact absurd (qg g1) hl
     | tr T s =>
       obtain ⟨g1, g2, g3, g4⟩ := h2
       refine ⟨g1, g2, g3, g4.imp id ?_⟩
       rintro ⟨cs, fz, f1, _⟩
       exact absurd (qg f1) hl
 . obtain ⟨g1, g2, g3, g4⟩ := m.own r hr
   exact ⟨by simp; omega, g2, fun hy => hy.elim g3 (fun e => by omega), g4⟩
 . rcases hr with hr | hr
   . obtain ⟨g1, g2, g3⟩ := m.yy r hr
     exact ⟨(hpush r (qg g1)).trans g1, g2, g3⟩
   . subst hr
     refine ⟨hnew, fun hz => ?_, .inl m.size⟩
     have := (m.zz _ hz).1; have := m.size; omega
 . have := m.size; simp; omega
 . rw [hpush r (Nat.lt_of_lt_of_le hr m.size)]; exact m.frame r hr hf
theorem Mem.unY {c : Cx} {h : Heap} {F : Nat -> Prop} {β : Beta} {Y : Nat -> Prop} {w : World} (m : Mem c h F β Y w) {D : Nat} (hD : Y D) (o : Obj) :
 Mem c h F β (fun r => Y r /\ r ≠ D) (World.put w D o) /\ Ext w (XX c.Z Y β h) (World.put w D o) (XX c.Z (fun r => Y r /\ r ≠ D) β h) := by
 have hlt : D < w.heap.size := qg (m.yy D hD).1
 have hsame : ∀ r, r ≠ D -> (World.put w D o).heap[r]? = w.heap[r]? := fun r hr => jq hr
 have e : Ext w (XX c.Z Y β h) (World.put w D o) (XX c.Z (fun r => Y r /\ r ≠ D) β h) := by
  refine ⟨by rw [qJ]; exact Nat.le_refl _, fun r hr hx => hsame r fun er => hx (.inr (.inl (er ▸ hD))), fun r hr hx => ?_⟩
  rintro (g | g | g)
  . exact hx (.inl g)
  . exact hx (.inr (.inl g.1))
  . exact hx (.inr (.inr g))
 refine ⟨⟨m.fresh, fun b k hk => ?_, m.inj, fun r hr => ?_, fun r hr => ?_, m.zz, by rw [qJ]; exact m.size, fun r hr hf => ?_, m.os, m.tape, m.output, fun g t hg ht => zQ e _ _ (zj (fun _ _ k => k) _) (m.gl g t hg ht)⟩, e⟩
 . obtain ⟨l, h1, h2⟩ := m.blk b k hk
   refine ⟨l, h1, ?_⟩
   by_cases hl : l.r = D
   . have hc : ∀ {cs ty lo hi}, w.heap[l.r]? = some (.cells cs ty (lo, hi)) -> False := by
      intro cs ty lo hi g
      rw [hl, (m.yy D hD).1] at g; cases g
     cases k with
     | var own v =>
       obtain ⟨cs, ty, lo, hi, g1, _⟩ := h2
       exact (hc g1).elim
     | row own sz xs =>
       obtain ⟨g1, g2, g3, g4⟩ := h2
       refine ⟨g1, g2, g3, g4.imp id ?_⟩
       rintro ⟨cs, ty, lo, hi, f1, _⟩
       exact (hc f1).elim
     | gho q s =>
       rcases h2 with h2 | ⟨fn, tmps, D', g1, _⟩
       . exact .inl h2
       . rw [hl, (m.yy D hD).1] at g1; cases g1
     | mp es =>
       obtain ⟨ms, clock, g1, _⟩ := h2
       rw [hl, (m.yy D hD).1] at g1; cases g1
     | tv T v =>
       obtain ⟨cs, g1, _⟩ := h2
       exact (hc g1).elim
     | tr T s =>
       obtain ⟨g1, g2, g3, g4⟩ := h2
       refine ⟨g1, g2, g3, g4.imp id ?_⟩
       rintro ⟨cs, ⟨lo, hi⟩, f1, _⟩
       exact (hc f1).elim
   . exact h2.ext e (hsame _ hl) (fun _ _ k => k) (fun g1 g2 => e.less _ g1 g2)
 . obtain ⟨g1, g2, g3, g4⟩ := m.own r hr
   exact ⟨by rw [qJ]; exact g1, g2, fun hy => g3 hy.1, g4⟩
 . obtain ⟨g1, g2, g3⟩ := m.yy r hr.1
   exact ⟨(hsame r hr.2).trans g1, g2, g3⟩
 . rw [hsame r]
   . exact m.frame r hr hf
   . rintro rfl
     rcases (m.yy _ hD).2.2 with g | g
     . omega
     . exact hf g
theorem xL {c : Cx} {sl : Slots} {h : Heap} {F : Nat -> Prop} {a : Act} {n : Nat} {fn : Func} {R : Ending -> World -> Prop} {bt : List Deferred} : ∀ (Ds : List Nat) (β : Beta) (Y Y1 : Nat -> Prop) (w : World), Mem c h F β Y w -> zM c sl h β Y w a -> Ds.Nodup -> (∀ D ∈ Ds, Y D) -> (∀ r, Y1 r -> Y r /\ r ∉ Ds) ->
 (∀ Y' w', Mem c h F β Y' w' -> zM c sl h β Y' w' a -> (∀ r, Y1 r -> Y' r) -> LeavesInM Fence.wide n c.E.P fn a.tmps R bt .returning w') -> LeavesInM Fence.wide n c.E.P fn a.tmps R (zgd Ds ++ bt) .returning w
 | [], β, Y, Y1, w, m, hs, _, _, hY, hk => hk Y w m hs fun r hr => (hY r hr).1
 | D :: Ds, β, Y, Y1, w, m, hs, hnd, hD, hY, hk => by
   obtain ⟨h1, h2⟩ := List.nodup_cons.1 hnd
   have hD' := hD D (by simp)
   obtain ⟨m', e⟩ := m.unY hD' (.deferred none)
   refine ⟨by simp, .inl ⟨D, World.put w D (.deferred none), rfl, run_takeDeferred (m.yy D hD').1, ?_⟩⟩
   refine xL Ds β _ Y1 _ m' ⟨hs.1, fun t => zv e (zj (fun _ _ k => k) _) (hs.2 t)⟩ h2 (fun D' hD2 => ⟨hD D' (by simp [hD2]), fun e => h1 (e ▸ hD2)⟩) (fun r hr => ?_) hk
   obtain ⟨g1, g2⟩ := hY r hr
   simp at g2
   exact ⟨⟨g1, g2.1⟩, g2.2⟩
theorem zii {k k' : Blk} {b : Nat} : ∀ {h : Heap}, stB (stB h b k) b k' = stB h b k'
 | [] => rfl
 | (i, v) :: r => by
   simp only [stB]
   cases hi : Nat.beq i b with
   | true => simp only [stB, hi]
   | false => simp only [stB, hi, zii]
theorem zru {h : Heap} {b : Nat} {K : Exit -> Heap -> Prop} (hk : zfy h b K) : ∃ q s, lkB h b = some (.gho q s) /\ q.st ≠ .busy /\ ¬ q.dead = true /\ ((q.pend = none /\ K .normal (stB h b .dead)) \/ (q.pend = some .ret /\ K .ret (stB h b .dead)) \/ ∃ i, q.pend = some (.exit i) /\ K (.exit i) (stB h b .dead)) := by
 unfold zfy at hk
 split at hk
 case h_2 => cases hk
 rename_i q s hq
 split at hk
 . cases hk
 rename_i hst2
 split at hk
 . cases hk
 rename_i hst
 refine ⟨q, s, hq, hst, by rw [hst2]; simp, ?_⟩
 simp only [qW] at hk
 split at hk
 . rename_i hp; exact .inl ⟨hp, hk⟩
 . rename_i hp; exact .inr (.inl ⟨hp, hk⟩)
 . rename_i i hp; exact .inr (.inr ⟨i, hp, hk⟩)
 . cases hk
theorem zuy {E : Env} {d : Option Nat} {o : Op} {sl : Slots} {Kno : Prop} {Kyes : FuncId -> List SV -> Prop} {Kyld : Nat -> List SV -> Prop} (h : zgs E d o sl Kno Kyes Kyld) :
 Kno \/ (∃ cl f g caps, o = .call cl /\ cl.callee = .value f /\ ev E sl f = .fn g caps /\ qX (cl.args.toList.map (ev E sl)) = true /\ Kyes g (cl.args.toList.map (ev E sl) ++ caps)) \/
  ∃ cl f b, o = .call cl /\ cl.callee = .value f /\ ev E sl f = .yld b /\ qX (cl.args.toList.map (ev E sl)) = true /\ Kyld b (cl.args.toList.map (ev E sl)) := by
 unfold zgs at h
 split at h
 . rename_i cl
   split at h
   . rename_i f hf
     split at h
     . rename_i g caps hg
       split at h
       . rw [qf] at h
         split at h
         . rename_i hn; exact .inr (.inl ⟨cl, f, g, caps, rfl, hf, hg, hn, h⟩)
         . cases h
       . exact .inl h
     . rename_i b hg
       rw [qf] at h
       split at h
       . rename_i hn; exact .inr (.inr ⟨cl, f, b, rfl, hf, hg, hn, h⟩)
       . cases h
     . exact .inl h
   . exact .inl h
 . exact .inl h
theorem zc5 (ok : EnvOK c.E) {o : Oper} {sl : Slots} {h : Heap} {n : Nat} {K : Slots -> Heap -> Nat -> Prop} (hK : opY c.E o sl h n K) (hd : ∀ d, o.dst = some d -> d < N) {a : Act} {w : World} (D : Den c N sl h n a w)
 {next : Act -> World -> Prop} {Q : Exit -> Act -> World -> Prop} (hn : ∀ sl' h' n' a' w', K sl' h' n' -> Den c N sl' h' n' a' w' -> next a' w') : o.wpIn (FR c.ro) 0 c.E.P a w next Q := by
 unfold opY at hK
 split at hK
 . rename_i sz hsz
   unfold zvn at hsz
   split at hsz
   case h_2 => cases hsz
   rename_i hop
   split at hsz
   case h_2 => cases hsz
   split at hsz
   case h_2 => cases hsz
   rename_i hs1
   cases hsz
   obtain ⟨β, Y, m, hs, hN, hdef⟩ := D
   refine jF (by intro c e; rw [hop] at e; cases e) ?_
   have hrun : (execOp a.eval o).run c.E.P w = .ok (.value (.slice none 0 0)) w := by
    simp [execOp, hop, Act.eval]
   unfold Oper.wp
   rw [hrun, Oper.upon_value]
   rw [Nat.ble_eq] at hs1
   obtain ⟨m', e'⟩ := Mem.newNil m (Nat.le_refl n) hs1
   have hfr : β n = none := m.fresh n (Nat.le_refl n)
   have hβ : ∀ b l, β b = some l -> zW β n ⟨0, 0, 0⟩ b = some l := fun b l h => by
    rw [zx]; · exact h
    . rintro rfl; rw [hfr] at h; cases h
   cases hdst : o.dst with
   | none =>
     rw [hdst] at hK
     exact hn _ _ _ _ _ hK ⟨β, Y, m.lessF fun b hb => Nat.le_of_succ_le hb, hs, hN, hdef⟩
   | some d =>
     rw [hdst] at hK
     refine hn (wH (some d) _ sl) _ _ _ _ hK ⟨_, Y, m'.lessF fun b hb => ⟨Nat.le_of_succ_le hb, Nat.ne_of_gt hb⟩, ⟨by rw [wy]; exact hs.1, fun t => ?_⟩, by rw [wy, hN], by rw [yU]; exact hdef⟩
     rw [wA, jT _ _ _ _ (by rw [hN]; intro d' h; exact hd d' (by rw [hdst]; exact h)) hs.1]
     by_cases e : some d = some t
     . rw [if_pos e, if_pos e]
       exact wj rfl ⟨⟨0, 0, 0⟩, none, zH .., rfl, fun h => absurd rfl h⟩
     . rw [if_neg e, if_neg e]; exact zv e' (zj hβ _) (hs.2 t)
 have fin : ∀ (β : Beta) (Y : Nat -> Prop), DefOK c Y a.defers -> a.tmps.size = N -> ∀ (u : Value) (w' : World) (r : SV) (sl' : Slots) (h' : Heap) (n' : Nat) (β' : Beta) (Y' : Nat -> Prop), (∀ r, Y r -> Y' r) -> (match o.dst with | some d => K ((d, r) :: sl') h' n' | none => K sl' h' n') -> Mem c h' (fun b => n' <= b) β' Y' w' -> zM c sl' h' β' Y' w' a -> rel w' (XX c.Z Y' β' h') r β' u -> next (a.put o.dst u) w' := by
  intro β Y hdef hN u w' r sl' h' n' β' Y' hY k m' hs' hrel
  refine hn (wH o.dst r sl') h' n' _ _ ?_ ⟨β', Y', m', ⟨by rw [wy]; exact hs'.1, fun t => ?_⟩, by rw [wy, hN], by rw [yU]; exact hdef.mono hY⟩
  . cases hd : o.dst <;> rw [hd] at k <;> exact k
  . rw [wA, jT _ _ _ _ (by rw [hN]; exact hd) hs'.1]
    by_cases e : o.dst = some t
    . rw [if_pos e, if_pos e]; exact hrel
    . rw [if_neg e, if_neg e]; exact hs'.2 t
 rcases zuy hK with hK | ⟨cl, f, g, caps, ho, hf, hg, hnt, hK⟩ | ⟨cl, f, b, ho, hf, hg, hnt, hK⟩
 . exact jF (zek hK) (zil ok hK (Nat.le_refl n) hd D fun sl' h' a' w' k D' => hn _ _ _ _ _ k (D'.less fun b hb => ⟨by omega, by omega⟩))
 . obtain ⟨β, Y, m, hs, hN, hdef⟩ := D
   refine jF (by intro c e; rw [ho] at e; cases e) ?_
   unfold qu at hK
   obtain ⟨⟨fn, hfn, hbody, hname⟩, hK⟩ := hK
   have hfun := wg m hs f
   rw [hg] at hfun
   obtain ⟨us, hfu, hcaps⟩ := rel_fn.1 hfun
   have hargs := zaa (w := w) (X := XX c.Z Y β h) (β := β) (a := a) (E := c.E) (sl := sl) cl.args.toList (fun x _ => wg m hs x) hnt
   have hr : (execOp a.eval o).run c.E.P w = .ok (.enter g (cl.args.map a.eval ++ us)) w := by
    simp only [execOp, ho, resolve, hf, hfu, Deferred.ofValue, Sem.run_bind, Sem.run_pure, Result.andThen_ok, invoke, callFunc, run_program, hfn]
    rw [if_neg (by rw [hname]; simp), if_neg (by simp [Option.isNone_iff_eq_none, Option.isSome_iff_ne_none.1 hbody])]
    simp
   unfold Oper.wp
   rw [hr, Oper.upon_enter]
   refine Calls.mono (hK c a w β Y ((cl.args.map a.eval) ++ us) rfl m hs (by simpa using xI hargs hcaps)) ?_
   rintro e w' ⟨u, rfl, r, sl', h', n', β', Y', hY, k, m', hs', hrel⟩
   exact fin β Y hdef hN u w' r sl' h' n' β' Y' hY k m' hs' hrel
 . obtain ⟨β, Y, m, hs, hN, hdef⟩ := D
   refine ⟨fun _ _ => trivial, ?_⟩
   rw [Oper.semAt_eq _ _ _ (by intro c e; rw [ho] at e; cases e)]
   unfold uF at hK
   have hfun := wg m hs f
   rw [hg] at hfun
   have hfun' := zL rfl (by simp) (by simp) hfun
   simp only [zb] at hfun'
   obtain ⟨l, hl, hfu⟩ := hfun'
   simp only [List.cons.injEq, and_true] at hfu
   have hargs := zaa (w := w) (X := XX c.Z Y β h) (β := β) (a := a) (E := c.E) (sl := sl) cl.args.toList (fun x _ => wg m hs x) hnt
   obtain ⟨fn, tmps, asg, body, hy, hround⟩ := hK c a w β Y (cl.args.map a.eval) l rfl m hs (by simpa using hargs) hl
   have hr : (execOp a.eval o).run c.E.P w = .ok (.round l.r fn tmps asg body) w := by
    simp only [execOp, ho, resolve, hf, hfu, Deferred.ofValue, Sem.run_bind, Sem.run_pure, Result.andThen_ok, invoke]
    simpa using hy
   rw [hr, Oper.uponIn_round]
   refine ⟨zbe, RoundIn.mono (F := FR c.ro) hround ?_⟩
   rintro e w' ⟨u, rfl, r, sl', h', n', β', Y', hY, k, m', hs', hrel⟩
   exact fin β Y hdef hN u w' r sl' h' n' β' Y' hY k m' hs' hrel
theorem zk0 {o : Op} {d s : Nat} {T : TypeId} (h : zey o = some (d, s, T)) : ∃ cl T', o = .call cl /\ cl.callee = .builtin .copy /\ cl.args = #[.tmp d, .tmp s] /\ cl.argTypes = #[T, T'] := by
 unfold zey at h
 split at h
 case h_2 => cases h
 rename_i cl
 split at h
 case h_2 => cases h
 rename_i hc
 split at h
 case h_2 => cases h
 rename_i d' s' T1 T2 ha ht
 cases h
 exact ⟨cl, T2, rfl, hc, by apply Array.toList_inj.1; simpa using ha, by apply Array.toList_inj.1; simpa using ht⟩
theorem ztp {c : Cx} (ok : EnvOK c.E) {o : Oper} {a : Act} {sl : Slots} {h : Heap} {F : Nat -> Prop} {β : Beta} {Y : Nat -> Prop} {w : World} (m : Mem c h F β Y w) (hs : zM c sl h β Y w a)
 {T : TypeId} {x : Operand} {hi : Option Operand} {b : Nat} {p : List Step} {K : SV -> Prop} (ho : o.op = .slice T x none hi none) (hx : ev c.E sl x = .ptr b p) (hK : zl9 c.E T hi sl h b p K) :
 ∃ v u, K v /\ (execOp a.eval o).run c.E.P w = .ok (.value u) w /\ rel w (XX c.Z Y β h) v β u := by
 have hxr := wg m hs x
 rw [hx] at hxr
 obtain ⟨l, hl, hu⟩ := rel_ptr.1 hxr
 unfold zl9 at hK
 split at hK
 case h_2 => cases hK
 rename_i own v hb
 obtain ⟨l', hl', cs, ty, lo, hi', g1, g2, g3, g4⟩ := m.blk b _ hb
 obtain ⟨u0, pre, mid, post, hK2, hc, hp, hm⟩ := jy p v _ _ hK g3
 clear hK; have hK := hK2; clear hK2
 split at hK
 case h_2 => cases hK
 rename_i N sz xs
 split at hK
 case h_2 => cases hK
 rename_i mm e hd
 have desc := (ok.tt T (by rw [hd]; simp)).desc
 simp only [hd] at desc
 split at hK
 case h_2 => cases hK
 rename_i hq
 simp only [Bool.and_eq_true] at hq
 have hN := zi hq.1.1
 have hsz := zi hq.1.2
 have hse := zi hq.2
 subst hN
 have toke := ok.ts e (by omega)
 have hrun : ∀ j : Nat, j <= mm -> (Instr.sliceBounds false mm mm none (hi.map a.eval) none).run c.E.P w = .ok (0, j, mm) w ->
  (execOp a.eval o).run c.E.P w = .ok (.value (.slice (some ⟨l.r, qn p, none⟩) j mm)) w := by
  intro j _ hbd
  simp only [execOp, ho, hu]
  refine zZ ?_
  simp only [Instr.sliceAt, Sem.run_bind, run_underlying desc.1, Result.andThen_ok, Instr.sureAddr, Option.map_none, hbd, toke.sz, Sem.run_pure, Nat.sub_zero, Nat.zero_mul]
  congr 3
  split <;> simp [wu]
 split at hK
 . refine ⟨_, _, hK, hrun mm (Nat.le_refl _) ?_, wj rfl ⟨l, mm, hl, rfl⟩⟩
   simp [Instr.sliceBounds]
 . rename_i y
   split at hK
   case h_2 => cases hK
   rename_i k i hy
   have hyr := wg m hs y
   rw [hy, relP_int] at hyr
   unfold wm at hK
   obtain ⟨s, h0, hs1, hK⟩ := hK
   simp only [List.getElem?_map, Option.map_eq_some_iff] at hs1
   obtain ⟨j, hj, rfl⟩ := hs1
   have hlt : i.toNat < mm + 1 := by
    rcases Nat.lt_or_ge i.toNat (mm + 1) with g | g
    . exact g
    . rw [List.getElem?_eq_none (by simpa using g)] at hj; cases hj
   rw [List.getElem?_range hlt] at hj
   cases hj
   refine ⟨_, _, hK, hrun i.toNat (by omega) ?_, wj rfl ⟨l, mm, hl, rfl⟩⟩
   simp only [Instr.sliceBounds, Option.map_some, hyr, Sem.run_bind, Sem.run_pure, Result.andThen_ok]
   rw [jU h0 (by omega)]
   rfl
theorem zsw {c : Cx} (ok : EnvOK c.E) {o : Oper} {a : Act} {sl : Slots} {h : Heap} {n : Nat} {F : Nat -> Prop} {β : Beta} {Y : Nat -> Prop} {w : World} (m : Mem c h F β Y w) (hs : zM c sl h β Y w a)
 {d s : Nat} {T : TypeId} {K : Nat -> Heap -> Prop} (ho : zey o.op = some (d, s, T)) (hK : zfz c.E T (ev c.E sl (.tmp d)) (ev c.E sl (.tmp s)) h K) :
 ∃ k h2 w', K k h2 /\ (execOp a.eval o).run c.E.P w = .ok (.value (goInt k)) w' /\ Mem c h2 F β Y w' /\ ∀ v0 u0, rel w (XX c.Z Y β h) v0 β u0 -> rel w' (XX c.Z Y β h2) v0 β u0 := by
 obtain ⟨cl, T', hop, hcal, hargs, htys⟩ := zk0 ho
 have hdr := wg m hs (.tmp d)
 have hsr := wg m hs (.tmp s)
 unfold zfz at hK
 split at hK
 case h_2 => cases hK
 rename_i b p nd b' p' ns hvd hvs
 rw [hvd] at hdr
 rw [hvs] at hsr
 have hdp := zL rfl (by simp) (by simp) hdr
 have hsp := zL rfl (by simp) (by simp) hsr
 simp only [zb, List.cons.injEq, and_true] at hdp hsp
 obtain ⟨l, cap, hl, hdu⟩ := hdp
 obtain ⟨l', cap', hl', hsu⟩ := hsp
 split at hK
 case h_2 => cases hK
 rename_i v own' v' hcr hb hb'
 obtain ⟨l0, hl0, cs, ty, lo, hi, g1, g2, g3, _⟩ := m.blk b _ hb
 rw [hl] at hl0; cases hl0
 obtain ⟨l0, hl0, cs', ty', lo', hi', g1', g2', g3', _⟩ := m.blk b' _ hb'
 rw [hl'] at hl0; cases hl0
 obtain ⟨u, pre, mid, post, hK2, hc, hp, hm⟩ := jy p v _ _ hK g3
 clear hK
 obtain ⟨u', pre', mid', post', hK, hc', hp', hm'⟩ := jy p' v' _ _ hK2 g3'
 clear hK2
 split at hK
 case h_2 => cases hK
 rename_i N sz xs N' sz' ys
 split at hK
 case h_2 => cases hK
 rename_i e hq hd
 simp only [Bool.and_eq_true] at hq
 have q1 := zi hq.1.1.1
 have q2 := zi hq.1.1.2
 have q3 : nd <= N := by simpa using hq.1.2
 have q4 : ns <= N' := by simpa using hq.2
 subst q1; subst q2
 split at hK
 case h_2 => cases hK
 rename_i hse
 have hse := zi hse
 have desc := (ok.tt T (by rw [hd]; simp)).desc
 simp only [hd] at desc
 have toke := ok.ts e (by omega)
 simp only [zb] at hm hm'
 obtain ⟨hxl, hxr⟩ := hm
 obtain ⟨hyl, hyr⟩ := hm'
 obtain ⟨k, hk⟩ : ∃ k, k = min ns nd := ⟨_, rfl⟩
 rw [<- hk] at hK
 have hml : mid.length = N := by have := qC _ _ _ hxr; simpa [hxl] using this
 have hml' : mid'.length = N' := by have := qC _ _ _ hyr; simpa [hyl] using this
 have hnew : zb w (XX c.Z Y β h) (.arr N 1 (ys.take k ++ xs.drop k)) β (mid'.take k ++ mid.drop k) := by
  simp only [zb]
  refine ⟨by simp [hxl, hyl]; omega, ?_⟩
  have h1 := zc6 hyr k
  have h2 := zdb hxr k
  rw [Nat.mul_one] at h1 h2
  exact yp h1 h2
 obtain ⟨v2, pre2, mid2, post2, hK, hc2, hp2, hm2, hv2⟩ := ze2 _ _ hnew p v _ _ hcr hK g3
 have hnl : (mid'.take k ++ mid.drop k).length = N := by simp [hml, hml']; omega
 have hmid : mid2 = mid := by
  have e0 : pre2 ++ (mid2 ++ post2) = pre ++ (mid ++ post) := by rw [<- List.append_assoc, <- List.append_assoc, <- hc2, <- hc]
  have e1 := (List.append_inj e0 (by rw [hp2, hp])).2
  exact (List.append_inj e1 (by rw [hm2, hnl, hml])).1
 subst hmid
 have hone : ∀ u ∈ mid'.take k, u.oneCell' = true := fun u hu => xp 1 ys mid' hyr u (List.mem_of_mem_take hu)
 have hread : (Builtin.firstCells 1 k (.slice (some ⟨l'.r, qn p', none⟩) ns cap')).run c.E.P w = .ok (mid'.take k).toArray w := by
  refine run_firstCells_some (P := c.E.P) w 1 k _ ns cap' _ (by simp [hml']; omega) fun j v hj => ?_
  have hcell : qS w l'.r 0 cs'.toList := fun j v hj => by
   rw [Nat.zero_add, World.cell?]
   simp [g1']
   simpa using hj
  have := jx hcell hc'
  rw [Nat.zero_add, hp'] at this
  rw [wu]
  refine this j v ?_
  rw [List.getElem?_take] at hj
  split at hj
  . exact hj
  . cases hj
 have hwrite := yA (P := c.E.P) (off := qn p) (mid'.take k) w cs 0 pre2 (mid2.take k) (mid2.drop k ++ post2) g1 g2 (by rw [hc2]; rw [List.append_assoc, List.append_assoc, <- List.append_assoc (mid2.take k), List.take_append_drop]) (by simpa using hp2) (by simp [hml, hml']; omega) hone
 have hres := Res.setVar (n := n) m hb hl g1 g2 (by have := congrArg List.length hc2; simp at this; rw [List.length_append, List.length_append, hnl, this]; omega) hv2
 rw [qW] at hK
 refine ⟨k, _, _, hK, ?_, hres.mem, hres.keep⟩
 refine yV (a := a) hop hcal ?_
 rw [hargs, htys]
 simp only [builtin]
 refine zZ ?_
 have ha : (#[Operand.tmp d, Operand.tmp s].map a.eval) = #[.slice (some ⟨l.r, qn p, none⟩) nd cap, .slice (some ⟨l'.r, qn p', none⟩) ns cap'] := by simp [hdu, hsu]
 rw [ha]
 have hkk : Nat.min ns nd = k := hk.symm
 simp only [Builtin.copy_, List.getElem?_toArray, List.getElem?_cons_zero, List.getElem?_cons_succ, Sem.run_bind, run_underlying desc, Result.andThen_ok, Builtin.lenOf, Sem.run_pure, toke.sz, hse, hkk, hread, hwrite]
 simp
theorem zts {c : Cx} (ok : EnvOK c.E) {o : Oper} {a : Act} {sl : Slots} {h : Heap} {F : Nat -> Prop} {β : Beta} {Y : Nat -> Prop} {w : World} (m : Mem c h F β Y w) (hs : zM c sl h β Y w a)
 {T : TypeId} {x : Operand} {K : SV -> Prop} (ho : o.op = .makeInterface T x) (hK : zlw c.E T (ev c.E sl x) K) :
 ∃ v u, K v /\ (execOp a.eval o).run c.E.P w = .ok (.value u) w /\ rel w (XX c.Z Y β h) v β u := by
 unfold zlw at hK
 have key : (lkT c.E.tt T).d ≠ .ifc -> (lkT c.E.tt T).d ≠ .other -> (yN [ev c.E sl x] fun cs => match qX cs with | true => K (.ifc T cs) | false => False) -> ∃ v u, K v /\ (execOp a.eval o).run c.E.P w = .ok (.value u) w /\ rel w (XX c.Z Y β h) v β u := by
  intro h1 h2 hK
  rw [qf] at hK
  split at hK
  case h_2 => cases hK
  rename_i hnt
  have hargs := zaa (w := w) (X := XX c.Z Y β h) (β := β) (a := a) (E := c.E) (sl := sl) [x] (fun x _ => wg m hs x) hnt
  have desc := (ok.tt T h2).desc
  refine ⟨_, .iface T (a.eval x), hK, ?_, wj rfl ⟨a.eval x, rfl, by simpa using hargs⟩⟩
  simp only [execOp, ho]
  refine zZ ?_
  simp only [Instr.makeInterface, Sem.run_bind]
  cases hd : (lkT c.E.tt T).d <;> simp only [hd] at desc h1 h2
  case int k => rw [run_underlying desc]; rfl
  case bool => rw [run_underlying desc]; rfl
  case str => rw [run_underlying desc]; rfl
  case fn => obtain ⟨ps, rs, v, desc⟩ := desc; rw [run_underlying desc]; rfl
  case ptr e => rw [run_underlying desc]; rfl
  case ifc => exact absurd rfl h1
  case strct fs => obtain ⟨F, desc, _⟩ := desc; rw [run_underlying desc]; rfl
  case arr n e => rw [run_underlying desc.1]; rfl
  case sl e => rw [run_underlying desc]; rfl
  case mp k e => rw [run_underlying desc]; rfl
  case other => exact absurd rfl h2
 split at hK
 . cases hK
 . cases hK
 . rename_i h1 h2; exact key (fun e => h1 e) (fun e => h2 e) hK
theorem zp1 {w : World} {X : Nat -> Prop} {β : Beta} {v : SV} {u : Value} (h : zky v = true) (k : rel w X v β u) : ∃ a l c, u = .slice a l c := by
 cases v <;> simp only [zky] at h <;> first | (cases h; done) | skip
 . obtain ⟨a, cap, hu, _⟩ := rel_sl.1 k; exact ⟨_, _, _, hu⟩
 . have := zL rfl (by simp) (by simp) k
   simp only [zb, List.cons.injEq, and_true] at this
   obtain ⟨a, hu⟩ := this; exact ⟨_, _, _, hu⟩
 . have := zL rfl (by simp) (by simp) k
   simp only [zb, List.cons.injEq, and_true] at this
   exact ⟨_, _, _, this⟩
 . obtain ⟨l, a, _, hu, _⟩ := rel_osl.1 k; exact ⟨_, _, _, hu⟩
theorem zfo {w : World} {X : Nat -> Prop} {β : Beta} {v : SV} {u : Value} (h : jX v = true) (k : rel w X v β u) : ∃ q, u = .int q 0 := by
 unfold jX at h
 split at h
 . rename_i q i
   have := of_decide_eq_true h; subst this
   rw [relP_int] at k
   exact ⟨q, k⟩
 . cases h
theorem zt0 {c : Cx} {o : Oper} {a : Act} {sl : Slots} {h : Heap} {F : Nat -> Prop} {β : Beta} {Y : Nat -> Prop} {w : World} (ok : EnvOK c.E) (m : Mem c h F β Y w) (hs : zM c sl h β Y w a)
 {T : TypeId} {x hi mx : Operand} {lo : Option Operand} {K : SV -> Prop} (ho : o.op = .slice T x lo (some hi) (some mx)) (hK : zmz c.E T (ev c.E sl x) (lo.map (ev c.E sl)) (ev c.E sl hi) (ev c.E sl mx) K) :
 ∃ v u, K v /\ (execOp a.eval o).run c.E.P w = .ok (.value u) w /\ rel w (XX c.Z Y β h) v β u := by
 unfold zmz at hK
 split at hK
 case h_2 => cases hK
 rename_i e hd
 split at hK
 case h_2 => cases hK
 rename_i hsz
 have desc := (ok.tt T (by rw [hd]; simp)).desc
 simp only [hd] at desc
 have toke := ok.ts e (by rw [Nat.ble_eq] at hsz; omega)
 have fin : zky (ev c.E sl x) = true -> (∀ l, lo = some l -> jX (ev c.E sl l) = true) -> jX (ev c.E sl hi) = true -> jX (ev c.E sl mx) = true -> K .mt -> ∃ v u, K v /\ (execOp a.eval o).run c.E.P w = .ok (.value u) w /\ rel w (XX c.Z Y β h) v β u := by
  intro h1 h2 h3 h4 hK
  obtain ⟨ad, len, cap, hx⟩ := zp1 h1 (wg m hs x)
  obtain ⟨q1, e1⟩ := zfo h3 (wg m hs hi)
  obtain ⟨q2, e2⟩ := zfo h4 (wg m hs mx)
  refine ⟨.mt, .slice ad 0 0, hK, ?_, wj rfl ⟨ad, rfl⟩⟩
  simp only [execOp, ho]
  refine zZ ?_
  have b0 : ∀ (q : IntKind) (y : Nat) (code : BoundsCode), (Instr.sliceBound (.int q 0) y code).run c.E.P w = .ok 0 w := fun q y code => by simp [Instr.sliceBound, asIntOf]
  cases lo with
  | none =>
    simp only [Instr.sliceAt, Sem.run_bind, run_underlying desc, Result.andThen_ok, Instr.slice, hx, e1, e2, Option.map_some, Option.map_none, Instr.sliceBounds, b0, Sem.run_pure, toke.sz]
    simp
  | some l =>
    obtain ⟨q3, e3⟩ := zfo (h2 l rfl) (wg m hs l)
    simp only [Instr.sliceAt, Sem.run_bind, run_underlying desc, Result.andThen_ok, Instr.slice, hx, e1, e2, e3, Option.map_some, Instr.sliceBounds, b0, Sem.run_pure, toke.sz]
    simp
 split at hK
 . rename_i h1 h2 h3 h4
   refine fin h1 (fun l hl => ?_) h3 h4 hK
   rw [hl] at h2; cases h2
 . rename_i l h1 h2 h3 h4
   split at hK
   case h_2 => cases hK
   rename_i h5
   refine fin h1 (fun l' hl => ?_) h3 h4 hK
   rw [hl] at h2; cases h2; exact h5
 . cases hK
theorem zzn {o : Op} {T : TypeId} {x : Operand} (h : spK o = .mkI T x) : o = .makeInterface T x := by
 unfold spK at h
 split at h
 . cases h; rfl
 . split at h
   . cases h
   . split at h <;> cases h
   . cases h
 . cases h
 . cases h
theorem znx {o : Op} {t : Nat} {T : TypeId} (h : spK o = .clr t T) : ∃ cl, o = .call cl /\ cl.callee = .builtin .clear /\ cl.args = #[.tmp t] /\ cl.argTypes = #[T] := by
 unfold spK at h
 split at h
 . cases h
 . rename_i cl
   split at h
   . cases h
   . rename_i hc
     split at h
     . rename_i t' T' ha ht
       cases h
       exact ⟨cl, rfl, hc, by apply Array.toList_inj.1; simpa using ha, by apply Array.toList_inj.1; simpa using ht⟩
     . cases h
   . cases h
 . cases h
 . cases h
theorem zxg {o : Op} {r : Operand} {name : String} {as : List Operand} (h : spK o = .inv r name as) : ∃ cl, o = .call cl /\ cl.callee = .invoke r name /\ cl.args.toList = as := by
 unfold spK at h
 split at h
 . cases h
 . rename_i cl
   split at h
   . rename_i hc; cases h; exact ⟨cl, rfl, hc, rfl⟩
   . split at h <;> cases h
   . cases h
 . cases h
 . cases h
theorem zww {o : Op} {T : TypeId} {x hi mx : Operand} {lo : Option Operand} (h : spK o = .sl3 T x lo hi mx) : o = .slice T x lo (some hi) (some mx) := by
 unfold spK at h
 split at h
 . cases h
 . split at h
   . cases h
   . split at h <;> cases h
   . cases h
 . cases h; rfl
 . cases h
theorem zvq {c : Cx} {o : Oper} {a : Act} {sl : Slots} {h : Heap} {F : Nat -> Prop} {β : Beta} {Y : Nat -> Prop} {w : World} (ok : EnvOK c.E) (m : Mem c h F β Y w) (hs : zM c sl h β Y w a)
 {T : TypeId} {x lo : Operand} {b sz : Nat} {K : SV -> Prop} (ho : o.op = .slice T x (some lo) none none) (hx : ev c.E sl x = .osl b sz) (hK : zli c.E T (ev c.E sl lo) h b sz K) :
 ∃ v u, K v /\ (execOp a.eval o).run c.E.P w = .ok (.value u) w /\ rel w (XX c.Z Y β h) v β u := by
 have hxr := wg m hs x
 rw [hx] at hxr
 obtain ⟨l, ad, hl, hu, hcap⟩ := rel_osl.1 hxr
 have hlr := wg m hs lo
 unfold zli at hK
 split at hK
 case h_2 => cases hK
 rename_i sz' xs k i e hb hi hd
 rw [hi, relP_int] at hlr
 split at hK
 case h_2 => cases hK
 rename_i hq
 simp only [Bool.and_eq_true] at hq
 have q1 := zi hq.1.1
 have q2 := zi hq.1.2
 have q3 := zi hq.2
 subst q1; subst q2
 unfold zO at hK
 obtain ⟨⟨h0, h1⟩, hK⟩ := hK
 obtain ⟨l', hl', hok⟩ := m.blk b _ hb
 rw [hl] at hl'; cases hl'
 obtain ⟨g1, g2, _, _⟩ := hok
 have desc := (ok.tt T (by rw [hd]; simp)).desc
 simp only [hd] at desc
 have toke := ok.ts e (by omega)
 have hc0 : l.cap ≠ 0 := by omega
 refine ⟨_, .slice (some ⟨l.r, qn [.idx i.toNat 1], none⟩) (xs.length - i.toNat) (l.cap - i.toNat), hK, ?_, wj rfl ⟨l, _, hl, rfl⟩⟩
 simp only [execOp, ho, hu, hcap hc0]
 refine zZ ?_
 have e1 : l.cap ≠ i.toNat := by omega
 simp only [Instr.sliceAt, Sem.run_bind, run_underlying desc, Result.andThen_ok, Instr.slice, Option.map_some, Option.map_none, Instr.sliceBounds, Sem.run_pure, hlr, jU (k := k) (y := l.len) h0 (show i <= ((l.len : Nat) : Int) by omega), toke.sz]
 simp [e1, wu, qn, q3, g1]
theorem zt1 {c : Cx} (ok : EnvOK c.E) {o : Oper} {a : Act} {sl : Slots} {h : Heap} {n0 : Nat} {F : Nat -> Prop} {β : Beta} {Y : Nat -> Prop} {w : World} (m : Mem c h F β Y w) (hs : zM c sl h β Y w a)
 {t : Nat} {T : TypeId} {K : Heap -> Prop} (ho : spK o.op = .clr t T) (hK : zkz c.E T (ev c.E sl (.tmp t)) h K) :
 ∃ h2 w' u, K h2 /\ (execOp a.eval o).run c.E.P w = .ok (.value u) w' /\ Mem c h2 F β Y w' /\ ∀ v0 u0, rel w (XX c.Z Y β h) v0 β u0 -> rel w' (XX c.Z Y β h2) v0 β u0 := by
 obtain ⟨cl, hop, hcal, hargs, htys⟩ := znx ho
 have hvr := wg m hs (.tmp t)
 unfold zkz at hK
 split at hK
 case h_2 => cases hK
 rename_i b i sz n e hv hd
 rw [hv] at hvr
 have hvp := zL rfl (by simp) (by simp) hvr
 simp only [zb, List.cons.injEq, and_true] at hvp
 obtain ⟨l, cap, hl, hu⟩ := hvp
 split at hK
 case h_2 => cases hK
 rename_i sz' xs hb
 obtain ⟨hne, htup, hK2⟩ := qT hK
 clear hK
 split at hK2
 case h_2 => cases hK2
 rename_i hq
 simp only [Bool.and_eq_true] at hq
 have q1 := zi hq.1.1.1
 have q2 := zi hq.1.1.2
 have hz1 := zi hq.1.2
 have hs1 := zi hq.2
 subst q1; subst q2
 unfold zO at hK2
 obtain ⟨⟨hn1, hin⟩, hK2⟩ := hK2
 have desc := (ok.tt T (by rw [hd]; simp)).desc
 simp only [hd] at desc
 obtain ⟨ti, g1, g2, g3, g4⟩ := (ok.tz e hne).info
 obtain ⟨z, gz, hzr⟩ := g4 hne
 have hzc := wz (w := w) (X := XX c.Z Y β h) (β := nob) (u := z) hne htup (by rw [qe htup]; exact hzr w (XX c.Z Y β h))
 have hzl := qj _ _ hzc
 have hcz : ∃ u, z.cells = #[u] := by
  have : z.cells.size = 1 := by rw [<- Array.length_toList, hzl, hz1]
  exact Array.size_eq_one_iff.1 this
 obtain ⟨uz, hcz⟩ := hcz
 rw [hcz] at hzc
 obtain ⟨l', hl', hok⟩ := m.blk b _ hb
 rw [hl] at hl'; cases hl'
 obtain ⟨f0, f00, _, g5⟩ := hok
 have hc0 : l.cap ≠ 0 := by omega
 rcases g5 with g5 | ⟨cs, ty, lo, hi, f1, f2, f3, ⟨c1, c2, f4, f5⟩, f6⟩
 . exact absurd g5 hc0
 have hl1 := qC _ _ _ f5
 rw [Nat.mul_one] at hl1
 have p1 := zc6 f5 i
 have p2 := zdb f5 (i + n)
 rw [Nat.mul_one] at p1 p2
 have hnew := yp p1 (yp (zby hzc n) p2)
 have hsplit : c1 = c1.take i ++ ((c1.drop i).take n ++ c1.drop (i + n)) := by
  rw [<- List.drop_drop, List.take_append_drop, List.take_append_drop]
 have hone : ∀ u ∈ List.replicate n uz, u.oneCell' = true := xp 1 _ _ (zby (w := w) (X := XX c.Z Y β h) hzc n)
 have hwrite := yA (P := c.E.P) (b := l.r) (off := i) (List.replicate n uz) w cs 0 (c1.take i) ((c1.drop i).take n) (c1.drop (i + n) ++ c2) f1 f2
  (f4.trans ((congrArg (fun q => q ++ c2) hsplit).trans (by simp only [List.append_assoc]))) (by simp; omega) (by simp; omega) hone
 have hres := Res.setRow (n := n0) m (xs' := xs.take i ++ (List.replicate n (lkT c.E.tt e).zero ++ xs.drop (i + n))) (c1 := c1.take i ++ (List.replicate n uz ++ c1.drop (i + n))) (c2 := c2) hb hl hc0
  (by simp; omega) f1 f2 (by have := congrArg List.length f4; simp at this ⊢; omega) hnew
 rw [qW] at hK2
 refine ⟨_, _, .tuple #[], hK2, ?_, hres.mem, hres.keep⟩
 refine yV (a := a) hop hcal ?_
 rw [hargs, htys]
 simp only [builtin]
 refine zZ ?_
 have ha : (#[Operand.tmp t].map a.eval) = #[.slice (some ⟨l.r, i, none⟩) n cap] := by simp [hu, qn]
 rw [ha]
 have hze : (zeroValue e).run c.E.P w = .ok z w := by
  simp only [zeroValue, typeInfo, Sem.run_bind, run_program, Result.andThen_ok, g1, Sem.run_pure, gz]
 have hzs : (Builtin.zeroCells z.cells n).toList = List.replicate n uz := by
  rw [hcz]
  apply List.ext_getElem?
  intro j
  by_cases hj : j < n
  . simp [Builtin.zeroCells, hj, Nat.mod_one]
  . simp [Builtin.zeroCells, hj]
 obtain ⟨n', rfl⟩ : ∃ n', n = n' + 1 := ⟨n - 1, by omega⟩
 simp only [Builtin.clear_, List.getElem?_toArray, List.getElem?_cons_zero, Sem.run_bind, run_underlying desc, Result.andThen_ok, Sem.run_pure, hze, hzs, hwrite]
 simp
theorem zt3 {v : SV} (h : zq5 v = true) : v = .agg [.nilp, .nils] := by
 unfold zq5 at h
 split at h
 . rfl
 . cases h
theorem zv1 {E : Env} {o : Op} {T : TypeId} (h : zq8 E o = some T) : o = .alloc T := by
 unfold zq8 at h
 split at h
 . split at h
   . cases h; rfl
   . cases h
 . cases h
theorem zuf (ok : EnvOK c.E) {o : Oper} {a : Act} {h : Heap} {n : Nat} {F : Nat -> Prop} {β : Beta} {Y : Nat -> Prop} {w : World} (m : Mem c h F β Y w) (hF : F n) {T : TypeId} (hop : o.op = .alloc T) {K : SV -> Heap -> Prop} (hK : zj3 c.E T h n K) :
 ∃ h2 w' β', K (.ptr n []) h2 /\ (execOp a.eval o).run c.E.P w = .ok (.value (.pointer (some ⟨w.heap.size, 0, none⟩))) w' /\ Mem c h2 (rmF F n) β' Y w' /\ (∀ v0 u0, rel w (XX c.Z Y β h) v0 β u0 -> rel w' (XX c.Z Y β' h2) v0 β' u0) /\ rel w' (XX c.Z Y β' h2) (.ptr n []) β' (.pointer (some ⟨w.heap.size, 0, none⟩)) := by
 unfold zj3 at hK
 split at hK
 case h_2 => cases hK
 rename_i hb
 have hz0 := zt3 hb
 have h1 : (lkT c.E.tt T).zero ≠ .any := by rw [hz0]; simp
 have tok := ok.tz T h1
 obtain ⟨i, hi, _, _, hz⟩ := tok.info
 obtain ⟨z, hz1, hz2⟩ := hz h1
 have hn : β n = none := m.fresh n hF
 have hβ : ∀ b l', β b = some l' -> zW β n ⟨w.heap.size, 0, 0⟩ b = some l' := fun b l' hb => by
  rw [zx]; · exact hb
  . rintro rfl; rw [hn] at hb; cases hb
 have hrp : ∀ (w : World) X (β : Beta), zb w X (.agg [.nilp, .nils]) β z.cells.toList := fun w X β => by
  have := hz2 w X
  rw [hz0] at this
  have h3 : rel w X (.agg [.nilp, .nils]) β z := by
   rw [qe (by rw [<- hz0]; simp [hz0])]
   exact zca (Ext.refl _ _) (zj (fun _ _ k => by cases k) _) this
  exact wz (by simp) (by simp) h3
 obtain ⟨m', e⟩ := m.new (k := .tv T (.agg [.nilp, .nils])) (l := ⟨w.heap.size, 0, 0⟩) (o := .cells z.cells T) hF rfl (fun w' X' β' e hβ' hh => ⟨z.cells, hh, hrp _ _ _⟩)
 refine ⟨_, _, _, hK, ?_, m', fun v0 u0 h0 => zv e (zj hβ _) h0, rel_ptr.2 ⟨_, zH .., rfl⟩⟩
 simp only [execOp, hop]
 refine zZ ?_
 simp only [Instr.alloc, zeroValue, typeInfo, Sem.run_bind, run_program, Result.andThen_ok, hi, Sem.run_pure, hz1, newVar, newRow, run_newObj]
 rfl
theorem zap (ok : EnvOK c.E) {all : List Oper} {o : Oper} {sl : Slots} {h : Heap} {n : Nat} {K : Slots -> Heap -> Nat -> Prop} (hK : opZ c.E all o sl h n K) (hd : ∀ d, o.dst = some d -> d < N) {a : Act} {w : World} (D : Den c N sl h n a w)
 {next : Act -> World -> Prop} {Q : Exit -> Act -> World -> Prop} (hn : ∀ sl' h' n' a' w', K sl' h' n' -> Den c N sl' h' n' a' w' -> next a' w') : o.wpIn (FR c.ro) 0 c.E.P a w next Q := by
 have fin : ∀ (β : Beta) (Y : Nat -> Prop), DefOK c Y a.defers -> a.tmps.size = N -> ∀ (u : Value) (w' : World) (r : SV) (h' : Heap), (match o.dst with | some d => K ((d, r) :: sl) h' (n + 1) | none => K sl h' (n + 1)) -> Mem c h' (fun b => n <= b) β Y w' -> zM c sl h' β Y w' a -> rel w' (XX c.Z Y β h') r β u -> next (a.put o.dst u) w' := by
  intro β Y hdef hN u w' r h' k m' hs' hrel
  refine hn (wH o.dst r sl) h' (n + 1) _ _ ?_ ⟨β, Y, m'.lessF fun b hb => Nat.le_of_succ_le hb, ⟨by rw [wy]; exact hs'.1, fun t => ?_⟩, by rw [wy, hN], by rw [yU]; exact hdef⟩
  . cases hd : o.dst <;> rw [hd] at k <;> exact k
  . rw [wA, jT _ _ _ _ (by rw [hN]; exact hd) hs'.1]
    by_cases e : o.dst = some t
    . rw [if_pos e, if_pos e]; exact hrel
    . rw [if_neg e, if_neg e]; exact hs'.2 t
 unfold opZ at hK
 split at hK
 . rename_i d s T hcp
   obtain ⟨β, Y, m, hs, hN, hdef⟩ := D
   obtain ⟨k, h2, w', hK, hrun, m', keep⟩ := zsw (n := n) ok m hs hcp hK
   obtain ⟨cl, _, hop, hcal, _, _⟩ := zk0 hcp
   refine jF (by intro c e; rw [hop] at e; cases e) ?_
   unfold Oper.wp
   rw [hrun, Oper.upon_value]
   exact fin β Y hdef hN _ _ (.int .i64 k) _ hK m' ⟨hs.1, fun t => keep _ _ (hs.2 t)⟩ (relP_int.2 rfl)
 . split at hK
   . rename_i T hal
     have hop := zv1 hal
     obtain ⟨β, Y, m, hs, hN, hdef⟩ := D
     obtain ⟨h2, w', β', hK, hrun, m', keep, hrel⟩ := zuf (a := a) ok m (Nat.le_refl n) hop hK
     refine jF (by intro c e; rw [hop] at e; cases e) ?_
     unfold Oper.wp
     rw [hrun, Oper.upon_value]
     refine hn (wH o.dst (.ptr n []) sl) h2 (n + 1) _ _ ?_ ⟨β', Y, m'.lessF fun b hb => ⟨Nat.le_of_succ_le hb, Nat.ne_of_gt hb⟩, ⟨by rw [wy]; exact hs.1, fun t => ?_⟩, by rw [wy, hN], by rw [yU]; exact hdef⟩
     . cases hd : o.dst <;> rw [hd] at hK <;> exact hK
     . rw [wA, jT _ _ _ _ (by rw [hN]; exact hd) hs.1]
       by_cases e : o.dst = some t
       . rw [if_pos e, if_pos e]; exact hrel
       . rw [if_neg e, if_neg e]; exact keep _ _ (hs.2 t)
   split at hK
   . rename_i T x hsp
     have hop : o.op = .makeInterface T x := zzn hsp
     obtain ⟨β, Y, m, hs, hN, hdef⟩ := D
     obtain ⟨v, u, hK, hrun, hrel⟩ := zts ok m hs hop hK
     refine jF (by intro c e; rw [hop] at e; cases e) ?_
     unfold Oper.wp
     rw [hrun, Oper.upon_value]
     exact fin β Y hdef hN _ _ v _ hK m hs hrel
   . rename_i r name as hsp
     obtain ⟨cl, hop, hcal, has⟩ := zxg hsp
     subst has
     obtain ⟨β, Y, m, hs, hN, hdef⟩ := D
     unfold zqh at hK
     split at hK
     case h_2 => cases hK
     rename_i T vs hr
     split at hK
     case h_2 => cases hK
     rename_i f hm hnt
     have hargs := zaa (w := w) (X := XX c.Z Y β h) (β := β) (a := a) (E := c.E) (sl := sl) cl.args.toList (fun x _ => wg m hs x) hnt
     have hrr := wg m hs r
     rw [hr] at hrr
     have hrp := zL rfl (by simp) (by simp) hrr
     simp only [zb, List.cons.injEq, and_true] at hrp
     obtain ⟨v', hu, hv'⟩ := hrp
     obtain ⟨as', ns1, k1, _, k2⟩ := yl m 60 _ [] _ hK
     obtain ⟨cs, ns, q1, q2, q3⟩ := yl m 60 vs ns1 _ k1
     unfold jw at q1
     obtain ⟨r0, ⟨⟨fn, hfn, hbody, hname⟩, hret⟩, hk⟩ := q1
     rw [zp, zd0] at hk
     have hcold := m.cold ns
     have ra := (k2 _ (hcold.mono q2)).2.1 _ hargs
     have rc := (q3 _ hcold).2.1 _ hv'
     have hall := xI rc ra
     obtain ⟨mi, ei, _⟩ := m.ice ns
     have hmt := ok.mt T name f hm w v'
     have hrun : (execOp a.eval o).run c.E.P w = .ok (.enter f (#[v'] ++ cl.args.map a.eval)) w := by
      simp only [execOp, hop, resolve, hcal, hu, Sem.run_bind, Sem.run_pure, Result.andThen_ok, invoke]
      have e1 : ((#[Value.iface T v'] ++ cl.args.map a.eval)[0]? : Option Value) = some (.iface T v') := by simp [Array.getElem?_append]
      have e2 : (#[Value.iface T v'] ++ cl.args.map a.eval).extract 1 (#[Value.iface T v'] ++ cl.args.map a.eval).size = cl.args.map a.eval := by
       apply Array.toList_inj.1; simp; exact List.take_of_length_le (by simp)
      rw [e1, e2]
      simp only [callMethod, Sem.run_bind, run_program, Result.andThen_ok, hmt, callFunc, hfn]
      rw [if_neg (by rw [hname]; simp), if_neg (by simp [Option.isNone_iff_eq_none, Option.isSome_iff_ne_none.1 hbody])]
      simp
     have hcalls := hret w (XX c.Z Y β (qy ns h)) (#[v'] ++ cl.args.map a.eval) mi.good (by simpa using hall)
     refine jF (by intro c e; rw [hop] at e; cases e) ?_
     unfold Oper.wp
     rw [hrun, Oper.upon_enter]
     refine hcalls.mono ?_
     rintro e w' ⟨u, rfl, bl, hr⟩
     obtain ⟨m', e'⟩ := mi.step bl
     exact fin β Y hdef hN u w' r0 _ hk m' ⟨hs.1, fun t => zv (ei.trans e') (zj (fun _ _ k => k) _) (hs.2 t)⟩ (zbq hr)
   . rename_i T x lo hi mx hsp
     have hop : o.op = .slice T x lo (some hi) (some mx) := zww hsp
     obtain ⟨β, Y, m, hs, hN, hdef⟩ := D
     obtain ⟨v, u, hK, hrun, hrel⟩ := zt0 ok m hs hop hK
     refine jF (by intro c e; rw [hop] at e; cases e) ?_
     unfold Oper.wp
     rw [hrun, Oper.upon_value]
     exact fin β Y hdef hN _ _ v _ hK m hs hrel
   . rename_i t T hsp
     obtain ⟨β, Y, m, hs, hN, hdef⟩ := D
     obtain ⟨h2, w', u, hK, hrun, m', keep⟩ := zt1 (n0 := n) ok m hs hsp hK
     obtain ⟨cl, hop, _, _, _⟩ := znx hsp
     refine jF (by intro c e; rw [hop] at e; cases e) ?_
     unfold Oper.wp
     rw [hrun, Oper.upon_value]
     split at hK
     . cases hK
     rename_i hdn
     refine fin β Y hdef hN u _ .any _ ?_ m' ⟨hs.1, fun t => keep _ _ (hs.2 t)⟩ (zdx)
     simp only [hdn]; exact hK
   split at hK
   case h_2 =>
    split at hK
    case h_2 => exact zc5 ok hK hd D hn
    rename_i T x lo hq
    split at hK
    case h_2 => exact zc5 ok hK hd D hn
    rename_i b sz hx
    have hop : o.op = .slice T x (some lo) none none := by
     unfold zu6 at hq
     split at hq
     case h_2 => cases hq
     rename_i h1 h2
     split at hq
     . cases hq; exact h1
     . cases hq
    obtain ⟨β, Y, m, hs, hN, hdef⟩ := D
    obtain ⟨v, u, hK, hrun, hrel⟩ := zvq ok m hs hop hx hK
    refine jF (by intro c e; rw [hop] at e; cases e) ?_
    unfold Oper.wp
    rw [hrun, Oper.upon_value]
    exact fin β Y hdef hN _ _ v _ hK m hs hrel
   rename_i T x hi hq
   split at hK
   case h_2 => exact zc5 ok hK hd D hn
   rename_i b p hx
   have hop : o.op = .slice T x none hi none := by
    unfold ztu at hq
    split at hq
    case h_2 => cases hq
    rename_i h1 h2
    split at hq
    . cases hq; exact h1
    . cases hq
   obtain ⟨β, Y, m, hs, hN, hdef⟩ := D
   obtain ⟨v, u, hK, hrun, hrel⟩ := ztp ok m hs hop hx hK
   refine jF (by intro c e; rw [hop] at e; cases e) ?_
   unfold Oper.wp
   rw [hrun, Oper.upon_value]
   exact fin β Y hdef hN _ _ v _ hK m hs hrel
theorem zgj (ok : EnvOK c.E) {ops : Array Oper} (hd : ∀ o ∈ ops.toList, ∀ d, o.dst = some d -> d < N) {Q : Exit -> Act -> World -> Prop} : ∀ (r pre : List Oper) (sl : Slots) (h : Heap) (n : Nat) (K : Slots -> Heap -> Nat -> Prop), ops.toList = pre ++ r -> zbn c.E ops.toList r sl h n K ->
 ∀ a w, Den c N sl h n a w -> (∀ sl' h' n' a' w', K sl' h' n' -> Den c N sl' h' n' a' w' -> Q .normal a' w') -> wpOpsIn (FR c.ro) 0 c.E.P ops Q (List.range' pre.length r.length) a w
 | [], pre, sl, h, n, K, hp, hK, a, w, D, hQ => by
   simp only [zlx] at hK
   simp only [List.length_nil, List.range'_zero, wpOpsIn]
   exact hQ _ _ _ _ _ hK D
 | o :: r, pre, sl, h, n, K, hp, hK, a, w, D, hQ => by
   simp only [zc1] at hK
   have hoi : ops[pre.length]? = some o := by rw [<- Array.getElem?_toList, hp]; simp
   have hmem : o ∈ ops.toList := by rw [hp]; simp
   simp only [List.length_cons, List.range'_succ]
   rw [wpOpsIn_cons]
   have rest : ∀ sl2 h2 n2 a2 w2, zbn c.E ops.toList r sl2 h2 n2 K -> Den c N sl2 h2 n2 a2 w2 -> wpOpsIn (FR c.ro) 0 c.E.P ops Q (List.range' (pre.length + 1) r.length) a2 w2 := by
    intro sl2 h2 n2 a2 w2 k1 k2
    have := zgj ok hd r (pre ++ [o]) sl2 h2 n2 K (by rw [hp]; simp) k1 a2 w2 k2 hQ
    simpa using this
   unfold jp at hK
   obtain ⟨sl', D', hw⟩ := xX hd hK D rfl
   unfold wpOpIn
   simp only [hoi]
   rcases hw with ⟨h1, h2⟩ | ⟨h1, h2⟩
   . rw [if_pos h1]
     exact zap ok h2 (hd o hmem) D' rest
   . rw [if_neg (by rw [h1]; simp)]
     refine ⟨fun _ _ => trivial, ?_⟩
     refine rest (wH o.dst und sl') h n _ _ ?_ (D'.skip (hd o hmem))
     cases hdst : o.dst <;> simp only [hdst] at h2 <;> exact h2
theorem memb_mem {x : Nat} : ∀ {l : List Nat}, qB x l = true ↔ x ∈ l
 | [] => by simp [qB]
 | y :: r => by
   simp only [qB, List.mem_cons]
   cases h : Nat.beq x y with
   | true => simp [zi h]
   | false => simp [jc h, memb_mem (l := r)]
theorem bndL_iff {L : List Nat} : ∀ {l : List Edge}, zh4 L l = true ↔ ∀ e ∈ l, Region.binds .any e = true -> e.on ∈ L
 | [] => by simp [zh4]
 | e :: r => by
   simp only [zh4, List.forall_mem_cons]
   cases hb : Region.binds .any e with
   | false => simp [bndL_iff (l := r)]
   | true =>
     cases hm : qB e.on L with
     | true => simp [memb_mem.1 hm, bndL_iff (l := r)]
     | false =>
       have : e.on ∉ L := fun h => by rw [memb_mem.2 h] at hm; cases hm
       simp [this]
theorem rdy_iff {L : List Nat} {i : Nat} {o : Oper} : ∀ {r : List Oper} {k : Nat}, (i, o) ∈ rdy L r k ↔ k <= i /\ r[i - k]? = some o /\ i ∉ L /\ ∀ e ∈ o.after.toList, Region.binds .any e = true -> e.on ∈ L
 | [], k => by simp [rdy]
 | o0 :: r, k => by
   have ih := rdy_iff (L := L) (i := i) (o := o) (r := r) (k := k + 1)
   have step : (i, o) ∈ rdy L r (k + 1) ↔ k < i /\ (o0 :: r)[i - k]? = some o /\ i ∉ L /\ ∀ e ∈ o.after.toList, Region.binds .any e = true -> e.on ∈ L := by
    rw [ih]
    constructor
    . rintro ⟨h1, h2, h3⟩
      refine ⟨by omega, ?_, h3⟩
      have : i - k = (i - (k + 1)) + 1 := by omega
      rw [this]; simpa using h2
    . rintro ⟨h1, h2, h3⟩
      refine ⟨by omega, ?_, h3⟩
      have : i - k = (i - (k + 1)) + 1 := by omega
      rw [this] at h2; simpa using h2
   simp only [rdy]
   split
   . rename_i e1 e2
     have e1' : k ∉ L := fun h => by rw [memb_mem.2 h] at e1; cases e1
     simp only [List.mem_cons, Prod.mk.injEq, step]
     constructor
     . rintro (⟨rfl, rfl⟩ | ⟨h1, h2⟩)
       . exact ⟨Nat.le_refl _, by simp, e1', bndL_iff.1 e2⟩
       . exact ⟨by omega, h2⟩
     . rintro ⟨h1, h2, h3⟩
       by_cases e : i = k
       . subst e
         simp at h2
         exact .inl ⟨rfl, h2.symm⟩
       . exact .inr ⟨by omega, h2, h3⟩
   . rename_i hne
     rw [step]
     constructor
     . rintro ⟨h1, h2⟩; exact ⟨by omega, h2⟩
     . rintro ⟨h1, h2, h3, h4⟩
       refine ⟨?_, h2, h3, h4⟩
       by_cases e : i = k
       . exfalso
         subst e
         simp at h2
         subst h2
         refine hne ?_ (bndL_iff.2 h4)
         cases hm : qB i L with
         | false => rfl
         | true => exact absurd (memb_mem.1 hm) h3
       . omega
theorem zvf {f : Nat × Oper -> Prop} (l : List (Nat × Oper)) (h : zo4 f l) : ∀ p ∈ l, f p := by
 induction l with
 | nil => intro p hp; cases hp
 | cons a r ih =>
   intro p hp
   rcases List.mem_cons.1 hp with rfl | hp
   . exact h.1
   . exact ih h.2 p hp
theorem Den.drew {sl : Slots} {h : Heap} {n : Nat} {a : Act} {w : World} (D : Den c N sl h n a w) : Den c N sl h n a { w with drawn := w.drawn + 1 } := by
 obtain ⟨β, Y, m, hs, hN, hd⟩ := D
 have b : Below w.heap.size w { w with drawn := w.drawn + 1 } := ⟨rfl, rfl, rfl, Nat.le_refl _, fun _ _ => rfl⟩
 obtain ⟨m', e⟩ := m.step b
 exact ⟨β, Y, m', ⟨hs.1, fun t => zv e (zj (fun _ _ k => k) _) (hs.2 t)⟩, hN, hd⟩
theorem zpd (ok : EnvOK c.E) {ops : Array Oper} (hd : ∀ o ∈ ops.toList, ∀ d, o.dst = some d -> d < N) {Q : Exit -> Act -> World -> Prop} : ∀ (fuel : Nat) (listed : Array Bool) (L : List Nat) (sl : Slots) (h : Heap) (n : Nat) (K : Slots -> Heap -> Nat -> Prop), listed.size = ops.size -> (∀ i, listed.getD i false = true ↔ i ∈ L) -> zbp c.E ops.toList fuel L sl h n K ->
 ∀ a w, Den c N sl h n a w -> (∀ sl' h' n' a' w', K sl' h' n' -> Den c N sl' h' n' a' w' -> Q .normal a' w') -> wpAnyIn (FR c.ro) 0 c.E.P .any ops Q fuel listed a w := by
 have key : ∀ (listed : Array Bool) (L : List Nat), listed.size = ops.size -> (∀ i, listed.getD i false = true ↔ i ∈ L) -> ∀ i, i ∈ Region.ready .any ops listed ↔ ∃ o, ops[i]? = some o /\ i ∉ L /\ ∀ e ∈ o.after.toList, Region.binds .any e = true -> e.on ∈ L := by
  intro listed L hs hL i
  rw [Region.ready, List.mem_filter, List.mem_range, Bool.and_eq_true]
  constructor
  . rintro ⟨h1, h2, h3⟩
    have hgt : listed.getD i true = listed.getD i false := by
     rw [Array.getD_eq_getD_getElem?, Array.getD_eq_getD_getElem?, Array.getElem?_eq_getElem (by omega)]; rfl
    refine ⟨ops[i], by simp [h1], fun hm => ?_, fun e he hb => ?_⟩
    . rw [hgt, (hL i).2 hm] at h2; cases h2
    . rw [Array.getElem?_eq_getElem h1] at h3
      simp only [Option.map_some, Option.getD_some] at h3
      have := Array.all_eq_true_iff_forall_mem.1 h3 e (by simpa using he)
      rw [hb] at this
      exact (hL _).1 (by simpa using this)
  . rintro ⟨o, h1, h2, h3⟩
    have hlt : i < ops.size := by
     rcases Nat.lt_or_ge i ops.size with g | g
     . exact g
     . rw [Array.getElem?_eq_none g] at h1; cases h1
    have hgt : listed.getD i true = listed.getD i false := by
     rw [Array.getD_eq_getD_getElem?, Array.getD_eq_getD_getElem?, Array.getElem?_eq_getElem (by omega)]; rfl
    refine ⟨hlt, ?_, ?_⟩
    . rw [hgt]
      cases hl : listed.getD i false with
      | false => rfl
      | true => exact absurd ((hL i).1 hl) h2
    . rw [h1]
      simp only [Option.map_some, Option.getD_some]
      rw [Array.all_eq_true_iff_forall_mem]
      intro e he
      cases hb : Region.binds .any e with
      | false => rfl
      | true => simp [(hL _).2 (h3 e (by simpa using he) hb)]
 have hin : ∀ (listed : Array Bool) (L : List Nat), listed.size = ops.size -> (∀ i, listed.getD i false = true ↔ i ∈ L) -> ∀ i, i ∈ Region.ready .any ops listed -> ∃ o, ops[i]? = some o /\ (i, o) ∈ rdy L ops.toList 0 := by
  intro listed L hs hL i hi
  obtain ⟨o, h1, h2, h3⟩ := (key listed L hs hL i).1 hi
  exact ⟨o, h1, rdy_iff.2 ⟨Nat.zero_le _, by simpa using h1, h2, fun e he hb => h3 e he hb⟩⟩
 intro fuel
 induction fuel with
 | zero =>
   intro listed L sl h n K hs hL hK a w D hQ
   simp only [zbp] at hK
   split at hK
   case h_2 => cases hK
   rename_i e
   refine ⟨?_, hQ _ _ _ _ _ hK D⟩
   cases hr : Region.ready .any ops listed with
   | nil => rfl
   | cons i r =>
     obtain ⟨o, _, h2⟩ := hin listed L hs hL i (by rw [hr]; simp)
     rw [e] at h2; cases h2
 | succ fuel ih =>
   intro listed L sl h n K hs hL hK a w D hQ
   simp only [zbp] at hK
   split at hK
   . rename_i e
     refine ⟨fun _ => hQ _ _ _ _ _ hK D, fun i hi => ?_⟩
     obtain ⟨o, _, h2⟩ := hin listed L hs hL i hi
     rw [e] at h2; cases h2
   . rename_i q r e
     rw [<- e] at hK
     refine ⟨fun hr => ?_, fun i hi => ?_⟩
     . exfalso
       have hq : (q.1, q.2) ∈ rdy L ops.toList 0 := by rw [e]; simp
       obtain ⟨_, h1, h2, h3⟩ := rdy_iff.1 hq
       have : q.1 ∈ Region.ready .any ops listed := (key listed L hs hL q.1).2 ⟨q.2, by simpa using h1, h2, h3⟩
       rw [hr] at this; cases this
     . obtain ⟨o, hoi, h2⟩ := hin listed L hs hL i hi
       have hK := zvf _ hK _ h2
       have hlt : i < ops.size := by
        rcases Nat.lt_or_ge i ops.size with g | g
        . exact g
        . rw [Array.getElem?_eq_none g] at hoi; cases hoi
       have hmem : o ∈ ops.toList := List.mem_of_getElem? (i := i) (by rw [Array.getElem?_toList]; exact hoi)
       have rest : ∀ sl2 h2 n2 a2 w2, zbp c.E ops.toList fuel (i :: L) sl2 h2 n2 K -> Den c N sl2 h2 n2 a2 w2 -> wpAnyIn (FR c.ro) 0 c.E.P .any ops Q fuel (listed.setIfInBounds i true) a2 w2 := by
        intro sl2 h2 n2 a2 w2 k1 k2
        refine ih (listed.setIfInBounds i true) (i :: L) sl2 h2 n2 K (by simpa using hs) (fun j => ?_) k1 a2 w2 k2 hQ
        by_cases e : j = i
        . subst e
          rw [Array.getD_eq_getD_getElem?, Array.getElem?_setIfInBounds_self_of_lt (by omega)]
          simp
        . rw [getD_set_ne false (Ne.symm e), hL j]
          simp [e]
       unfold jp at hK
       obtain ⟨sl', D', hw⟩ := xX hd hK D rfl
       unfold wpOpIn
       simp only [hoi]
       rcases hw with ⟨h1, h2⟩ | ⟨h1, h2⟩
       . rw [if_pos h1]
         exact zap ok h2 (hd o hmem) D' rest
       . rw [if_neg (by rw [h1]; simp)]
         refine ⟨fun _ _ => trivial, ?_⟩
         refine rest (wH o.dst und sl') h n _ _ ?_ (D'.skip (hd o hmem))
         cases hdst : o.dst <;> simp only [hdst] at h2 <;> exact h2
theorem zn5 {c : Cx} {a b : Code} (h : c.ro = none /\ c.nm = false \/ (match rfB a with | true => true | false => rfB b) = false) : c.ro = none /\ c.nm = false \/ rfB a = false := by
 refine h.imp id fun h => ?_
 cases ha : rfB a with
 | true => rw [ha] at h; cases h
 | false => rfl
theorem zoi {c : Cx} {a b : Code} (h : c.ro = none /\ c.nm = false \/ (match rfB a with | true => true | false => rfB b) = false) : c.ro = none /\ c.nm = false \/ rfB b = false := by
 refine h.imp id fun h => ?_
 cases ha : rfB a with
 | true => rw [ha] at h; cases h
 | false => rw [ha] at h; exact h
theorem qG (ok : EnvOK c.E) {cuts : List Nat} : ∀ (code : Code) (sl : Slots) (h : Heap) (n : Nat) (K : KX), exec c.E N cuts code sl h n K -> wB c.E N code -> (c.ro = none /\ c.nm = false \/ rfB code = false) -> ∀ (a : Act) (w : World), Den c N sl h n a w ->
 ∀ Q : Exit -> Act -> World -> Prop, (∀ e sl' h' n' a' w', K e sl' h' n' -> Den c N sl' h' n' a' w' -> Q e a' w') -> code.wpIn (FR c.ro) 0 c.E.P Q a w
 | .skip, sl, h, n, K, hK, _, _, a, w, D, Q, hQ => by
   simp only [exec] at hK
   exact wpIn_skip (hQ _ _ _ _ _ _ hK D)
 | .exit i, sl, h, n, K, hK, _, _, a, w, D, Q, hQ => by
   simp only [exec] at hK
   exact wpIn_exit (hQ _ _ _ _ _ _ hK D)
 | .ret, sl, h, n, K, hK, _, _, a, w, D, Q, hQ => by
   simp only [exec] at hK
   exact wpIn_ret (hQ _ _ _ _ _ _ hK D)
 | .seq x y, sl, h, n, K, hK, hc, hr, a, w, D, Q, hQ => by
   simp only [exec] at hK
   refine wpIn_seq (qG ok x sl h n _ hK hc.1 (zn5 hr) a w D _ ?_)
   intro e sl' h' n' a' w' k D'
   cases e with
   | normal => exact qG ok y sl' h' n' K k hc.2 (zoi hr) a' w' D' Q hQ
   | _ => exact hQ _ _ _ _ _ _ k D'
 | .cond x c1 c2, sl, h, n, K, hK, hc, hr, a, w, D, Q, hQ => by
   simp only [exec] at hK
   have D0 := D
   obtain ⟨β, Y, m, hs, _⟩ := D0
   obtain ⟨t, ht, h1, h2⟩ := zsl hK (wg m hs x)
   refine wpIn_cond_split ht (fun e => ?_) (fun e => ?_)
   . exact qG ok c1 sl h n K (h1 e) hc.1 (zn5 hr) a w D Q hQ
   . exact qG ok c2 sl h n K (h2 e) hc.2 (zoi hr) a w D Q hQ
 | .block id b, sl, h, n, K, hK, hc, hr, a, w, D, Q, hQ => by
   have go : ∀ K' : KX, (exec c.E N cuts b sl h n fun e sl h n => (match e with
    | .exit i => (match Nat.beq i id with | true => K' .normal sl h n | false => K' (.exit i) sl h n)
    | e => K' e sl h n)) -> (∀ e sl' h' n' a' w', K' e sl' h' n' -> Den c N sl' h' n' a' w' -> Q e a' w') -> (Code.block id b).wpIn (FR c.ro) 0 c.E.P Q a w := by
    intro K' hK' hQ'
    refine wpIn_block (qG ok b sl h n _ hK' hc hr a w D _ ?_)
    intro e sl' h' n' a' w' k D'
    cases e with
    | exit i =>
      simp only at k
      simp only [Exit.inBlock]
      cases hb : Nat.beq i id with
      | true => simp only [hb] at k; rw [if_pos (zi hb)]; exact hQ' _ _ _ _ _ _ k D'
      | false => simp only [hb] at k; rw [if_neg (jc hb)]; exact hQ' _ _ _ _ _ _ k D'
    | _ => exact hQ' _ _ _ _ _ _ k D'
   simp only [exec] at hK
   split at hK
   . exact go K hK hQ
   . unfold zjw at hK
     refine go (fun e sl' h' n' => ∃ sl h n, SubX sl' h' n' sl h n /\ K e sl h n) hK fun e sl' h' n' a' w' k D' => ?_
     obtain ⟨sl2, h2, n2, hsub, k⟩ := k
     unfold SubX at hsub
     exact hQ _ _ _ _ _ _ k (hsub _ _ _ _ D')
 | .region id ops draw, sl, h, n, K, hK, hc, hr, a, w, D, Q, hQ => by
   have hQ' : ∀ sl' h' n' a' w', K .normal sl' h' n' -> Den c N sl' h' n' a' w' -> Q .normal a' w' := fun sl' h' n' a' w' k D' => hQ _ _ _ _ _ _ k D'
   cases draw with
   | true =>
     simp only [exec] at hK
     split at hK
     . rename_i hcp
       have hA := hc.2 rfl hcp
       unfold zm7 at hA
       split at hK
       . rename_i e; rw [e] at hA; exact hA c rfl id sl h n _ hK.1 hK.2 a w D Q hQ'
       . rename_i e; rw [e] at hA; exact hA c rfl id sl h n _ hK a w D Q hQ'
     . refine wpIn_region_any ok.mixed ?_
       have := zpd ok hc.1 (Q := Q) ops.toList.length (Array.replicate ops.size false) [] sl h n _ (by simp) (fun i => ?_) hK a _ D.drew hQ'
       . simpa using this
       . rw [Array.getD_eq_getD_getElem?]
         by_cases hi : i < ops.size <;> simp [hi]
   | false =>
     simp only [exec] at hK
     refine wpIn_region ?_
     have := zgj ok hc.1 (Q := Q) ops.toList [] sl h n _ (by simp) hK a w D hQ'
     simpa [List.range_eq_range'] using this
 | .loop b, sl, h, n, K, hK, hc, hr, a, w, D, Q, hQ => by
   simp only [exec] at hK
   unfold xR at hK
   refine znl ?_
   refine hK (fun sl h n => ∀ a w, Den c N sl h n a w -> zgo c.ro c.E.P b Q a w) ?_ ?_ ?_ a w D
   . intro sl h n hB a w D
     refine znt (qG ok b sl h n _ hB hc hr a w D _ ?_)
     intro e sl' h' n' a' w' k D'
     cases e with
     | normal => exact k a' w' D'
     | _ => exact hQ _ _ _ _ _ _ k D'
   . intro sl h n sl' h' n' hs hI a w D'
     unfold SubX at hs
     exact hI a w (hs _ _ _ _ D')
   . intro sl sl' h n hs hI a w D'
     exact hI a w (D'.fewer hs)
 | .rangeFunc f ps asg b, sl, h, n, K, hK, hc, hr, a, w, D, Q, hQ => by
   simp only [exec] at hK
   obtain ⟨hro, hnmf⟩ : c.ro = none /\ c.nm = false := hr.resolve_right (by simp [rfB])
   split at hK
   case h_2 => cases hK
   rename_i g caps hg
   obtain ⟨β, Y, m, hs, hN, h0, Ds, hds, hnd, hDs, hDn⟩ := D
   unfold qu at hK
   obtain ⟨⟨fn, hfn, hbody, hname⟩, hK⟩ := hK
   obtain ⟨m1, e1⟩ := m.markY
   have hs1 : zM c sl h β _ _ a := ⟨hs.1, fun t => zv e1 (zj (fun _ _ k => k) _) (hs.2 t)⟩
   have hfr : β n = none := m.fresh n (Nat.le_refl n)
   have hsz : (w.alloc (.deferred (some []))).heap.size = w.heap.size + 1 := World.size_alloc _ _
   have hβ : ∀ b l, β b = some l -> zW β n ⟨w.heap.size + 1, 0, 0⟩ b = some l := fun b l h => by
    rw [zx]; · exact h
    . rintro rfl; rw [hfr] at h; cases h
   rw [hro]
   refine wpIn_rangeFunc ?_
   intro fi _
   obtain ⟨m2, e2⟩ := m1.new (n := n) (k := .gho ⟨.ready, none, N, ps, asg, b, false⟩ sl) (l := ⟨w.heap.size + 1, 0, 0⟩) (o := .loop { state := .ready, pending := none, fn := fi, tmps := a.tmps, params := ps, assign := asg, body := b, defers := w.heap.size }) (Nat.le_refl n) hsz.symm
    (fun w' X' β' e hβ' hh => .inr ⟨fi, a.tmps, w.heap.size, hh, hN, fun t ht => by
      have := zv e (zj hβ' _) (hs1.2 t)
      unfold qp at this
      rw [if_pos ht] at this
      exact this⟩)
   have hs2 := fun t => zv e2 (zj hβ (lk sl t)) (hs1.2 t)
   have hfun := wg m2 (sl := sl) ⟨hs.1, hs2⟩ f
   rw [hg] at hfun
   obtain ⟨us, hfu, hcaps⟩ := rel_fn.1 hfun
   obtain ⟨w2, hw2⟩ : ∃ w2, (w.alloc (.deferred (some []))).alloc (.loop { state := .ready, pending := none, fn := fi, tmps := a.tmps, params := ps, assign := asg, body := b, defers := w.heap.size }) = w2 := ⟨_, rfl⟩
   rw [hw2] at m2 e2 hs2 hfun hcaps
   have hle : ¬ ((1999999 : Nat) <= 999999) := by omega
   let c' : Cx := { c with sh := fun t => if t = 999999 then .func (.yield (w.heap.size + 1)) #[] #[] else c.sh t }
   have hsh0 : ∀ m, m ≠ 999999 -> c'.sh m = c.sh m := fun m hm => if_neg hm
   have hsh : ∀ t, ¬ t <= 999999 -> 1999999 ≠ t -> c'.sh (t - 1000000) = c.sh (t - 1000000) := fun t h1 h2 => hsh0 _ (by omega)
   have m2' : Mem c' ((n, .gho ⟨.ready, none, N, ps, asg, b, false⟩ sl) :: h) (fun b => n + 1 <= b) (zW β n ⟨w.heap.size + 1, 0, 0⟩) (fun r => Y r \/ r = w.heap.size) w2 :=
    ⟨fun b hb => m2.fresh b ⟨Nat.le_of_succ_le hb, Nat.ne_of_gt hb⟩, m2.blk, m2.inj, m2.own, m2.yy, m2.zz, m2.size, m2.frame, m2.os, m2.tape, m2.output, m2.gl⟩
   have hyv : rel w2 (XX c.Z (fun r => Y r \/ r = w.heap.size) (zW β n ⟨w.heap.size + 1, 0, 0⟩) ((n, .gho ⟨.ready, none, N, ps, asg, b, false⟩ sl) :: h)) (.yld n) (zW β n ⟨w.heap.size + 1, 0, 0⟩) (.func (.yield (w.heap.size + 1)) #[] #[]) :=
    wj rfl ⟨⟨w.heap.size + 1, 0, 0⟩, zH .., rfl⟩
   have hs2' : zM c' ((1999999, .yld n) :: sl) ((n, .gho ⟨.ready, none, N, ps, asg, b, false⟩ sl) :: h) (zW β n ⟨w.heap.size + 1, 0, 0⟩) (fun r => Y r \/ r = w.heap.size) w2 a := by
    refine ⟨hs.1, fun t => ?_⟩
    simp only [lk]
    cases hb : Nat.beq 1999999 t with
    | true =>
      have := zi hb; subst this
      simp only [qp, hle, if_false]
      exact hyv
    | false =>
      have hne := jc hb
      have := hs2 t
      simp only [qp] at this ⊢
      split
      . rename_i h; rw [if_pos h] at this; exact this
      . rename_i h
        rw [if_neg h] at this
        rw [hsh t h hne]; exact this
   refine ⟨w.heap.size + 1, [{ target := .collected w.heap.size, args := #[] }], w2, { target := .fn (.func g) us, args := #[.func (.yield (w.heap.size + 1)) #[] #[]] }, w2, g,
    #[.func (.yield (w.heap.size + 1)) #[] #[]] ++ us, w2, hw2 ▸ run_enterLoop_outer _ _ _ _ _, ?_, fun _ _ => trivial, ?_, zbe, ?_⟩
   . simp only [resolve, hfu, Deferred.ofValue]
     simp [go_sem]
   . simp only [invoke, callFunc, Sem.run_bind, run_program, hfn, Result.andThen_ok]
     rw [if_neg (by rw [hname]; simp), if_neg (by simp [Option.isNone_iff_eq_none, Option.isSome_iff_ne_none.1 hbody])]
     simp
   . refine callsIn_FR.2 (Calls.mono (hK c' a w2 _ _ _ rfl m2' hs2' ?_) ?_)
     . simp only [Array.toList_append]
       rw [show (#[Value.func (.yield (w.heap.size + 1)) #[] #[]] : Array Value).toList ++ us.toList = Value.func (.yield (w.heap.size + 1)) #[] #[] :: us.toList from rfl, relL_cons]
       refine ⟨_, _, rfl, ?_, hcaps⟩
       rw [qq rfl (by simp)]
       exact ⟨⟨w.heap.size + 1, 0, 0⟩, zH .., rfl⟩
     . rintro e w' ⟨u, rfl, r, sl', h', n', β', Y', hY, k, m', hs', hrel⟩
       split at k
       case h_2 => cases k
       rename_i b' hb'
       split at k
       case h_2 => cases k
       rename_i hbn
       have := zi hbn; subst this
       obtain ⟨q, s, hq, hst, hst2, hk⟩ := zru k
       obtain ⟨l, hl, hok⟩ := m'.blk b' _ hq
       obtain ⟨fn', tmps', D', hrec, htm, hslots⟩ := hok.resolve_left hst2
       have hlr : l.r = w.heap.size + 1 := by
        have := hs'.2 1999999
        rw [hb'] at this
        simp only [qp, hle, if_false] at this
        have h2 := zL rfl (by simp) (by simp) this
        simp only [zb] at h2
        obtain ⟨l', hl', h3⟩ := h2
        rw [hl] at hl'; cases hl'
        simp only [c', if_pos, List.cons.injEq, and_true, Value.func.injEq, Fn.yield.injEq] at h3
        omega
       obtain ⟨m3, e3⟩ := Mem.set m' (k := .gho { q with st := .exhausted } s) (o' := .loop { state := .exhausted, pending := q.pend, fn := fn', tmps := tmps', params := q.ps, assign := q.asg, body := q.body, defers := D' }) hq hl (jJ hst2) (jJ (q := { q with st := .exhausted }) hst2) hrec
        (fun e hh => .inr ⟨fn', tmps', D', hh, htm, fun t ht => zv e (zj (fun _ _ k => k) _) (hslots t ht)⟩)
       have hq3 : lkB (stB h' b' (.gho { q with st := .exhausted } s)) b' = some (.gho { q with st := .exhausted } s) := by rw [wo hq, if_pos rfl]
       obtain ⟨m4, e4, _⟩ := m3.ice1 hq3
       simp only [Blk.cold, zii] at m4 e4
       have e5 := e3.trans e4
       have hend := run_endLoop (P := c.E.P) (w := w') hrec hst
       rw [hlr] at hend
       have hw4 : w'.putObj (w.heap.size + 1) (.loop { state := .exhausted, pending := q.pend, fn := fn', tmps := tmps', params := q.ps, assign := q.asg, body := q.body, defers := D' }) = World.put w' l.r (.loop { state := .exhausted, pending := q.pend, fn := fn', tmps := tmps', params := q.ps, assign := q.asg, body := q.body, defers := D' }) := by rw [hlr]; rfl
       have hsz2 : w.heap.size < w2.heap.size := by rw [<- hw2]; simp only [World.size_alloc]; omega
       have D4 : Den c N ((1999999, .any) :: sl') (stB h' b' .dead) n' { a with defers := [{ target := .collected w.heap.size, args := #[] }] ++ a.defers } (World.put w' l.r (.loop { state := .exhausted, pending := q.pend, fn := fn', tmps := tmps', params := q.ps, assign := q.asg, body := q.body, defers := D' })) := by
        refine ⟨β', Y', ⟨m4.fresh, m4.blk, m4.inj, m4.own, m4.yy, m4.zz, m4.size, m4.frame, m4.os, m4.tape, m4.output, m4.gl⟩, ⟨hs.1, fun t => ?_⟩, hN, fun r hr => hY r (.inl (h0 r hr)), w.heap.size :: Ds, by rw [hds]; rfl, ?_, fun D hD => ?_, fun h => absurd (hnmf.symm.trans h) (by decide)⟩
        . simp only [lk]
          cases hb : Nat.beq 1999999 t with
          | true => exact trivial
          | false =>
            have hne := jc hb
            have := zv e5 (zj (fun _ _ k => k) _) (hs'.2 t)
            simp only [qp] at this ⊢
            split
            . rename_i h; rw [if_pos h] at this; exact this
            . rename_i h
              rw [if_neg h] at this
              rw [hsh t h hne] at this
              exact this
        . refine List.nodup_cons.2 ⟨fun hD => ?_, hnd⟩
          have := qg (m.yy _ (hDs _ hD).1).1
          omega
        . rcases List.mem_cons.1 hD with rfl | hD
          . exact ⟨hY _ (.inr rfl), fun h => by have := qg (m.yy _ (h0 _ h)).1; omega⟩
          . exact ⟨hY _ (.inl (hDs D hD).1), (hDs D hD).2⟩
       refine ⟨q.pend, _, hend, ?_⟩
       rw [hw4]
       rcases hk with ⟨hp, hk⟩ | ⟨hp, hk⟩ | ⟨i, hp, hk⟩
       . rw [hp]; rw [hp] at D4; exact hQ _ _ _ _ _ _ hk D4
       . rw [hp]; rw [hp] at D4; exact wpIn_ret (hQ _ _ _ _ _ _ hk D4)
       . rw [hp]; rw [hp] at D4; exact wpIn_exit (hQ _ _ _ _ _ _ hk D4)
 | .scope b, sl, h, n, K, hK, hc, hr, a, w, D, Q, hQ => by
   simp only [exec] at hK
   refine zcj (qG ok b sl h n _ hK hc hr a w D _ ?_)
   intro e sl' h' n' a' w' k D'
   cases e with
   | goto l => cases k
   | _ => exact hQ _ _ _ _ _ _ k D'
 | .label _, sl, h, n, K, hK, _, _, a, w, D, Q, hQ => by
   simp only [exec] at hK
   exact wpIn_label (hQ _ _ _ _ _ _ hK D)
 | .goto _, sl, h, n, K, hK, _, _, a, w, D, Q, hQ => by simp only [exec] at hK
 | .refuse _, sl, h, n, K, hK, _, _, a, w, D, Q, hQ => by simp only [exec] at hK
end
theorem zct {K : Slots -> Prop} : ∀ (l : List SV) (i : Nat) (sl : Slots), ini l i sl K -> ∃ sl', K sl' /\ (∀ t, i <= t -> t < i + l.length -> lk sl' t = l.getD (t - i) .any) /\ ∀ t, (t < i \/ i + l.length <= t) -> lk sl' t = lk sl t
 | [], i, sl, h => ⟨sl, h, fun t h1 h2 => by simp at h2; omega, fun t _ => rfl⟩
 | v :: r, i, sl, h => by
   simp only [ini, zp] at h
   obtain ⟨sl', h1, h2, h3⟩ := zct r (i + 1) ((i, v) :: sl) h
   refine ⟨sl', h1, fun t g1 g2 => ?_, fun t g => ?_⟩
   . by_cases e : t = i
     . subst e
       rw [h3 t (.inl (by omega))]
       simp [lk]
     . rw [h2 t (by omega) (by simp at g2; omega)]
       have : t - i = (t - (i + 1)) + 1 := by omega
       rw [this]
       simp
   . rw [h3 t (by simp at g; omega)]
     simp only [lk]
     rw [wF (by simp at g; omega)]
theorem uL {w : World} {X : Nat -> Prop} {β : Beta} : ∀ {l : List SV} {us : List Value}, relL w X l β us -> l.length = us.length /\ ∀ i, i < l.length -> qA w X (l.getD i .any) β (us.getD i undef)
 | [], us, h => by rw [relL_nil] at h; subst h; exact ⟨rfl, fun i hi => by simp at hi⟩
 | v :: r, us, h => by
   rw [relL_cons] at h
   obtain ⟨u, us', rfl, h1, h2⟩ := h
   obtain ⟨g1, g2⟩ := uL h2
   refine ⟨by simp [g1], fun i hi => ?_⟩
   cases i with
   | zero => simpa using h1
   | succ i => simpa using g2 i (by simpa using hi)
theorem yM {w : World} {X : Nat -> Prop} {β : Beta} {v : SV} {u : Value} (h : qA w X v β u) : rel w X v β u := by
 by_cases ht : ∃ vs, v = .tup vs
 . obtain ⟨vs, rfl⟩ := ht
   simp only [qA, SV.isAgg, zb] at h
 . rw [qe fun vs e => ht ⟨vs, e⟩]; exact h
def cx0 (E : Env) (w : World) (X : Nat -> Prop) : Cx := { E := E, w0 := w, Z := X, F0 := fun _ => False }
theorem zyf {E : Env} {w : World} {X : Nat -> Prop} (g : Good E w X) : Mem (cx0 E w X) [] (fun b => 0 <= b) nob (fun _ => False) w := by
 have hX : XX X (fun _ => False) nob [] = X := by
  funext r
  simp only [XX, Own, lkB]
  simp
 refine ⟨fun _ _ => rfl, fun b k hk => by simp [lkB] at hk, fun b b' k k' l l' hk => by simp [lkB] at hk, ?_, fun r hr => hr.elim, fun r hr => ⟨g.1 r hr, id⟩, Nat.le_refl _, fun _ _ _ => rfl, rfl, rfl, rfl, fun g' t hg ht => ?_⟩
 . rintro r ⟨b, k, l, h1, _⟩; simp [lkB] at h1
 . show zb w (XX X (fun _ => False) nob []) (.iptr t) nob _
   rw [hX]
   exact g.2 g' t hg fun e => ht e
theorem zyr {w : World} {X : Nat -> Prop} {β : Beta} {v : SV} {u : Value} (h : rel w X v β u) : rel w X (bl v) β u := by
 cases v <;> first | exact h | exact rel_bool.2 (rel_tru.1 h) | exact rel_bool.2 (rel_fls.1 h)
def RelAll (w : World) (X : Nat -> Prop) : List SV -> List Value -> Prop
 | [], [] => True
 | v :: vs, u :: us => rel w X v nob u /\ RelAll w X vs us
 | _, _ => False
theorem RelAll.len {w : World} {X : Nat -> Prop} : ∀ {vs : List SV} {us : List Value}, RelAll w X vs us -> vs.length = us.length
 | [], [], _ => rfl
 | _ :: _, _ :: _, h => by simp [RelAll.len h.2]
 | [], _ :: _, h => h.elim
 | _ :: _, [], h => h.elim
theorem RelAll.relL {w : World} {X : Nat -> Prop} : ∀ {vs : List SV} {us : List Value}, RelAll w X vs us -> qX vs = true -> relL w X vs nob us
 | [], [], _, _ => by simp [relL_nil]
 | v :: vs, u :: us, h, hn => by
   obtain ⟨h1, h2⟩ := zbz hn
   rw [relL_cons]
   refine ⟨u, us, rfl, ?_, RelAll.relL h.2 h2⟩
   rw [<- qe h1]; exact h.1
 | [], _ :: _, h, _ => h.elim
 | _ :: _, [], h, _ => h.elim
def ja (a : Act) (l : List ResultVar) : Sem (List Value) := l.mapM fun
 | .tmp t => pure (a.tmps.getD t undef)
 | .cell x t => do loadVar t (<- asAddr (a.tmps.getD x undef))
theorem zdr {c : Cx} (ok : EnvOK c.E) {sl : Slots} {h : Heap} {F : Nat -> Prop} {β : Beta} {Y : Nat -> Prop} {w : World} {a : Act} (m : Mem c h F β Y w) (hs : zM c sl h β Y w a) {X' : Nat -> Prop} (hc : ∀ ns, Cold h β w (XX c.Z Y β h) X' ns) :
 ∀ (l : List ResultVar) (K : List SV -> Prop), uI c.E sl h l K -> ∃ vs us, K vs /\ (ja a l).run c.E.P w = .ok us w /\ RelAll w X' vs us
 | [], K, hK => ⟨[], [], hK, by simp [ja], trivial⟩
 | .tmp t :: r, K, hK => by
   simp only [uI] at hK
   obtain ⟨v', ns, k1, _, k2⟩ := uT m 60 _ [] _ hK
   obtain ⟨vs, us, q1, q2, q3⟩ := zdr ok m hs hc r _ k1
   refine ⟨v' :: vs, a.tmps.getD t undef :: us, q1, ?_, (k2 X' (hc ns)).2.2 _ (zyr (wg m hs (.tmp t))), q3⟩
   simp only [ja] at q2 ⊢
   simp only [List.mapM_cons, Sem.run_bind, Sem.run_pure, Result.andThen_ok]
   rw [q2]
   rfl
 | .cell t T :: r, K, hK => by
   simp only [uI] at hK
   have hK' : opE c.E sl h 0 (.load T (.tmp t)) (fun v _ _ => frz h 60 v [] fun v _ => uI c.E sl h r fun vs => K (v :: vs)) := hK
   obtain ⟨v, u, ad, k0, hu, k5, k6⟩ := zfr ok m hK' (wg m hs (.tmp t))
   obtain ⟨v', ns, k1, _, k2⟩ := uT m 60 _ [] _ k0
   obtain ⟨vs, us, q1, q2, q3⟩ := zdr ok m hs hc r _ k1
   refine ⟨v' :: vs, u :: us, q1, ?_, (k2 X' (hc ns)).2.2 _ k6, q3⟩
   simp only [ja] at q2 ⊢
   have ha : asAddr (.pointer (some ad)) = pure ad := rfl
   replace hu : a.tmps.getD t undef = .pointer (some ad) := hu
   simp only [List.mapM_cons, Sem.run_bind, hu, ha, Sem.run_pure, Result.andThen_ok, k5]
   rw [q2]
   rfl
theorem zkb {c : Cx} {N : Nat} {fn : Func} {sl : Slots} {h : Heap} {n : Nat} {a : Act} {w : World} (hbot : c.bot = []) (D : Den c N sl h n a w) {R : Ending -> World -> Prop}
 (k : ∀ β Y w', Mem c h (fun b => n <= b) β Y w' -> zM c sl h β Y w' a -> (∀ r, c.Y0 r -> Y r) -> ∃ v, (results fn a.tmps).run c.E.P w' = .ok v w' /\ R (.returned v) w') :
 LeavesInM Fence.wide 0 c.E.P fn a.tmps R a.defers .returning w := by
 obtain ⟨β, Y, m, hs, hN, h0, Ds, hds, hnd, hDs, _⟩ := D
 rw [hds, hbot]
 refine xL Ds β Y c.Y0 w m hs hnd (fun D hD => (hDs D hD).1) (fun r hr => ⟨h0 r hr, fun hD => (hDs r hD).2 hr⟩) fun Y' w' m' hs' hY' => ?_
 exact k β Y' w' m' hs' hY'
theorem zei {E : Env} (ok : EnvOK E) {f : FuncId} {fn : Func} {code : Code} {cuts : List Nat} {args : List SV} {r : SV} (hf : E.P.funcs[f]? = some fn) (hb : fn.body = some code) (hname : (fn.name == "runtime.NumGoroutine") = false)
 (hargs : args.length <= fn.ntmps) (hN : fn.ntmps <= 1000000) (hc : wB E fn.ntmps code)
 (hx : ini args 0 [] fun sl => exec E fn.ntmps cuts code sl [] 0 fun e sl h _ => match e with
   | .normal | .ret => xb E fn sl h fun v => Wk v r
   | _ => False) : Ret E f args r := by
 refine ⟨⟨fn, hf, by rw [hb]; rfl, hname⟩, fun w X us g hus => ?_⟩
 obtain ⟨hlen, hget⟩ := uL hus
 obtain ⟨sl, hx, h1, h2⟩ := zct args 0 [] hx
 have hsize : us.size = args.length := by rw [<- Array.length_toList]; exact hlen.symm
 have hX : XX X (fun _ => False) nob [] = X := by
  funext r
  simp only [XX, Own, lkB]
  simp
 have D : Den (cx0 E w X) fn.ntmps sl [] 0 { tmps := us ++ Array.replicate (fn.ntmps - us.size) undef, defers := [] } w := by
  refine ⟨nob, fun _ => False, zyf g, ⟨by simp; omega, fun t => ?_⟩, by simp; omega, .nil (fun _ h => h)⟩
  show rel w (XX X (fun _ => False) nob []) (lk sl t) nob _
  rw [hX]
  by_cases ht : t < args.length
  . have hle : t <= 999999 := by omega
    unfold qp
    rw [if_pos hle, h1 t (by omega) (by omega)]
    have := hget t ht
    have hu : (us ++ Array.replicate (fn.ntmps - us.size) undef).getD t undef = us.toList.getD t undef := by
     rw [Array.getD_eq_getD_getElem?, Array.getElem?_append_left (by omega)]
     simp
    show rel w X _ nob ((us ++ Array.replicate (fn.ntmps - us.size) undef).getD t undef)
    rw [hu]
    simpa using yM this
  . rw [h2 t (by omega)]
    exact trivial
 refine callsIn_wide.1 (callsIn_of_wp_marks (n := 0) hf hb trivial (qG (c := cx0 E w X) ok code sl [] 0 _ hx hc (.inl ⟨rfl, rfl⟩) _ w D _ ?_))
 intro e sl' h' n' a' w' k D'
 have fin : xb E fn sl' h' (fun v => Wk v r) -> LeavesInM Fence.wide 0 E.P fn a'.tmps (fun e w' => ∃ u, e = .returned u /\ Below w.heap.size w w' /\ rel w' X r nob u) a'.defers .returning w' := by
  intro hres
  refine zkb (c := cx0 E w X) rfl D' fun β Y w' m hs _ => ?_
  have hbelow : Below w.heap.size w w' := ⟨m.os, m.tape, m.output, m.size, fun k hk => m.frame k hk id⟩
  have hXX : ∀ ns, Cold h' β w' (XX X Y β h') X ns := fun ns => ⟨fun r _ hr hx => hr (.inl hx), fun b hb k l hk hl hlv hx => (m.own l.r ⟨b, k, l, hk, hl, hlv, rfl⟩).2.1 hx⟩
  have hc : ∀ ns, Cold h' β w' (XX X Y β h') X ns := hXX
  unfold xb at hres
  obtain ⟨vs, us', k1, k2, k3⟩ := zdr ok m hs hc fn.results.toList _ hres
  have k2' : (fn.results.mapM fun
   | .tmp t => pure (a'.tmps.getD t undef)
   | .cell x t => do loadVar t (<- asAddr (a'.tmps.getD x undef)) : Sem (Array Value)).run E.P w' = .ok us'.toArray w' := by
   rw [Array.mapM_eq_mapM_toList, Sem.run_map]
   have k2'' := k2
   simp only [ja] at k2''
   exact (congrArg (fun r => r.andThen fun (a : List Value) w'' => Result.ok a.toArray w'') k2'')
  have k4 : (results fn a'.tmps).run E.P w' = (Result.ok us'.toArray w').andThen fun (a : Array Value) w'' => (pure (if h : a.size = 1 then a[0] else Value.tuple a) : Sem Value).run E.P w'' := by
   unfold results
   rw [Sem.run_bind]
   exact (congrArg (fun r => r.andThen fun (a : Array Value) w'' => (pure (if h : a.size = 1 then a[0] else Value.tuple a) : Sem Value).run E.P w'') k2')
  split at k1
  . rename_i v
    match us', k3, k4 with
    | [u], k3, k4 => exact ⟨u, by show (results fn a'.tmps).run E.P w' = _; rw [k4]; simp only [Result.andThen_ok, Sem.run_pure]; rfl, _, rfl, hbelow, k1.app k3.1⟩
  . rename_i hne
    split at k1
    case h_2 => cases k1
    rename_i hnt
    have hlen2 : vs.length = us'.length := RelAll.len k3
    have hne1 : us'.length ≠ 1 := by
     intro e1
     match vs, hlen2.trans e1 with
     | [v], _ => exact hne v rfl
    refine ⟨.tuple us'.toArray, ?_, _, rfl, hbelow, k1.app ⟨us'.toArray, rfl, by simpa using RelAll.relL k3 hnt⟩⟩
    show (results fn a'.tmps).run E.P w' = _
    rw [k4]
    simp [hne1]
 cases e with
 | normal => exact fin k
 | ret => exact fin k
 | _ => cases k
open Go.RowKit (Below)
theorem zr8 {B : Slots -> Heap -> Nat -> (Slots -> Heap -> Nat -> Prop) -> Prop} {sl : Slots} {h : Heap} {n : Nat} (hb : ∀ I : Slots -> Heap -> Nat -> Prop, (∀ sl h n, B sl h n I -> I sl h n) -> (∀ sl h n sl' h' n', SubX sl' h' n' sl h n -> I sl h n -> I sl' h' n') -> B sl h n I) : xR sl h n B := by
 unfold xR
 intro I h1 h2 _
 exact h1 _ _ _ (hb I h1 h2)
theorem zk {xs : List SV} {i : Int} {K : SV -> Prop} {s : SV} (h0 : 0 <= i) (h1 : xs[i.toNat]? = some s) (k : K s) : wm xs i K := by unfold wm; exact ⟨s, h0, h1, k⟩
theorem zt4 {e : Int} (h1 : -9223372036854775808 <= e) (h2 : e <= 9223372036854775807) : IntKind.wrap .i64 e = e := by
 simp only [IntKind.wrap, IntKind.signed, IntKind.bits]
 have h3 : (2 : Int) ^ 64 = 18446744073709551616 := by decide
 have h4 : (2 : Int) ^ (64 - 1) = 9223372036854775808 := by decide
 simp only [h3, h4, Bool.true_and, decide_eq_true_eq, ge_iff_le]
 split <;> omega
theorem zth {q : IntKind} {e : Int} {K : Int -> Prop} (k : K (q.wrap e)) : qY q e K := by unfold qY; exact ⟨_, rfl, k⟩
theorem zo {q : IntKind} {e r : Int} {K : Int -> Prop} (h : q.wrap e = r) (k : K r) : qY q e K := by unfold qY; exact ⟨_, h, k⟩
theorem qh {p K : Prop} (h : p) (k : K) : zO p K := by unfold zO; exact ⟨h, k⟩
theorem call {E : Env} {f : FuncId} {args : List SV} {K : SV -> Prop} {r : SV} (h : Ret E f args r) (k : K r) : jw E f args K := by unfold jw; exact ⟨r, h, k⟩
mutual
def zP : SV -> List Value -> Option (List Value)
 | .int k n, .int k' m :: r => match kq k k', decide (n = m) with | true, true => some r | _, _ => none
 | .fls, .bool false :: r => some r
 | .tru, .bool true :: r => some r
 | .str [], .string s :: r => match s.data.toList with | [] => some r | _ => none
 | .nils, .slice none 0 0 :: r => some r
 | .nilf, .nilFunc :: r => some r
 | .nilp, .pointer none :: r => some r
 | .nili, .nilIface :: r => some r
 | .agg fs, cs => zC fs cs
 | .arr n sz xs, cs => match Nat.beq xs.length n with | true => zR sz xs cs | false => none
 | _, _ => none
def zC : List SV -> List Value -> Option (List Value)
 | [], cs => some cs
 | v :: l, cs => match zP v cs with | some cs => zC l cs | none => none
def zR (sz : Nat) : List SV -> List Value -> Option (List Value)
 | [], cs => some cs
 | v :: l, cs => match Nat.beq v.sz sz, zP v cs with | true, some cs => zR sz l cs | _, _ => none
end
section
variable {w : World} {X : Nat -> Prop}
mutual
theorem zjy : ∀ (v : SV) (cs r : List Value), zP v cs = some r -> ∃ c1, cs = c1 ++ r /\ zb w X v nob c1
 | v, cs, r, h => by
   unfold zP at h
   split at h
   . rename_i k n k' m r'
     split at h
     case h_2 => cases h
     rename_i e1 e2
     cases h
     obtain rfl := zdv e1
     obtain rfl := of_decide_eq_true e2
     exact ⟨[_], rfl, rfl⟩
   . cases h; exact ⟨[_], rfl, rfl⟩
   . cases h; exact ⟨[_], rfl, rfl⟩
   . rename_i s r'
     split at h
     case h_2 => cases h
     rename_i e
     cases h
     refine ⟨[_], rfl, ?_⟩
     obtain ⟨⟨l⟩⟩ := s
     simp only at e
     subst e
     rfl
   . cases h; exact ⟨[_], rfl, rfl⟩
   . cases h; exact ⟨[_], rfl, rfl⟩
   . cases h; exact ⟨[_], rfl, rfl⟩
   . cases h; exact ⟨[_], rfl, rfl⟩
   . rename_i fs
     obtain ⟨c1, h1, h2⟩ := zwd fs cs r h
     exact ⟨c1, h1, by simp only [zb]; exact h2⟩
   . rename_i n sz xs
     split at h
     case h_2 => cases h
     rename_i e
     obtain ⟨c1, h1, h2⟩ := zwc sz xs cs r h
     exact ⟨c1, h1, by simp only [zb]; exact ⟨Nat.eq_of_beq_eq_true e, h2⟩⟩
   . cases h
theorem zwd : ∀ (l : List SV) (cs r : List Value), zC l cs = some r -> ∃ c1, cs = c1 ++ r /\ qI w X l nob c1
 | [], cs, r, h => by simp only [zC] at h; cases h; exact ⟨[], rfl, by simp [qI]⟩
 | v :: l, cs, r, h => by
   simp only [zC] at h
   split at h
   case h_2 => cases h
   rename_i cs' e
   obtain ⟨c1, h1, h2⟩ := zjy v cs cs' e
   obtain ⟨c2, h3, h4⟩ := zwd l cs' r h
   exact ⟨c1 ++ c2, by rw [h1, h3, List.append_assoc], relC_cons.2 ⟨c1, c2, rfl, h2, h4⟩⟩
theorem zwc (sz : Nat) : ∀ (l : List SV) (cs r : List Value), zR sz l cs = some r -> ∃ c1, cs = c1 ++ r /\ zK w X sz l nob c1
 | [], cs, r, h => by simp only [zR] at h; cases h; exact ⟨[], rfl, by simp [zK]⟩
 | v :: l, cs, r, h => by
   simp only [zR] at h
   split at h
   case h_2 => cases h
   rename_i cs' hs e
   obtain ⟨c1, h1, h2⟩ := zjy v cs cs' e
   obtain ⟨c2, h3, h4⟩ := zwc sz l cs' r h
   exact ⟨c1 ++ c2, by rw [h1, h3, List.append_assoc], relR_cons.2 ⟨c1, c2, rfl, by rw [qj _ _ h2]; exact Nat.eq_of_beq_eq_true hs, h2, h4⟩⟩
end
end
def zV (v : SV) (z : Value) : Bool :=
 match v.isAgg, z with
 | true, .agg cs => (match zP v cs.toList with | some [] => true | _ => false)
 | true, _ => false
 | false, z => (match zP v [z] with | some [] => true | _ => false)
theorem zz6 {v : SV} {z : Value} (h : zV v z = true) (w : World) (X : Nat -> Prop) : qA w X v nob z := by
 unfold zV at h
 unfold qA
 split at h
 . rename_i cs ha
   simp only [ha]
   split at h
   case h_2 => cases h
   rename_i e
   obtain ⟨c1, h1, h2⟩ := zjy (w := w) (X := X) _ _ _ e
   exact ⟨cs, rfl, by rw [h1]; simpa using h2⟩
 . cases h
 . rename_i ha
   simp only [ha]
   split at h
   case h_2 => cases h
   rename_i e
   obtain ⟨c1, h1, h2⟩ := zjy (w := w) (X := X) _ _ _ e
   have h3 := h1.symm
   simp only [List.append_nil] at h3
   subst h3
   cases v <;> first | trivial | exact h2
def prB : List (TypeId × Nat) -> List (TypeId × Nat) -> Bool
 | [], [] => true
 | (a, b) :: r, (c, d) :: s => match Nat.beq a c, Nat.beq b d with | true, true => prB r s | _, _ => false
 | _, _ => false
theorem zsh : ∀ {l m : List (TypeId × Nat)}, prB l m = true -> l = m
 | [], [], _ => rfl
 | (a, b) :: r, (c, d) :: s, h => by
   simp only [prB] at h
   split at h
   case h_2 => cases h
   rename_i e1 e2
   rw [Nat.eq_of_beq_eq_true e1, Nat.eq_of_beq_eq_true e2, zsh h]
 | [], _ :: _, h => by cases h
 | _ :: _, [], h => by cases h
def zAm : SV -> Bool
 | .any => true
 | _ => false
def zvu (P : Program) (T : TypeId) (ti : TI) : Bool :=
 match P.info? T with
 | some i => Nat.beq i.size ti.size && Nat.beq i.bytes ti.bytes && (zAm ti.zero || (match i.zero with | some z => zV ti.zero z | none => false))
 | none => false
def zvr (P : Program) (T : TypeId) (ti : TI) : Bool :=
 match ti.d, P.underlying T with
 | .int k, some (.int k') => kq k k'
 | .bool, some .bool => true
 | .str, some .string => true
 | .fn, some (.func ..) => true
 | .ptr e, some (.pointer e') => Nat.beq e' e
 | .ifc, some (.interface _) => true
 | .strct fs, some (.struct F) => prB (F.toList.map (fun f => (f.type, f.offset))) fs && (!ti.cmp || (F.toList.all (fun f => f.name != "_") && !P.stoodInHeld T && !P.eqGuardType P.depth T))
 | .arr n e, some (.array n' e') => Nat.beq n' n && Nat.beq e' e && (!ti.cmp || !P.eqGuardType P.depth T)
 | .sl e, some (.slice e') => Nat.beq e' e
 | .mp k e, some (.map k' e') => Nat.beq k' k && Nat.beq e' e
 | .other, _ => true
 | _, _ => false
def ttB (P : Program) : List (Nat × TI) -> Bool
 | [] => true
 | (T, ti) :: r => match zvu P T ti, zvr P T ti with | true, true => ttB P r | _, _ => false
theorem zxf {P : Program} {T : TypeId} {ti : TI} (h1 : zvu P T ti = true) (h2 : zvr P T ti = true) : TIok P T ti := by
 constructor
 . unfold zvu at h1
   split at h1
   case h_2 => cases h1
   rename_i i hi
   simp only [Bool.and_eq_true, Bool.or_eq_true] at h1
   obtain ⟨⟨g1, g2⟩, g3⟩ := h1
   refine ⟨i, hi, Nat.eq_of_beq_eq_true g1, Nat.eq_of_beq_eq_true g2, fun hz => ?_⟩
   rcases g3 with g3 | g3
   . exact absurd (by cases hz' : ti.zero <;> first | rfl | (rw [hz'] at g3; cases g3)) hz
   . split at g3
     . rename_i z' hz'; exact ⟨z', hz', fun w X => zz6 g3 w X⟩
     . cases g3
 . unfold zvr at h2
   split at h2
   . rename_i k k' e1 e2; rw [e1]; rw [zdv h2]; exact e2
   . rename_i e1 e2; rw [e1]; exact e2
   . rename_i e1 e2; rw [e1]; exact e2
   . rename_i e1 e2; rw [e1]; exact ⟨_, _, _, e2⟩
   . rename_i e1 e2; rw [e1]; rw [<- Nat.eq_of_beq_eq_true h2]; exact e2
   . rename_i e1 e2; rw [e1]; exact ⟨_, e2⟩
   . rename_i fs F e1 e2
     rw [e1]
     simp only [Bool.and_eq_true, Bool.or_eq_true, Bool.not_eq_true', List.all_eq_true] at h2
     refine ⟨F, e2, zsh h2.1, fun hc => ?_⟩
     rcases h2.2 with g | g
     . rw [hc] at g; cases g
     . exact ⟨g.1.1, g.1.2, g.2⟩
   . rename_i n e n' e' e1 e2
     rw [e1]
     simp only [Bool.and_eq_true, Bool.or_eq_true, Bool.not_eq_true'] at h2
     refine ⟨by rw [<- Nat.eq_of_beq_eq_true h2.1.1, <- Nat.eq_of_beq_eq_true h2.1.2]; exact e2, fun hc => ?_⟩
     rcases h2.2 with g | g
     . rw [hc] at g; cases g
     . exact g
   . rename_i e1 e2; rw [e1]; rw [<- Nat.eq_of_beq_eq_true h2]; exact e2
   . rename_i e1 e2; rw [e1]; simp only [Bool.and_eq_true] at h2; rw [<- Nat.eq_of_beq_eq_true h2.1, <- Nat.eq_of_beq_eq_true h2.2]; exact e2
   . rename_i e1; rw [e1]; trivial
   . cases h2
theorem zsj {P : Program} : ∀ {tt : List (Nat × TI)}, ttB P tt = true -> ∀ T, (lkT tt T).d ≠ .other \/ (lkT tt T).size ≠ 0 \/ (lkT tt T).zero ≠ .any -> TIok P T (lkT tt T)
 | [], _, T, h => by simp [lkT] at h
 | (T', ti) :: r, hb, T, h => by
   simp only [ttB] at hb
   split at hb
   case h_2 => cases hb
   rename_i e1 e2
   simp only [lkT] at h ⊢
   cases hT : Nat.beq T' T with
   | true =>
     obtain rfl := Nat.eq_of_beq_eq_true hT
     exact zxf e1 e2
   | false => simp only [hT] at h; exact zsj hb T h
theorem zuv {P : Program} {tt : List (Nat × TI)} {gl : List (Nat × SV)} {ld : List Nat} {idl : List Nat} (h : ttB P tt = true) (m : P.follows .mixedOrders = true) (hi : ∀ f, qB f idl = true -> qN P f /\ ∀ (w : World) (u : Value), Calls P f #[u] w fun e w' => e = .returned u /\ Below w.heap.size w w') : EnvOK ⟨P, tt, gl, ld, idl, [], []⟩ := ⟨zsj h, m, hi, fun _ _ _ h => (by cases h)⟩
def uY (N : Nat) : List Oper -> Bool
 | [] => true
 | o :: r => match o.dst with
   | none => uY N r
   | some d => match Nat.blt d N with | true => uY N r | false => false
theorem js {N : Nat} : ∀ {l : List Oper}, uY N l = true -> ∀ o ∈ l, ∀ d, o.dst = some d -> d < N
 | [], _, o, ho => by cases ho
 | o' :: r, h, o, ho => by
   simp only [uY] at h
   intro d hd
   rcases List.mem_cons.1 ho with rfl | ho
   . rw [hd] at h
     simp only at h
     split at h
     . rename_i e; rw [Nat.blt_eq] at e; exact e
     . cases h
   . split at h
     . exact js h o ho d hd
     . split at h
       . exact js h o ho d hd
       . cases h
open Go.RowKit (Below)
theorem uc {xs : List SV} {i : Int} {K : SV -> Prop} (h : wm xs i K) : ∃ s, K s /\ ∀ K', K' s -> wm xs i K' := by
 grind [wm]
theorem zho {xs : List UInt8} {i : Int} {K : UInt8 -> Prop} (h : xa xs i K) : ∃ s, K s /\ ∀ K', K' s -> xa xs i K' := by
 grind [xa]
theorem wO {q : IntKind} {e : Int} {K : Int -> Prop} (h : qY q e K) : ∃ r, K r /\ ∀ K', K' r -> qY q e K' := by
 grind [qY]
theorem qk {p : Prop} {K : Prop} (h : zO p K) : p /\ K := by unfold zO at h; exact h
theorem znu {E : Env} {f : FuncId} {args : List SV} {K : SV -> Prop} (h : jw E f args K) : ∃ r, K r /\ ∀ K', K' r -> jw E f args K' := by
 grind [jw]
theorem wl : ∀ {p : List Step} {v : SV} {K : SV -> Prop}, nav v p K -> ∃ s, K s /\ ∀ K', K' s -> nav v p K'
 | [], v, K, h => by
   simp only [nav, zp] at h ⊢
   exact ⟨v, h, fun K' k => k⟩
 | .fld i off :: p, v, K, h => by
   simp only [nav] at h
   split at h
   case h_2 => cases h
   rename_i fs
   split at h
   case h_2 => cases h
   rename_i e1
   split at h
   case h_2 => cases h
   rename_i s e2
   obtain ⟨r, k, g⟩ := wl h
   exact ⟨r, k, fun K' k' => by simp only [nav, e1, e2]; exact g K' k'⟩
 | .idx i sz :: p, v, K, h => by
   simp only [nav] at h
   split at h
   case h_2 => cases h
   rename_i n sz' xs
   split at h
   case h_2 => cases h
   rename_i e1
   obtain ⟨s, k1, g1⟩ := uc h
   obtain ⟨r, k, g⟩ := wl k1
   exact ⟨r, k, fun K' k' => by simp only [nav, e1]; exact g1 _ (g K' k')⟩
theorem xc {x : SV} : ∀ {p : List Step} {v : SV} {K : SV -> Prop}, upd v x p K -> ∃ s, K s /\ ∀ K', K' s -> upd v x p K'
 | [], v, K, h => by
   simp only [upd] at h
   split at h
   case h_2 => cases h
   rename_i e1
   rw [zp] at h
   exact ⟨x, h, fun K' k => by simp only [upd, e1, zp]; exact k⟩
 | .fld i off :: p, v, K, h => by
   simp only [upd] at h
   split at h
   case h_2 => cases h
   rename_i fs
   split at h
   case h_2 => cases h
   rename_i e1
   split at h
   case h_2 => cases h
   rename_i s e2
   obtain ⟨r, k, g⟩ := xc h
   rw [qf] at k
   exact ⟨_, k, fun K' k' => by simp only [upd, e1, e2]; exact g _ (by rw [qf]; exact k')⟩
 | .idx i sz :: p, v, K, h => by
   simp only [upd] at h
   split at h
   case h_2 => cases h
   rename_i n sz' xs
   split at h
   case h_2 => cases h
   rename_i e1
   obtain ⟨s, k1, g1⟩ := uc h
   obtain ⟨r, k, g⟩ := xc k1
   exact ⟨_, k, fun K' k' => by simp only [upd, e1]; exact g1 _ (g _ k')⟩
theorem zI {v : SV} {K : SV -> Prop} (h : wU v K) : K v /\ ∀ K', K' v -> wU v K' := by
 cases v <;> first | exact h.elim | exact ⟨h, fun _ k => k⟩
mutual
theorem wQ {h : Heap} : ∀ {d : Nat} {v : SV} {ns : List Nat} {K : SV -> List Nat -> Prop}, frz h d v ns K -> ∃ v' ns', K v' ns' /\ ∀ K', K' v' ns' -> frz h d v ns K'
 | 0, _, _, _, hk => by simp only [frz] at hk
 | d + 1, v, ns, K, hk => by
   simp only [frz] at hk
   split at hk
   . rename_i b p
     split at hk
     case h_2 => cases hk
     rename_i own u e1
     obtain ⟨s, k1, g1⟩ := wl hk
     obtain ⟨v', ns', k2, g2⟩ := wQ k1
     exact ⟨_, _, k2, fun K' k' => by simp only [frz, e1]; exact g1 _ (g2 _ k')⟩
   . rename_i b sz
     split at hk
     case h_2 => cases hk
     rename_i own sz' xs e1
     split at hk
     case h_2 => cases hk
     rename_i e2
     exact ⟨_, _, hk, fun K' k' => by simp only [frz, e1, e2]; exact k'⟩
   . obtain ⟨v', ns', k2, g2⟩ := qL hk
     exact ⟨_, _, k2, fun K' k' => by simp only [frz]; exact g2 _ k'⟩
   . obtain ⟨v', ns', k2, g2⟩ := qL hk
     exact ⟨_, _, k2, fun K' k' => by simp only [frz]; exact g2 _ k'⟩
   . obtain ⟨v', ns', k2, g2⟩ := qL hk
     exact ⟨_, _, k2, fun K' k' => by simp only [frz]; exact g2 _ k'⟩
   . obtain ⟨v', ns', k2, g2⟩ := qL hk
     exact ⟨_, _, k2, fun K' k' => by simp only [frz]; exact g2 _ k'⟩
   . cases hk
   . cases hk
   . cases hk
   . rename_i h1 h2 h3 h4 h5 h5b h6 h7 h8
     rw [zp] at hk
     refine ⟨v, ns, hk, fun K' k' => ?_⟩
     cases v <;> first | (simp only [frz]; exact k') | exact absurd rfl (h1 _ _) | exact absurd rfl (h2 _ _) | exact absurd rfl (h3 _) | exact absurd rfl (h4 _) | exact absurd rfl (h5 _ _) | exact absurd rfl (h5b _ _) | exact absurd rfl (h6 _) | exact absurd rfl (h7 _) | exact absurd rfl (h8 _ _ _)
theorem qL {h : Heap} : ∀ {d : Nat} {l : List SV} {ns : List Nat} {K : List SV -> List Nat -> Prop}, qD h d l ns K -> ∃ l' ns', K l' ns' /\ ∀ K', K' l' ns' -> qD h d l ns K'
 | 0, _, _, _, hk => by simp only [qD] at hk
 | d + 1, [], ns, K, hk => by
   simp only [qD] at hk
   exact ⟨_, _, hk, fun K' k' => by simp only [qD]; exact k'⟩
 | d + 1, v :: r, ns, K, hk => by
   simp only [qD] at hk
   obtain ⟨v', ns', k1, g1⟩ := wQ hk
   obtain ⟨l', ns2, k2, g2⟩ := qL k1
   exact ⟨_, _, k2, fun K' k' => by simp only [qD]; exact g1 _ (g2 _ k')⟩
end
theorem zoe {E : Env} {op : BinOp} {T : TypeId} {x y : SV} {K : SV -> Prop} (h : jg E op T x y K) : ∃ v, K v /\ ∀ K', K' v -> jg E op T x y K' := by
 unfold jg at h
 split at h <;> first
  | cases h
  | (split at h
     case h_2 => cases h
     rename_i e1
     first
      | (obtain ⟨r, k, g⟩ := wO h; exact ⟨_, k, fun K' k' => by simp only [jg, e1]; exact g _ k'⟩)
      | (obtain ⟨p, h⟩ := qk h; obtain ⟨r, k, g⟩ := wO h; exact ⟨_, k, fun K' k' => by simp only [jg, e1]; exact qh p (g _ k')⟩)
      | (obtain ⟨p, h⟩ := qk h; exact ⟨_, h, fun K' k' => by simp only [jg, e1]; exact qh p k'⟩)
      | exact ⟨_, h, fun K' k' => by simp only [jg, e1]; exact k'⟩)
  | (obtain ⟨p, h⟩ := qk h; obtain ⟨r, k, g⟩ := wO h; exact ⟨_, k, fun K' k' => by simp only [jg]; exact qh p (g _ k')⟩)
  | (obtain ⟨p, h⟩ := qk h; exact ⟨_, h, fun K' k' => by simp only [jg]; exact qh p k'⟩)
  | (split at h
     . grind
     . exact h.elim)
theorem yj {E : Env} {sl : Slots} {lo hi : Option Operand} {n : Nat} {K : Int -> Int -> Prop} (h : yu E sl lo hi n K) : ∃ l r, K l r /\ ∀ K', K' l r -> yu E sl lo hi n K' := by
 unfold yu at h
 split at h
 . split at h
   . grind [yu]
   . split at h
     . rename_i e; obtain ⟨p, h⟩ := qk h; exact ⟨_, _, h, fun K' k => by simp only [yu, e]; exact qh p k⟩
     . cases h
 . split at h
   . rename_i e1
     split at h
     . obtain ⟨p, h⟩ := qk h; exact ⟨_, _, h, fun K' k => by simp only [yu, e1]; exact qh p k⟩
     . split at h
       . rename_i e; obtain ⟨p, h⟩ := qk h; exact ⟨_, _, h, fun K' k => by simp only [yu, e1, e]; exact qh p k⟩
       . cases h
   . cases h
theorem zhb {h : Heap} {v : SV} {K : Option (Nat × List SV) -> Prop} (hk : xh h v K) : ∃ o, K o /\ ∀ K', K' o -> xh h v K' := by
 unfold xh at hk
 grind [xh]
theorem yD {E : Env} {sl : Slots} : ∀ {l : List (Nat × Operand)} {vs : List SV} {K : List SV -> Prop}, wd E sl l vs K -> ∃ r, K r /\ ∀ K', K' r -> wd E sl l vs K'
 | [], vs, K, h => by
   simp only [wd, qf] at h ⊢
   exact ⟨_, h, fun K' k => k⟩
 | (i, x) :: r, vs, K, h => by
   simp only [wd] at h
   split at h
   case h_2 => cases h
   rename_i z e1
   obtain ⟨k1, g1⟩ := zI h
   split at k1
   case h_2 => cases k1
   rename_i e2
   obtain ⟨s, k2, g2⟩ := yD k1
   exact ⟨_, k2, fun K' k' => by simp only [wd, e1]; exact g1 _ (by simp only [e2]; exact g2 _ k')⟩
theorem ua {E : Env} {sl : Slots} {sz : Nat} : ∀ {l : List (Nat × Operand)} {K : List SV -> Prop}, wt E sl sz l K -> ∃ r, K r /\ ∀ K', K' r -> wt E sl sz l K'
 | [], K, h => by
   simp only [wt] at h ⊢
   exact ⟨_, h, fun K' k => k⟩
 | (i, x) :: r, K, h => by
   simp only [wt] at h
   obtain ⟨k1, g1⟩ := zI h
   split at k1
   case h_2 => cases k1
   rename_i e2
   obtain ⟨s, k2, g2⟩ := ua k1
   exact ⟨_, k2, fun K' k' => by simp only [wt]; exact g1 _ (by simp only [e2]; exact g2 _ k')⟩
theorem zr4 {h : Heap} {b : Nat} {v : SV} {p : List Step} {u : SV} {K : KE} (hk : wP h b v p u K) : ∃ v' ns ea, K v' ns ea /\ ∀ K', K' v' ns ea -> wP h b v p u K' := by
 unfold wP at hk
 split at hk
 . rename_i e1
   obtain ⟨s, k, g⟩ := xc hk
   grind [wP]
 . rename_i e1
   obtain ⟨u', ns, k1, g1⟩ := wQ hk
   split at k1
   case h_2 => cases k1
   rename_i e2
   obtain ⟨s, k, g⟩ := xc k1
   grind [wP]
theorem zte {h : Heap} {b sz : Nat} {xs : List SV} {p : List Step} {u : SV} {K : KE} (hk : wZ h b sz xs p u K) : ∃ v' ns ea, K v' ns ea /\ ∀ K', K' v' ns ea -> wZ h b sz xs p u K' := by
 unfold wZ at hk
 obtain ⟨u', ns, k1, g1⟩ := wQ hk
 split at k1
 case h_2 => cases k1
 rename_i e1 e2
 split at k1
 case h_2 => cases k1
 rename_i e3
 obtain ⟨s, k2, g2⟩ := uc k1
 obtain ⟨s2, k3, g3⟩ := xc k2
 grind [wZ]
open Go.RowKit (Below)
def OpR (E : Env) (sl : Slots) (h : Heap) (n : Nat) (o : Op) (v : SV) (ns : List Nat) (ea : EA) : Prop := ∀ K : KE, K v ns ea -> opE E sl h n o K
def shp (d : TD) (b : Bool) (p : Prop) : Prop :=
 match d, b with
 | .other, _ => False
 | .strct _, true | .arr .., true => p
 | .strct _, false | .arr .., false => False
 | _, false => p
 | _, true => False
theorem jt {d : TD} {b : Bool} {p : Prop} (h : shp d b p) : p /\ ∀ q : Prop, q -> shp d b q := by
 cases d <;> cases b <;> first | exact h.elim | exact ⟨h, fun _ k => k⟩
section
variable {E : Env} {sl : Slots} {h : Heap} {n : Nat} {K : KE}
theorem zn {v : SV} {ns : List Nat} {ea : EA} {o : Op} (k : K v ns ea) (g : ∀ K : KE, K v ns ea -> opE E sl h n o K) : ∃ v ns ea, K v ns ea /\ OpR E sl h n o v ns ea := ⟨v, ns, ea, k, g⟩
theorem zkj {v u : SV} {A B : Prop} (h : xJ v u A B) : (A /\ ∀ A' B' : Prop, A' -> xJ v u A' B') \/ (B /\ ∀ A' B' : Prop, B' -> xJ v u A' B') := by
 unfold xJ at h ⊢
 split at h
 . split at h
   . exact .inl ⟨h, fun _ _ h => h⟩
   . rename_i e; exact .inr ⟨h, fun _ _ h => by first | exact h | (split <;> first | exact h | exact absurd rfl e)⟩
 . rename_i e; exact .inr ⟨h, fun _ _ h => by first | exact h | (split <;> first | exact h | exact absurd rfl e)⟩
theorem uJ {tt : List (Nat × TI)} {kT : TypeId} {k : SV} {Kno : Prop} {Kyes : Nat -> SV -> Prop} : ∀ {es : List (SV × SV)} {i : Nat}, wa tt kT k Kno False Kyes es i -> (Kno /\ ∀ (Kno' : Prop) (Kyes' : Nat -> SV -> Prop), Kno' -> wa tt kT k Kno' False Kyes' es i) \/ ∃ j v, Kyes j v /\ ∀ (Kno' : Prop) (Kyes' : Nat -> SV -> Prop), Kyes' j v -> wa tt kT k Kno' False Kyes' es i
 | [], i, h => .inl ⟨h, fun _ _ h => h⟩
 | p :: r, i, h => by
   simp only [wa] at h
   split at h
   . rename_i e
     exact .inr ⟨i, p.2, h, fun _ _ h => by simp only [wa, e]; exact h⟩
   . rename_i e
     simp only [wa, e]
     exact uJ h
   . cases h
theorem yP {o : Op} (hk : opE E sl h n o K) : ∃ v ns ea, K v ns ea /\ OpR E sl h n o v ns ea := by
 cases o with
 | move x => simp only [opE, zp] at hk; exact zn hk fun K' k => by simp only [opE, zp]; exact k
 | assign x => simp only [opE, zp] at hk; exact zn hk fun K' k => by simp only [opE, zp]; exact k
 | pick c a b =>
   simp only [opE, zp] at hk
   split at hk
   . rename_i e; exact zn hk fun K' k => by simp only [opE, zp, e]; exact k
   . rename_i e; exact zn hk fun K' k => by simp only [opE, zp, e]; exact k
   . cases hk
 | alloc T =>
   simp only [opE] at hk
   obtain ⟨k, g⟩ := zI hk
   exact zn k fun K' k => by simp only [opE]; exact g _ k
 | box T x =>
   simp only [opE] at hk
   obtain ⟨k, g⟩ := zI hk
   exact zn k fun K' k => by simp only [opE]; exact g _ k
 | build T ps =>
   simp only [opE] at hk
   split at hk
   . rename_i e1 e2
     split at hk
     case h_2 => cases hk
     rename_i e3
     obtain ⟨r, k, g⟩ := yD hk
     exact zn k fun K' k => by simp only [opE, e1, e2, e3]; exact g _ k
   . rename_i e1 e2
     split at hk
     case h_2 => cases hk
     rename_i e3 e4
     obtain ⟨r, k, g⟩ := yD hk
     obtain ⟨l', ns', k2, g2⟩ := qL k
     exact zn k2 fun K' k => by simp only [opE, e1, e2, e3, e4]; exact g _ (g2 _ k)
   . cases hk
 | buildSlice T len ps =>
   simp only [opE] at hk
   split at hk
   case h_2 => cases hk
   rename_i e0
   split at hk
   . cases hk
   . rename_i e1 e2 e3 e4
     obtain ⟨r, k, g⟩ := ua hk
     obtain ⟨l', ns', k2, g2⟩ := qL k
     exact zn k2 fun K' k => by simp only [opE, e0, e1, e2, e3]; exact g _ (g2 _ k)
   . rename_i e1 e2 e3 e4
     obtain ⟨k, g0⟩ := zI hk
     split at k
     case h_2 => cases k
     rename_i e5
     obtain ⟨r, k, g⟩ := yD k
     obtain ⟨l', ns', k2, g2⟩ := qL k
     exact zn k2 fun K' k => by simp only [opE, e0, e1, e2, e3]; exact g0 _ (by simp only [e5]; exact g _ (g2 _ k))
   . cases hk
 | nilCheck x =>
   simp only [opE] at hk
   split at hk <;> first | exact hk.elim | (rename_i e; exact zn hk fun K' k => by simp only [opE, e]; exact k)
 | fieldAddr T x f =>
   simp only [opE] at hk
   split at hk
   case h_2 => cases hk
   rename_i e1
   split at hk
   case h_2 => cases hk
   rename_i e2
   split at hk
   case h_2 => cases hk
   rename_i e3
   split at hk
   . rename_i e4; exact zn hk fun K' k => by simp only [opE, e1, e2, e3, e4]; exact k
   . rename_i e4
     obtain ⟨s, k, g⟩ := wl hk
     exact zn k fun K' k => by simp only [opE, e1, e2, e3, e4]; exact g _ k
   . cases hk
 | field T x f =>
   simp only [opE] at hk
   split at hk
   case h_2 => cases hk
   rename_i e1
   split at hk
   case h_2 => cases hk
   rename_i e2
   obtain ⟨s, k, g⟩ := wl hk
   split at k
   case h_2 => cases k
   rename_i e3
   obtain ⟨k, g'⟩ := jt (p := K s [] .nil) k
   exact zn k fun K' k => by simp only [opE, e1, e2]; exact g _ (by simp only [e3]; exact g' _ k)
 | load T x =>
   simp only [opE] at hk
   split at hk
   . rename_i e1
     split at hk
     . rename_i e2
       obtain ⟨s, k, g⟩ := wl hk
       split at k
       case h_2 => cases k
       rename_i e3
       obtain ⟨k, g'⟩ := jt (p := K s [] .nil) k
       exact zn k fun K' k => by simp only [opE, e1, e2]; exact g _ (by simp only [e3]; exact g' _ k)
     . rename_i e2
       split at hk
       . cases hk
       . obtain ⟨s, k, g⟩ := wl hk
         split at k
         case h_2 => cases k
         rename_i e3
         obtain ⟨k, g'⟩ := jt (p := K s [] .nil) k
         exact zn k fun K' k => by simp only [opE, e1, e2]; exact g _ (by simp only [e3]; exact g' _ k)
     . cases hk
   . rename_i e1
     rw [zp] at hk
     split at hk
     case h_2 => cases hk
     rename_i e3
     obtain ⟨k, g'⟩ := jt (p := K _ [] .nil) hk
     exact zn k fun K' k => by simp only [opE, e1, zp]; (simp only [e3]); exact g' _ k
   . cases hk
 | store T x y =>
   simp only [opE] at hk
   split at hk
   case h_2 => cases hk
   rename_i e1 e2
   split at hk
   . rename_i e3
     obtain ⟨k, g⟩ := zI hk
     split at k
     case h_2 => cases k
     rename_i e4
     obtain ⟨v', ns', ea', k2, g2⟩ := zr4 k
     exact zn k2 fun K' k => by simp only [opE, e1, e2, e3]; exact g _ (by simp only [e4]; exact g2 _ k)
   . rename_i e3
     obtain ⟨k, g⟩ := zI hk
     split at k
     case h_2 => cases k
     rename_i e4
     obtain ⟨v', ns', ea', k2, g2⟩ := zte k
     exact zn k2 fun K' k => by simp only [opE, e1, e2, e3]; exact g _ (by simp only [e4]; exact g2 _ k)
   . cases hk
 | indexAddr T x i =>
   simp only [opE] at hk
   split at hk
   case h_2 => cases hk
   rename_i e1
   split at hk
   . rename_i e2
     split at hk
     . rename_i e3
       split at hk
       case h_2 => cases hk
       rename_i e4 e5
       obtain ⟨s, k, g⟩ := uc hk
       exact zn k fun K' k => by simp only [opE, e1, e2, e3, e4, e5]; exact g _ k
     . rename_i e3
       split at hk
       case h_2 => cases hk
       rename_i e4 e5
       obtain ⟨p, k⟩ := qk hk
       exact zn k fun K' k => by simp only [opE, e1, e2, e3, e4, e5]; exact qh p k
     . cases hk
   . rename_i e2
     split at hk
     . rename_i e3 e4
       obtain ⟨p, k⟩ := qk hk
       exact zn k fun K' k => by simp only [opE, e1, e2, e3, e4]; exact qh p k
     . rename_i e3 e4
       obtain ⟨p, k⟩ := qk hk
       obtain ⟨s, k2, g⟩ := wl k
       exact zn k2 fun K' k => by simp only [opE, e1, e2, e3, e4]; exact qh p (g _ k)
     . cases hk
   . cases hk
 | index T x i =>
   simp only [opE] at hk
   split at hk
   . rename_i e1 e2 e3
     obtain ⟨s, k, g⟩ := zho hk
     exact zn k fun K' k => by simp only [opE, e1, e2, e3]; exact g _ k
   . rename_i e1 e2 e3
     split at hk
     case h_2 => cases hk
     rename_i e4
     obtain ⟨s, k, g⟩ := uc hk
     split at k
     case h_2 => cases k
     rename_i e5
     obtain ⟨k, g'⟩ := jt (p := K s [] .nil) k
     exact zn k fun K' k => by simp only [opE, e1, e2, e3, e4]; exact g _ (by simp only [e5]; exact g' _ k)
   . cases hk
 | binOp op T x y T' =>
   simp only [opE] at hk
   obtain ⟨s, k, g⟩ := zoe hk
   exact zn k fun K' k => by simp only [opE]; exact g _ k
 | unOp op T x =>
   cases op with
   | not =>
     simp only [opE] at hk
     split at hk <;> first | exact hk.elim | (rename_i e; exact zn hk fun K' k => by simp only [opE, e]; exact k)
   | neg =>
     simp only [opE] at hk
     split at hk
     case h_2 => cases hk
     rename_i e
     obtain ⟨s, k, g⟩ := wO hk
     exact zn k fun K' k => by simp only [opE, e]; exact g _ k
   | _ => cases hk
 | convert S T x =>
   simp only [opE] at hk
   cases eS : (lkT E.tt S).d <;> simp only [eS] at hk <;> first | exact hk.elim | skip
   all_goals
    split at hk
    . cases hk
    . rename_i e0 e1 _
      obtain ⟨s, k, g⟩ := wO hk
      exact zn k fun K' k => by simp only [opE, eS, e0, e1]; exact g _ k
    . rename_i e0 e1 _
      exact zn hk fun K' k => by simp only [opE, eS, e0, e1]; exact k
    . rename_i e0 e1 _
      exact zn hk fun K' k => by simp only [opE, eS, e0, e1]; exact k
    . cases hk
 | extract x i =>
   simp only [opE] at hk
   split at hk
   case h_2 => cases hk
   rename_i e1
   split at hk
   case h_2 => cases hk
   rename_i e2
   rw [zp] at hk
   exact zn hk fun K' k => by simp only [opE, e1, e2, zp]; exact k
 | makeFunc f fst caps =>
   cases f with
   | func f =>
     simp only [opE, qf] at hk
     split at hk
     case h_2 => cases hk
     rename_i e1
     split at hk
     case h_2 => cases hk
     rename_i e2
     exact zn hk fun K' k => by simp only [opE, qf, e1, e2]; exact k
   | _ => cases hk
 | slice T x lo hi mx =>
   simp only [opE] at hk
   split at hk
   . cases hk
   split at hk
   . rename_i e1
     split at hk
     case h_2 => cases hk
     rename_i e2
     obtain ⟨l, r, k, g⟩ := yj hk
     exact zn k fun K' k => by simp only [opE, e1, e2]; exact g _ k
   . rename_i e1
     split at hk
     case h_2 => cases hk
     rename_i e2
     split at hk
     case h_2 => cases hk
     rename_i e3
     obtain ⟨l, r, k, g⟩ := yj hk
     exact zn k fun K' k => by simp only [opE, e1, e2, e3]; exact g _ k
   . rename_i e1
     split at hk
     case h_2 => cases hk
     rename_i e2
     split at hk
     case h_2 => cases hk
     rename_i e3
     split at hk
     case h_2 => cases hk
     rename_i e4
     obtain ⟨l, r, k, g⟩ := yj hk
     exact zn k fun K' k => by simp only [opE, e1, e2, e3, e4]; exact g _ k
   . rename_i q1 q2 q3
     split at hk
     case h_2 => cases hk
     rename_i e2
     obtain ⟨u, ns, k1, g1⟩ := wQ hk
     split at k1
     case h_2 => cases k1
     split at k1
     case h_2 => cases k1
     rename_i e3
     obtain ⟨l, r, k, g⟩ := yj k1
     refine zn k fun K' k => ?_
     simp only [opE]
     generalize hx : ev E sl x = xv at q1 q2 q3 g1
     cases xv <;> first | exact (q1 _ rfl).elim | exact (q2 _ _ rfl).elim | exact (q3 _ _ rfl).elim | (simp only [e2]; exact g1 _ (by simp only [e3]; exact g _ k))
 | makeMap T r =>
   cases r with
   | some r => simp only [opE] at hk
   | none => simp only [opE] at hk; exact zn hk fun K' k => by simp only [opE]; exact k
 | lookup T x y b =>
   simp only [opE] at hk
   split at hk
   case h_2 => cases hk
   rename_i e1 e2
   split at hk
   case h_2 => cases hk
   rename_i e3
   obtain ⟨k, g0⟩ := zI hk
   split at k
   case h_2 => cases k
   rename_i e4
   rcases uJ k with ⟨k2, g2⟩ | ⟨j, v, k2, g2⟩
   . obtain ⟨k3, g3⟩ := zI k2
     cases b <;> exact zn k3 fun K' k => by simp only [opE, e1, e2, e3]; exact g0 _ (by simp only [e4]; exact g2 _ _ (g3 _ k))
   . cases b <;> exact zn k2 fun K' k => by simp only [opE, e1, e2, e3]; exact g0 _ (by simp only [e4]; exact g2 _ _ k)
 | mapUpdate T x y z =>
   simp only [opE] at hk
   split at hk
   case h_2 => cases hk
   rename_i e1 e2
   split at hk
   case h_2 => cases hk
   rename_i e3
   obtain ⟨k, g0⟩ := zI hk
   obtain ⟨k, g1⟩ := zI k
   split at k
   case h_2 => cases k
   rename_i e4 e5
   rcases uJ k with ⟨k2, g2⟩ | ⟨j, v, k2, g2⟩
   . exact zn k2 fun K' k => by simp only [opE, e1, e2, e3]; exact g0 _ (g1 _ (by simp only [e4, e5]; exact g2 _ _ k))
   . rcases zkj k2 with ⟨k3, g3⟩ | ⟨k3, g3⟩ <;> exact zn k3 fun K' k => by simp only [opE, e1, e2, e3]; exact g0 _ (g1 _ (by simp only [e4, e5]; exact g2 _ _ (g3 _ _ k)))
 | makeSlice T x y =>
   simp only [opE] at hk
   split at hk
   case h_2 => cases hk
   rename_i e1 e2 e3
   obtain ⟨k, g⟩ := zI hk
   split at k
   case h_2 => cases k
   rename_i e4 e5
   obtain ⟨p, k⟩ := qk k
   exact zn k fun K' k => by simp only [opE, e1, e2, e3]; exact g _ (by simp only [e4, e5]; exact qh p k)
 | call cl =>
   simp only [opE] at hk
   split at hk
   . rename_i e0
     split at hk
     case h_2 => cases hk
     rename_i e1 e2
     split at hk
     . rename_i e3 e4; exact zn hk fun K' k => by simp only [opE, e0, e1, e2, e3, e4]; exact k
     . rename_i e3 e4; exact zn hk fun K' k => by simp only [opE, e0, e1, e2, e3, e4]; exact k
     . rename_i e3 e4; exact zn hk fun K' k => by simp only [opE, e0, e1, e2, e3, e4]; exact k
     . rename_i e3 e4; exact zn hk fun K' k => by simp only [opE, e0, e1, e2, e3, e4]; exact k
     . rename_i e3 e4
       split at hk
       case h_2 => cases hk
       rename_i e5
       exact zn hk fun K' k => by simp only [opE, e0, e1, e2, e3, e4, e5]; exact k
     . cases hk
   . rename_i e0
     split at hk
     case h_2 => cases hk
     rename_i e1 e2
     split at hk
     case h_2 => cases hk
     rename_i e3
     obtain ⟨o, k, g⟩ := zhb hk
     split at k
     . split at k
       case h_2 => cases k
       rename_i e4 e5 e6 e7
       split at k
       . rename_i e8
         split at k
         case h_2 => cases k
         rename_i e9
         split at k
         case h_2 => cases k
         rename_i e10
         obtain ⟨p, k⟩ := qk k
         exact zn k fun K' k => by simp only [opE, e0, e1, e2, e3]; exact g _ (by simp only [e4, e5, e6, e7, e8, e9, e10]; exact qh p k)
       . rename_i e8
         obtain ⟨p, k⟩ := qk k
         exact zn k fun K' k => by simp only [opE, e0, e1, e2, e3]; exact g _ (by simp only [e4, e5, e6, e7, e8]; exact qh p k)
       . rename_i e8
         obtain ⟨p, k⟩ := qk k
         exact zn k fun K' k => by simp only [opE, e0, e1, e2, e3]; exact g _ (by simp only [e4, e5, e6, e7, e8]; exact qh p k)
       . cases k
     . split at k
       . rename_i e4 e5
         split at k
         case h_2 => cases k
         rename_i e6
         exact zn k fun K' k => by simp only [opE, e0, e1, e2, e3]; exact g _ (by simp only [e4, e5, e6]; exact k)
       . rename_i e4 e5
         exact zn k fun K' k => by simp only [opE, e0, e1, e2, e3]; exact g _ (by simp only [e4, e5]; exact k)
       . rename_i e4 e5
         exact zn k fun K' k => by simp only [opE, e0, e1, e2, e3]; exact g _ (by simp only [e4, e5]; exact k)
       . rename_i e4 e5
         exact zn k fun K' k => by simp only [opE, e0, e1, e2, e3]; exact g _ (by simp only [e4, e5]; exact k)
       . cases k
   . rename_i e0
     split at hk
     case h_2 => cases hk
     rename_i e1
     split at hk
     case h_2 => cases hk
     rename_i e2 e3
     split at hk
     case h_2 => cases hk
     rename_i e4
     exact zn hk fun K' k => by simp only [opE, e0, e1, e2, e3, e4]; exact k
   . rename_i e0
     split at hk
     case h_2 => cases hk
     rename_i e1
     split at hk
     case h_2 => cases hk
     rename_i e2 e3
     split at hk
     case h_2 => cases hk
     rename_i e4
     exact zn hk fun K' k => by simp only [opE, e0, e1, e2, e3, e4]; exact k
   . rename_i e0
     split at hk
     case h_2 => cases hk
     rename_i e1
     split at hk
     . rename_i ei
       split at hk
       case h_2 => cases hk
       rename_i e2
       obtain ⟨k, g⟩ := zI hk
       exact zn k fun K' k => by simp only [opE, e0, e1, ei, e2]; exact g _ k
     rename_i ei
     rw [qf] at hk
     split at hk
     case h_2 => cases hk
     rename_i e2
     obtain ⟨l1, ns1, k1, g1⟩ := qL hk
     obtain ⟨l2, ns2, k2, g2⟩ := qL k1
     obtain ⟨r, k3, g3⟩ := znu k2
     rw [zp] at k3
     split at k3
     . exact zn k3 fun K' k => by simp only [opE, e0, e1, ei, qf, e2]; exact g1 _ (g2 _ (g3 _ (by rw [zp]; exact k)))
     . split at k3
       . rename_i hne _ e4
         refine zn k3 fun K' k => ?_
         simp only [opE, e0, e1, ei, qf, e2]
         refine g1 _ (g2 _ (g3 _ ?_))
         rw [zp]
         split
         . first | exact (hne rfl).elim | (rename_i h0; exact (hne h0).elim)
         . simp only [e4]; exact k
       . rename_i hne _ e4
         refine zn k3 fun K' k => ?_
         simp only [opE, e0, e1, ei, qf, e2]
         refine g1 _ (g2 _ (g3 _ ?_))
         rw [zp]
         split
         . first | exact (hne rfl).elim | (rename_i h0; exact (hne h0).elim)
         . simp only [e4]; exact k
   . cases hk
 | _ => cases hk
end
open Go.RowKit (Below)
theorem uH {p : Nat -> Prop} : ∀ {l : List SV} {i : Nat} {s : SV}, qr p l -> l[i]? = some s -> s.nmd p
 | v :: r, 0, s, h, e => by simp only [List.getElem?_cons_zero, Option.some.injEq] at e; subst e; exact h.1
 | v :: r, i + 1, s, h, e => uH h.2 (by simpa using e)
 | [], _, _, _, e => by simp at e
theorem zb7 {p : Nat -> Prop} {α : Type} {f : α -> SV} : ∀ {l : List α}, (∀ x ∈ l, (f x).nmd p) -> qr p (l.map f)
 | [], _ => trivial
 | x :: r, h => ⟨h x (by simp), zb7 fun y hy => h y (by simp [hy])⟩
mutual
theorem wE {p q : Nat -> Prop} (h : ∀ b, p b -> q b) : ∀ v : SV, v.nmd p -> v.nmd q
 | .ptr b _, k => h b k
 | .osl b _, k => h b k
 | .yld b, k => h b k
 | .mpr b, k => h b k
 | .vsl b _ _, k => h b k
 | .agg fs, k => wX h fs k
 | .arr _ _ fs, k => wX h fs k
 | .sl _ fs, k => wX h fs k
 | .iptr t, k => wE h t k
 | .tup fs, k => wX h fs k
 | .fn _ fs, k => wX h fs k
 | .ifc _ fs, k => wX h fs k
 | .any, _ | .int .., _ | .bool _, _ | .tru, _ | .fls, _ | .str _, _ | .mt, _ | .nils, _ | .nilf, _ | .nilp, _ | .nili, _ => trivial
theorem wX {p q : Nat -> Prop} (h : ∀ b, p b -> q b) : ∀ l : List SV, qr p l -> qr q l
 | [], _ => trivial
 | v :: r, k => ⟨wE h v k.1, wX h r k.2⟩
end
section
variable {w : World} {X : Nat -> Prop}
mutual
theorem jI : ∀ (v : SV) (β : Beta) (cs : List Value), zb w X v β cs -> v.nmd fun b => β b ≠ none
 | .ptr b _, β, cs, h => by simp only [zb] at h; obtain ⟨l, h, _⟩ := h; show β b ≠ none; rw [h]; simp
 | .osl b _, β, cs, h => by simp only [zb] at h; obtain ⟨l, a, h, _⟩ := h; show β b ≠ none; rw [h]; simp
 | .yld b, β, cs, h => by simp only [zb] at h; obtain ⟨l, h, _⟩ := h; show β b ≠ none; rw [h]; simp
 | .mpr b, β, cs, h => by simp only [zb] at h; obtain ⟨l, h, _⟩ := h; show β b ≠ none; rw [h]; simp
 | .vsl b _ _, β, cs, h => by simp only [zb] at h; obtain ⟨l, cap, h, _⟩ := h; show β b ≠ none; rw [h]; simp
 | .agg fs, β, cs, h => by simp only [zb] at h; exact zln fs β cs h
 | .arr n sz xs, β, cs, h => by simp only [zb] at h; exact wX (fun b hb => absurd rfl hb) _ (zb8 sz xs nob cs h.2)
 | .sl sz xs, β, cs, h => by
   simp only [zb] at h
   obtain ⟨a, cap, _, _, h⟩ := h
   rcases h with rfl | ⟨b, off, ds, _, _, _, _, h⟩
   . trivial
   . exact wX (fun b hb => absurd rfl hb) _ (zb8 sz xs nob ds h)
 | .iptr t, β, cs, h => by
   simp only [zb] at h
   obtain ⟨b, off, ds, _, _, _, _, h⟩ := h
   exact wE (fun b hb => absurd rfl hb) _ (jI t nob ds h)
 | .tup _, _, _, h => by simp only [zb] at h
 | .fn _ fs, β, cs, h => by
   simp only [zb] at h
   obtain ⟨us, _, h⟩ := h
   exact zb5 fs β us.toList h
 | .ifc _ fs, β, cs, h => by
   simp only [zb] at h
   obtain ⟨u, _, h⟩ := h
   exact zb5 fs β [u] h
 | .any, _, _, _ | .int .., _, _, _ | .bool _, _, _, _ | .tru, _, _, _ | .fls, _, _, _ | .str _, _, _, _ | .mt, _, _, _ | .nils, _, _, _ | .nilf, _, _, _ | .nilp, _, _, _ | .nili, _, _, _ => trivial
theorem zln : ∀ (l : List SV) (β : Beta) (cs : List Value), qI w X l β cs -> qr (fun b => β b ≠ none) l
 | [], _, _, _ => trivial
 | v :: r, β, cs, h => by
   simp only [qI] at h
   obtain ⟨c1, c2, _, h1, h2⟩ := h
   exact ⟨jI v β c1 h1, zln r β c2 h2⟩
theorem zb8 (sz : Nat) : ∀ (l : List SV) (β : Beta) (cs : List Value), zK w X sz l β cs -> qr (fun b => β b ≠ none) l
 | [], _, _, _ => trivial
 | v :: r, β, cs, h => by
   simp only [zK] at h
   obtain ⟨c1, c2, _, _, h1, h2⟩ := h
   exact ⟨jI v β c1 h1, zb8 sz r β c2 h2⟩
theorem zb5 : ∀ (l : List SV) (β : Beta) (cs : List Value), relL w X l β cs -> qr (fun b => β b ≠ none) l
 | [], _, _, _ => trivial
 | v :: r, β, cs, h => by
   rw [relL_cons] at h
   obtain ⟨u, us', _, h1, h2⟩ := h
   refine ⟨?_, zb5 r β us' h2⟩
   have ih := fun cs => jI v β cs
   unfold qA at h1
   cases hv : v.isAgg with
   | true => simp only [hv] at h1; obtain ⟨cs, _, h1⟩ := h1; exact ih _ h1
   | false => simp only [hv] at h1; cases v <;> first | trivial | exact ih _ h1
end
theorem zd9 {v : SV} {β : Beta} {u : Value} (h : rel w X v β u) : v.nmd fun b => β b ≠ none := by
 by_cases ht : ∃ vs, v = .tup vs
 . obtain ⟨vs, rfl⟩ := ht
   obtain ⟨us, _, h⟩ := h
   exact zb5 _ _ _ h
 . rw [qe fun vs e => ht ⟨vs, e⟩] at h
   unfold qA at h
   cases hv : v.isAgg with
   | true => simp only [hv] at h; obtain ⟨cs, _, h1⟩ := h; exact jI _ _ _ h1
   | false => simp only [hv] at h; cases v <;> first | trivial | exact jI _ _ _ h
end
theorem yS {S : Nat -> Prop} : ∀ {p : List Step} {v : SV} {K : SV -> Prop}, v.nmd S -> nav v p K -> nav v p fun s => s.nmd S /\ K s
 | [], v, K, hv, h => by
   simp only [nav, zp] at h ⊢
   exact ⟨hv, h⟩
 | .fld i off :: p, v, K, hv, h => by
   simp only [nav] at h ⊢
   split at h
   case h_2 => cases h
   rename_i fs
   split at h
   case h_2 => cases h
   rename_i e1
   split at h
   case h_2 => cases h
   rename_i s e2
   exact yS (uH hv e2) h
 | .idx i sz :: p, v, K, hv, h => by
   simp only [nav] at h ⊢
   split at h
   case h_2 => cases h
   rename_i n sz' xs
   split at h
   case h_2 => cases h
   rename_i e1
   unfold wm at h ⊢
   obtain ⟨s, h0, h1, k1⟩ := h
   exact ⟨s, h0, h1, yS (uH hv h1) k1⟩
structure HS (S : Nat -> Prop) (h h' : Heap) : Prop where
 same : ∀ b, S b -> (lkB h b).map Blk.cold = (lkB h' b).map Blk.cold
 var : ∀ b, S b -> ∀ o v, lkB h b = some (.var o v) -> v.nmd S
theorem HS.var_eq {S : Nat -> Prop} {h h' : Heap} (e : HS S h h') {b : Nat} (hb : S b) {o : Bool} {v : SV} (k : lkB h b = some (.var o v)) : ∃ o', lkB h' b = some (.var o' v) := by
 have := e.same b hb
 rw [k] at this
 cases hh : lkB h' b with
 | none => rw [hh] at this; cases this
 | some k' => rw [hh] at this; cases k' <;> simp [Blk.cold, Blk.dead] at this; subst this; exact ⟨_, rfl⟩
theorem HS.row_eq {S : Nat -> Prop} {h h' : Heap} (e : HS S h h') {b : Nat} (hb : S b) {o : Bool} {s : Nat} {v : List SV} (k : lkB h b = some (.row o s v)) : ∃ o', lkB h' b = some (.row o' s v) := by
 have := e.same b hb
 rw [k] at this
 cases hh : lkB h' b with
 | none => rw [hh] at this; cases this
 | some k' => rw [hh] at this; cases k' <;> simp [Blk.cold, Blk.dead] at this; obtain ⟨rfl, rfl⟩ := this; exact ⟨_, rfl⟩
mutual
theorem uN {S : Nat -> Prop} {h h' : Heap} (e : HS S h h') : ∀ {d : Nat} {v : SV} {ns : List Nat} {K : SV -> List Nat -> Prop}, v.nmd S -> frz h d v ns K -> frz h' d v ns K
 | 0, _, _, _, _, hk => by simp only [frz] at hk
 | d + 1, v, ns, K, hv, hk => by
   simp only [frz] at hk
   split at hk
   . rename_i b p
     split at hk
     case h_2 => cases hk
     rename_i own u e1
     obtain ⟨o', e2⟩ := e.var_eq hv e1
     obtain ⟨s', ⟨q0, q1⟩, q2⟩ := wl (yS (e.var b hv _ _ e1) hk)
     simp only [frz, e2]
     exact q2 _ (uN e q0 q1)
   . rename_i b sz
     split at hk
     case h_2 => cases hk
     rename_i own sz' xs e1
     obtain ⟨o', e2⟩ := e.row_eq hv e1
     simp only [frz, e2]
     exact hk
   . simp only [frz]; exact wW e hv hk
   . simp only [frz]; exact wW e hv hk
   . simp only [frz]; exact wW e hv hk
   . simp only [frz]; exact wW e hv hk
   . cases hk
   . cases hk
   . cases hk
   . rename_i h1 h2 h3 h4 h5 h5b h6 h7 h8
     rw [zp] at hk
     cases v <;> first | (simp only [frz]; exact hk) | exact absurd rfl (h1 _ _) | exact absurd rfl (h2 _ _) | exact absurd rfl (h3 _) | exact absurd rfl (h4 _) | exact absurd rfl (h5 _ _) | exact absurd rfl (h5b _ _) | exact absurd rfl (h6 _) | exact absurd rfl (h7 _) | exact absurd rfl (h8 _ _ _)
theorem wW {S : Nat -> Prop} {h h' : Heap} (e : HS S h h') : ∀ {d : Nat} {l : List SV} {ns : List Nat} {K : List SV -> List Nat -> Prop}, qr S l -> qD h d l ns K -> qD h' d l ns K
 | 0, _, _, _, _, hk => by simp only [qD] at hk
 | d + 1, [], ns, K, _, hk => by simp only [qD] at hk ⊢; exact hk
 | d + 1, v :: r, ns, K, hv, hk => by
   simp only [qD] at hk ⊢
   obtain ⟨v', ns', k1, g1⟩ := wQ hk
   have k2 := wW e hv.2 k1
   exact uN e hv.1 (g1 _ k2)
end
open Go.RowKit (Below)
theorem zmf {p : Nat -> Prop} : ∀ {l : List SV} {i : Nat} {s : SV}, qr p l -> s.nmd p -> qr p (l.set i s)
 | [], _, _, _, _ => trivial
 | v :: r, 0, s, h, k => ⟨k, h.2⟩
 | v :: r, i + 1, s, h, k => ⟨h.1, zmf h.2 k⟩
def zF : Op -> List Operand
 | .move x | .assign x | .box _ x | .load _ x | .nilCheck x | .unOp _ _ x | .convert _ _ x | .fieldAddr _ x _ | .field _ x _ | .extract x _ => [x]
 | .pick c a b => [c, a, b]
 | .build _ ps | .buildSlice _ _ ps => ps.toList.map (·.2)
 | .store _ a v | .binOp _ _ a v _ | .indexAddr _ a v | .index _ a v | .makeSlice _ a v | .lookup _ a v _ => [a, v]
 | .mapUpdate _ a k v => [a, k, v]
 | .makeFunc _ _ c => c.toList
 | .slice _ x l h _ => x :: (l.toList ++ h.toList)
 | .call c => (match c.callee with | .value f => [f] | _ => []) ++ c.args.toList
 | _ => []
section
variable {E : Env} {sl sl' : Slots} {h : Heap} {n : Nat} {K : KE}
theorem zr7 {l : List Operand} (e : ∀ x ∈ l, ev E sl x = ev E sl' x) : l.map (ev E sl) = l.map (ev E sl') := List.map_congr_left e
theorem xO : ∀ {l : List (Nat × Operand)} {vs : List SV} {K : List SV -> Prop}, (∀ x ∈ l.map (·.2), ev E sl x = ev E sl' x) -> wd E sl l vs K -> wd E sl' l vs K
 | [], vs, K, _, h => by simpa only [wd] using h
 | (i, x) :: r, vs, K, e, h => by
   simp only [wd] at h ⊢
   rw [<- e x (by simp)]
   split at h
   case h_2 => cases h
   obtain ⟨k1, g1⟩ := zI h
   refine g1 _ ?_
   split at k1
   case h_2 => cases k1
   exact xO (fun y hy => e y (by simp at hy ⊢; exact .inr hy)) k1
theorem zda {sz : Nat} : ∀ {l : List (Nat × Operand)} {K : List SV -> Prop}, (∀ x ∈ l.map (·.2), ev E sl x = ev E sl' x) -> wt E sl sz l K -> wt E sl' sz l K
 | [], K, _, h => by simpa only [wt] using h
 | (i, x) :: r, K, e, h => by
   simp only [wt] at h ⊢
   rw [<- e x (by simp)]
   obtain ⟨k1, g1⟩ := zI h
   refine g1 _ ?_
   split at k1
   case h_2 => cases k1
   exact zda (fun y hy => e y (by simp at hy ⊢; exact .inr hy)) k1
theorem uq {lo hi : Option Operand} {m : Nat} {K : Int -> Int -> Prop} (e : ∀ x ∈ lo.toList ++ hi.toList, ev E sl x = ev E sl' x) (h : yu E sl lo hi m K) : yu E sl' lo hi m K := by
 cases lo with
 | none =>
   cases hi with
   | none => exact h
   | some b => simp only [yu] at h ⊢; rw [<- e b (by simp)]; exact h
 | some a =>
   cases hi with
   | none => simp only [yu] at h ⊢; rw [<- e a (by simp)]; exact h
   | some b => simp only [yu] at h ⊢; rw [<- e a (by simp), <- e b (by simp)]; exact h
theorem ji {o : Op} (e : ∀ x ∈ zF o, ev E sl x = ev E sl' x) (hk : opE E sl h n o K) : opE E sl' h n o K := by
 cases o with
 | move x | assign x | box T x | load T x | nilCheck x | convert S T x | fieldAddr T x f | field T x f | extract x i =>
   simp only [opE] at hk ⊢; rw [<- e x (by simp [zF])]; exact hk
 | unOp op T x =>
   cases op with
   | not | neg => simp only [opE] at hk ⊢; rw [<- e x (by simp [zF])]; exact hk
   | _ => cases hk
 | pick c a b => simp only [opE] at hk ⊢; rw [<- e c (by simp [zF]), <- e a (by simp [zF]), <- e b (by simp [zF])]; exact hk
 | makeMap T r => cases r <;> exact hk
 | mapUpdate T x y z => simp only [opE] at hk ⊢; rw [<- e x (by simp [zF]), <- e y (by simp [zF]), <- e z (by simp [zF])]; exact hk
 | store T x y | binOp op T x y T' | indexAddr T x y | index T x y | makeSlice T x y | lookup T x y b =>
   simp only [opE] at hk ⊢; rw [<- e x (by simp [zF]), <- e y (by simp [zF])]; exact hk
 | alloc T => exact hk
 | build T ps =>
   simp only [opE] at hk ⊢
   split at hk
   . split at hk
     case h_2 => cases hk
     exact xO e hk
   . split at hk
     case h_2 => cases hk
     exact xO e hk
   . cases hk
 | buildSlice T len ps =>
   simp only [opE] at hk ⊢
   split at hk
   case h_2 => cases hk
   split at hk
   . cases hk
   . exact zda e hk
   . obtain ⟨k, g0⟩ := zI hk
     refine g0 _ ?_
     split at k
     case h_2 => cases k
     exact xO e k
   . cases hk
 | makeFunc f fst caps =>
   cases f with
   | func f =>
     simp only [opE] at hk ⊢
     rw [<- zr7 (E := E) (sl := sl) (sl' := sl') (l := caps.toList) e]; exact hk
   | _ => cases hk
 | slice T x lo hi mx =>
   simp only [opE] at hk ⊢
   rw [<- e x (by simp [zF])]
   have eb : ∀ y ∈ lo.toList ++ hi.toList, ev E sl y = ev E sl' y := fun y hy => e y (by simp only [zF, List.mem_cons]; exact .inr hy)
   split at hk
   . cases hk
   split at hk
   . split at hk
     case h_2 => cases hk
     exact uq eb hk
   . split at hk
     case h_2 => cases hk
     split at hk
     case h_2 => cases hk
     exact uq eb hk
   . split at hk
     case h_2 => cases hk
     split at hk
     case h_2 => cases hk
     split at hk
     case h_2 => cases hk
     exact uq eb hk
   . split at hk
     case h_2 => cases hk
     obtain ⟨u, ns, k1, g1⟩ := wQ hk
     refine g1 _ ?_
     split at k1
     case h_2 => cases k1
     split at k1
     case h_2 => cases k1
     rename_i e3
     exact uq eb k1
 | call cl =>
   obtain ⟨callee, args, ats⟩ := cl
   cases callee with
   | builtin b =>
     have ea : ∀ x ∈ args.toList, ev E sl x = ev E sl' x := fun x hx => e x (by simp only [zF, List.nil_append]; exact hx)
     cases b with
     | len =>
       simp only [opE] at hk ⊢
       split at hk
       case h_2 => cases hk
       rename_i x T h1 h2
       rw [<- ea x (by rw [h1]; simp)]; exact hk
     | append =>
       simp only [opE] at hk ⊢
       split at hk
       case h_2 => cases hk
       rename_i x y T T' h1 h2
       rw [<- ea x (by rw [h1]; simp), <- ea y (by rw [h1]; simp)]; exact hk
     | min | max =>
       simp only [opE] at hk ⊢
       split at hk
       case h_2 => cases hk
       rename_i x y h1
       rw [<- ea x (by rw [h1]; simp), <- ea y (by rw [h1]; simp)]; exact hk
     | _ => cases hk
   | value f =>
     have ea : ∀ x ∈ args.toList, ev E sl x = ev E sl' x := fun x hx => e x (by simp only [zF, List.singleton_append, List.mem_cons]; exact .inr hx)
     simp only [opE] at hk ⊢
     rw [<- e f (by simp [zF]), <- zr7 (E := E) (sl := sl) (sl' := sl') (l := args.toList) ea]
     split at hk
     case h_2 => cases hk
     split at hk
     . rename_i ei
       split at hk
       case h_2 => cases hk
       rename_i x h1 _
       rw [<- ea x (by rw [h1]; simp)]; exact hk
     . rename_i ei
       exact hk
   | invoke => cases hk
 | _ => cases hk
def wr : Op -> Bool
 | .store .. | .lookup .. | .mapUpdate .. => true
 | .call c => match c.callee with | .builtin .append => true | _ => false
 | _ => false
theorem xP {S : Nat -> Prop} : ∀ {l : List (Nat × Operand)} {vs : List SV} {K : List SV -> Prop}, (∀ x ∈ l.map (·.2), (ev E sl x).nmd S) -> qr S vs -> wd E sl l vs K -> wd E sl l vs fun r => qr S r /\ K r
 | [], vs, K, _, hv, h => by simp only [wd, qf] at h ⊢; exact ⟨hv, h⟩
 | (i, x) :: r, vs, K, e, hv, h => by
   simp only [wd] at h ⊢
   split at h
   case h_2 => cases h
   obtain ⟨k1, g1⟩ := zI h
   refine g1 _ ?_
   split at k1
   case h_2 => cases k1
   refine xP (fun y hy => e y (by simp at hy ⊢; exact .inr hy)) ?_ k1
   exact zmf hv (e x (by simp))
theorem zbs {S : Nat -> Prop} {sz : Nat} : ∀ {l : List (Nat × Operand)} {K : List SV -> Prop}, (∀ x ∈ l.map (·.2), (ev E sl x).nmd S) -> wt E sl sz l K -> wt E sl sz l fun r => qr S r /\ K r
 | [], K, _, h => by simp only [wt] at h ⊢; exact ⟨trivial, h⟩
 | (i, x) :: r, K, e, h => by
   simp only [wt] at h ⊢
   obtain ⟨k1, g1⟩ := zI h
   refine g1 _ ?_
   split at k1
   case h_2 => cases k1
   obtain ⟨l, ⟨q1, q2⟩, q3⟩ := ua (zbs (fun y hy => e y (by simp at hy ⊢; exact .inr hy)) k1)
   exact q3 _ ⟨⟨e x (by simp), q1⟩, q2⟩
theorem znc {S : Nat -> Prop} {h' : Heap} (e : HS S h h') {b : Nat} {v : SV} {p : List Step} {u : SV} {K : KE} (hu : u.nmd S) (hk : wP h b v p u K) : wP h' b v p u K := by
 unfold wP at hk ⊢
 split at hk
 . exact hk
 . exact uN e hu hk
theorem znq {S : Nat -> Prop} {h' : Heap} (e : HS S h h') {b sz : Nat} {xs : List SV} {p : List Step} {u : SV} {K : KE} (hu : u.nmd S) (hk : wZ h b sz xs p u K) : wZ h' b sz xs p u K := by
 unfold wZ at hk ⊢
 exact uN e hu hk
theorem zsy {S : Nat -> Prop} {h' : Heap} (e : HS S h h') {v : SV} {K : Option (Nat × List SV) -> Prop} (hu : v.nmd S) (hk : xh h v K) : xh h' v K := by
 unfold xh at hk ⊢
 split at hk
 . exact hk
 . split at hk
   case h_2 => cases hk
   rename_i e1
   obtain ⟨o', e2⟩ := e.row_eq hu e1
   simp only [e2]; exact hk
 . exact hk
 . exact hk
 . cases hk
theorem zer {S : Nat -> Prop} {v : SV} (h : v.nmd S) : ∀ n, qr S (List.replicate n v)
 | 0 => trivial
 | n + 1 => ⟨h, zer h n⟩
theorem xn {S : Nat -> Prop} {h' : Heap} {o : Op} (e : HS S h h') (hot : wr o = true -> ∀ b, S b -> lkB h b = lkB h' b) (hz : ∀ T, (lkT E.tt T).zero.nmd S) (hn : ∀ x ∈ zF o, (ev E sl x).nmd S) (hk : opE E sl h n o K) : opE E sl h' n o K := by
 cases o with
 | makeMap T r => cases r <;> exact hk
 | lookup T x y b =>
   have hx := hn x (by simp [zF])
   simp only [opE] at hk ⊢
   split at hk
   case h_2 => cases hk
   rename_i e1 e2
   rw [e2] at hx
   rw [<- hot rfl _ hx]
   exact hk
 | mapUpdate T x y z =>
   have hx := hn x (by simp [zF])
   simp only [opE] at hk ⊢
   split at hk
   case h_2 => cases hk
   rename_i e1 e2
   rw [e2] at hx
   rw [<- hot rfl _ hx]
   exact hk
 | build T ps =>
   simp only [opE] at hk ⊢
   split at hk
   . exact hk
   . rename_i hz' 
     split at hk
     case h_2 => cases hk
     rename_i e1 e2
     have hzz := hz T
     rw [hz'] at hzz
     obtain ⟨r, ⟨q1, q2⟩, q3⟩ := yD (xP hn hzz hk)
     exact q3 _ (wW e q1 q2)
   . cases hk
 | buildSlice T len ps =>
   simp only [opE] at hk ⊢
   split at hk
   case h_2 => cases hk
   split at hk
   . cases hk
   . obtain ⟨r, ⟨q1, q2⟩, q3⟩ := ua (zbs hn hk)
     exact q3 _ (wW e q1 q2)
   . obtain ⟨k, g0⟩ := zI hk
     refine g0 _ ?_
     split at k
     case h_2 => cases k
     obtain ⟨r, ⟨q1, q2⟩, q3⟩ := yD (xP hn (zer (hz _) _) k)
     exact q3 _ (wW e q1 q2)
   . cases hk
 | load T x =>
   have hx := hn x (by simp [zF])
   simp only [opE] at hk ⊢
   split at hk
   . rename_i b p e1
     rw [e1] at hx
     split at hk
     . rename_i e2
       obtain ⟨o', e3⟩ := e.var_eq hx e2
       simp only [e3]; exact hk
     . rename_i e2
       obtain ⟨o', e3⟩ := e.row_eq hx e2
       simp only [e3]; exact hk
     . cases hk
   . exact hk
   . cases hk
 | store T x y =>
   have hx := hn x (by simp [zF])
   have hy := hn y (by simp [zF])
   have hh := hot rfl
   simp only [opE] at hk ⊢
   split at hk
   case h_2 => cases hk
   rename_i b p e1 e2
   rw [e2] at hx
   rw [<- hh b hx]
   split at hk
   . obtain ⟨k, g⟩ := zI hk
     refine g _ ?_
     split at k
     case h_2 => cases k
     exact znc e hy k
   . obtain ⟨k, g⟩ := zI hk
     refine g _ ?_
     split at k
     case h_2 => cases k
     exact znq e hy k
   . cases hk
 | indexAddr T x i =>
   have hx := hn x (by simp [zF])
   simp only [opE] at hk ⊢
   split at hk
   case h_2 => cases hk
   split at hk
   . split at hk
     . exact hk
     . rename_i b sz e3
       rw [e3] at hx
       split at hk
       case h_2 => cases hk
       rename_i e4 e5
       obtain ⟨o', e6⟩ := e.row_eq hx e4
       simp only [e6, e5]; exact hk
     . cases hk
   . exact hk
   . cases hk
 | slice T x lo hi mx =>
   have hx := hn x (by simp [zF])
   simp only [opE] at hk ⊢
   split at hk
   . cases hk
   split at hk
   . exact hk
   . exact hk
   . rename_i b sz e1
     rw [e1] at hx
     split at hk
     case h_2 => cases hk
     rename_i e2
     obtain ⟨o', e3⟩ := e.row_eq hx e2
     simp only [e3]; exact hk
   . split at hk
     case h_2 => cases hk
     exact uN e hx hk
 | call cl =>
   obtain ⟨callee, args, ats⟩ := cl
   cases callee with
   | builtin b =>
     have ea : ∀ x ∈ args.toList, (ev E sl x).nmd S := fun x hx => hn x (by simp only [zF, List.nil_append]; exact hx)
     cases b with
     | len =>
       simp only [opE] at hk ⊢
       split at hk
       case h_2 => cases hk
       rename_i x T h1 h2
       have hx := ea x (by rw [h1]; simp)
       split at hk <;> first | exact hk.elim | exact hk | skip
       rename_i e3 e4
       rw [e4] at hx
       split at hk
       case h_2 => cases hk
       rename_i e5
       obtain ⟨o', e6⟩ := e.row_eq hx e5
       simp only [e6]; exact hk
     | append =>
       have hh := hot rfl
       simp only [opE] at hk ⊢
       split at hk
       case h_2 => cases hk
       rename_i x y T T' h1 h2
       have hx := ea x (by rw [h1]; simp)
       have hy := ea y (by rw [h1]; simp)
       split at hk
       case h_2 => cases hk
       obtain ⟨o, k, g⟩ := zhb (zsy e hy hk)
       refine g _ ?_
       split at k
       . split at k
         case h_2 => cases k
         split at k
         . rename_i e8
           rw [e8] at hx
           simp only [<- hh _ hx]; exact k
         . exact k
         . exact k
         . cases k
       . split at k
         . rename_i e8
           rw [e8] at hx
           simp only [<- hh _ hx]; exact k
         . exact k
         . exact k
         . exact k
         . cases k
     | _ => exact hk
   | value f =>
     have hf := hn f (by simp [zF])
     have hargs : qr S (args.toList.map (ev E sl)) := zb7 fun x hx => hn x (by simp only [zF, List.singleton_append, List.mem_cons]; exact .inr hx)
     simp only [opE, qf] at hk ⊢
     split at hk
     case h_2 => cases hk
     rename_i f caps e1
     rw [e1] at hf
     split at hk
     . rename_i ei
       exact hk
     rename_i ei
     split at hk
     case h_2 => cases hk
     obtain ⟨l1, ns1, k1, g1⟩ := qL (wW e hargs hk)
     exact g1 _ (wW e hf k1)
   | invoke => cases hk
 | unOp op T x => cases op <;> exact hk
 | makeFunc f fst caps => cases f <;> exact hk
 | _ => exact hk
end
open Go.RowKit (Below)
def zD : Op -> Nat
 | .move _ | .assign _ | .pick .. | .binOp .. | .unOp .. | .convert .. | .extract .. | .makeFunc .. | .field .. | .fieldAddr .. | .nilCheck _ | .index .. => 0
 | .alloc _ | .box .. | .makeMap .. => 1
 | .load .. | .indexAddr .. | .slice .. | .buildSlice .. | .build .. | .makeSlice .. => 2
 | .call c => match c.callee with
   | .builtin .min | .builtin .max => 0
   | .builtin .len | .value _ => 2
   | .builtin .append => 4
   | _ => 5
 | .store .. => 3
 | _ => 5
def wi (S : Nat -> Prop) (o : Op) (ns : List Nat) (ea : EA) : Prop :=
 match zD o with
 | 0 => ns = [] /\ ea = .nil
 | 1 => ns = [] /\ (ea = .nil \/ ∃ k, ea = .new k)
 | 2 => ea = .nil \/ ∃ k, ea = .new k
 | 3 => (ns = [] /\ ea = .nil) \/ ∃ b k, ea = .set b k /\ S b
 | _ => True
mutual
theorem zdm {S : Nat -> Prop} {h : Heap} (e : HS S h h) : ∀ {d : Nat} {v : SV} {ns : List Nat} {K : SV -> List Nat -> Prop}, v.nmd S -> (∀ b ∈ ns, S b) -> frz h d v ns K -> frz h d v ns fun v ns => (∀ b ∈ ns, S b) /\ K v ns
 | 0, _, _, _, _, _, hk => by simp only [frz] at hk
 | d + 1, v, ns, K, hv, hns, hk => by
   simp only [frz] at hk
   split at hk
   . rename_i b p
     split at hk
     case h_2 => cases hk
     rename_i own u e1
     obtain ⟨s', ⟨q0, q1⟩, q2⟩ := wl (yS (e.var b hv _ _ e1) hk)
     simp only [frz, e1]
     refine q2 _ (zdm e q0 ?_ q1)
     intro x hx
     rcases List.mem_cons.1 hx with rfl | hx
     . exact hv
     . exact hns x hx
   . rename_i b sz
     split at hk
     case h_2 => cases hk
     rename_i own sz' xs e1
     split at hk
     case h_2 => cases hk
     rename_i e2
     simp only [frz, e1, e2]
     refine ⟨?_, hk⟩
     intro x hx
     rcases List.mem_cons.1 hx with rfl | hx
     . exact hv
     . exact hns x hx
   . simp only [frz]; exact yW e hv hns hk
   . simp only [frz]; exact yW e hv hns hk
   . simp only [frz]; exact yW e hv hns hk
   . simp only [frz]; exact yW e hv hns hk
   . cases hk
   . cases hk
   . cases hk
   . rename_i h1 h2 h3 h4 h5 h5b h6 h7 h8
     rw [zp] at hk
     cases v <;> first | (simp only [frz]; exact ⟨hns, hk⟩) | exact absurd rfl (h1 _ _) | exact absurd rfl (h2 _ _) | exact absurd rfl (h3 _) | exact absurd rfl (h4 _) | exact absurd rfl (h5 _ _) | exact absurd rfl (h5b _ _) | exact absurd rfl (h6 _) | exact absurd rfl (h7 _) | exact absurd rfl (h8 _ _ _)
theorem yW {S : Nat -> Prop} {h : Heap} (e : HS S h h) : ∀ {d : Nat} {l : List SV} {ns : List Nat} {K : List SV -> List Nat -> Prop}, qr S l -> (∀ b ∈ ns, S b) -> qD h d l ns K -> qD h d l ns fun l ns => (∀ b ∈ ns, S b) /\ K l ns
 | 0, _, _, _, _, _, hk => by simp only [qD] at hk
 | d + 1, [], ns, K, _, hns, hk => by simp only [qD] at hk ⊢; exact ⟨hns, hk⟩
 | d + 1, v :: r, ns, K, hv, hns, hk => by
   simp only [qD] at hk ⊢
   obtain ⟨v', ns', ⟨q0, q1⟩, g1⟩ := wQ (zdm e hv.1 hns hk)
   exact g1 _ (yW e hv.2 q0 q1)
end
section
variable {E : Env} {sl : Slots} {h : Heap} {n : Nat} {K : KE}
def Fct (S : Nat -> Prop) (o : Op) (K : KE) : KE := fun v ns ea => ((∀ b ∈ ns, S b) /\ wi S o ns ea) /\ K v ns ea
theorem zS {S : Nat -> Prop} {o : Op} (hk : zD o = 0 \/ zD o = 2) : (∀ b ∈ ([] : List Nat), S b) /\ wi S o [] .nil := by
 refine ⟨fun b hb => by simp at hb, ?_⟩
 unfold wi
 rcases hk with hk | hk <;> rw [hk]
 . exact ⟨rfl, rfl⟩
 . exact .inl rfl
theorem zgq {S : Nat -> Prop} {o : Op} {ns : List Nat} (hk : zD o = 2) (hn : ∀ b ∈ ns, S b) : (∀ b ∈ ns, S b) /\ wi S o ns .nil := by
 refine ⟨hn, ?_⟩
 unfold wi
 rw [hk]
 exact .inl rfl
theorem zai {S : Nat -> Prop} {o : Op} (e : HS S h h) (hz : ∀ T, (lkT E.tt T).zero.nmd S) (hn : ∀ x ∈ zF o, (ev E sl x).nmd S) (hk : opE E sl h n o K) : opE E sl h n o (Fct S o K) := by
 cases o with
 | move x | assign x => simp only [opE, zp] at hk ⊢; exact ⟨zS (.inl rfl), hk⟩
 | pick c a b =>
   simp only [opE, zp] at hk ⊢
   split at hk <;> first | exact hk.elim | exact ⟨zS (.inl rfl), hk⟩
 | makeMap T r =>
   cases r with
   | some r => simp only [opE] at hk
   | none =>
     simp only [opE] at hk ⊢
     exact ⟨⟨by simp, rfl, .inr ⟨_, rfl⟩⟩, hk⟩
 | lookup T x y b =>
   simp only [opE] at hk ⊢
   split at hk
   case h_2 => cases hk
   split at hk
   case h_2 => cases hk
   obtain ⟨k, g0⟩ := zI hk
   refine g0 _ ?_
   split at k
   case h_2 => cases k
   rename_i e4
   rcases uJ k with ⟨k2, g2⟩ | ⟨j, v, k2, g2⟩
   . obtain ⟨k3, g3⟩ := zI k2
     refine g2 _ _ (g3 _ ?_)
     cases b <;> exact ⟨⟨by simp, trivial⟩, k3⟩
   . refine g2 _ _ ?_
     cases b <;> exact ⟨⟨by simp, trivial⟩, k2⟩
 | mapUpdate T x y z =>
   simp only [opE] at hk ⊢
   split at hk
   case h_2 => cases hk
   split at hk
   case h_2 => cases hk
   obtain ⟨k, g0⟩ := zI hk
   refine g0 _ ?_
   obtain ⟨k, g1⟩ := zI k
   refine g1 _ ?_
   split at k
   case h_2 => cases k
   rcases uJ k with ⟨k2, g2⟩ | ⟨j, v, k2, g2⟩
   . exact g2 _ _ ⟨⟨by simp, trivial⟩, k2⟩
   . rcases zkj k2 with ⟨k3, g3⟩ | ⟨k3, g3⟩ <;> exact g2 _ _ (g3 _ _ ⟨⟨by simp, trivial⟩, k3⟩)
 | alloc T =>
   simp only [opE] at hk ⊢
   obtain ⟨k, g⟩ := zI hk
   exact g _ ⟨⟨by simp, rfl, .inr ⟨_, rfl⟩⟩, k⟩
 | box T x =>
   simp only [opE] at hk ⊢
   obtain ⟨k, g⟩ := zI hk
   exact g _ ⟨⟨by simp, rfl, .inr ⟨_, rfl⟩⟩, k⟩
 | build T ps =>
   simp only [opE] at hk ⊢
   split at hk
   . split at hk
     case h_2 => cases hk
     obtain ⟨r, k, g⟩ := yD hk
     exact g _ ⟨zS (.inr rfl), k⟩
   . rename_i hz'
     split at hk
     case h_2 => cases hk
     rename_i e1 e2
     have hzz := hz T
     rw [hz'] at hzz
     obtain ⟨r, ⟨q1, q2⟩, q3⟩ := yD (xP hn hzz hk)
     obtain ⟨l', ns', ⟨r1, r2⟩, r3⟩ := qL (yW e q1 (by simp) q2)
     exact q3 _ (r3 _ ⟨zgq rfl r1, r2⟩)
   . cases hk
 | buildSlice T len ps =>
   simp only [opE] at hk ⊢
   split at hk
   case h_2 => cases hk
   split at hk
   . cases hk
   . obtain ⟨r, ⟨q1, q2⟩, q3⟩ := ua (zbs hn hk)
     obtain ⟨l', ns', ⟨r1, r2⟩, r3⟩ := qL (yW e q1 (by simp) q2)
     exact q3 _ (r3 _ ⟨⟨r1, .inr ⟨_, rfl⟩⟩, r2⟩)
   . obtain ⟨k, g0⟩ := zI hk
     refine g0 _ ?_
     split at k
     case h_2 => cases k
     obtain ⟨r, ⟨q1, q2⟩, q3⟩ := yD (xP hn (zer (hz _) _) k)
     obtain ⟨l', ns', ⟨r1, r2⟩, r3⟩ := qL (yW e q1 (by simp) q2)
     exact q3 _ (r3 _ ⟨⟨r1, .inr ⟨_, rfl⟩⟩, r2⟩)
   . cases hk
 | nilCheck x =>
   simp only [opE] at hk ⊢
   split at hk <;> first | exact hk.elim | exact ⟨zS (.inl rfl), hk⟩
 | fieldAddr T x f =>
   simp only [opE] at hk ⊢
   split at hk
   case h_2 => cases hk
   split at hk
   case h_2 => cases hk
   split at hk
   case h_2 => cases hk
   split at hk
   . exact ⟨zS (.inl rfl), hk⟩
   . obtain ⟨s, k, g⟩ := wl hk
     exact g _ ⟨zS (.inl rfl), k⟩
   . cases hk
 | field T x f =>
   simp only [opE] at hk ⊢
   split at hk
   case h_2 => cases hk
   split at hk
   case h_2 => cases hk
   obtain ⟨s, k, g⟩ := wl hk
   refine g _ ?_
   split at k
   case h_2 => cases k
   obtain ⟨k, g'⟩ := jt (p := K s [] .nil) k
   exact g' _ ⟨zS (.inl rfl), k⟩
 | load T x =>
   simp only [opE] at hk ⊢
   split at hk
   . split at hk
     . obtain ⟨s, k, g⟩ := wl hk
       refine g _ ?_
       split at k
       case h_2 => cases k
       obtain ⟨k, g'⟩ := jt (p := K s [] .nil) k
       exact g' _ ⟨zS (.inr rfl), k⟩
     . split at hk
       . cases hk
       . obtain ⟨s, k, g⟩ := wl hk
         refine g _ ?_
         split at k
         case h_2 => cases k
         obtain ⟨k, g'⟩ := jt (p := K s [] .nil) k
         exact g' _ ⟨zS (.inr rfl), k⟩
     . cases hk
   . rw [zp] at hk ⊢
     split at hk
     case h_2 => cases hk
     obtain ⟨k, g'⟩ := jt (p := K _ [] .nil) hk
     exact g' _ ⟨zS (.inr rfl), k⟩
   . cases hk
 | store T x y =>
   have hx := hn x (by simp [zF])
   have hy := hn y (by simp [zF])
   simp only [opE] at hk ⊢
   split at hk
   case h_2 => cases hk
   rename_i b p e1 e2
   rw [e2] at hx
   split at hk
   . obtain ⟨k, g⟩ := zI hk
     refine g _ ?_
     split at k
     case h_2 => cases k
     unfold wP at k ⊢
     split at k
     . obtain ⟨s, k, g⟩ := xc k
       exact g _ ⟨⟨by simp, .inr ⟨_, _, rfl, hx⟩⟩, k⟩
     . obtain ⟨l', ns', ⟨r1, r2⟩, r3⟩ := wQ (zdm e hy (by simp) k)
       refine r3 _ ?_
       split at r2
       case h_2 => cases r2
       obtain ⟨s, k, g⟩ := xc r2
       exact g _ ⟨⟨r1, .inr ⟨_, _, rfl, hx⟩⟩, k⟩
   . obtain ⟨k, g⟩ := zI hk
     refine g _ ?_
     split at k
     case h_2 => cases k
     unfold wZ at k ⊢
     obtain ⟨l', ns', ⟨r1, r2⟩, r3⟩ := wQ (zdm e hy (by simp) k)
     refine r3 _ ?_
     split at r2
     case h_2 => cases r2
     rename_i e1
     split at r2
     case h_2 => cases r2
     rename_i e2
     obtain ⟨s, k, g⟩ := uc r2
     obtain ⟨s', k2, g2⟩ := xc k
     exact g _ (g2 _ ⟨⟨r1, .inr ⟨_, _, rfl, hx⟩⟩, k2⟩)
   . cases hk
 | indexAddr T x i =>
   simp only [opE] at hk ⊢
   split at hk
   case h_2 => cases hk
   split at hk
   . split at hk
     . split at hk
       case h_2 => cases hk
       obtain ⟨s, k, g⟩ := uc hk
       exact g _ ⟨zS (.inr rfl), k⟩
     . split at hk
       case h_2 => cases hk
       obtain ⟨p, k⟩ := qk hk
       exact qh p ⟨zS (.inr rfl), k⟩
     . cases hk
   . split at hk
     . obtain ⟨p, k⟩ := qk hk
       exact qh p ⟨zS (.inr rfl), k⟩
     . obtain ⟨p, k⟩ := qk hk
       obtain ⟨s, k2, g⟩ := wl k
       exact qh p (g _ ⟨zS (.inr rfl), k2⟩)
     . cases hk
   . cases hk
 | index T x i =>
   simp only [opE] at hk ⊢
   split at hk
   . obtain ⟨s, k, g⟩ := zho hk
     exact g _ ⟨zS (.inl rfl), k⟩
   . rename_i e1 e2 e3
     split at hk
     case h_2 => cases hk
     rename_i e4
     obtain ⟨s, k, g⟩ := uc hk
     try simp only [e4]
     refine g _ ?_
     split at k
     case h_2 => cases k
     rename_i e5
     try simp only [e5]
     obtain ⟨k, g'⟩ := jt (p := K s [] .nil) k
     exact g' _ ⟨zS (.inl rfl), k⟩
   . cases hk
 | binOp op T x y T' =>
   simp only [opE] at hk ⊢
   obtain ⟨s, k, g⟩ := zoe hk
   exact g _ ⟨zS (.inl rfl), k⟩
 | unOp op T x =>
   cases op with
   | not =>
     simp only [opE] at hk ⊢
     split at hk <;> first | exact hk.elim | exact ⟨zS (.inl rfl), hk⟩
   | neg =>
     simp only [opE] at hk ⊢
     split at hk
     case h_2 => cases hk
     obtain ⟨s, k, g⟩ := wO hk
     exact g _ ⟨zS (.inl rfl), k⟩
   | _ => cases hk
 | convert S' T x =>
   simp only [opE] at hk ⊢
   cases eS : (lkT E.tt S').d <;> simp only [eS] at hk ⊢ <;> first | exact hk.elim | skip
   all_goals
    split at hk
    . cases hk
    . obtain ⟨s, k, g⟩ := wO hk
      exact g _ ⟨zS (.inl rfl), k⟩
    . exact ⟨zS (.inl rfl), hk⟩
    . exact ⟨zS (.inl rfl), hk⟩
    . cases hk
 | extract x i =>
   simp only [opE] at hk ⊢
   split at hk
   case h_2 => cases hk
   split at hk
   case h_2 => cases hk
   rw [zp] at hk ⊢
   exact ⟨zS (.inl rfl), hk⟩
 | makeFunc f fst caps =>
   cases f with
   | func f =>
     simp only [opE, qf] at hk ⊢
     split at hk
     case h_2 => cases hk
     split at hk
     case h_2 => cases hk
     exact ⟨zS (.inl rfl), hk⟩
   | _ => cases hk
 | slice T x lo hi mx =>
   have hx := hn x (by simp [zF])
   simp only [opE] at hk ⊢
   split at hk
   . cases hk
   split at hk
   . split at hk
     case h_2 => cases hk
     obtain ⟨l, r, k, g⟩ := yj hk
     exact g _ ⟨zS (.inr rfl), k⟩
   . split at hk
     case h_2 => cases hk
     split at hk
     case h_2 => cases hk
     obtain ⟨l, r, k, g⟩ := yj hk
     exact g _ ⟨zS (.inr rfl), k⟩
   . rename_i b sz e1
     rw [e1] at hx
     split at hk
     case h_2 => cases hk
     split at hk
     case h_2 => cases hk
     split at hk
     case h_2 => cases hk
     obtain ⟨l, r, k, g⟩ := yj hk
     exact g _ ⟨zgq rfl (by intro c hc; simp at hc; subst hc; exact hx), k⟩
   . split at hk
     case h_2 => cases hk
     obtain ⟨u, ns, ⟨r1, k1⟩, g1⟩ := wQ (zdm e hx (by simp) hk)
     refine g1 _ ?_
     split at k1
     case h_2 => cases k1
     split at k1
     case h_2 => cases k1
     rename_i e3
     obtain ⟨l, r, k, g⟩ := yj k1
     exact g _ ⟨zgq rfl r1, k⟩
 | makeSlice T x y =>
   simp only [opE] at hk ⊢
   split at hk
   case h_2 => cases hk
   obtain ⟨k, g⟩ := zI hk
   refine g _ ?_
   split at k
   case h_2 => cases k
   obtain ⟨p, k⟩ := qk k
   exact qh p ⟨⟨by simp, .inr ⟨_, rfl⟩⟩, k⟩
 | call cl =>
   obtain ⟨callee, args, ats⟩ := cl
   cases callee with
   | builtin b =>
     cases b with
     | len =>
       simp only [opE] at hk ⊢
       split at hk
       case h_2 => cases hk
       split at hk
       . exact ⟨zS (.inr rfl), hk⟩
       . exact ⟨zS (.inr rfl), hk⟩
       . exact ⟨zS (.inr rfl), hk⟩
       . exact ⟨zS (.inr rfl), hk⟩
       . split at hk
         case h_2 => cases hk
         exact ⟨zS (.inr rfl), hk⟩
       . cases hk
     | append =>
       simp only [opE] at hk ⊢
       split at hk
       case h_2 => cases hk
       split at hk
       case h_2 => cases hk
       obtain ⟨o, k, g⟩ := zhb hk
       refine g _ ?_
       have hA : ∀ ea, (∀ b ∈ ([] : List Nat), S b) /\ wi S (.call ⟨.builtin .append, args, ats⟩) [] ea := fun ea => ⟨by simp, trivial⟩
       split at k
       . split at k
         case h_2 => cases k
         split at k
         . split at k
           case h_2 => cases k
           split at k
           case h_2 => cases k
           obtain ⟨p, k⟩ := qk k
           exact qh p ⟨hA _, k⟩
         . obtain ⟨p, k⟩ := qk k
           exact qh p ⟨hA _, k⟩
         . obtain ⟨p, k⟩ := qk k
           exact qh p ⟨hA _, k⟩
         . cases k
       . split at k
         . split at k
           case h_2 => cases k
           exact ⟨hA _, k⟩
         . exact ⟨hA _, k⟩
         . exact ⟨hA _, k⟩
         . exact ⟨hA _, k⟩
         . cases k
     | min | max =>
       simp only [opE] at hk ⊢
       split at hk
       case h_2 => cases hk
       split at hk
       case h_2 => cases hk
       split at hk
       case h_2 => cases hk
       exact ⟨zS (.inl rfl), hk⟩
     | _ => cases hk
   | value f =>
     have hf := hn f (by simp [zF])
     have hargs : qr S (args.toList.map (ev E sl)) := zb7 fun x hx => hn x (by simp only [zF, List.singleton_append, List.mem_cons]; exact .inr hx)
     simp only [opE, qf] at hk ⊢
     split at hk
     case h_2 => cases hk
     rename_i f caps e1
     rw [e1] at hf
     split at hk
     . split at hk
       case h_2 => cases hk
       obtain ⟨k, g⟩ := zI hk
       exact g _ ⟨zS (.inr rfl), k⟩
     split at hk
     case h_2 => cases hk
     obtain ⟨l1, ns1, ⟨r1, k1⟩, g1⟩ := qL (yW e hargs (by simp) hk)
     obtain ⟨l2, ns2, ⟨r2, k2⟩, g2⟩ := qL (yW e hf r1 k1)
     obtain ⟨r, k3, g3⟩ := znu k2
     refine g1 _ (g2 _ (g3 _ ?_))
     rw [zp] at k3 ⊢
     split at k3
     . exact ⟨zS (.inr rfl), k3⟩
     . split at k3
       . exact ⟨zS (.inr rfl), k3⟩
       . exact ⟨zgq rfl r2, k3⟩
   | invoke => cases hk
 | _ => cases hk
theorem zjb {o : Op} {h' : Heap} (hd : zD o = 0 \/ zD o = 1) (hk : opE E sl h n o K) : opE E sl h' n o K := by
 cases o with
 | call cl =>
   obtain ⟨callee, args, ats⟩ := cl
   cases callee with
   | builtin b => cases b <;> first | exact hk | (simp [zD] at hd; done)
   | _ => simp [zD] at hd
 | unOp op T x => cases op <;> exact hk
 | makeFunc f fst caps => cases f <;> exact hk
 | makeMap T r => cases r <;> exact hk
 | _ => first | exact hk | (simp [zD] at hd; done)
end
open Go.RowKit (Below)
def zyu : Operand -> Option Nat
 | .tmp t => some t
 | _ => none
def zU (o : Oper) : List Nat := (zF o.op).filterMap zyu
def we (all : List Oper) (o : Oper) : Option Nat := match o.guard with
 | none => none
 | some (j, _) => match all[j]? with
   | some o' => o'.dst
   | none => none
def B : Option Bool -> SV
 | some true => .tru
 | some false => .fls
 | none => und
def isB (v : SV) (t : Option Bool) : Prop := v = B t \/ ∃ b, t = some b /\ v = .bool b
theorem zfk {v : SV} {t u : Option Bool} (h : isB v t) (k : isB v u) : t = u := by
 rcases h with rfl | ⟨b, rfl, rfl⟩
 . rcases k with k | ⟨b, rfl, k⟩
   . cases t with
     | none => cases u with
       | none => rfl
       | some u => cases u <;> cases k
     | some t => cases u with
       | none => cases t <;> cases k
       | some u => cases t <;> cases u <;> first | rfl | cases k
   . cases t with
     | none => cases k
     | some t => cases t <;> cases k
 . rcases k with k | ⟨b', rfl, k⟩
   . cases u with
     | none => cases k
     | some u => cases u <;> cases k
   . cases k; rfl
structure Out where
 g : Option (Nat × Option Bool)
 v : SV
 ns : List Nat
 ea : EA
def jO (g : Option (Nat × Option Bool)) (sl : Slots) : Slots := match g with
 | none => sl
 | some (d, t) => (d, B t) :: sl
def Out.sl (x : Out) (o : Oper) (s : Slots) : Slots := wH o.dst x.v (jO x.g s)
def Out.hp (x : Out) (h : Heap) (m : Nat) : Heap := hE x.ns x.ea h m
def Inv (K : Slots -> Heap -> Prop) : Prop := ∀ sl h sl' h', (∀ t, lk sl t = lk sl' t) -> (∀ b, lkB h b = lkB h' b) -> K sl h -> K sl' h'
structure Wf (E : Env) (F : Nat -> Prop) (sl : Slots) (h : Heap) : Prop where
 ev : ∀ x, (ev E sl x).nmd fun b => ¬ F b
 hs : HS (fun b => ¬ F b) h h
 z : ∀ T, (lkT E.tt T).zero.nmd fun b => ¬ F b
 hb : ∀ b, F b -> lkB h b = none
theorem zbx {E : Env} (ok : EnvOK E) (S : Nat -> Prop) (T : TypeId) : (lkT E.tt T).zero.nmd S := by
 by_cases hz : (lkT E.tt T).zero = .any
 . rw [hz]; trivial
 . obtain ⟨i, _, _, _, h4⟩ := (ok.tz T hz).info
   obtain ⟨z, _, hr⟩ := h4 hz
   refine wE (fun b hb => absurd rfl hb) _ (zd9 (yM (hr default (fun _ => False))))
theorem DenF.wf {c : Cx} (ok : EnvOK c.E) {N : Nat} {sl : Slots} {h : Heap} {F : Nat -> Prop} {a : Act} {w : World} (D : DenF c N sl h F a w) : Wf c.E F sl h := by
 obtain ⟨β, Y, m, hs, _, _⟩ := D
 have hF : ∀ b, β b ≠ none -> ¬ F b := fun b hb hf => hb (m.fresh b hf)
 refine ⟨fun x => wE hF _ (zd9 (wg m hs x)), ⟨fun _ _ => rfl, fun b hb o v hv => ?_⟩, zbx ok _, fun b hb => ?_⟩
 . obtain ⟨l, h1, h2⟩ := m.blk b _ hv
   obtain ⟨cs, ty, lo, hi, _, _, h3, _⟩ := h2
   exact wE hF _ (jI _ _ _ h3)
 . cases hk : lkB h b with
   | none => rfl
   | some k =>
     obtain ⟨l, h1, _⟩ := m.blk b k hk
     rw [m.fresh b hb] at h1; cases h1
inductive GO (E : Env) (all : List Oper) (o : Oper) (sl : Slots) (h : Heap) (m : Nat) : Out -> Prop
 | plain {v ns ea} : o.guard = none -> OpR E sl h m o.op v ns ea -> GO E all o sl h m ⟨none, v, ns, ea⟩
 | yes {v ns ea j t d} : o.guard = some (j, t) -> we all o = some d -> isB (lk sl d) (some t) -> OpR E ((d, B (some t)) :: sl) h m o.op v ns ea -> GO E all o sl h m ⟨some (d, some t), v, ns, ea⟩
 | no {j t d t'} : o.guard = some (j, t) -> we all o = some d -> t' ≠ some t -> isB (lk sl d) t' -> GO E all o sl h m ⟨some (d, t'), und, [], .nil⟩
theorem yk {v : SV} : v.nmd fun _ => True := by
 have : ∀ (v : SV), v.nmd fun _ => True := by
  intro v
  induction v using SV.rec (motive_2 := fun l => qr (fun _ => True) l) with
  | nil => trivial
  | cons v r h1 h2 => exact ⟨h1, h2⟩
  | _ => first | trivial | assumption
 exact this v
theorem zwr {E : Env} {sl : Slots} {h : Heap} {m : Nat} {o : Op} (hk : zD o <= 3) {v : SV} {ns : List Nat} {ea : EA} (r : OpR E sl h m o v ns ea) : ∀ b k, ea ≠ .app b k := by
 have hs : HS (fun _ => True) h h := ⟨fun _ _ => rfl, fun _ _ _ _ _ => yk⟩
 have := zai (S := fun _ => True) hs (fun _ => yk) (fun _ _ => yk) (r (fun v' ns' ea' => ea' = ea) rfl)
 obtain ⟨v', ns', ea', ⟨⟨_, k1⟩, rfl⟩, _⟩ := yP this
 unfold wi at k1
 rintro b k rfl
 have : zD o = 0 \/ zD o = 1 \/ zD o = 2 \/ zD o = 3 := by omega
 rcases this with h | h | h | h <;> rw [h] at k1 <;> simp at k1
theorem zcm {sl : Slots} {d : Nat} {t : Option Bool} (h : lk sl d = B t) (u : Nat) : lk sl u = lk ((d, B t) :: sl) u := by
 simp only [lk]
 cases hb : Nat.beq d u with
 | true => have := zi hb; subst this; exact h
 | false => rfl
theorem zmq {ea : EA} {sl : Slots} (h : ∀ b k, ea ≠ .app b k) : jY ea sl = sl := by
 cases ea <;> first | rfl | exact absurd rfl (h _ _)
section
variable {E : Env} {all : List Oper} {o : Oper} {sl sl' : Slots} {h h' : Heap} {m : Nat} {K : Slots -> Heap -> Prop}
theorem zq9 (e : ∀ t, lk sl t = lk sl' t) (x : Operand) : ev E sl x = ev E sl' x := by
 cases x <;> first | rfl | (simp only [ev]; rw [e])
theorem ztc {s : Slots} {v : SV} {ns : List Nat} {ea : EA} (hk : zD o.op <= 3) (r : OpR E s h m o.op v ns ea) (k : K (wH o.dst v s) (hE ns ea h m)) : opX E o s h m K := by
 unfold opX
 refine r _ (app_iff.2 ?_)
 rw [zmq (zwr hk r)]
 exact k
theorem zn0 {s : Slots} (hk : zD o.op <= 3) (k : opX E o s h m K) : ∃ v ns ea, OpR E s h m o.op v ns ea /\ K (wH o.dst v s) (hE ns ea h m) := by
 unfold opX at k
 obtain ⟨v, ns, ea, k1, k2⟩ := yP k
 have := app_iff.1 k1
 rw [zmq (zwr hk k2)] at this
 exact ⟨v, ns, ea, k2, this⟩
theorem zv5 {j : Nat} {t : Bool} {o' : Oper} {d : Nat} (h1 : o.guard = some (j, t)) (h2 : all[j]? = some o') (h3 : o'.dst = some d) : we all o = some d := by
 unfold we
 simp only [h1, h2]
 exact h3
theorem zfg (hk : zD o.op <= 3) (inv : Inv K) (k : qm E all o sl h m K) : ∃ x, GO E all o sl h m x /\ K (x.sl o sl) (x.hp h m) := by
 unfold qm grd at k
 have hskip : ∀ s : Slots, (match o.dst with | some d => K ((d, und) :: s) h | none => K s h) -> K (wH o.dst und s) h := by
  intro s hs
  cases hd : o.dst <;> rw [hd] at hs <;> exact hs
 split at k
 . rename_i hg
   obtain ⟨v, ns, ea, r, k⟩ := zn0 hk k
   exact ⟨_, .plain hg r, k⟩
 . rename_i j want hg
   split at k
   case h_2 => cases k
   rename_i o' hj
   split at k
   case h_2 => cases k
   rename_i d hd
   have hgs := zv5 hg hj hd
   have yes : ∀ s : Slots, (∀ u, lk s u = lk ((d, B (some want)) :: sl) u) -> isB (lk sl d) (some want) -> opX E o s h m K -> ∃ x, GO E all o sl h m x /\ K (x.sl o sl) (x.hp h m) := by
    intro s es hb ho
    obtain ⟨v, ns, ea, r, k⟩ := zn0 hk ho
    refine ⟨_, .yes hg hgs hb (v := v) (ns := ns) (ea := ea) (fun K' k' => ji (fun x _ => zq9 es x) (r K' k')), ?_⟩
    refine inv _ _ _ _ (fun u => ?_) (fun _ => rfl) k
    simp only [Out.sl, jO, wA]
    split
    . rfl
    . exact es u
   have no : ∀ (t' : Option Bool) (s : Slots), t' ≠ some want -> (∀ u, lk s u = lk ((d, B t') :: sl) u) -> isB (lk sl d) t' -> (match o.dst with | some d => K ((d, und) :: s) h | none => K s h) -> ∃ x, GO E all o sl h m x /\ K (x.sl o sl) (x.hp h m) := by
    intro t' s ht es hb ho
    refine ⟨_, .no hg hgs ht hb, ?_⟩
    refine inv _ _ _ _ (fun u => ?_) (fun _ => rfl) (hskip s ho)
    simp only [Out.sl, jO, wA]
    split
    . rfl
    . exact es u
   split at k
   . rename_i hl
     cases want with
     | true => exact yes sl (zcm (t := some true) hl) (.inl hl) k
     | false => exact no (some true) sl (by simp) (zcm (t := some true) hl) (.inl hl) k
   . rename_i hl
     cases want with
     | true => exact no (some false) sl (by simp) (zcm (t := some false) hl) (.inl hl) k
     | false => exact yes sl (zcm (t := some false) hl) (.inl hl) k
   . rename_i b hl
     cases want with
     | true =>
       cases b with
       | true => exact yes _ (fun _ => rfl) (.inr ⟨_, rfl, hl⟩) (k.1 rfl)
       | false => exact no (some false) _ (by simp) (fun _ => rfl) (.inr ⟨_, rfl, hl⟩) (k.2 rfl)
     | false =>
       cases b with
       | true => exact no (some true) _ (by simp) (fun _ => rfl) (.inr ⟨_, rfl, hl⟩) (k.2 rfl)
       | false => exact yes _ (fun _ => rfl) (.inr ⟨_, rfl, hl⟩) (k.1 rfl)
   . rename_i hl
     exact no none sl (by simp) (zcm (t := none) hl) (.inl hl) k
   . cases k
theorem zin {d : Nat} {j : Nat} {t : Bool} (hg : o.guard = some (j, t)) (h : we all o = some d) : ∃ o', all[j]? = some o' /\ o'.dst = some d := by
 unfold we at h
 simp only [hg] at h
 split at h
 . rename_i o' ho; exact ⟨o', ho, h⟩
 . cases h
theorem zh7 (hk : zD o.op <= 3) (inv : Inv K) {x : Out} (g : GO E all o sl h m x) (k : K (x.sl o sl) (x.hp h m)) : qm E all o sl h m K := by
 unfold qm grd
 cases g with
 | plain hg r =>
   simp only [hg]
   exact ztc hk r k
 | @yes v ns ea j t d hg hgs hb r =>
   obtain ⟨o', hj, hd⟩ := zin hg hgs
   simp only [hg, hj, hd]
   have run : ∀ s : Slots, (∀ u, lk ((d, B (some t)) :: sl) u = lk s u) -> opX E o s h m K := fun s es => by
    refine ztc hk (fun K' k' => ji (fun x _ => zq9 es x) (r K' k')) (inv _ _ _ _ (fun u => ?_) (fun _ => rfl) k)
    simp only [Out.sl, jO, wA]
    split
    . rfl
    . exact es u
   rcases hb with hb | ⟨b, he, hb⟩
   . rw [hb]
     cases t <;> exact run sl fun u => (zcm hb u).symm
   . cases he
     rw [hb]
     cases t with
     | true => exact ⟨fun _ => run _ fun _ => rfl, fun e => by cases e⟩
     | false => exact ⟨fun _ => run _ fun _ => rfl, fun e => by cases e⟩
 | @no j t d t' hg hgs ht hb =>
   obtain ⟨o', hj, hd⟩ := zin hg hgs
   simp only [hg, hj, hd]
   have run : ∀ s : Slots, (∀ u, lk ((d, B t') :: sl) u = lk s u) -> (match o.dst with | some d => K ((d, und) :: s) h | none => K s h) := fun s es => by
    have : K (wH o.dst und s) h := by
     refine inv _ _ _ _ (fun u => ?_) (fun _ => rfl) k
     simp only [Out.sl, jO, wA]
     split
     . rfl
     . exact es u
    cases hd : o.dst <;> rw [hd] at this <;> exact this
   rcases hb with hb | ⟨b, he, hb⟩
   . rw [hb]
     cases t' with
     | none => exact run sl fun u => (zcm hb u).symm
     | some t' => cases t <;> cases t' <;> first | exact absurd rfl ht | exact run sl fun u => (zcm hb u).symm
   . cases he
     rw [hb]
     cases t <;> cases b <;> first
      | exact absurd rfl ht
      | exact ⟨fun e => (by cases e), fun _ => run _ fun _ => rfl⟩
theorem jB {x : Operand} {t : Nat} (hx : x ∈ zF o.op) (ht : x = .tmp t) : t ∈ zU o := by
 subst ht
 exact List.mem_filterMap.2 ⟨_, hx, rfl⟩
theorem zbl (e : ∀ t ∈ zU o, lk sl t = lk sl' t) : ∀ x ∈ zF o.op, ev E sl x = ev E sl' x := by
 intro x hx
 cases x with
 | tmp t => simp only [ev]; rw [e t (jB hx rfl)]
 | _ => rfl
theorem GO.slots {x : Out} (g : GO E all o sl h m x) (e : ∀ t ∈ zU o, lk sl t = lk sl' t) (eg : ∀ d, we all o = some d -> ∀ t, isB (lk sl d) t -> isB (lk sl' d) t) : GO E all o sl' h m x := by
 cases g with
 | plain hg r => exact .plain hg fun K' k' => ji (zbl e) (r K' k')
 | yes hg hgs hb r =>
   refine .yes hg hgs (eg _ hgs _ hb) fun K' k' => ji (zbl (o := o) fun u hu => ?_) (r K' k')
   simp only [lk]
   split
   . rfl
   . exact e u hu
 | no hg hgs ht hb => exact .no hg hgs ht (eg _ hgs _ hb)
theorem ev_ref {S : Nat -> Prop} {d : Nat} {t : Option Bool} (hn : ∀ x, (ev E sl x).nmd S) (x : Operand) : (ev E ((d, B t) :: sl) x).nmd S := by
 cases x with
 | tmp u =>
   have := hn (.tmp u)
   simp only [ev, lk] at this ⊢
   split at this
   . split
     . cases t with
       | none => trivial
       | some t => cases t <;> trivial
     . exact this
   . trivial
 | const v => exact hn (.const v)
 | global g => exact hn (.global g)
 | func f => exact hn (.func f)
theorem GO.heap {S : Nat -> Prop} {x : Out} (g : GO E all o sl h m x) (e : HS S h h') (hot : wr o.op = true -> ∀ b, S b -> lkB h b = lkB h' b) (hz : ∀ T, (lkT E.tt T).zero.nmd S) (hn : ∀ x, (ev E sl x).nmd S) : GO E all o sl h' m x := by
 cases g with
 | plain hg r => exact .plain hg fun K' k' => xn e hot hz (fun x _ => hn x) (r K' k')
 | yes hg hgs hb r => exact .yes hg hgs hb fun K' k' => xn e hot hz (fun x _ => ev_ref hn x) (r K' k')
 | no hg hgs ht hb => exact .no hg hgs ht hb
theorem GO.still {x : Out} (g : GO E all o sl h m x) (hk : zD o.op = 0 \/ zD o.op = 1) : GO E all o sl h' m x := by
 cases g with
 | plain hg r => exact .plain hg fun K' k' => zjb hk (r K' k')
 | yes hg hgs hb r => exact .yes hg hgs hb fun K' k' => zjb hk (r K' k')
 | no hg hgs ht hb => exact .no hg hgs ht hb
theorem zi5 {S : Nat -> Prop} {op : Op} {v : SV} {ns : List Nat} {ea : EA} (r : OpR E sl h m op v ns ea) (e : HS S h h) (hz : ∀ T, (lkT E.tt T).zero.nmd S) (hn : ∀ x, (ev E sl x).nmd S) : (∀ b ∈ ns, S b) /\ wi S op ns ea := by
 have := zai e hz (fun x _ => hn x) (r (fun v' ns' ea' => ns' = ns /\ ea' = ea) ⟨rfl, rfl⟩)
 obtain ⟨v', ns', ea', ⟨k1, rfl, rfl⟩, _⟩ := yP this
 exact k1
theorem GO.facts {F : Nat -> Prop} {x : Out} (g : GO E all o sl h m x) (hk : zD o.op <= 3) (wf : Wf E F sl h) : (∀ b ∈ x.ns, ¬ F b) /\ wi (fun b => ¬ F b) o.op x.ns x.ea := by
 cases g with
 | plain hg r => exact zi5 r wf.hs wf.z wf.ev
 | yes hg hgs hb r => exact zi5 r wf.hs wf.z (ev_ref wf.ev)
 | no hg hgs ht hb =>
   refine ⟨by simp, ?_⟩
   unfold wi
   have : zD o.op = 0 \/ zD o.op = 1 \/ zD o.op = 2 \/ zD o.op = 3 := by omega
   rcases this with h | h | h | h <;> simp [h]
theorem zi1 (k : Blk) : k.cold.cold = k.cold := by cases k <;> rfl
theorem qz : ∀ (ns : List Nat) (h : Heap) (b : Nat), lkB (qy ns h) b = if b ∈ ns then (lkB h b).map Blk.cold else lkB h b
 | [], h, b => by simp [qy]
 | b0 :: ns, h, b => by
   simp only [qy]
   cases hb : lkB h b0 with
   | none =>
     simp only
     rw [qz ns h b]
     by_cases e : b = b0
     . subst e; simp [hb]
     . simp [e]
   | some k0 =>
     simp only
     rw [qz ns _ b, wo hb]
     by_cases e : b = b0
     . subst e
       simp only [hb, if_true, List.mem_cons, true_or, Option.map_some]
       split
       . rw [zi1]
       . rfl
     . simp [e]
theorem zlv {ns : List Nat} {b : Nat} : (lkB (qy ns h) b).map Blk.cold = (lkB h b).map Blk.cold := by
 rw [qz]
 split
 . cases lkB h b <;> simp [zi1]
 . rfl
theorem wC {k : Blk} {b : Nat} : lkB ((m, k) :: h) b = if b = m then some k else lkB h b := by
 rw [qH]
 by_cases e : m = b
 . subst e; simp
 . rw [if_neg e, if_neg (Ne.symm e)]
theorem zob {F : Nat -> Prop} {ns : List Nat} {ea : EA} (hea : ea = .nil \/ ∃ k, ea = .new k) (hm : F m) {b : Nat} (hb : ¬ F b) : (lkB (hE ns ea h m) b).map Blk.cold = (lkB h b).map Blk.cold := by
 rcases hea with rfl | ⟨k, rfl⟩
 . exact zlv
 . simp only [hE]
   rw [wC, if_neg (by rintro rfl; exact hb hm)]
   exact zlv
theorem zsc {F : Nat -> Prop} {ea : EA} (hea : ea = .nil \/ ∃ k, ea = .new k) (hm : F m) {b : Nat} (hb : ¬ F b) : lkB (hE [] ea h m) b = lkB h b := by
 rcases hea with rfl | ⟨k, rfl⟩
 . rfl
 . simp only [hE]
   rw [wC, if_neg (by rintro rfl; exact hb hm)]
   rfl
theorem HS.of_cold {S : Nat -> Prop} (e : ∀ b, S b -> (lkB h' b).map Blk.cold = (lkB h b).map Blk.cold) (k : HS S h h) : HS S h h' /\ HS S h' h := by
 refine ⟨⟨fun b hb => (e b hb).symm, k.var⟩, ⟨e, fun b hb o v hv => ?_⟩⟩
 have := e b hb
 rw [hv] at this
 cases hh : lkB h b with
 | none => rw [hh] at this; cases this
 | some k' =>
   rw [hh] at this
   cases k' <;> simp [Blk.cold, Blk.dead] at this
   subst this
   exact k.var b hb _ _ hh
end
def zhp (a b : Nat) : Bool := (Nat.ble a 1 && Nat.ble b 3) || (Nat.ble b 1 && Nat.ble a 3) || (Nat.ble a 2 && Nat.ble b 2)
theorem zkm {a b : Nat} (h : zhp a b = true) : (a <= 1 /\ b <= 3) \/ (b <= 1 /\ a <= 3) \/ (a <= 2 /\ b <= 2) := by
 unfold zhp at h
 simp only [Bool.or_eq_true, Bool.and_eq_true, Nat.ble_eq] at h
 omega
def ye (x : Option Nat) (l : List Nat) (g : Option Nat) : Bool := match x with
 | none => true
 | some d => match qB d l with
   | true => false
   | false => match g with
     | none => true
     | some e => !(Nat.beq d e)
theorem zl8 {x : Nat} {l : List Nat} (h : qB x l = false) : x ∉ l := by
 intro hx
 exact ur h x hx rfl
theorem qK {x : Option Nat} {l : List Nat} {g : Option Nat} (h : ye x l g = true) {d : Nat} (hx : x = some d) : d ∉ l /\ g ≠ some d := by
 subst hx
 unfold ye at h
 simp only at h
 split at h
 . cases h
 . rename_i hm
   refine ⟨zl8 hm, ?_⟩
   rintro rfl
   simp at h
def zgh (all : List Oper) (x y : Oper) : Bool :=
 match zhp (zD x.op) (zD y.op), ye x.dst (zU y) (we all y), ye y.dst (zU x) (we all x) with
 | true, true, true => (match ye (we all x) (zU y) none, ye (we all y) (zU x) none, ye x.dst [] y.dst with
   | true, true, true => true
   | _, _, _ => false)
 | _, _, _ => false
open Go.RowKit (Below)
section
variable {E : Env} {all : List Oper}
theorem zqq {x y : Oper} (h : zgh all x y = true) : ((zD x.op <= 1 /\ zD y.op <= 3) \/ (zD y.op <= 1 /\ zD x.op <= 3) \/ (zD x.op <= 2 /\ zD y.op <= 2)) /\
 (∀ d, x.dst = some d -> d ∉ zU y /\ we all y ≠ some d) /\ (∀ d, y.dst = some d -> d ∉ zU x /\ we all x ≠ some d) /\
 (∀ d, we all x = some d -> d ∉ zU y) /\ (∀ d, we all y = some d -> d ∉ zU x) /\ (∀ d, x.dst = some d -> y.dst ≠ some d) := by
 unfold zgh at h
 split at h
 case h_2 => cases h
 rename_i h1 h2 h3
 split at h
 case h_2 => cases h
 rename_i h4 h5 h6
 exact ⟨zkm h1, fun d hd => qK h2 hd, fun d hd => qK h3 hd, fun d hd => (qK h4 hd).1, fun d hd => (qK h5 hd).1, fun d hd => (qK h6 hd).2⟩
theorem GO.gs {o : Oper} {sl : Slots} {h : Heap} {m : Nat} {x : Out} (g : GO E all o sl h m x) : x.g.map Prod.fst = we all o /\ ∀ d t, x.g = some (d, t) -> isB (lk sl d) t := by
 cases g with
 | plain hg r => exact ⟨by unfold we; rw [hg]; rfl, fun d t e => by cases e⟩
 | yes hg hgs hb r => exact ⟨hgs.symm, fun d t e => by cases e; exact hb⟩
 | no hg hgs ht hb => exact ⟨hgs.symm, fun d t e => by cases e; exact hb⟩
theorem yT {g : Option (Nat × Option Bool)} {sl : Slots} {u : Nat} (h : ∀ d t, g = some (d, t) -> d ≠ u) : lk (jO g sl) u = lk sl u := by
 cases g with
 | none => rfl
 | some p =>
   obtain ⟨d, t⟩ := p
   simp only [jO, lk]
   rw [wF (h d t rfl)]
theorem yK {d : Nat} {t : Option Bool} {sl : Slots} : lk (jO (some (d, t)) sl) d = B t := by simp [jO, lk]
theorem jH {x : Out} {o : Oper} {sl : Slots} {u : Nat} : lk (x.sl o sl) u = if o.dst = some u then x.v else lk (jO x.g sl) u := by
 simp only [Out.sl, wA]
theorem zrw {x : Out} {o : Oper} {sl : Slots} {h : Heap} {m : Nat} (g : GO E all o sl h m x) {u : Nat} (h1 : o.dst ≠ some u) (h2 : we all o ≠ some u) : lk (x.sl o sl) u = lk sl u := by
 rw [jH, if_neg h1]
 refine yT fun d t e => ?_
 rintro rfl
 have := g.gs.1
 rw [e] at this
 exact h2 this.symm
theorem zfj {o : Oper} {m : Nat} {K : Slots -> Heap -> Prop} (inv : Inv K) : Inv fun sl h => qm E all o sl h m K := by
 intro sl h sl' h' es eh k
 have hop : ∀ s s' : Slots, (∀ t, lk s t = lk s' t) -> opX E o s h m K -> opX E o s' h' m K := by
  intro s s' es k
  unfold opX at k ⊢
  obtain ⟨v, ns, ea, k1, k2⟩ := yP k
  have hs : HS (fun _ => True) h h' := ⟨fun b _ => by rw [eh], fun _ _ _ _ _ => yk⟩
  refine xn hs (fun _ b _ => eh b) (fun _ => yk) (fun _ _ => yk) (ji (fun x _ => zq9 es x) (k2 _ ?_))
  refine app_iff.2 (inv _ _ _ _ (fun t => ?_) (fun b => ?_) (app_iff.1 k1))
  . rw [wA, wA, xC, xC, es]
  . have hice : ∀ b, lkB (qy ns h) b = lkB (qy ns h') b := fun b => by rw [qz, qz, eh]
    have hst : ∀ (g g' : Heap) (c : Nat) (k : Blk), (∀ b, lkB g b = lkB g' b) -> ∀ b, lkB (stB g c k) b = lkB (stB g' c k) b := by
     intro g g' c k hg b
     cases hc : lkB g c with
     | none =>
       have stn : ∀ (g : Heap), lkB g c = none -> stB g c k = g := by
        intro g
        induction g with
        | nil => intro _; rfl
        | cons p r ih =>
          obtain ⟨i, v⟩ := p
          intro hn
          simp only [lkB] at hn
          cases hb : Nat.beq i c with
          | true => rw [hb] at hn; cases hn
          | false => rw [hb] at hn; simp only [stB, hb]; rw [ih hn]
       rw [stn g hc, stn g' (by rw [<- hg, hc])]; exact hg b
     | some k0 => rw [wo hc, wo (h := g') (by rw [<- hg, hc]), hg]
    cases ea with
    | nil => exact hice b
    | new k => simp only [hE]; rw [wC, wC, hice]
    | set c k => exact hst _ _ _ _ hice b
    | app c k => exact hst _ _ _ _ (fun b => by rw [wq, wq, hice]) b
 have hskip : ∀ s s' : Slots, (∀ t, lk s t = lk s' t) -> (match o.dst with | some d => K ((d, und) :: s) h | none => K s h) -> (match o.dst with | some d => K ((d, und) :: s') h' | none => K s' h') := by
  intro s s' es k
  cases hd : o.dst <;> rw [hd] at k
  . exact inv _ _ _ _ es eh k
  . refine inv _ _ _ _ (fun t => ?_) eh k
    simp only [lk]; split
    . rfl
    . exact es t
 have hcons : ∀ (d : Nat) (v : SV) (t : Nat), lk ((d, v) :: sl) t = lk ((d, v) :: sl') t := fun d v t => by simp only [lk]; rw [es]
 simp only [qm, grd] at k ⊢
 split at k
 . exact hop _ _ es k
 . split at k
   case h_2 => cases k
   split at k
   case h_2 => cases k
   rw [<- es]
   split at k
   . split at k
     . exact hop _ _ es k
     . exact hskip _ _ es k
   . split at k
     . exact hskip _ _ es k
     . exact hop _ _ es k
   . split at k
     . exact ⟨fun e => hop _ _ (hcons _ _) (k.1 e), fun e => hskip _ _ (hcons _ _) (k.2 e)⟩
     . exact ⟨fun e => hop _ _ (hcons _ _) (k.1 e), fun e => hskip _ _ (hcons _ _) (k.2 e)⟩
   . exact hskip _ _ es k
   . cases k
theorem zh6 {o : Op} (h : zD o <= 2) : wr o = false := by
 unfold zD at h
 unfold wr
 split at h <;> first | rfl | omega | skip
 split at h <;> simp_all
theorem zv9 {x y : Oper} {mx my : Nat} {sl : Slots} {h : Heap} {K : Slots -> Heap -> Prop} (inv : Inv K) (kx : zD x.op <= 3) (ky : zD y.op <= 3)
 (i1 : ∀ d, x.dst = some d -> d ∉ zU y /\ we all y ≠ some d) (i2 : ∀ d, y.dst = some d -> d ∉ zU x /\ we all x ≠ some d)
 (i3 : ∀ d, we all x = some d -> d ∉ zU y) (i4 : ∀ d, we all y = some d -> d ∉ zU x) (i5 : ∀ d, x.dst = some d -> y.dst ≠ some d)
 (ha : ∀ X Y, GO E all x sl h mx X -> GO E all y sl (X.hp h mx) my Y -> GO E all y sl h my Y)
 (hb : ∀ X Y, GO E all x sl h mx X -> GO E all y sl h my Y -> GO E all x sl (Y.hp h my) mx X)
 (hc : ∀ X Y, GO E all x sl h mx X -> GO E all y sl h my Y -> ∀ b, lkB (Y.hp (X.hp h mx) my) b = lkB (X.hp (Y.hp h my) mx) b)
 (k : qm E all x sl h mx fun sl h => qm E all y sl h my K) : qm E all y sl h my fun sl h => qm E all x sl h mx K := by
 obtain ⟨X, gx, k1⟩ := zfg kx (zfj inv) k
 obtain ⟨Y, gy1, k2⟩ := zfg ky inv k1
 have gyS : GO E all y sl (X.hp h mx) my Y := by
  refine gy1.slots (fun t ht => zrw gx (fun e => (i1 t e).1 ht) (fun e => i3 t e ht)) fun d hd t hb => ?_
  have h1 : x.dst ≠ some d := fun e => (i1 d e).2 hd
  rw [jH, if_neg h1] at hb
  cases hg : X.g with
  | none => rw [hg] at hb; exact hb
  | some p =>
    obtain ⟨d', t'⟩ := p
    rw [hg] at hb
    by_cases e : d' = d
    . subst e
      rw [yK] at hb
      have := zfk (t := t') (.inl rfl) hb
      subst this
      exact gx.gs.2 _ _ hg
    . rw [yT fun d2 t2 e2 => by cases e2; exact e] at hb; exact hb
 have gy : GO E all y sl h my Y := ha X Y gx gyS
 have gxH : GO E all x sl (Y.hp h my) mx X := hb X Y gx gy
 have gx2 : GO E all x (Y.sl y sl) (Y.hp h my) mx X := by
  refine gxH.slots (fun t ht => (zrw gy (fun e => (i2 t e).1 ht) (fun e => i4 t e ht)).symm) fun d hd t hb => ?_
  have h1 : y.dst ≠ some d := fun e => (i2 d e).2 hd
  rw [jH, if_neg h1]
  cases hg : Y.g with
  | none => exact hb
  | some p =>
    obtain ⟨d', t'⟩ := p
    by_cases e : d' = d
    . subst e
      rw [yK]
      have := zfk (gy.gs.2 _ _ hg) hb
      subst this
      exact .inl rfl
    . rw [yT fun d2 t2 e2 => by cases e2; exact e]; exact hb
 refine zh7 ky (zfj inv) gy (zh7 kx inv gx2 (inv _ _ _ _ (fun u => ?_) (fun b => ?_) k2))
 . -- the slots
   rw [jH, jH]
   by_cases hy : y.dst = some u
   . have hx : x.dst ≠ some u := fun e => i5 u e hy
     rw [if_pos hy, if_neg hx]
     have : ∀ d t, X.g = some (d, t) -> d ≠ u := by
      rintro d t e rfl
      have := gx.gs.1
      rw [e] at this
      exact (i2 d hy).2 this.symm
     rw [yT this, jH, if_pos hy]
   . rw [if_neg hy]
     by_cases hx : x.dst = some u
     . rw [if_pos hx]
       have : ∀ d t, Y.g = some (d, t) -> d ≠ u := by
        rintro d t e rfl
        have := gy.gs.1
        rw [e] at this
        exact (i1 d hx).2 this.symm
       rw [yT this, jH, if_pos hx]
     . rw [if_neg hx]
       have hxs : ∀ s, lk (X.sl x s) u = lk (jO X.g s) u := fun s => by rw [jH, if_neg hx]
       have hys : ∀ s, lk (Y.sl y s) u = lk (jO Y.g s) u := fun s => by rw [jH, if_neg hy]
       by_cases ex : ∃ t, X.g = some (u, t)
       . obtain ⟨t, ex⟩ := ex
         rw [ex, yK]
         by_cases ey : ∃ t, Y.g = some (u, t)
         . obtain ⟨t', ey⟩ := ey
           rw [ey, yK, zfk (gy.gs.2 _ _ ey) (gx.gs.2 _ _ ex)]
         . rw [yT (g := Y.g) (fun d t e h => ey ⟨t, by rw [e, h]⟩), hxs, ex, yK]
       . rw [yT (g := X.g) (fun d t e h => ex ⟨t, by rw [e, h]⟩), hys]
         by_cases ey : ∃ t, Y.g = some (u, t)
         . obtain ⟨t, ey⟩ := ey
           rw [ey, yK, yK]
         . rw [yT (g := Y.g) (fun d t e h => ey ⟨t, by rw [e, h]⟩), yT (g := Y.g) (fun d t e h => ey ⟨t, by rw [e, h]⟩), hxs, yT (g := X.g) (fun d t e h => ex ⟨t, by rw [e, h]⟩)]
 . exact hc X Y gx gy b
theorem swap {x y : Oper} {mx my : Nat} {F : Nat -> Prop} {sl : Slots} {h : Heap} {K : Slots -> Heap -> Prop} (inv : Inv K) (wf : Wf E F sl h) (Fx : F mx) (Fy : F my) (hxy : mx ≠ my) (hi : zgh all x y = true)
 (k : qm E all x sl h mx fun sl h => qm E all y sl h my K) : qm E all y sl h my fun sl h => qm E all x sl h mx K := by
 obtain ⟨hk, i1, i2, i3, i4, i5⟩ := zqq hi
 have kx : zD x.op <= 3 := by omega
 have ky : zD y.op <= 3 := by omega
 refine zv9 inv kx ky i1 i2 i3 i4 i5 (fun X Y gx gyS => ?_) (fun X Y gx gy => ?_) (fun X Y gx gy b => ?_) k
 . obtain ⟨nx, fx⟩ := gx.facts kx wf
   rcases hk with ⟨h1, h2⟩ | ⟨h1, h2⟩ | ⟨h1, h2⟩
   . -- x reads nothing
     have hea : X.ns = [] /\ (X.ea = .nil \/ ∃ k, X.ea = .new k) := by
      unfold wi at fx
      have : zD x.op = 0 \/ zD x.op = 1 := by omega
      rcases this with e | e <;> rw [e] at fx
      . exact ⟨fx.1, .inl fx.2⟩
      . exact fx
     have hh : ∀ b, ¬ F b -> lkB (X.hp h mx) b = lkB h b := fun b hb => by unfold Out.hp; rw [hea.1]; exact zsc hea.2 Fx hb
     exact gyS.heap (HS.of_cold (fun b hb => by rw [hh b hb]) wf.hs).2 (fun _ b hb => hh b hb) wf.z wf.ev
   . exact gyS.still (by omega)
   . have hea : X.ea = .nil \/ ∃ k, X.ea = .new k := by
      unfold wi at fx
      have : zD x.op = 0 \/ zD x.op = 1 \/ zD x.op = 2 := by omega
      rcases this with e | e | e <;> rw [e] at fx
      . exact .inl fx.2
      . exact fx.2
      . exact fx
     exact gyS.heap (HS.of_cold (fun b hb => zob hea Fx hb) wf.hs).2 (fun e => by rw [zh6 h2] at e; cases e) wf.z wf.ev
 . obtain ⟨ny, fy⟩ := gy.facts ky wf
   rcases hk with ⟨h1, h2⟩ | ⟨h1, h2⟩ | ⟨h1, h2⟩
   . exact gx.still (by omega)
   . have hea : Y.ns = [] /\ (Y.ea = .nil \/ ∃ k, Y.ea = .new k) := by
      unfold wi at fy
      have : zD y.op = 0 \/ zD y.op = 1 := by omega
      rcases this with e | e <;> rw [e] at fy
      . exact ⟨fy.1, .inl fy.2⟩
      . exact fy
     have hh : ∀ b, ¬ F b -> lkB (Y.hp h my) b = lkB h b := fun b hb => by unfold Out.hp; rw [hea.1]; exact zsc hea.2 Fy hb
     exact gx.heap (HS.of_cold (fun b hb => by rw [hh b hb]) wf.hs).1 (fun _ b hb => (hh b hb).symm) wf.z wf.ev
   . have hea : Y.ea = .nil \/ ∃ k, Y.ea = .new k := by
      unfold wi at fy
      have : zD y.op = 0 \/ zD y.op = 1 \/ zD y.op = 2 := by omega
      rcases this with e | e | e <;> rw [e] at fy
      . exact .inl fy.2
      . exact fy.2
      . exact fy
     exact gx.heap (HS.of_cold (fun b hb => zob hea Fy hb) wf.hs).1 (fun e => by rw [zh6 h1] at e; cases e) wf.z wf.ev
 . obtain ⟨nx, fx⟩ := gx.facts kx wf
   obtain ⟨ny, fy⟩ := gy.facts ky wf
   have hxn : mx ∉ Y.ns := fun e => ny _ e Fx
   have hyn : my ∉ X.ns := fun e => nx _ e Fy
   have cold2 : ∀ (ns ns' : List Nat) (b : Nat), lkB (qy ns (qy ns' h)) b = lkB (qy ns' (qy ns h)) b := by
    intro ns ns' b
    rw [qz, qz, qz, qz]
    split <;> split <;> rfl
   have iceNew : ∀ (ns : List Nat) (g : Heap) (m : Nat) (k : Blk) (b : Nat), m ∉ ns -> lkB (qy ns ((m, k) :: g)) b = if b = m then some k else lkB (qy ns g) b := by
    intro ns g m k b hm
    rw [qz, wC, qz]
    by_cases e : b = m
    . subst e; simp [hm]
    . simp [e]
   have set0 : ∀ (c : Nat) (k : Blk) (g : Heap) (m : Nat) (k' : Blk) (b : Nat), c ≠ m -> lkB (stB ((m, k') :: g) c k) b = if b = m then some k' else lkB (stB g c k) b := by
    intro c k g m k' b hc
    simp only [stB]
    rw [wF (Ne.symm hc)]
    simp only
    rw [wC]
   have core : ∀ (X Y : Out) (mx my : Nat) (kx ky : Nat), F mx -> F my -> mx ≠ my -> mx ∉ Y.ns -> my ∉ X.ns -> (X.ns = [] /\ (X.ea = .nil \/ ∃ k, X.ea = .new k)) -> ((∃ b k, Y.ea = .set b k /\ ¬ F b)) -> ∀ b, lkB (Y.hp (X.hp h mx) my) b = lkB (X.hp (Y.hp h my) mx) b := by
    intro X Y mx my kx ky Fx Fy hxy hxn hyn hX hY b
    obtain ⟨c, kc, hc, hS⟩ := hY
    unfold Out.hp
    rw [hc, hX.1]
    rcases hX.2 with e | ⟨k, e⟩
    . rw [e]; rfl
    . rw [e]
      simp only [hE, qy]
      have : ∀ g g' : Heap, (∀ b, lkB g b = lkB g' b) -> ∀ b, lkB (stB g c kc) b = lkB (stB g' c kc) b := by
       intro g g' hg b
       have stn : ∀ (g : Heap), lkB g c = none -> stB g c kc = g := by
        intro g
        induction g with
        | nil => intro _; rfl
        | cons p r ih =>
          obtain ⟨i, v⟩ := p
          intro hn
          simp only [lkB] at hn
          cases hb : Nat.beq i c with
          | true => rw [hb] at hn; cases hn
          | false => rw [hb] at hn; simp only [stB, hb]; rw [ih hn]
       cases h1 : lkB g c with
       | none => rw [stn g h1, stn g' (by rw [<- hg, h1])]; exact hg b
       | some k0 => rw [wo h1, wo (h := g') (by rw [<- hg, h1]), hg]
      rw [this _ ((mx, k) :: qy Y.ns h) (fun b => by rw [iceNew _ _ _ _ _ hxn, wC]), set0 _ _ _ _ _ _ (by rintro rfl; exact hS Fx), wC]
   have norm : ∀ (o : Oper) (Z : Out), zD o.op <= 3 -> wi (fun b => ¬ F b) o.op Z.ns Z.ea -> (Z.ea = .nil \/ ∃ k, Z.ea = .new k) \/ ∃ b k, Z.ea = .set b k /\ ¬ F b := by
    intro o Z ho f
    unfold wi at f
    have : zD o.op = 0 \/ zD o.op = 1 \/ zD o.op = 2 \/ zD o.op = 3 := by omega
    rcases this with e | e | e | e <;> rw [e] at f
    . exact .inl (.inl f.2)
    . exact .inl f.2
    . exact .inl f
    . rcases f with f | f
      . exact .inl (.inl f.2)
      . exact .inr f
   have low : ∀ (o : Oper) (Z : Out), zD o.op <= 1 -> wi (fun b => ¬ F b) o.op Z.ns Z.ea -> Z.ns = [] /\ (Z.ea = .nil \/ ∃ k, Z.ea = .new k) := by
    intro o Z ho f
    unfold wi at f
    have : zD o.op = 0 \/ zD o.op = 1 := by omega
    rcases this with e | e <;> rw [e] at f
    . exact ⟨f.1, .inl f.2⟩
    . exact f
   have low2 : ∀ (o : Oper) (Z : Out), zD o.op <= 2 -> wi (fun b => ¬ F b) o.op Z.ns Z.ea -> (Z.ea = .nil \/ ∃ k, Z.ea = .new k) := by
    intro o Z ho f
    rcases norm o Z (by omega) f with f' | ⟨b, k, f', _⟩
    . exact f'
    . exfalso
      unfold wi at f
      have : zD o.op = 0 \/ zD o.op = 1 \/ zD o.op = 2 := by omega
      rcases this with e | e | e <;> rw [e, f'] at f <;> simp at f
   rcases norm x X kx fx with hX | hX
   . rcases norm y Y ky fy with hY | hY
     . unfold Out.hp
       rcases hX with eX | ⟨kX, eX⟩ <;> rcases hY with eY | ⟨kY, eY⟩ <;> rw [eX, eY] <;> simp only [hE]
       . exact cold2 _ _ b
       . rw [wC, iceNew _ _ _ _ _ hyn, cold2]
       . rw [wC, iceNew _ _ _ _ _ hxn, cold2]
       . rw [wC, wC, iceNew _ _ _ _ _ hyn, iceNew _ _ _ _ _ hxn, cold2]
         by_cases e1 : b = my
         . subst e1; simp [Ne.symm hxy]
         . simp [e1]
     . have : ¬ zD y.op <= 2 := fun e => by
        rcases low2 y Y e fy with f | ⟨k, f⟩ <;> obtain ⟨b, k, g, _⟩ := hY <;> rw [f] at g <;> cases g
       exact core X Y mx my 0 0 Fx Fy hxy hxn hyn (low x X (by omega) fx) hY b
   . have : ¬ zD x.op <= 2 := fun e => by
      rcases low2 x X e fx with f | ⟨k, f⟩ <;> obtain ⟨b, k, g, _⟩ := hX <;> rw [f] at g <;> cases g
     exact (core Y X my mx 0 0 Fy Fx (Ne.symm hxy) hyn hxn (low y Y (by omega) fy) hX b).symm
end
def ze3 : Op -> Bool
 | .move _ | .assign _ | .load .. | .indexAddr .. | .fieldAddr .. | .nilCheck _ | .field .. | .index .. | .binOp .. | .unOp .. | .convert .. => true
 | .call c => match c.callee with
   | .builtin .len => true
   | _ => false
 | _ => false
def zmg (ea : EA) : Prop := ea = .nil
theorem wn : zmg .nil := rfl
section
variable {E : Env} {sl : Slots} {h : Heap} {n : Nat}
theorem zbc {d : TD} {b : Bool} {p q : Prop} (h : shp d b p) (g : p -> q) : shp d b q := by
 cases d <;> cases b <;> first | exact h.elim | exact g h
theorem zwz {S : Nat -> Prop} {op : BinOp} {T : TypeId} {x y : SV} {ns : List Nat} {ea : EA} {K : KE} (hk : jg E op T x y fun v => K v ns ea) : jg E op T x y fun v => (v.nmd S /\ zmg .nil) /\ K v ns ea := by
 unfold jg at hk ⊢
 split at hk <;> (try exact hk.elim)
 all_goals first
  | (split at hk
     case h_2 => cases hk
     rename_i e
     first
      | exact ⟨⟨trivial, wn⟩, hk⟩
      | (obtain ⟨s, k, g⟩ := wO hk; exact g _ ⟨⟨trivial, wn⟩, k⟩)
      | (obtain ⟨p, k⟩ := qk hk; obtain ⟨s, k, g⟩ := wO k; exact qh p (g _ ⟨⟨trivial, wn⟩, k⟩))
      | (obtain ⟨p, k⟩ := qk hk; exact qh p ⟨⟨trivial, wn⟩, k⟩))
  | (obtain ⟨p, k⟩ := qk hk; obtain ⟨s, k, g⟩ := wO k; exact qh p (g _ ⟨⟨trivial, wn⟩, k⟩))
  | (obtain ⟨p, k⟩ := qk hk; exact qh p ⟨⟨trivial, wn⟩, k⟩)
theorem zoh {S : Nat -> Prop} {o : Op} {K : KE} (hc : ze3 o = true) (e : HS S h h) (hr : ∀ b, S b -> ∀ o s xs, lkB h b = some (.row o s xs) -> qr S xs) (hn : ∀ x ∈ zF o, (ev E sl x).nmd S) (hk : opE E sl h n o K) : opE E sl h n o fun v ns ea => (v.nmd S /\ zmg ea) /\ K v ns ea := by
 cases o with
 | move x => simp only [opE, zp] at hk ⊢; exact ⟨⟨hn x (by simp [zF]), wn⟩, hk⟩
 | assign x => simp only [opE, zp] at hk ⊢; exact ⟨⟨hn x (by simp [zF]), wn⟩, hk⟩
 | nilCheck x =>
   have hx := hn x (by simp [zF])
   simp only [opE] at hk ⊢
   split at hk <;> first | exact hk.elim | (rename_i e1; rw [e1] at hx; exact ⟨⟨hx, wn⟩, hk⟩)
 | fieldAddr T x f =>
   have hx := hn x (by simp [zF])
   simp only [opE] at hk ⊢
   split at hk
   case h_2 => cases hk
   rename_i e1
   split at hk
   case h_2 => cases hk
   rename_i e2
   split at hk
   case h_2 => cases hk
   rename_i e3
   try simp only [e3]
   split at hk
   . rename_i e4; rw [e4] at hx; exact ⟨⟨hx, wn⟩, hk⟩
   . rename_i t e4; rw [e4] at hx
     obtain ⟨s, ⟨k1, k2⟩, g⟩ := wl (yS (S := S) (v := t) hx hk)
     exact g _ ⟨⟨k1, wn⟩, k2⟩
   . cases hk
 | field T x f =>
   have hx := hn x (by simp [zF])
   simp only [opE] at hk ⊢
   split at hk
   case h_2 => cases hk
   rename_i e1
   split at hk
   case h_2 => cases hk
   rename_i e2
   obtain ⟨s, ⟨k1, k2⟩, g⟩ := wl (yS hx hk)
   refine g _ ?_
   split at k2
   case h_2 => cases k2
   rename_i e3
   try simp only [e3]
   exact zbc (p := K s [] .nil) k2 fun k => ⟨⟨k1, wn⟩, k⟩
 | load T x =>
   have hx := hn x (by simp [zF])
   simp only [opE] at hk ⊢
   split at hk
   . rename_i e1
     rw [e1] at hx
     split at hk
     . rename_i e2
       obtain ⟨s, ⟨k1, k2⟩, g⟩ := wl (yS (e.var _ hx _ _ e2) hk)
       try simp only [e2]
       refine g _ ?_
       split at k2
       case h_2 => cases k2
       rename_i e3
       try simp only [e3]
       exact zbc (p := K s [] .nil) k2 fun k => ⟨⟨k1, wn⟩, k⟩
     . rename_i e2
       split at hk
       . cases hk
       . obtain ⟨s, ⟨k1, k2⟩, g⟩ := wl (yS (S := S) (v := .arr 0 _ _) (hr _ hx _ _ _ e2) hk)
         refine g _ ?_
         split at k2
         case h_2 => cases k2
         rename_i e3
         try simp only [e3]
         exact zbc (p := K s [] .nil) k2 fun k => ⟨⟨k1, wn⟩, k⟩
     . cases hk
   . rename_i e1
     rw [e1] at hx
     rw [zp] at hk ⊢
     split at hk
     case h_2 => cases hk
     rename_i e3
     try simp only [e3]
     exact zbc (p := K _ [] .nil) hk fun k => ⟨⟨hx, wn⟩, k⟩
   . cases hk
 | indexAddr T x i =>
   have hx := hn x (by simp [zF])
   simp only [opE] at hk ⊢
   split at hk
   case h_2 => cases hk
   rename_i e1
   split at hk
   . rename_i e2
     split at hk
     . rename_i e3
       rw [e3] at hx
       split at hk
       case h_2 => cases hk
       rename_i e4 e5
       try simp only [e4, e5]
       unfold wm at hk ⊢
       obtain ⟨s, h0, h1, k⟩ := hk
       exact ⟨s, h0, h1, ⟨(uH (p := S) hx h1 : s.nmd S), wn⟩, k⟩
     . rename_i e3
       rw [e3] at hx
       split at hk
       case h_2 => cases hk
       rename_i e4 e5
       try simp only [e4, e5]
       obtain ⟨p, k⟩ := qk hk
       exact qh p ⟨⟨hx, wn⟩, k⟩
     . cases hk
   . rename_i e2
     split at hk
     . rename_i e3 e4
       rw [e4] at hx
       try simp only [e3]
       obtain ⟨p, k⟩ := qk hk
       exact qh p ⟨⟨hx, wn⟩, k⟩
     . rename_i t e3 e4
       rw [e4] at hx
       try simp only [e3]
       obtain ⟨p, k⟩ := qk hk
       obtain ⟨s, ⟨k1, k2⟩, g⟩ := wl (yS (S := S) (v := t) hx k)
       exact qh p (g _ ⟨⟨k1, wn⟩, k2⟩)
     . cases hk
   . cases hk
 | index T x i =>
   have hx := hn x (by simp [zF])
   simp only [opE] at hk ⊢
   split at hk
   . obtain ⟨s, k, g⟩ := zho hk
     exact g _ ⟨⟨trivial, wn⟩, k⟩
   . rename_i e1 e2 e3
     rw [e3] at hx
     split at hk
     case h_2 => cases hk
     rename_i e4
     try simp only [e4]
     unfold wm at hk ⊢
     obtain ⟨s, h0, h1, k⟩ := hk
     refine ⟨s, h0, h1, ?_⟩
     have hs := uH (p := S) hx h1
     split at k
     case h_2 => cases k
     rename_i e5
     try simp only [e5]
     exact zbc (p := K s [] .nil) k fun k => ⟨⟨hs, wn⟩, k⟩
   . cases hk
 | binOp op T x y T' =>
   simp only [opE] at hk ⊢
   exact zwz hk
 | unOp op T x =>
   cases op <;> simp only [opE] at hk ⊢ <;> (try exact hk.elim)
   all_goals (split at hk <;> first | exact hk.elim | exact ⟨⟨trivial, wn⟩, hk⟩ | (obtain ⟨s, k, g⟩ := wO hk; exact g _ ⟨⟨trivial, wn⟩, k⟩))
 | convert S' T x =>
   simp only [opE] at hk ⊢
   split at hk
   . cases hk
   . rename_i e1 e2 e3
     obtain ⟨s, k, g⟩ := wO hk
     exact g _ ⟨⟨trivial, wn⟩, k⟩
   . rename_i e1 e2 e3
     exact ⟨⟨trivial, wn⟩, hk⟩
   . rename_i e1 e2 e3
     exact ⟨⟨trivial, wn⟩, hk⟩
   . cases hk
 | call c =>
   simp only [opE] at hk ⊢
   split at hk
   . rename_i e0
     split at hk
     case h_2 => cases hk
     split at hk <;> first
      | cases hk
      | exact ⟨⟨trivial, wn⟩, hk⟩
      | (split at hk
         case h_2 => cases hk
         exact ⟨⟨trivial, wn⟩, hk⟩)
   all_goals (exfalso; simp only [ze3] at hc; first | (cases hc; done) | (split at hc <;> simp_all))
 | _ => cases hc
end
def apL (T : List Nat) : List Nat -> Bool
 | [] => true
 | t :: r => match qB t T with | true => false | false => apL T r
theorem zkg {T : List Nat} : ∀ {l : List Nat}, apL T l = true -> ∀ t ∈ l, t ∉ T
 | t :: r, h, t', ht => by
   simp only [apL] at h
   split at h
   . cases h
   . rename_i e
     rcases List.mem_cons.1 ht with rfl | ht
     . exact zl8 e
     . exact zkg h t' ht
def tnt : List Oper -> List Nat -> List Nat
 | [], T => T
 | o :: r, T => match o.dst with
   | none => tnt r T
   | some d => match ze3 o.op, apL T (zU o) with
     | true, true => tnt r T
     | _, _ => tnt r (d :: T)
def xk (T : List Nat) : List Oper -> Bool
 | [] => true
 | o :: r => match o.dst with
   | none => xk T r
   | some d => match qB d T with
     | true => xk T r
     | false => match ze3 o.op, apL T (zU o) with
       | true, true => xk T r
       | _, _ => false
theorem memb_true {x : Nat} {l : List Nat} : qB x l = true ↔ x ∈ l := by
 induction l with
 | nil => simp [qB]
 | cons y r ih =>
   simp only [qB]
   cases hb : Nat.beq x y with
   | true => simp [zi hb]
   | false => simp [ih, jc hb]
theorem zcb {T : List Nat} : ∀ {l : List Oper}, xk T l = true -> ∀ o ∈ l, ∀ d, o.dst = some d -> d ∉ T -> ze3 o.op = true /\ ∀ t ∈ zU o, t ∉ T
 | [], _, _, ho, _, _, _ => by cases ho
 | o :: r, h, o', ho, d, hd, hT => by
   simp only [xk] at h
   rcases List.mem_cons.1 ho with rfl | ho
   . rw [hd] at h
     simp only at h
     split at h
     . rename_i e
       exact absurd (memb_true.1 e) hT
     . split at h
       . rename_i e1 e2; exact ⟨e1, zkg e2⟩
       . cases h
   . split at h
     . exact zcb h o' ho d hd hT
     . split at h
       . exact zcb h o' ho d hd hT
       . split at h
         . exact zcb h o' ho d hd hT
         . cases h
def zb3 (t : Nat) : List Oper -> Nat -> Option Nat -> Option Nat
 | [], _, r => r
 | o :: l, i, r => match o.dst with
   | none => zb3 t l (i + 1) r
   | some d => match Nat.beq d t with
     | false => zb3 t l (i + 1) r
     | true => match r, o.op, o.guard with
       | none, .alloc _, none => zb3 t l (i + 1) (some i)
       | none, .box _ _, none => zb3 t l (i + 1) (some i)
       | _, _, _ => none
theorem zim {t : Nat} {all : List Oper} : ∀ {l pre : List Oper} {r : Option Nat} {i : Nat}, all = pre ++ l -> zb3 t l pre.length r = some i -> (∀ j o, j < pre.length -> all[j]? = some o -> o.dst = some t -> r = some j) -> (∀ j, r = some j -> ∃ o, all[j]? = some o /\ o.dst = some t /\ o.guard = none /\ ((∃ T, o.op = .alloc T) \/ ∃ T x, o.op = .box T x)) ->
 (∃ o, all[i]? = some o /\ o.dst = some t /\ o.guard = none /\ ((∃ T, o.op = .alloc T) \/ ∃ T x, o.op = .box T x)) /\ ∀ j o, all[j]? = some o -> o.dst = some t -> j = i
 | [], pre, r, i, ha, h, h1, h2 => by
   simp only [zb3] at h
   subst h
   simp only [List.append_nil] at ha
   subst ha
   refine ⟨h2 i rfl, fun j o hj hd => ?_⟩
   have hlt : j < all.length := by
    rcases Nat.lt_or_ge j all.length with g | g
    . exact g
    . rw [List.getElem?_eq_none g] at hj; cases hj
   have := h1 j o hlt hj hd
   cases this; rfl
 | o :: l, pre, r, i, ha, h, h1, h2 => by
   have hat : all[pre.length]? = some o := by rw [ha]; simp
   have step : ∀ r', zb3 t l (pre.length + 1) r' = some i -> (∀ j o, j < pre.length + 1 -> all[j]? = some o -> o.dst = some t -> r' = some j) -> (∀ j, r' = some j -> ∃ o, all[j]? = some o /\ o.dst = some t /\ o.guard = none /\ ((∃ T, o.op = .alloc T) \/ ∃ T x, o.op = .box T x)) -> _ := fun r' hh g1 g2 =>
    zim (l := l) (pre := pre ++ [o]) (r := r') (i := i) (by rw [ha]; simp) (by simpa using hh) (by simpa using g1) g2
   have keep : o.dst ≠ some t -> ∀ j o', j < pre.length + 1 -> all[j]? = some o' -> o'.dst = some t -> r = some j := by
    intro hne j o' hj hj' hd
    rcases Nat.lt_or_ge j pre.length with g | g
    . exact h1 j o' g hj' hd
    . have : j = pre.length := by omega
      subst this
      rw [hat] at hj'; cases hj'
      exact absurd hd hne
   simp only [zb3] at h
   split at h
   . rename_i e; exact step r h (keep (by rw [e]; simp)) h2
   . rename_i d e
     split at h
     . rename_i hb; exact step r h (keep (by rw [e]; intro hh; cases hh; simp at hb)) h2
     . rename_i hb
       have := zi hb; subst this
       have new : r = none -> ∀ j o', j < pre.length + 1 -> all[j]? = some o' -> o'.dst = some d -> some pre.length = some j := by
        intro hr j o' hj hj' hd
        rcases Nat.lt_or_ge j pre.length with g | g
        . have := h1 j o' g hj' hd
          rw [hr] at this; cases this
        . congr 1; omega
       split at h
       . rename_i T e1 e2 
         exact step _ h (new rfl) fun j hj => by cases hj; exact ⟨o, hat, e, e2, .inl ⟨T, e1⟩⟩
       . rename_i T x e1 e2
         exact step _ h (new rfl) fun j hj => by cases hj; exact ⟨o, hat, e, e2, .inr ⟨T, x, e1⟩⟩
       . cases h
def frS (all : List Oper) (y : Oper) : Option Nat :=
 match y.op with
 | .store _ (.tmp t) _ => zb3 t all 0 none
 | _ => none
def zys (all : List Oper) : List Oper -> Bool
 | [] => true
 | o :: r => match o.op with
   | .store .. => (match frS all o with | some _ => zys all r | none => false)
   | _ => zys all r
def tgB (all : List Oper) (Rs : List Nat) (y : Oper) : Bool :=
 match frS all y with
 | some _ => true
 | none => match y.op with
   | .store _ (.tmp t) _ => qB t Rs
   | _ => false
def zgg (all : List Oper) (T Rs : List Nat) (x y : Oper) : Bool :=
 match tgB all Rs y, Nat.ble (zD x.op) 2, apL T (zU x), y.guard with
 | true, true, true, none => (match ye x.dst (zU y) (we all y), ye y.dst (zU x) (we all x), ye (we all x) (zU y) none, ye (we all y) (zU x) none, ye x.dst [] y.dst with
   | true, true, true, true, true => true
   | _, _, _, _, _ => false)
 | _, _, _, _ => false
structure Cl (E : Env) (all : List Oper) (n : Nat) (T Rs : List Nat) (S : Nat -> Prop) (L : Nat -> Prop) (sl : Slots) (h : Heap) : Prop where
 sub : ∀ b, S b -> b < n
 slot : ∀ t, t ∉ T -> (lk sl t).nmd S
 glb : ∀ g, (ev E sl (.global g)).nmd S
 var : ∀ b, S b -> ∀ o v, lkB h b = some (.var o v) -> v.nmd S
 row : ∀ b, S b -> ∀ o s xs, lkB h b = some (.row o s xs) -> qr S xs
 made : ∀ i o t, L i -> all[i]? = some o -> o.dst = some t -> o.guard = none -> (∀ j o', all[j]? = some o' -> o'.dst = some t -> j = i) -> ((∃ T, o.op = .alloc T) \/ ∃ T x, o.op = .box T x) -> lk sl t = .ptr (n + i) []
 root : ∀ t, t ∈ Rs -> (∀ o ∈ all, o.dst ≠ some t) /\ ∃ f, lk sl t = .ptr f [] /\ f < n /\ ¬ S f
section
variable {E : Env} {all : List Oper} {n : Nat} {T Rs : List Nat} {S : Nat -> Prop} {L : Nat -> Prop} {sl : Slots} {h : Heap}
theorem Cl.hs (c : Cl E all n T Rs S L sl h) : HS S h h := ⟨fun _ _ => rfl, c.var⟩
theorem zae {S : Nat -> Prop} (v : Value) : (zjm v).nmd S := by
 unfold zjm
 split <;> trivial
theorem Cl.ev (c : Cl E all n T Rs S L sl h) {o : Oper} (hT : ∀ t ∈ zU o, t ∉ T) : ∀ x ∈ zF o.op, (ev E sl x).nmd S := by
 intro x hx
 cases x with
 | tmp t =>
   have := c.slot t (hT t (jB hx rfl))
   simp only [Sx.ev]
   split
   . exact this
   . trivial
 | const v => exact zae v
 | global g => exact c.glb g
 | func f => exact trivial
theorem Cl.ev_ref (c : Cl E all n T Rs S L sl h) {o : Oper} (hT : ∀ t ∈ zU o, t ∉ T) {d : Nat} {b : Option Bool} : ∀ x ∈ zF o.op, (Sx.ev E ((d, B b) :: sl) x).nmd S := by
 intro x hx
 cases x with
 | tmp t =>
   have := c.slot t (hT t (jB hx rfl))
   simp only [Sx.ev]
   split
   . rw [lk]
     split
     . cases b with
       | none => trivial
       | some b => cases b <;> trivial
     . exact this
   . trivial
 | const v => exact zae v
 | global g => exact c.glb g
 | func f => exact trivial
end
end Go.Sx
