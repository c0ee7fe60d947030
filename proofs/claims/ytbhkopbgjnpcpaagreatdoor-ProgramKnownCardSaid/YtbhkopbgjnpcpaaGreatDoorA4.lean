/-
  CLOSED RUNS ARE RUNS OF THE EXECUTOR: code, calls, rounds. Generic: no program in sight. An own text.
  CLOSED RUNS: whole calls. Generic: no program in sight. An own text.
-/
import Derived.Test.YtbhkopbgjnpcpaaGreatDoorA3
namespace Go.Sx
inductive Rq where
 | ret (f : FuncId) (as : List SV)
 | sem (f : FuncId) (as : List SV) (sl : Slots) (h : Heap) (n : Nat) (K : SV → Slots → Heap → Nat → Rt)
 | yld (b : Nat) (as : List SV) (sl : Slots) (h : Heap) (n : Nat) (K : SV → Slots → Heap → Nat → Rt)
abbrev KXC := Exit → Slots → Heap → Nat → Rt
def appC (v : SV) (ns : List Nat) (a : EA) (d : Option Nat) (sl : Slots) (h : Heap) (n : Nat) (K : Slots → Heap → Rt) : Rt :=
 iceK ns h fun h =>
 match a with
 | .nil => (match d with | some d => K ((d, v) :: sl) h | none => K sl h)
 | .new k => (match d with | some d => K ((d, v) :: sl) ((n, k) :: h) | none => K sl ((n, k) :: h))
 | .set b k => stK h b k fun h => (match d with | some d => K ((d, v) :: sl) h | none => K sl h)
 | .app b k => killSK b sl fun sl => killHK b h fun h => stK h b k fun h => (match d with | some d => K ((d, v) :: sl) h | none => K sl h)
theorem app_c {r : SV} {v : SV} {ns : List Nat} {a : EA} {d : Option Nat} {sl : Slots} {h : Heap} {n : Nat} {K : Slots → Heap → Rt} {K' : Slots → Heap → Prop} (hk : appC v ns a d sl h n K = some r) (g : ∀ s h, K s h = some r → K' s h) : app v ns a d sl h n K' := by
 unfold appC at hk
 unfold app
 rw [iceK_eq] at hk ⊢
 cases a <;> cases d <;> simp only [stK_eq, killSK_eq, killHK_eq] at hk ⊢ <;> exact g _ _ hk
def grdC (all : List Oper) (g : Option (Nat × Bool)) (sl : Slots) (Kyes Kno : Slots → Rt) : Rt :=
 match g with
 | none => Kyes sl
 | some (j, want) => match all[j]? with
   | some o => (match o.dst with
     | some d => (match lk sl d with
       | .tru => (match want with | true => Kyes sl | false => Kno sl)
       | .fls => (match want with | true => Kno sl | false => Kyes sl)
       | .bool b => (match b with
         | true => (match want with | true => Kyes ((d, .tru) :: sl) | false => Kno ((d, .tru) :: sl))
         | false => (match want with | true => Kno ((d, .fls) :: sl) | false => Kyes ((d, .fls) :: sl)))
       | .tup [] => Kno sl
       | _ => none)
     | none => none)
   | none => none
theorem grd_c {r : SV} {all : List Oper} {g : Option (Nat × Bool)} {sl : Slots} {Ky Kn : Slots → Rt} {Ky' Kn' : Slots → Prop} (hk : grdC all g sl Ky Kn = some r) (g1 : ∀ s, Ky s = some r → Ky' s) (g2 : ∀ s, Kn s = some r → Kn' s) : grd all g sl Ky' Kn' := by
 unfold grdC at hk
 unfold grd
 split at hk
 · exact g1 _ hk
 · split at hk
   case h_2 => cases hk
   rename_i e1
   split at hk
   case h_2 => cases hk
   rename_i e2
   simp only [e1, e2]
   split at hk
   · rename_i e3; simp only [e3]; split at hk <;> first | exact g1 _ hk | exact g2 _ hk
   · rename_i e3; simp only [e3]; split at hk <;> first | exact g1 _ hk | exact g2 _ hk
   · rename_i b e3
     simp only [e3]
     split at hk <;> split at hk <;> first
      | exact ⟨fun _ => g1 _ hk, fun h => (by cases h)⟩
      | exact ⟨fun h => (by cases h), fun _ => g2 _ hk⟩
   · rename_i e3; simp only [e3]; exact g2 _ hk
   · cases hk
def opsXC (E : Env) (CR : FuncId → List SV → Rt) (all : List Oper) : List Oper → Slots → Heap → Nat → (Slots → Heap → Nat → Rt) → Rt
 | [], sl, h, n, K => K sl h n
 | o :: r, sl, h, n, K => grdC all o.guard sl (fun sl => opC E CR sl h n o.op fun v ns a => appC v ns a o.dst sl h n fun sl h => opsXC E CR all r sl h (n + 1) K)
   (fun sl => match o.dst with
     | some d => opsXC E CR all r ((d, und) :: sl) h (n + 1) K
     | none => opsXC E CR all r sl h (n + 1) K)
theorem opsX_c {r : SV} {E : Env} {CR : FuncId → List SV → Rt} (hCR : ∀ f args r, CR f args = some r → Ret E f args r) {all : List Oper} : ∀ {l : List Oper} {sl : Slots} {h : Heap} {n : Nat} {K : Slots → Heap → Nat → Rt} {K' : Slots → Heap → Nat → Prop}, opsXC E CR all l sl h n K = some r → (∀ s h n, K s h n = some r → K' s h n) → opsX E all l sl h n K'
 | [], sl, h, n, K, K', hk, g => by simp only [opsXC, opsX] at hk ⊢; exact g _ _ _ hk
 | o :: l, sl, h, n, K, K', hk, g => by
   simp only [opsXC, opsX, gopX, opX] at hk ⊢
   refine grd_c hk (fun s hs => op_c hCR hs fun a b c hs => app_c hs fun s h hs => opsX_c hCR hs g) (fun s hs => ?_)
   split at hs <;> (rename_i e; simp only [e]; exact opsX_c hCR hs g)
def lendC (E : Env) (d : Option Nat) (o : Op) (sl : Slots) (Kno : Rt) (Kyes : FuncId → List SV → Rt) (Kyld : Nat → List SV → Rt) : Rt :=
 match o with
 | .call c => match c.callee with
   | .value f => match ev E sl f with
     | .fn g caps => match lentB E.lend g d with
       | true => frcL (c.args.toList.map (ev E sl)) fun as => match noTup as with
         | true => Kyes g (as ++ caps)
         | false => none
       | false => Kno
     | .yld b => frcL (c.args.toList.map (ev E sl)) fun as => match noTup as with
        | true => Kyld b as
        | false => none
     | _ => Kno
   | _ => Kno
 | _ => Kno
theorem lend_c {r : SV} {E : Env} {d : Option Nat} {o : Op} {sl : Slots} {Kno : Rt} {Kyes : FuncId → List SV → Rt} {Kyld : Nat → List SV → Rt} {Kno' : Prop} {Kyes' : FuncId → List SV → Prop} {Kyld' : Nat → List SV → Prop}
 (hk : lendC E d o sl Kno Kyes Kyld = some r) (g1 : Kno = some r → Kno') (g2 : ∀ f as, Kyes f as = some r → Kyes' f as) (g3 : ∀ b as, Kyld b as = some r → Kyld' b as) : lendX E d o sl Kno' Kyes' Kyld' := by
 unfold lendC at hk
 unfold lendX
 split at hk
 · split at hk
   · rename_i e0
     simp only [e0]
     split at hk
     · rename_i e1
       simp only [e1]
       split at hk
       · rename_i e2
         simp only [e2]
         rw [frcL_eq] at hk ⊢
         split at hk
         case h_2 => cases hk
         rename_i e3
         simp only [e3]
         exact g2 _ _ hk
       · rename_i e2; simp only [e2]; exact g1 hk
     · rename_i e1
       simp only [e1]
       rw [frcL_eq] at hk ⊢
       split at hk
       case h_2 => cases hk
       rename_i e3
       simp only [e3]
       exact g3 _ _ hk
     · rename_i e1 e2; split
       · rename_i e; exact absurd e (e1 _ _)
       · rename_i e; exact absurd e (e2 _)
       · exact g1 hk
   · rename_i e0
     simp only
     exact g1 hk
 · rename_i e0; split
   · exact absurd rfl (e0 _)
   · exact g1 hk
def opYC (E : Env) (run : Rq → Rt) (o : Oper) (sl : Slots) (h : Heap) (n : Nat) (K : Slots → Heap → Nat → Rt) : Rt :=
 match nilT E o with
 | some sz => (match o.dst with
   | some d => K ((d, .osl n sz) :: sl) ((n, .row true sz []) :: h) (n + 1)
   | none => K sl h (n + 1))
 | none => lendC E o.dst o.op sl (opC E (fun f as => run (.ret f as)) sl h n o.op fun v ns a => appC v ns a o.dst sl h n fun sl h => K sl h (n + 1)) (fun f as =>
   run (.sem f as sl h n fun r sl h n => match o.dst with
    | some d => K ((d, r) :: sl) h n
    | none => K sl h n)) fun b as =>
   run (.yld b as sl h n fun r sl h n => match o.dst with
    | some d => K ((d, r) :: sl) h n
    | none => K sl h n)
def vslC (E : Env) (T : TypeId) (hi : Option Operand) (sl : Slots) (h : Heap) (b : Nat) (p : List Step) (K : SV → Rt) : Rt :=
 match lkB h b with
 | some (.var _ v) => navC v p fun u => match u with
   | .arr N sz _ => match (lkT E.tt T).d with
     | .arr m e => (match Nat.beq m N && Nat.beq sz 1 && Nat.beq (lkT E.tt e).size 1 with
       | true => (match hi with
         | none => K (.vsl b p N)
         | some y => match ev E sl y with
           | .int _ i => idxC ((List.range (N + 1)).map fun j => SV.vsl b p j) i K
           | _ => none)
       | false => none)
     | _ => none
   | _ => none
 | _ => none
def copyC (E : Env) (T : TypeId) (vd vs : SV) (h : Heap) (K : Nat → Heap → Rt) : Rt :=
 match vd, vs with
 | .vsl b p n, .vsl b' p' n' => match crosses p, lkB h b, lkB h b' with
   | false, some (.var true v), some (.var _ v') => navC v p fun u => navC v' p' fun u' => match u, u' with
     | .arr N sz xs, .arr N' sz' ys => (match Nat.beq sz 1 && Nat.beq sz' 1 && Nat.ble n N && Nat.ble n' N', (lkT E.tt T).d with
       | true, .sl e => (match Nat.beq (lkT E.tt e).size 1 with
         | true => updC v (.arr N 1 (ys.take (min n' n) ++ xs.drop (min n' n))) p fun v2 => stK h b (.var true v2) fun h2 => K (min n' n) h2
         | false => none)
       | _, _ => none)
     | _, _ => none
   | _, _, _ => none
 | _, _ => none
def mkIC (E : Env) (T : TypeId) (v : SV) (K : SV → Rt) : Rt := match (lkT E.tt T).d with
 | .ifc | .other => none
 | _ => frcL [v] fun cs => match noTup cs with | true => K (.ifc T cs) | false => none
def invC (E : Env) (ret : Nat → List SV → Rt) (rv : SV) (name : String) (as : List SV) (h : Heap) (K : SV → Heap → Rt) : Rt := match rv with
 | .ifc T vs => (match lkM E.mt T name, noTup as with
   | some f, true => frzLC h 60 as [] fun as ns => frzLC h 60 vs ns fun vs ns => (match ret f (vs ++ as) with
     | some r => frc r fun r => iceK ns h fun h2 => K r h2
     | none => none)
   | _, _ => none)
 | _ => none
def sl3C (E : Env) (T : TypeId) (x : SV) (lo : Option SV) (hi mx : SV) (K : SV → Rt) : Rt :=
 match (lkT E.tt T).d with
 | .sl e => (match Nat.ble 1 (lkT E.tt e).size with
   | true => (match isSl x, lo, zeroI hi, zeroI mx with
     | true, none, true, true => K .mt
     | true, some l, true, true => (match zeroI l with | true => K .mt | false => none)
     | _, _, _, _ => none)
   | false => none)
 | _ => none
def sufC (E : Env) (T : TypeId) (lo : SV) (h : Heap) (b sz : Nat) (K : SV → Rt) : Rt :=
 match lkB h b, lo, (lkT E.tt T).d with
 | some (.row true sz' xs), .int _ i, .sl e => (match Nat.beq sz 1 && Nat.beq sz' 1 && Nat.beq (lkT E.tt e).size 1 with
   | true => sideC (0 ≤ i ∧ i < xs.length) (frN i.toNat fun j => frN (xs.length - i.toNat) fun n => K (.vsl b [.idx j 1] n))
   | false => none)
 | _, _, _ => none
def clrC (E : Env) (T : TypeId) (v : SV) (h : Heap) (K : Heap → Rt) : Rt :=
 match v, (lkT E.tt T).d with
 | .vsl b [.idx i sz] n, .sl e => (match lkB h b with
   | some (.row true sz' xs) => solC (lkT E.tt e).zero fun z => (match Nat.beq sz 1 && Nat.beq sz' 1 && Nat.beq z.sz 1 && Nat.beq (lkT E.tt e).size 1 with
     | true => sideC (1 ≤ n ∧ i + n ≤ xs.length) (frcL (xs.take i ++ (List.replicate n z ++ xs.drop (i + n))) fun ys => stK h b (.row true 1 ys) fun h2 => K h2)
     | false => none)
   | _ => none)
 | _, _ => none
def alcC (E : Env) (T : TypeId) (h : Heap) (n : Nat) (K : SV → Heap → Rt) : Rt := match isB0 (lkT E.tt T).zero with
 | true => K (.ptr n []) ((n, .tv T (.agg [.nilp, .nils])) :: h)
 | false => none
def opZC (E : Env) (run : Rq → Rt) (all : List Oper) (o : Oper) (sl : Slots) (h : Heap) (n : Nat) (K : Slots → Heap → Nat → Rt) : Rt :=
 match isCp o.op with
 | some (d, s, T) => copyC E T (ev E sl (.tmp d)) (ev E sl (.tmp s)) h fun k h2 => frN k fun k => (match o.dst with | some t => K ((t, .int .i64 k) :: sl) h2 (n + 1) | none => K sl h2 (n + 1))
 | none => match alcB E o.op with
  | some T => alcC E T h n fun v h2 => (match o.dst with | some t => K ((t, v) :: sl) h2 (n + 1) | none => K sl h2 (n + 1))
  | none => match b2sB E o.op with
  | some _ => none
  | none => match spK o.op with
  | .mkI T x => mkIC E T (ev E sl x) fun v => (match o.dst with | some t => K ((t, v) :: sl) h (n + 1) | none => K sl h (n + 1))
  | .inv r name as => invC E (fun f as => run (.ret f as)) (ev E sl r) name (as.map (ev E sl)) h fun v h2 => (match o.dst with | some t => K ((t, v) :: sl) h2 (n + 1) | none => K sl h2 (n + 1))
  | .sl3 T x lo hi mx => sl3C E T (ev E sl x) (lo.map (ev E sl)) (ev E sl hi) (ev E sl mx) fun v => (match o.dst with | some t => K ((t, v) :: sl) h (n + 1) | none => K sl h (n + 1))
  | .clr t T => clrC E T (ev E sl (.tmp t)) h fun h2 => (match o.dst with | some _ => none | none => K sl h2 (n + 1))
  | .none => match vslQ all o with
   | some (T, x, hi) => (match ev E sl x with
     | .ptr b p => vslC E T hi sl h b p fun v => (match o.dst with | some t => K ((t, v) :: sl) h (n + 1) | none => K sl h (n + 1))
     | _ => opYC E run o sl h n K)
   | none => match sufQ all o with
    | some (T, x, lo) => (match ev E sl x with
     | .osl b sz => sufC E T (ev E sl lo) h b sz fun v => (match o.dst with | some t => K ((t, v) :: sl) h (n + 1) | none => K sl h (n + 1))
     | _ => opYC E run o sl h n K)
    | none => opYC E run o sl h n K
structure RunOK (E : Env) (run : Rq → Rt) : Prop where
 ret : ∀ f as r, run (.ret f as) = some r → Ret E f as r
 sem : ∀ f as sl h n K r (K' : SV → Slots → Heap → Nat → Prop), run (.sem f as sl h n K) = some r → (∀ v s h n, K v s h n = some r → K' v s h n) → SemCall E f as sl h n K'
 yld : ∀ b as sl h n K r (K' : SV → Slots → Heap → Nat → Prop), run (.yld b as sl h n K) = some r → (∀ v s h n, K v s h n = some r → K' v s h n) → SemYield E b as sl h n K'
def opsYC (E : Env) (run : Rq → Rt) (all : List Oper) : List Oper → Slots → Heap → Nat → (Slots → Heap → Nat → Rt) → Rt
 | [], sl, h, n, K => K sl h n
 | o :: r, sl, h, n, K => grdC all o.guard sl (fun sl => opZC E run all o sl h n fun sl h n => opsYC E run all r sl h n K)
   (fun sl => match o.dst with
     | some d => opsYC E run all r ((d, und) :: sl) h n K
     | none => opsYC E run all r sl h n K)
theorem opY_c {r : SV} {E : Env} {run : Rq → Rt} (ok : RunOK E run) {o : Oper} {sl : Slots} {h : Heap} {n : Nat} {K : Slots → Heap → Nat → Rt} {K' : Slots → Heap → Nat → Prop} (hk : opYC E run o sl h n K = some r) (g : ∀ s h n, K s h n = some r → K' s h n) : opY E o sl h n K' := by
 unfold opYC at hk
 unfold opY
 split at hk
 · rename_i e0
   simp only [e0]
   split at hk <;> (rename_i e; simp only [e]; exact g _ _ _ hk)
 · rename_i e0
   simp only [e0]
   refine lend_c hk (fun hk => ?_) (fun f as hk => ?_) (fun b as hk => ?_)
   · unfold opX
     exact op_c ok.ret hk fun a b c hs => app_c hs fun s h hs => g _ _ _ hs
   · refine ok.sem _ _ _ _ _ _ r _ hk fun v s h n hs => ?_
     split at hs <;> (rename_i e; simp only [e]; exact g _ _ _ hs)
   · refine ok.yld _ _ _ _ _ _ r _ hk fun v s h n hs => ?_
     split at hs <;> (rename_i e; simp only [e]; exact g _ _ _ hs)
theorem vsl_c {r : SV} {E : Env} {T : TypeId} {hi : Option Operand} {sl : Slots} {h : Heap} {b : Nat} {p : List Step} {K : SV → Rt} {K' : SV → Prop} (hk : vslC E T hi sl h b p K = some r) (g : ∀ v, K v = some r → K' v) : vslX E T hi sl h b p K' := by
 unfold vslC at hk
 unfold vslX
 split at hk
 case h_2 => cases hk
 rename_i e0
 simp only [e0]
 refine nav_c hk fun u hu => ?_
 split at hu
 case h_2 => cases hu
 simp only
 split at hu
 case h_2 => cases hu
 rename_i e1
 simp only [e1]
 split at hu
 case h_2 => cases hu
 rename_i e2
 simp only [e2]
 split at hu
 · exact g _ hu
 · simp only
   split at hu
   case h_2 => cases hu
   rename_i e3
   simp only [e3]
   exact idx_c hu g
theorem copy_c {r : SV} {E : Env} {T : TypeId} {vd vs : SV} {h : Heap} {K : Nat → Heap → Rt} {K' : Nat → Heap → Prop} (hk : copyC E T vd vs h K = some r) (g : ∀ k h, K k h = some r → K' k h) : copyX E T vd vs h K' := by
 unfold copyC at hk
 unfold copyX
 split at hk
 case h_2 => cases hk
 simp only
 split at hk
 case h_2 => cases hk
 rename_i e1 e2 e3
 simp only [e1, e2, e3]
 refine nav_c hk fun u hu => ?_
 refine nav_c hu fun u' hu' => ?_
 split at hu'
 case h_2 => cases hu'
 simp only
 split at hu'
 case h_2 => cases hu'
 rename_i e4 e5
 simp only [e4, e5]
 split at hu'
 case h_2 => cases hu'
 rename_i e6
 simp only [e6]
 refine upd_c hu' fun v2 hv2 => ?_
 rw [stK_eq] at hv2 ⊢
 exact g _ _ hv2
theorem mkI_c {r : SV} {E : Env} {T : TypeId} {v : SV} {K : SV → Rt} {K' : SV → Prop} (hk : mkIC E T v K = some r) (g : ∀ v, K v = some r → K' v) : mkIX E T v K' := by
 unfold mkIC at hk
 unfold mkIX
 split at hk
 · cases hk
 · cases hk
 · rename_i h1 h2
   split
   · rename_i e; exact absurd e h1
   · rename_i e; exact absurd e h2
   · rw [frcL_eq] at hk ⊢
     split at hk
     · rename_i e; simp only [e]; exact g _ hk
     · cases hk
theorem inv_c {r : SV} {E : Env} {ret : Nat → List SV → Rt} (hr : ∀ f as r, ret f as = some r → Ret E f as r) {rv : SV} {name : String} {as : List SV} {h : Heap} {K : SV → Heap → Rt} {K' : SV → Heap → Prop} (hk : invC E ret rv name as h K = some r) (g : ∀ v h, K v h = some r → K' v h) : invX E rv name as h K' := by
 unfold invC at hk
 unfold invX
 split at hk
 case h_2 => cases hk
 simp only
 split at hk
 case h_2 => cases hk
 rename_i f e1 e2
 simp only [e1, e2]
 refine frzL_c hk fun as' ns hs => ?_
 refine frzL_c hs fun vs' ns' hs => ?_
 split at hs
 case h_2 => cases hs
 rename_i r0 e3
 refine call (hr _ _ _ e3) ?_
 rw [frc_eq, iceK_eq] at hs ⊢
 exact g _ _ hs
theorem sl3_c {r : SV} {E : Env} {T : TypeId} {x hi mx : SV} {lo : Option SV} {K : SV → Rt} {K' : SV → Prop} (hk : sl3C E T x lo hi mx K = some r) (g : ∀ v, K v = some r → K' v) : sl3X E T x lo hi mx K' := by
 unfold sl3C at hk
 unfold sl3X
 split at hk
 case h_2 => cases hk
 rename_i e0
 simp only [e0]
 split at hk
 case h_2 => cases hk
 rename_i e1
 simp only [e1]
 split at hk
 · rename_i h1 h2 h3; simp only [h1, h2, h3]; exact g _ hk
 · rename_i h1 h2 h3
   simp only [h1, h2, h3]
   split at hk
   · rename_i e6; simp only [e6]; exact g _ hk
   · cases hk
 · cases hk
theorem suf_c {r : SV} {E : Env} {T : TypeId} {lo : SV} {h : Heap} {b sz : Nat} {K : SV → Rt} {K' : SV → Prop} (hk : sufC E T lo h b sz K = some r) (g : ∀ v, K v = some r → K' v) : sufX E T lo h b sz K' := by
 unfold sufC at hk
 unfold sufX
 split at hk
 case h_2 => cases hk
 rename_i e1 e2
 simp only [e1, e2]
 split at hk
 case h_2 => cases hk
 rename_i e3
 simp only [e3]
 simp only [frN_eq] at hk
 exact side_c hk fun hk => g _ hk
theorem clr_c {r : SV} {E : Env} {T : TypeId} {v : SV} {h : Heap} {K : Heap → Rt} {K' : Heap → Prop} (hk : clrC E T v h K = some r) (g : ∀ h, K h = some r → K' h) : clrX E T v h K' := by
 unfold clrC at hk
 unfold clrX
 split at hk
 case h_2 => cases hk
 rename_i e1
 simp only [e1]
 split at hk
 case h_2 => cases hk
 rename_i e2
 simp only [e2]
 refine sol_c hk fun z hz => ?_
 split at hz
 case h_2 => cases hz
 rename_i e3
 simp only [e3]
 refine side_c hz fun hz => ?_
 rw [frcL_eq, stK_eq] at hz
 rw [stK_eq]
 exact g _ hz
theorem alc_c {r : SV} {E : Env} {T : TypeId} {h : Heap} {n : Nat} {K : SV → Heap → Rt} {K' : SV → Heap → Prop} (hk : alcC E T h n K = some r) (g : ∀ v h, K v h = some r → K' v h) : alcX E T h n K' := by
 unfold alcC at hk
 unfold alcX
 split at hk
 · rename_i e; simp only [e]; exact g _ _ hk
 · cases hk
theorem opZ_c {r : SV} {E : Env} {run : Rq → Rt} (ok : RunOK E run) {all : List Oper} {o : Oper} {sl : Slots} {h : Heap} {n : Nat} {K : Slots → Heap → Nat → Rt} {K' : Slots → Heap → Nat → Prop} (hk : opZC E run all o sl h n K = some r) (g : ∀ s h n, K s h n = some r → K' s h n) : opZ E all o sl h n K' := by
 unfold opZC at hk
 unfold opZ
 split at hk
 · rename_i e0
   simp only [e0]
   refine copy_c hk fun k h2 hs => ?_
   rw [frN_eq] at hs
   split at hs <;> (rename_i e; simp only [e]; exact g _ _ _ hs)
 · rename_i e0
   simp only [e0]
   split at hk
   · rename_i ea
     simp only [ea]
     refine alc_c hk fun v h2 hs => ?_
     split at hs <;> (rename_i e; simp only [e]; exact g _ _ _ hs)
   rename_i ea
   simp only [ea]
   split at hk
   · cases hk
   rename_i eb
   simp only [eb]
   split at hk
   · rename_i e1
     simp only [e1]
     refine mkI_c hk fun v hs => ?_
     split at hs <;> (rename_i e; simp only [e]; exact g _ _ _ hs)
   · rename_i e1
     simp only [e1]
     refine inv_c ok.ret hk fun v h2 hs => ?_
     split at hs <;> (rename_i e; simp only [e]; exact g _ _ _ hs)
   · rename_i e1
     simp only [e1]
     refine sl3_c hk fun v hs => ?_
     split at hs <;> (rename_i e; simp only [e]; exact g _ _ _ hs)
   · rename_i e1
     simp only [e1]
     refine clr_c hk fun h2 hs => ?_
     split at hs
     · cases hs
     · rename_i e; simp only [e]; exact g _ _ _ hs
   rename_i e9
   simp only [e9]
   split at hk
   · rename_i e1
     simp only [e1]
     split at hk
     · rename_i e2
       simp only [e2]
       refine vsl_c hk fun v hs => ?_
       split at hs <;> (rename_i e; simp only [e]; exact g _ _ _ hs)
     · rename_i e2
       split
       · rename_i e3; exact absurd e3 (e2 _ _)
       · exact opY_c ok hk g
   · rename_i e1
     simp only [e1]
     split at hk
     · rename_i e4
       simp only [e4]
       split at hk
       · rename_i e2
         simp only [e2]
         refine suf_c hk fun v hs => ?_
         split at hs <;> (rename_i e; simp only [e]; exact g _ _ _ hs)
       · rename_i e2
         split
         · rename_i e3; exact absurd e3 (e2 _ _)
         · exact opY_c ok hk g
     · rename_i e4
       simp only [e4]
       exact opY_c ok hk g
theorem opsY_c {r : SV} {E : Env} {run : Rq → Rt} (ok : RunOK E run) {all : List Oper} : ∀ {l : List Oper} {sl : Slots} {h : Heap} {n : Nat} {K : Slots → Heap → Nat → Rt} {K' : Slots → Heap → Nat → Prop}, opsYC E run all l sl h n K = some r → (∀ s h n, K s h n = some r → K' s h n) → opsY E all l sl h n K'
 | [], sl, h, n, K, K', hk, g => by simp only [opsYC, opsY] at hk ⊢; exact g _ _ _ hk
 | o :: l, sl, h, n, K, K', hk, g => by
   rw [opsY_cons]
   simp only [opsYC, gopY] at hk ⊢
   refine grd_c hk (fun s hs => opZ_c ok hs fun s h n hs => opsY_c ok hs g) (fun s hs => ?_)
   split at hs <;> (rename_i e; simp only [e]; exact opsY_c ok hs g)
mutual
def nmB (Bs : List Nat) : SV → Bool
 | .ptr b _ | .osl b _ | .yld b | .mpr b | .vsl b _ _ => match memb b Bs with | true => false | false => true
 | .agg fs | .arr _ _ fs | .sl _ fs | .tup fs | .fn _ fs | .ifc _ fs => nmBL Bs fs
 | .iptr t => nmB Bs t
 | .any | .int .. | .bool _ | .tru | .fls | .str _ | .mt | .nils | .nilf | .nilp | .nili => true
def nmBL (Bs : List Nat) : List SV → Bool
 | [] => true
 | v :: r => match nmB Bs v with | true => nmBL Bs r | false => false
end
mutual
theorem nmB_ok {Bs : List Nat} : ∀ {v : SV}, nmB Bs v = true → v.nmd fun b => ¬ b ∈ Bs
 | .ptr b _, h | .osl b _, h | .yld b, h | .mpr b, h | .vsl b _ _, h => by
   simp only [nmB] at h
   split at h
   · cases h
   · rename_i e; exact fun hm => by rw [memb_true.2 hm] at e; cases e
 | .agg fs, h | .arr _ _ fs, h | .sl _ fs, h | .tup fs, h | .fn _ fs, h | .ifc _ fs, h => by
   simp only [nmB] at h
   exact nmBL_ok (l := fs) h
 | .iptr t, h => by
   simp only [nmB] at h
   exact nmB_ok (v := t) h
 | .any, _ | .int .., _ | .bool _, _ | .tru, _ | .fls, _ | .str _, _ | .mt, _ | .nils, _ | .nilf, _ | .nilp, _ | .nili, _ => trivial
theorem nmBL_ok {Bs : List Nat} : ∀ {l : List SV}, nmBL Bs l = true → nmdL (fun b => ¬ b ∈ Bs) l
 | [], _ => trivial
 | v :: r, h => by
   simp only [nmBL] at h
   split at h
   · rename_i e; exact ⟨nmB_ok e, nmBL_ok h⟩
   · cases h
end
def bsOf (sl : Slots) : List Nat → List Nat → (List Nat → Bool) → Bool
 | [], Bs, K => K Bs
 | t :: r, Bs, K => match lk sl t with
   | .ptr f [] => bsOf sl r (f :: Bs) K
   | _ => false
def slB (Rs Bs : List Nat) : Slots → Bool
 | [] => true
 | (i, v) :: r => match memb i Rs with
   | true => slB Rs Bs r
   | false => match nmB Bs v with | true => slB Rs Bs r | false => false
def hpB (Bs : List Nat) : Heap → Bool
 | [] => true
 | (b, k) :: r => match memb b Bs, k with
   | false, .var _ v => (match nmB Bs v with | true => hpB Bs r | false => false)
   | _, _ => hpB Bs r
theorem bsOf_ok {sl : Slots} {K : List Nat → Bool} : ∀ {l Bs : List Nat}, bsOf sl l Bs K = true → ∃ Bs', K Bs' = true ∧ (∀ b ∈ Bs, b ∈ Bs') ∧ ∀ t ∈ l, ∃ f, lk sl t = .ptr f [] ∧ f ∈ Bs'
 | [], Bs, h => ⟨Bs, h, fun _ h => h, fun t ht => by cases ht⟩
 | t :: r, Bs, h => by
   simp only [bsOf] at h
   split at h
   · rename_i f e
     obtain ⟨Bs', h1, h2, h3⟩ := bsOf_ok h
     refine ⟨Bs', h1, fun b hb => h2 b (by simp [hb]), fun t' ht => ?_⟩
     rcases List.mem_cons.1 ht with rfl | ht
     · exact ⟨f, e, h2 f (by simp)⟩
     · exact h3 t' ht
   · cases h
theorem slB_ok {Rs Bs : List Nat} {t : Nat} (ht : t ∉ Rs) : ∀ {sl : Slots}, slB Rs Bs sl = true → (lk sl t).nmd fun b => ¬ b ∈ Bs
 | [], _ => trivial
 | (i, v) :: r, h => by
   simp only [slB] at h
   simp only [lk]
   split at h
   · rename_i e
     split
     · rename_i hb; have := beq_of hb; subst this; exact absurd (memb_true.1 e) ht
     · exact slB_ok ht h
   · split at h
     · rename_i e
       split
       · exact nmB_ok e
       · exact slB_ok ht h
     · cases h
theorem hpB_ok {Bs : List Nat} {b : Nat} {o : Bool} {v : SV} (hb : ¬ b ∈ Bs) : ∀ {h : Heap}, hpB Bs h = true → lkB h b = some (.var o v) → v.nmd fun b => ¬ b ∈ Bs
 | [], _, hk => by simp [lkB] at hk
 | (i, k) :: r, h, hk => by
   simp only [hpB] at h
   simp only [lkB] at hk
   split at hk
   · rename_i e
     have := beq_of e; subst this
     cases hk
     have hm : memb i Bs = false := by
      cases hm : memb i Bs with
      | false => rfl
      | true => exact absurd (memb_true.1 hm) hb
     simp only [hm] at h
     split at h
     · rename_i e2; exact nmB_ok e2
     · cases h
   · split at h
     · split at h
       · exact hpB_ok hb h hk
       · cases h
     · exact hpB_ok hb h hk
def privB (Rs : List Nat) (sl : Slots) (h : Heap) : Bool := bsOf sl Rs [] fun Bs => match slB Rs Bs sl with | true => hpB Bs h | false => false
theorem privB_ok {Rs : List Nat} {sl : Slots} {h : Heap} (hp : privB Rs sl h = true) : Priv Rs sl h := by
 obtain ⟨Bs, h1, _, h2⟩ := bsOf_ok hp
 split at h1
 · rename_i e; exact ⟨(· ∈ Bs), h2, fun t ht => slB_ok ht e, fun b o v hb hv => hpB_ok hb h1 hv⟩
 · cases h1
def privC (ops : List Oper) (sl : Slots) (h : Heap) : Bool := match needP ops with
 | false => true
 | true => privB (rootsL ops ops) sl h
theorem privC_ok {ops : List Oper} {sl : Slots} {h : Heap} (hp : privC ops sl h = true) : PrivX ops sl h := by
 unfold privC at hp
 unfold PrivX
 split at hp
 · rename_i e; simp only [e]
 · rename_i e; simp only [e]; exact privB_ok hp
mutual
def eqSV : SV → SV → Bool
 | .int k n, .int k' n' => match decide (k = k') with | true => decide (n = n') | false => false
 | .bool b, .bool b' => decide (b = b')
 | .tru, .tru => true
 | .fls, .fls => true
 | .str s, .str s' => decide (s = s')
 | .agg l, .agg l' => eqL l l'
 | .arr n s l, .arr n' s' l' => match Nat.beq n n', Nat.beq s s' with | true, true => eqL l l' | _, _ => false
 | .tup l, .tup l' => eqL l l'
 | .sl n l, .sl n' l' => match Nat.beq n n' with | true => eqL l l' | false => false
 | .mt, .mt => true
 | .nils, .nils => true
 | .nilf, .nilf => true
 | .nilp, .nilp => true
 | .nili, .nili => true
 | _, _ => false
def eqL : List SV → List SV → Bool
 | [], [] => true
 | v :: r, v' :: r' => match eqSV v v' with | true => eqL r r' | false => false
 | _, _ => false
end
mutual
theorem eqSV_ok : ∀ {a b : SV}, eqSV a b = true → a = b
 | a, b, h => by
   cases a <;> cases b <;> simp only [eqSV] at h <;> first | (cases h; done) | rfl | skip
   · split at h
     · rename_i e; rw [of_decide_eq_true e, of_decide_eq_true h]
     · cases h
   · rw [of_decide_eq_true h]
   · rw [of_decide_eq_true h]
   · rw [eqL_ok h]
   · split at h
     · rename_i e1 e2; rw [beq_of e1, beq_of e2, eqL_ok h]
     · cases h
   · rw [eqL_ok h]
   · split at h
     · rename_i e1; rw [beq_of e1, eqL_ok h]
     · cases h
theorem eqL_ok : ∀ {a b : List SV}, eqL a b = true → a = b
 | [], [], _ => rfl
 | v :: r, v' :: r', h => by
   simp only [eqL] at h
   split at h
   · rename_i e; rw [eqSV_ok e, eqL_ok h]
   · cases h
 | [], _ :: _, h => by simp only [eqL] at h; cases h
 | _ :: _, [], h => by simp only [eqL] at h; cases h
end
def allC (f : Nat × Oper → Rt) : List (Nat × Oper) → Rt
 | [] => none
 | [a] => f a
 | a :: r => match f a with
   | some v => (match allC f r with
     | some v' => (match eqSV v' v with | true => some v | false => none)
     | none => none)
   | none => none
theorem allC_ok {f : Nat × Oper → Rt} {v : SV} (l : List (Nat × Oper)) : allC f l = some v → ∀ p ∈ l, f p = some v := by
 induction l with
 | nil => intro _ p hp; cases hp
 | cons a r ih =>
   intro h p hp
   cases r with
   | nil =>
     simp only [allC] at h
     simp at hp; subst hp; exact h
   | cons b r =>
     simp only [allC] at h
     split at h
     case h_2 => cases h
     rename_i v1 e1
     split at h
     case h_2 => cases h
     rename_i v2 e2
     split at h
     case h_2 => cases h
     rename_i e3
     cases h
     rw [eqSV_ok e3] at e2
     rcases List.mem_cons.1 hp with rfl | hp
     · exact e1
     · exact ih e2 p hp
theorem allA_of {f : Nat × Oper → Prop} (l : List (Nat × Oper)) (h : ∀ p ∈ l, f p) : allA f l := by
 induction l with
 | nil => trivial
 | cons a r ih => exact ⟨h a (by simp), ih fun p hp => h p (by simp [hp])⟩
def anyYC (E : Env) (run : Rq → Rt) (ops : List Oper) : Nat → List Nat → Slots → Heap → Nat → (Slots → Heap → Nat → Rt) → Rt
 | 0, L, sl, h, n, K => match rdy L ops 0 with
   | [] => K sl h n
   | _ :: _ => none
 | f + 1, L, sl, h, n, K => match rdy L ops 0 with
   | [] => K sl h n
   | q :: r => allC (fun p => grdC ops p.2.guard sl (fun sl => opZC E run ops p.2 sl h n fun sl h n => anyYC E run ops f (p.1 :: L) sl h n K)
     (fun sl => match p.2.dst with
       | some d => anyYC E run ops f (p.1 :: L) ((d, und) :: sl) h n K
       | none => anyYC E run ops f (p.1 :: L) sl h n K)) (q :: r)
theorem anyY_c {r : SV} {E : Env} {run : Rq → Rt} (ok : RunOK E run) {ops : List Oper} : ∀ {f : Nat} {L : List Nat} {sl : Slots} {h : Heap} {n : Nat} {K : Slots → Heap → Nat → Rt} {K' : Slots → Heap → Nat → Prop}, anyYC E run ops f L sl h n K = some r → (∀ s h n, K s h n = some r → K' s h n) → anyY E ops f L sl h n K'
 | 0, L, sl, h, n, K, K', hk, g => by
   simp only [anyYC, anyY] at hk ⊢
   split at hk
   · rename_i e; simp only [e]; exact g _ _ _ hk
   · cases hk
 | f + 1, L, sl, h, n, K, K', hk, g => by
   simp only [anyYC, anyY] at hk ⊢
   split at hk
   · rename_i e; simp only [e]; exact g _ _ _ hk
   · rename_i q r' e
     simp only [e]
     refine allA_of _ fun p hp => ?_
     have hk := allC_ok _ hk p hp
     unfold gopY
     refine grd_c hk (fun s hs => opZ_c ok hs fun s h n hs => anyY_c ok hs g) (fun s hs => ?_)
     split at hs <;> (rename_i e; simp only [e]; exact anyY_c ok hs g)
def dedS : List Nat → Slots → (Slots → Rt) → Rt
 | _, [], K => K []
 | seen, (t, v) :: r, K => match memb t seen with
   | true => dedS seen r K
   | false => dedS (t :: seen) r fun r => K ((t, v) :: r)
theorem dedS_ok {r : SV} : ∀ {sl : Slots} {seen : List Nat} {K : Slots → Rt}, dedS seen sl K = some r → ∃ s, K s = some r ∧ ∀ t, t ∉ seen → lk s t = lk sl t
 | [], seen, K, h => ⟨[], h, fun _ _ => rfl⟩
 | (i, v) :: l, seen, K, h => by
   simp only [dedS] at h
   split at h
   · rename_i e
     obtain ⟨s, h1, h2⟩ := dedS_ok h
     refine ⟨s, h1, fun t ht => ?_⟩
     rw [h2 t ht, lk_cons, if_neg]
     rintro rfl
     exact ht (memb_true.1 e)
   · rename_i e
     obtain ⟨s, h1, h2⟩ := dedS_ok h
     refine ⟨_, h1, fun t ht => ?_⟩
     rw [lk_cons, lk_cons]
     by_cases et : i = t
     · rw [if_pos et, if_pos et]
     · rw [if_neg et, if_neg et]
       exact h2 t (by simp [ht, Ne.symm et])
def loopC (B : Slots → Heap → Nat → KXC → Rt) : Nat → Slots → Heap → Nat → KXC → Rt
 | 0, _, _, _, _ => none
 | f + 1, sl, h, n, K => dedS [] sl fun sl => B sl h n fun e sl h n => match e with
   | .normal => loopC B f sl h n K
   | e => K e sl h n
def execC (E : Env) (run : Rq → Rt) (fuel N : Nat) : Code → Slots → Heap → Nat → KXC → Rt
 | .skip, sl, h, n, K => K .normal sl h n
 | .seq a b, sl, h, n, K => execC E run fuel N a sl h n fun e sl h n => match e with
   | .normal => execC E run fuel N b sl h n K
   | e => K e sl h n
 | .cond c a b, sl, h, n, K => (match ev E sl c with
   | .bool t => (match t with | true => execC E run fuel N a sl h n K | false => execC E run fuel N b sl h n K)
   | .tru => execC E run fuel N a sl h n K
   | .fls => execC E run fuel N b sl h n K
   | _ => none)
 | .block id b, sl, h, n, K => execC E run fuel N b sl h n fun e sl h n => (match e with
    | .exit i => (match Nat.beq i id with | true => K .normal sl h n | false => K (.exit i) sl h n)
    | e => K e sl h n)
 | .exit i, sl, h, n, K => K (.exit i) sl h n
 | .ret, sl, h, n, K => K .ret sl h n
 | .region _ ops true, sl, h, n, K => (match lendB E.lend ops.toList, cpB ops.toList with
   | false, false => (match lastB ops.toList with
     | none => (match privC ops.toList sl h with
       | true => opsXC E (fun f as => run (.ret f as)) ops.toList ops.toList sl h n fun sl h n => K .normal sl h n
       | false => none)
     | some (i, o) => opsXC E (fun f as => run (.ret f as)) ops.toList i sl h n fun sl h n => opsYC E run ops.toList [o] sl h n fun sl h n => K .normal sl h n)
   | _, _ => anyYC E run ops.toList ops.toList.length [] sl h n fun sl h n => K .normal sl h n)
 | .region _ ops false, sl, h, n, K => opsYC E run ops.toList ops.toList sl h n fun sl h n => K .normal sl h n
 | .loop b, sl, h, n, K => loopC (execC E run fuel N b) fuel sl h n K
 | .scope b, sl, h, n, K => execC E run fuel N b sl h n fun e sl h n => match e with
   | .goto _ => none
   | e => K e sl h n
 | .label _, sl, h, n, K => K .normal sl h n
 | .rangeFunc f ps asg b, sl, h, n, K => (match ev E sl f with
   | .fn g caps => run (.sem g (.yld n :: caps) ((1999999, .yld n) :: sl) ((n, .gho ⟨.ready, none, N, ps, asg, b, false⟩ sl) :: h) (n + 1) fun _ sl h n' => (match lk sl 1999999 with
     | .yld b => (match Nat.beq b n with
       | true => (match lkB h n with
         | some (.gho q _) => (match q.dead with
           | true => none
           | false => (match q.st with
             | .busy => none
             | _ => (match q.pend with
               | none => stK h n .dead fun h => K .normal ((1999999, .any) :: sl) h n'
               | some .ret => stK h n .dead fun h => K .ret ((1999999, .any) :: sl) h n'
               | some (.exit i) => stK h n .dead fun h => K (.exit i) ((1999999, .any) :: sl) h n'
               | _ => none)))
         | _ => none)
       | false => none)
     | _ => none))
   | _ => none)
 | _, _, _, _, _ => none
theorem exec_c {r : SV} {E : Env} {run : Rq → Rt} (ok : RunOK E run) {fuel N : Nat} : ∀ (code : Code) {sl : Slots} {h : Heap} {n : Nat} {K : KXC} {K' : KX}, execC E run fuel N code sl h n K = some r → (∀ e s h n, K e s h n = some r → K' e s h n) → exec E N [] code sl h n K'
 | .skip, sl, h, n, K, K', hk, g => by simp only [execC, exec] at hk ⊢; exact g _ _ _ _ hk
 | .exit i, sl, h, n, K, K', hk, g => by simp only [execC, exec] at hk ⊢; exact g _ _ _ _ hk
 | .ret, sl, h, n, K, K', hk, g => by simp only [execC, exec] at hk ⊢; exact g _ _ _ _ hk
 | .label _, sl, h, n, K, K', hk, g => by simp only [execC, exec] at hk ⊢; exact g _ _ _ _ hk
 | .seq a b, sl, h, n, K, K', hk, g => by
   simp only [execC, exec] at hk ⊢
   refine exec_c ok a hk fun e s h n hs => ?_
   cases e with
   | normal => exact exec_c ok b hs g
   | _ => exact g _ _ _ _ hs
 | .cond c a b, sl, h, n, K, K', hk, g => by
   simp only [execC, exec, brk] at hk ⊢
   split at hk
   · rename_i t e
     simp only [e]
     cases t with
     | true => exact ⟨fun _ => exec_c ok a hk g, fun h => by cases h⟩
     | false => exact ⟨fun h => (by cases h), fun _ => exec_c ok b hk g⟩
   · rename_i e; simp only [e]; exact exec_c ok a hk g
   · rename_i e; simp only [e]; exact exec_c ok b hk g
   · cases hk
 | .block id b, sl, h, n, K, K', hk, g => by
   simp only [execC, exec, memb] at hk ⊢
   refine exec_c ok b hk fun e s h n hs => ?_
   cases e with
   | exit i =>
     simp only at hs ⊢
     split at hs <;> (rename_i e; simp only [e]; exact g _ _ _ _ hs)
   | _ => exact g _ _ _ _ hs
 | .region _ ops true, sl, h, n, K, K', hk, g => by
   simp only [execC, exec] at hk ⊢
   split at hk
   · rename_i e e'; simp only [e, e']
     split at hk
     · rename_i e3
       simp only [e3]
       split at hk
       · rename_i e2; exact ⟨privC_ok e2, opsX_c ok.ret hk fun s h n hs => g _ _ _ _ hs⟩
       · cases hk
     · rename_i i o e3
       simp only [e3]
       refine opsX_c ok.ret hk fun s h n hs => ?_
       have := opsY_c ok hs fun s h n hs => g _ _ _ _ hs
       simpa only [opsY_cons, opsY_nil] using this
   · rename_i e
     split
     · rename_i e1 e2; exact absurd e2 (e e1)
     · exact anyY_c ok hk fun s h n hs => g _ _ _ _ hs
 | .region _ ops false, sl, h, n, K, K', hk, g => by
   simp only [execC, exec] at hk ⊢
   exact opsY_c ok hk fun s h n hs => g _ _ _ _ hs
 | .loop b, sl, h, n, K, K', hk, g => by
   simp only [execC, exec] at hk ⊢
   unfold LoopVC
   intro I h1 _ h3
   have go : ∀ f sl h n, loopC (execC E run fuel N b) f sl h n K = some r → I sl h n := by
    intro f
    induction f with
    | zero => intro sl h n hk; simp only [loopC] at hk; cases hk
    | succ f ih =>
      intro sl h n hk
      simp only [loopC] at hk
      obtain ⟨s, hs, hl⟩ := dedS_ok hk
      refine h3 s sl h n (fun t => .inr (hl t (by simp))) (h1 _ _ _ ?_)
      refine exec_c ok b hs fun e s h n hs => ?_
      cases e with
      | normal => exact ih _ _ _ hs
      | _ => exact g _ _ _ _ hs
   exact go _ _ _ _ hk
 | .scope b, sl, h, n, K, K', hk, g => by
   simp only [execC, exec] at hk ⊢
   refine exec_c ok b hk fun e s h n hs => ?_
   cases e with
   | goto l => cases hs
   | _ => exact g _ _ _ _ hs
 | .rangeFunc f ps asg b, sl, h, n, K, K', hk, g => by
   simp only [execC, exec] at hk ⊢
   split at hk
   case h_2 => cases hk
   rename_i e0
   simp only [e0]
   refine ok.sem _ _ _ _ _ _ r _ hk fun v s h n' hs => ?_
   split at hs
   case h_2 => cases hs
   rename_i e1
   simp only [e1]
   split at hs
   case h_2 => cases hs
   rename_i e2
   simp only [e2, afterR]
   split at hs
   case h_2 => cases hs
   rename_i e3
   simp only [e3]
   split at hs
   · cases hs
   rename_i e4
   simp only [e4]
   split at hs
   · cases hs
   rename_i e5
   split
   · rename_i e; exact absurd e e5
   simp only [stK_eq] at hs ⊢
   split at hs
   · rename_i e6; simp only [e6]; exact g _ _ _ _ hs
   · rename_i e6; simp only [e6]; exact g _ _ _ _ hs
   · rename_i e6; simp only [e6]; exact g _ _ _ _ hs
   · cases hs
 | .goto _, sl, h, n, K, K', hk, g => by simp only [execC] at hk; cases hk
 | .refuse _, sl, h, n, K, K', hk, g => by simp only [execC] at hk; cases hk
def lkF : List (Nat × Func) → Nat → Option Func
 | [], _ => none
 | (i, v) :: r, t => match Nat.beq i t with | true => some v | false => lkF r t
def resLC (E : Env) (CR : FuncId → List SV → Rt) (sl : Slots) (h : Heap) : List ResultVar → (List SV → Rt) → Rt
 | [], K => K []
 | .tmp t :: r, K => frzC h 60 (bl (ev E sl (.tmp t))) [] fun v _ => resLC E CR sl h r fun vs => K (v :: vs)
 | .cell t T :: r, K => opC E CR sl h 0 (.load T (.tmp t)) fun v _ _ => frzC h 60 v [] fun v _ => resLC E CR sl h r fun vs => K (v :: vs)
def resLIC (E : Env) (CR : FuncId → List SV → Rt) (sl : Slots) (h : Heap) : List ResultVar → (List SV → Rt) → Rt
 | [], K => K []
 | .tmp t :: r, K => frc (ev E sl (.tmp t)) fun v => resLIC E CR sl h r fun vs => K (v :: vs)
 | .cell t T :: r, K => opC E CR sl h 0 (.load T (.tmp t)) fun v _ _ => resLIC E CR sl h r fun vs => K (v :: vs)
def resC (E : Env) (CR : FuncId → List SV → Rt) (fn : Func) (sl : Slots) (h : Heap) (K : SV → Rt) : Rt :=
 resLC E CR sl h fn.results.toList fun vs => match vs with
  | [v] => K v
  | vs => match noTup vs with | true => K (.tup vs) | false => none
def resIC (E : Env) (CR : FuncId → List SV → Rt) (fn : Func) (sl : Slots) (h : Heap) (K : SV → Rt) : Rt :=
 resLIC E CR sl h fn.results.toList fun vs => match vs with
  | [v] => K v
  | vs => match noTup vs with | true => K (.tup vs) | false => none
section
variable {r : SV} {E : Env} {CR : FuncId → List SV → Rt} (hCR : ∀ f args r, CR f args = some r → Ret E f args r) {sl : Slots} {h : Heap}
include hCR in
theorem resLI_c : ∀ {l : List ResultVar} {K : List SV → Rt} {K' : List SV → Prop}, resLIC E CR sl h l K = some r → (∀ vs, K vs = some r → K' vs) → resLI E sl h l K'
 | [], K, K', hk, g => by simp only [resLIC, resLI] at hk ⊢; exact g _ hk
 | .tmp t :: l, K, K', hk, g => by
   simp only [resLIC, resLI, frc_eq] at hk ⊢
   exact resLI_c hk fun vs hv => g _ hv
 | .cell t T :: l, K, K', hk, g => by
   simp only [resLIC, resLI] at hk ⊢
   exact op_c hCR hk fun a b c hs => resLI_c hs fun vs hv => g _ hv
include hCR in
theorem resI_c {fn : Func} {K : SV → Rt} {K' : SV → Prop} (hk : resIC E CR fn sl h K = some r) (g : ∀ v, K v = some r → K' v) : resI E fn sl h K' := by
 unfold resIC at hk
 unfold resI
 refine resLI_c hCR hk fun vs hv => ?_
 split at hv
 · exact g _ hv
 · split at hv
   case h_2 => cases hv
   rename_i e1 e2
   simp only [e2]
   exact g _ hv
end
theorem ini_c {r : SV} : ∀ {l : List SV} {i : Nat} {sl : Slots} {K : Slots → Rt} {K' : Slots → Prop}, ini l i sl K = some r → (∀ s, K s = some r → K' s) → ini l i sl K'
 | [], i, sl, K, K', hk, g => by simp only [ini] at hk ⊢; exact g _ hk
 | v :: l, i, sl, K, K', hk, g => by
   simp only [ini, frc_eq] at hk ⊢
   exact ini_c hk g
structure Hk where
 x : List (Nat × (List SV → Rt))
 s : List (Nat × (List SV → Slots → Heap → Nat → (SV → Slots → Heap → Nat → Rt) → Rt))
def lkX : List (Nat × (List SV → Rt)) → Nat → List SV → Rt
 | [], _, _ => none
 | (g, k) :: r, f, as => match Nat.beq g f with | true => k as | false => lkX r f as
def lkY : List (Nat × (List SV → Slots → Heap → Nat → (SV → Slots → Heap → Nat → Rt) → Rt)) → Nat → List SV → Slots → Heap → Nat → (SV → Slots → Heap → Nat → Rt) → Rt
 | [], _, _, _, _, _, _ => none
 | (g, k) :: r, f, as, sl, h, n, K => match Nat.beq g f with | true => k as sl h n K | false => lkY r f as sl h n K
structure HkOK (E : Env) (hk : Hk) : Prop where
 x : ∀ f as r, lkX hk.x f as = some r → Ret E f as r
 s : ∀ f as sl h n K r (K' : SV → Slots → Heap → Nat → Prop), lkY hk.s f as sl h n K = some r → (∀ v s h n, K v s h n = some r → K' v s h n) → SemCall E f as sl h n K'
abbrev Hk.no : Hk := ⟨[], []⟩
theorem HkOK.no {E : Env} : HkOK E Hk.no := ⟨fun _ _ _ h => (by cases h), fun _ _ _ _ _ _ _ _ h => (by cases h)⟩
end Go.Sx
