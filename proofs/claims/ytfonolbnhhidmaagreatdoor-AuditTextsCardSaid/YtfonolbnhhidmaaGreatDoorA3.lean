/-
  An own text of this claim.
-/
import Derived.Test.YtfonolbnhhidmaaGreatDoorA2
namespace Go.Sx
section
variable {E : Env} {all : List Oper}
end
theorem zDs {all : List Oper} {g : Option (Nat × Bool)} {sl : Slots} {Ky Kn : Slots -> Prop} (k : grd all g sl Ky Kn) : ∃ (s : Slots) (y : Bool), (match y with | true => Ky s | false => Kn s) /\ ∀ Ky' Kn' : Slots -> Prop, (match y with | true => Ky' s | false => Kn' s) -> grd all g sl Ky' Kn' := by
 unfold grd at k
 split at k
 . exact ⟨sl, true, k, fun Ky' Kn' k' => k'⟩
 . split at k
   case h_2 => cases k
   rename_i o' hj
   split at k
   case h_2 => cases k
   rename_i d hd
   split at k
   . rename_i hl
     split at k
     . exact ⟨sl, true, k, fun Ky' Kn' k' => by simp only [grd, hj, hd, hl]; exact k'⟩
     . exact ⟨sl, false, k, fun Ky' Kn' k' => by simp only [grd, hj, hd, hl]; exact k'⟩
   . rename_i hl
     split at k
     . exact ⟨sl, false, k, fun Ky' Kn' k' => by simp only [grd, hj, hd, hl]; exact k'⟩
     . exact ⟨sl, true, k, fun Ky' Kn' k' => by simp only [grd, hj, hd, hl]; exact k'⟩
   . rename_i b hl
     split at k
     . cases b with
       | true => exact ⟨_, true, k.1 rfl, fun Ky' Kn' k' => by simp only [grd, hj, hd, hl]; exact ⟨fun _ => k', fun e => by cases e⟩⟩
       | false => exact ⟨_, false, k.2 rfl, fun Ky' Kn' k' => by simp only [grd, hj, hd, hl]; exact ⟨fun e => (by cases e), fun _ => k'⟩⟩
     . cases b with
       | true => exact ⟨_, false, k.2 rfl, fun Ky' Kn' k' => by simp only [grd, hj, hd, hl]; exact ⟨fun e => (by cases e), fun _ => k'⟩⟩
       | false => exact ⟨_, true, k.1 rfl, fun Ky' Kn' k' => by simp only [grd, hj, hd, hl]; exact ⟨fun _ => k', fun e => by cases e⟩⟩
   . rename_i hl
     exact ⟨sl, false, k, fun Ky' Kn' k' => by simp only [grd, hj, hd, hl]; exact k'⟩
   . cases k
theorem zq2 {E : Env} {all : List Oper} {o : Oper} {sl : Slots} {h : Heap} {m : Nat} {K : Slots -> Heap -> Prop} (k : wI E all o sl h m K) : ∃ s g, K s g /\ ∀ K' : Slots -> Heap -> Prop, K' s g -> wI E all o sl h m K' := by
 unfold wI at k
 obtain ⟨s, y, k1, k2⟩ := zDs k
 cases y with
 | true =>
   simp only [opX] at k1
   obtain ⟨v, ns, ea, k3, k4⟩ := ze4 k1
   exact ⟨_, _, app_iff.1 k3, fun K' k' => by unfold wI; exact k2 _ _ (by simp only [opX]; exact k4 _ (app_iff.2 k'))⟩
 | false =>
   grind [wI]
theorem zbt {E : Env} {all : List Oper} {o : Oper} {sl : Slots} {h : Heap} {m : Nat} {K K' : Slots -> Heap -> Prop} (e : ∀ s g, K s g -> K' s g) (k : wI E all o sl h m K) : wI E all o sl h m K' := by
 obtain ⟨s, g, k1, k2⟩ := zq2 k
 exact k2 K' (e s g k1)
section
variable {E : Env} {all : List Oper}
end
section
variable {E : Env} {all : List Oper}
end
open Go.RowKit (Below)
theorem zwb {ro : Option Nat} {P : Program} {ops : Array Oper} {i : Nat} {next : Act -> World -> Prop} {a : Act} {w : World} (h : wpOpIn (FR ro) 0 P ops (fun _ _ _ => False) i next a w) : ∃ a' w', next a' w' := by
 unfold wpOpIn at h
 split at h
 . exact ⟨_, _, h⟩
 . split at h
   . have h := h.2
     generalize (Oper.semAt _ _ _).run P w = r at h
     cases r with
     | ok n w' =>
       cases n with
       | enter f args =>
         simp only [Oper.uponIn] at h
         obtain ⟨e, w2, fr, h, _⟩ := h.2.2 [] (zb9 _)
         cases e with
         | returned v => exact ⟨_, _, h⟩
         | panicked c => cases h
         | outgrown => obtain ⟨_, _, h⟩ := h; cases h
       | row r args =>
         simp only [Oper.uponIn] at h
         obtain ⟨v, w2, h, _⟩ := h.2 default [] (zb9 _)
         exact ⟨_, _, h⟩
       | round l f tmps asg body =>
         simp only [Oper.uponIn] at h
         obtain ⟨e, w2, h, _⟩ := h.2.2 default [] (zb9 _)
         cases e with
         | returned v => exact ⟨_, _, h⟩
         | panicked c => cases h
         | outgrown => obtain ⟨_, _, h⟩ := h; cases h
       | _ => first | exact ⟨_, _, h⟩ | cases h
     | halt x w' => cases x <;> cases h
   . exact ⟨_, _, h.2⟩
section
variable {c : Cx} (ok : EnvOK c.E) {N : Nat}
def Som (c : Cx) (N : Nat) (sl : Slots) (h : Heap) (F : Nat -> Prop) : Prop := ∃ a w, DenF c N sl h F a w
include ok in
theorem zyj {ops : Array Oper} (hall : ∀ o ∈ ops.toList, ∀ d, o.dst = some d -> d < N) {o : Oper} {i : Nat} (hi : ops[i]? = some o) {sl : Slots} {h : Heap} {m : Nat} {F : Nat -> Prop} {K : Slots -> Heap -> Prop} (hd : ∀ d, o.dst = some d -> d < N) (s : Som c N sl h F) (hF : F m) (k : wI c.E ops.toList o sl h m K) :
 ∃ s' g', K s' g' /\ Som c N s' g' (rmF F m) /\ ∀ K' : Slots -> Heap -> Prop, K' s' g' -> wI c.E ops.toList o sl h m K' := by
 obtain ⟨s', g', k1, k2⟩ := zq2 k
 refine ⟨s', g', k1, ?_, k2⟩
 obtain ⟨a, w, D⟩ := s
 have := zir ok hall hi (k2 (fun a b => a = s' /\ b = g') ⟨rfl, rfl⟩) hF hd D (Q := fun _ _ _ => False) (next := fun a w => DenF c N s' g' (rmF F m) a w) (fun sl' h' a' w' e D' => by obtain ⟨rfl, rfl⟩ := e; exact D')
 exact zwb this
def yk (E : Env) (all : List Oper) (n : Nat) : List Nat -> Slots -> Heap -> (Slots -> Heap -> Prop) -> Prop
 | [], sl, h, K => K sl h
 | i :: r, sl, h, K => match all[i]? with
   | some o => wI E all o sl h (n + i) fun sl h => yk E all n r sl h K
   | none => False
theorem zoq {E : Env} {all : List Oper} {n : Nat} {K : Slots -> Heap -> Prop} (inv : Inv K) : ∀ r, Inv fun sl h => yk E all n r sl h K
 | [] => inv
 | i :: r => by
   intro sl h sl' h' e1 e2 k
   simp only [yk] at k ⊢
   split at k
   case h_2 => cases k
   exact zhr (zoq inv r) sl h sl' h' e1 e2 k
include ok in
theorem zu1 {ops : Array Oper} (hd : ∀ o ∈ ops.toList, ∀ d, o.dst = some d -> d < N) {n i : Nat} {oi : Oper} (hi : ops[i]? = some oi) {K : Slots -> Heap -> Prop} (inv : Inv K) (post : List Nat) : ∀ (pre : List Nat) (sl : Slots) (h : Heap) (F : Nat -> Prop),
 (∀ p ∈ pre, p ≠ i /\ ∃ o, ops[p]? = some o /\ zac ops.toList o oi = true) -> (pre ++ i :: post).Pairwise (· < ·) -> (∀ p ∈ pre ++ i :: post, F (n + p)) -> Som c N sl h F -> yk c.E ops.toList n (pre ++ i :: post) sl h K -> yk c.E ops.toList n (i :: (pre ++ post)) sl h K
 | [], _, _, _, _, _, _, _, k => k
 | p :: pre, sl, h, F, hp, hnd, hF, s, k => by
   obtain ⟨hpi, o, ho, hind⟩ := hp p (by simp)
   have ho' : ops.toList[p]? = some o := by rw [Array.getElem?_toList]; exact ho
   have hi' : ops.toList[i]? = some oi := by rw [Array.getElem?_toList]; exact hi
   have hlt : ∀ q ∈ pre ++ i :: post, p < q := (List.pairwise_cons.1 hnd).1
   simp only [List.cons_append, yk, ho'] at k
   obtain ⟨s', g', k1, k2, k3⟩ := zyj ok hd ho (hd o (List.mem_of_getElem? ho')) s (hF p (by simp)) k
   have k4 := zu1 hd hi inv post pre s' g' (rmF F (n + p)) (fun q hq => hp q (by simp [hq])) (by simpa using (List.pairwise_cons.1 hnd).2) (fun q hq => ⟨hF q (by simp only [List.cons_append, List.mem_cons]; exact .inr hq), by
    have := hlt q hq
    omega⟩) k2 k1
   have k5 := k3 (fun sl h => yk c.E ops.toList n (i :: (pre ++ post)) sl h K) k4
   simp only [yk, hi'] at k5
   obtain ⟨a, w, D⟩ := s
   have hip : p < i := hlt i (by simp)
   have k6 := zE9 (zoq inv (pre ++ post)) (D.wf ok) (hF p (by simp)) (hF i (by simp)) (by omega) hind k5
   simp only [yk, hi', List.cons_append, ho']
   exact k6
def Dn (ops : Array Oper) (L : Nat -> Prop) : Prop := ∀ i o, ops[i]? = some o -> L i -> ∀ e ∈ o.after.toList, Region.binds .any e = true -> L e.on
theorem zgp {ops : Array Oper} {L : Nat -> Prop} {cls : List Nat} (hc : ∀ k p, (cls.getD k 0).testBit p = true -> L k -> L p) : ∀ {l : List Edge}, (∀ e ∈ l, Region.binds .any e = true -> L e.on) -> ∀ p, (zan cls l).testBit p = true -> L p
 | [], _, p, h => by simp [zan] at h
 | e :: r, hl, p, h => by
   simp only [zan] at h
   split at h
   . rename_i hb
     rw [Nat.testBit_or, Nat.testBit_or, Bool.or_eq_true, Bool.or_eq_true] at h
     rcases h with h | h | h
     . rw [Nat.one_shiftLeft, Nat.testBit_two_pow] at h
       simp at h; subst h
       exact hl e (by simp) hb
     . exact hc e.on p h (hl e (by simp) hb)
     . exact zgp hc (ops := ops) (fun e' he' => hl e' (by simp [he'])) p h
   . exact zgp hc (ops := ops) (fun e' he' => hl e' (by simp [he'])) p h
theorem zjt {ops : Array Oper} {L : Nat -> Prop} (dn : Dn ops L) : ∀ (r : List Oper) (pre : List Oper) (cls : List Nat), ops.toList = pre ++ r -> cls.length = pre.length -> (∀ k p, (cls.getD k 0).testBit p = true -> L k -> L p) -> ∀ k p, ((zc2 r cls).getD k 0).testBit p = true -> L k -> L p
 | [], pre, cls, _, _, hc => hc
 | o :: r, pre, cls, hp, hl, hc => by
   simp only [zc2]
   refine zjt dn r (pre ++ [o]) _ (by rw [hp]; simp) (by simp [hl]) ?_
   intro k p hk hL
   by_cases hlt : k < cls.length
   . have : (cls ++ [zan cls o.after.toList]).getD k 0 = cls.getD k 0 := by
      grind
     grind
   . by_cases e : k = cls.length
     . subst e
       have ho : ops[pre.length]? = some o := by rw [<- Array.getElem?_toList, hp]; simp
       have : (cls ++ [zan cls o.after.toList]).getD cls.length 0 = zan cls o.after.toList := by
        grind
       rw [this] at hk
       exact zgp (ops := ops) hc (fun e he hb => dn _ o ho (by rw [<- hl]; exact hL) e he hb) p hk
     . grind
end
def zav (i : Nat) : List Edge -> Bool
 | [] => true
 | e :: r => match Region.binds .any e with
   | true => (match Nat.blt e.on i with | true => zav i r | false => false)
   | false => zav i r
def zpe (all : List Oper) (m : Nat) (o : Oper) (i : Nat) : List Oper -> Nat -> Bool
 | [], _ => true
 | q :: r, p => match Nat.blt p i with
   | false => true
   | true => match m.testBit p with
     | true => zpe all m o i r (p + 1)
     | false => match zac all q o with
       | true => zpe all m o i r (p + 1)
       | false => false
def chk (all : List Oper) (cls : List Nat) : List Oper -> Nat -> Bool
 | [], _ => true
 | o :: r, i => match zav i o.after.toList, zpe all (cls.getD i 0) o i all 0 with
   | true, true => chk all cls r (i + 1)
   | _, _ => false
def ztq (ops : Array Oper) : Bool := chk ops.toList (zc2 ops.toList []) ops.toList 0
theorem zak {i : Nat} : ∀ {l : List Edge}, zav i l = true -> ∀ e ∈ l, Region.binds .any e = true -> e.on < i
 | [], _, e, he => by cases he
 | e' :: r, h, e, he => by
   intro hb
   simp only [zav] at h
   rcases List.mem_cons.1 he with rfl | he
   . rw [hb] at h
     simp only at h
     split at h
     . rename_i h1; rw [Nat.blt_eq] at h1; exact h1
     . cases h
   . split at h
     . split at h
       . exact zak h e he hb
       . cases h
     . exact zak h e he hb
theorem zqr {all : List Oper} {m i : Nat} {o : Oper} : ∀ {r pre : List Oper} {p : Nat}, all = pre ++ r -> pre.length = p -> zpe all m o i r p = true -> ∀ k q, p <= k -> k < i -> all[k]? = some q -> m.testBit k = true \/ zac all q o = true
 | [], pre, p, ha, hp, _, k, q, h1, h2, h3 => by
   subst ha
   have : pre.length <= k := by omega
   rw [List.getElem?_eq_none (by simpa using this)] at h3
   cases h3
 | q0 :: r, pre, p, ha, hp, h, k, q, h1, h2, h3 => by
   simp only [zpe] at h
   have hlt : Nat.blt p i = true := by rw [Nat.blt_eq]; omega
   simp only [hlt] at h
   by_cases e : k = p
   . subst e
     have : all[k]? = some q0 := by rw [ha, <- hp]; simp
     rw [this] at h3; cases h3
     split at h
     . rename_i hb; exact .inl hb
     . split at h
       . rename_i hb; exact .inr hb
       . cases h
   . have step := fun hh => zqr (m := m) (o := o) (r := r) (pre := pre ++ [q0]) (p := p + 1) (by rw [ha]; simp) (by simp [hp]) hh k q (by omega) h2 h3
     split at h
     . exact step h
     . split at h
       . exact step h
       . cases h
theorem zu4 {all : List Oper} {cls : List Nat} : ∀ {r pre post : List Oper} {i : Nat}, all = pre ++ (r ++ post) -> pre.length = i -> chk all cls r i = true -> ∀ j o, i <= j -> j < i + r.length -> all[j]? = some o -> (∀ e ∈ o.after.toList, Region.binds .any e = true -> e.on < j) /\ ∀ p q, p < j -> all[p]? = some q -> (cls.getD j 0).testBit p = true \/ zac all q o = true
 | [], pre, post, i, ha, hi, _, j, o, h1, h2, h3 => by
   simp at h2; omega
 | o0 :: r, pre, post, i, ha, hi, h, j, o, h1, h2, h3 => by
   simp only [chk] at h
   split at h
   case h_2 => cases h
   rename_i g1 g2
   by_cases e : j = i
   . subst e
     have : all[j]? = some o0 := by rw [ha, <- hi]; simp
     rw [this] at h3; cases h3
     refine ⟨zak g1, fun p q hp hq => zqr (pre := []) rfl rfl g2 p q (Nat.zero_le _) hp hq⟩
   . exact zu4 (r := r) (pre := pre ++ [o0]) (post := post) (i := i + 1) (by rw [ha]; simp) (by simp [hi]) h j o (by omega) (by simp at h2; omega) h3
def zum (ops : Array Oper) (m : Nat) : Prop := ∀ (j : Nat) (o : Oper), j < m -> ops[j]? = some o -> (∀ e ∈ o.after.toList, Region.binds .any e = true -> e.on < j) /\ ∀ p q, p < j -> ops[p]? = some q -> ((zc2 ops.toList []).getD j 0).testBit p = true \/ zac ops.toList q o = true
theorem zpy {ops : Array Oper} {r post : List Oper} (hr : ops.toList = r ++ post) (h : chk ops.toList (zc2 ops.toList []) r 0 = true) : zum ops r.length := fun j o hlt hj => by
 have := zu4 (pre := []) (post := post) (by simpa using hr) rfl h j o (Nat.zero_le _) (by omega) (by rw [Array.getElem?_toList]; exact hj)
 exact ⟨this.1, fun p q hp hq => this.2 p q hp (by rw [Array.getElem?_toList]; exact hq)⟩
theorem zzo {ops : Array Oper} (h : ztq ops = true) : zum ops ops.size := by
 have := zpy (post := []) (by simp) h
 simpa using this
theorem DenF.lkeq {c : Cx} {N : Nat} {sl sl' : Slots} {h h' : Heap} {F : Nat -> Prop} {a : Act} {w : World} (e1 : ∀ t, lk sl t = lk sl' t) (e2 : ∀ b, lkB h b = lkB h' b) (D : DenF c N sl h F a w) : DenF c N sl' h' F a w := by
 obtain ⟨β, Y, m, hs, hN, hd⟩ := D
 have hown : ∀ β, Own β h = Own β h' := fun β => by funext r; simp only [Own, e2]
 have hX : ∀ Z Y β, XX Z Y β h = XX Z Y β h' := fun Z Y β => by funext r; simp only [XX, hown]
 refine ⟨β, Y, ⟨m.fresh, fun b k hk => ?_, fun b b' k k' l l' h1 h2 => m.inj b b' k k' l l' (by rw [e2]; exact h1) (by rw [e2]; exact h2), fun r hr => m.own r (by rw [hown]; exact hr), m.yy, m.zz, m.size, m.frame, m.os, m.tape, m.output, fun g t hg ht => ?_⟩, ⟨hs.1, fun t => ?_⟩, hN, hd⟩
 . obtain ⟨l, g1, g2⟩ := m.blk b k (by rw [e2]; exact hk)
   grind
 . rw [<- hX]; exact m.gl g t hg ht
 . have := hs.2 t
   grind
theorem zqu {E : Env} {all : List Oper} {n : Nat} {K : Slots -> Heap -> Nat -> Prop} : ∀ {r pre : List Oper} {sl : Slots} {h : Heap}, all = pre ++ r -> jD E all r sl h (n + pre.length) K -> yk E all n (List.range' pre.length r.length) sl h fun s g => K s g (n + all.length)
 | [], pre, sl, h, ha, k => by
   subst ha
   simpa [jD, yk] using k
 | o :: r, pre, sl, h, ha, k => by
   have : all[pre.length]? = some o := by rw [ha]; simp
   simp only [List.length_cons, List.range'_succ, yk, this]
   simp only [jD] at k
   refine zbt (fun s g k' => ?_) k
   have := zqu (all := all) (E := E) (r := r) (pre := pre ++ [o]) (sl := s) (h := g) (by rw [ha]; simp) (K := K) (n := n) (by simpa [Nat.add_assoc] using k')
   simpa using this
theorem zo0 {E : Env} {all : List Oper} {n : Nat} {K : Slots -> Heap -> Nat -> Prop} : ∀ {r pre post : List Oper} {sl : Slots} {h : Heap}, all = pre ++ (r ++ post) -> jD E all r sl h (n + pre.length) K -> yk E all n (List.range' pre.length r.length) sl h fun s g => K s g (n + pre.length + r.length)
 | [], pre, post, sl, h, ha, k => by
   simpa [jD, yk] using k
 | o :: r, pre, post, sl, h, ha, k => by
   have : all[pre.length]? = some o := by rw [ha]; simp
   simp only [List.length_cons, List.range'_succ, yk, this]
   simp only [jD] at k
   refine zbt (fun s g k' => ?_) k
   have := zo0 (all := all) (E := E) (r := r) (pre := pre ++ [o]) (post := post) (sl := s) (h := g) (by rw [ha]; simp) (K := K) (n := n) (by simpa [Nat.add_assoc] using k')
   have e : n + (pre ++ [o]).length + r.length = n + pre.length + (r.length + 1) := by simp; omega
   rw [e] at this
   simpa using this
section
variable {c : Cx} (ok : EnvOK c.E) {N : Nat}
include ok in
theorem zwr {ops : Array Oper} {m : Nat} (hm : m <= ops.size) (st : zum ops m) (hlast : ∀ j, m <= j -> j < ops.size -> ∀ p, p < m -> ((zc2 ops.toList []).getD j 0).testBit p = true) (hd : ∀ o ∈ ops.toList, ∀ d, o.dst = some d -> d < N) {n : Nat} {K : Slots -> Heap -> Prop} (inv : Inv K) {Q : Exit -> Act -> World -> Prop} (fin : ∀ fuel listed s g a w, listed.size = ops.size -> (∀ i, listed.getD i false = true ↔ i < m) -> ops.size - m <= fuel -> K s g -> DenF c N s g (fun b => n + m <= b) a w -> wpAnyIn (FR c.ro) 0 c.E.P .any ops Q fuel listed a w) :
 ∀ (fuel : Nat) (listed : Array Bool) (R : List Nat) (sl : Slots) (h : Heap) (F : Nat -> Prop) (a : Act) (w : World), listed.size = ops.size -> R.Pairwise (· < ·) -> (∀ i, i ∈ R ↔ i < m /\ listed.getD i false = false) -> (∀ i, m <= i -> listed.getD i false = false) -> R.length + (ops.size - m) <= fuel ->
  Dn ops (fun i => listed.getD i false = true) -> (∀ i ∈ R, F (n + i)) -> (∀ b, n + m <= b -> F b) -> DenF c N sl h F a w -> yk c.E ops.toList n R sl h K -> wpAnyIn (FR c.ro) 0 c.E.P .any ops Q fuel listed a w := by
 intro fuel
 have mem_R : ∀ (listed : Array Bool) i, listed.size = ops.size -> i ∈ Region.ready .any ops listed -> i < ops.size /\ listed.getD i false = false /\ ∃ o, ops[i]? = some o /\ ∀ e ∈ o.after.toList, Region.binds .any e = true -> listed.getD e.on false = true := by
  intro listed i hs hi
  rw [Region.ready, List.mem_filter] at hi
  obtain ⟨h1, h2⟩ := hi
  have hlt : i < ops.size := by simpa using h1
  rw [Bool.and_eq_true] at h2
  obtain ⟨h2, h3⟩ := h2
  have hgt : listed.getD i true = listed.getD i false := by
   grind
  refine ⟨hlt, by rw [hgt] at h2; simpa using h2, ops[i], by simp [hlt], ?_⟩
  rw [Array.getElem?_eq_getElem hlt] at h3
  simp only [Option.map_some, Option.getD_some] at h3
  intro e he hb
  have := Array.all_eq_true_iff_forall_mem.1 h3 e (by simpa using he)
  grind
 have empty : ∀ (listed : Array Bool) (R : List Nat), listed.size = ops.size -> R.Pairwise (· < ·) -> (∀ i, i ∈ R ↔ i < m /\ listed.getD i false = false) -> Region.ready .any ops listed = [] -> R = [] := by
  intro listed R hs hp hR hr
  cases R with
  | nil => rfl
  | cons i R =>
    exfalso
    have hi0 := (hR i).1 (by simp)
    have hi : i < ops.size /\ listed.getD i false = false := ⟨by omega, hi0.2⟩
    have : i ∈ Region.ready .any ops listed := by
     rw [Region.ready, List.mem_filter]
     refine ⟨by simpa using hi.1, ?_⟩
     have hgt : listed.getD i true = listed.getD i false := by
      grind
     rw [hgt, hi.2, Array.getElem?_eq_getElem hi.1]
     simp only [Bool.not_false, Bool.true_and, Option.map_some, Option.getD_some]
     rw [Array.all_eq_true_iff_forall_mem]
     intro e he
     cases hb : Region.binds .any e with
     | false => rfl
     | true =>
       have hlt := (st i _ hi0.1 (Array.getElem?_eq_getElem hi.1)).1 e (by simpa using he) hb
       simp only [Bool.not_true, Bool.false_or]
       cases hl : listed.getD e.on false with
       | true => rfl
       | false =>
         have := (hR e.on).2 ⟨by omega, hl⟩
         rcases List.mem_cons.1 this with h | h
         . omega
         . have := (List.pairwise_cons.1 hp).1 _ h
           omega
    grind
 have full : ∀ (listed : Array Bool), (∀ i, i ∈ ([] : List Nat) ↔ i < m /\ listed.getD i false = false) -> (∀ i, m <= i -> listed.getD i false = false) -> ∀ i, listed.getD i false = true ↔ i < m := by
  grind
 induction fuel with
 | zero =>
   intro listed R sl h F a w hs hp hR hM hlen dn hF hF2 D k
   have : R = [] := List.length_eq_zero_iff.1 (by omega)
   subst this
   exact fin _ _ _ _ _ _ hs (full listed hR hM) (by simpa using hlen) k (D.less hF2)
 | succ fuel ih =>
   intro listed R sl h F a w hs hp hR hM hlen dn hF hF2 D k
   by_cases hnil : R = []
   . subst hnil
     exact fin _ _ _ _ _ _ hs (full listed hR hM) (by simpa using hlen) k (D.less hF2)
   refine ⟨fun hr => absurd (empty listed R hs hp hR hr) hnil, fun i hi => ?_⟩
   . obtain ⟨hilt, hil, oi, hoi, hafter⟩ := mem_R listed i hs hi
     have hiR : i ∈ R := by
      rcases Nat.lt_or_ge i m with g | g
      . grind
      . exfalso
        obtain ⟨r0, R', rfl⟩ := List.exists_cons_of_ne_nil hnil
        have hr0 := (hR r0).1 (by simp)
        have hL := zjt (ops := ops) (L := fun j => listed.getD j false = true \/ j = i) (fun j o hj hj' e he hbd => ?_) ops.toList [] [] rfl rfl (fun k p hk => by simp at hk) i r0 (hlast i g hilt r0 hr0.1) (.inr rfl)
        . grind
        . rcases hj' with hj' | rfl
          . exact .inl (dn j o hj hj' e he hbd)
          . grind
     have him : i < m := ((hR i).1 hiR).1
     obtain ⟨pre, post, rfl⟩ := List.append_of_mem hiR
     have hp2 := List.pairwise_append.1 hp
     have hpre : ∀ p ∈ pre, p < i := fun p hp' => hp2.2.2 p hp' i (by simp)
     have hpost : ∀ p ∈ post, i < p := fun p hp' => (List.pairwise_cons.1 hp2.2.1).1 p hp'
     have hind : ∀ p ∈ pre, p ≠ i /\ ∃ o, ops[p]? = some o /\ zac ops.toList o oi = true := by
      intro p hp'
      have h1 := (hR p).1 (by simp [hp'])
      have h1s : p < ops.size := by omega
      refine ⟨by have := hpre p hp'; omega, ops[p]'h1s, by simp [h1s], ?_⟩
      rcases (st i oi him hoi).2 p _ (hpre p hp') (Array.getElem?_eq_getElem h1s) with hb | hb
      . exfalso
        have hL := zjt (ops := ops) (L := fun j => listed.getD j false = true \/ j = i) (fun j o hj hj' e he hbd => ?_) ops.toList [] [] rfl rfl (fun k p hk => by simp at hk) i p hb (.inr rfl)
        . grind
        . rcases hj' with hj' | rfl
          . exact .inl (dn j o hj hj' e he hbd)
          . grind
      . exact hb
     have k2 := zu1 ok hd hoi inv post pre sl h F hind hp hF ⟨a, w, D⟩ k
     have hi' : ops.toList[i]? = some oi := by rw [Array.getElem?_toList]; exact hoi
     simp only [yk, hi'] at k2
     refine zir ok hd hoi k2 (hF i hiR) (hd oi (List.mem_of_getElem? hi')) D fun sl' h' a' w' k3 D' => ?_
     refine ih (listed.setIfInBounds i true) (pre ++ post) sl' h' (rmF F (n + i)) a' w' (by simpa using hs) ?_ ?_ ?_ ?_ ?_ ?_ ?_ D' k3
     . grind
     . intro j
       have hmem : j ∈ pre ++ post ↔ j ∈ pre ++ i :: post /\ j ≠ i := by
        simp only [List.mem_append, List.mem_cons]
        constructor
        . rintro (h | h)
          . grind
          . grind
        . grind
       rw [hmem, hR j]
       by_cases e : j = i
       . subst e
         simp only [ne_eq, not_true, and_false, false_iff, not_and]
         intro _
         rw [Array.getD_eq_getD_getElem?, Array.getElem?_setIfInBounds_self_of_lt (by omega)]
         simp
       . rw [getD_set_ne false (Ne.symm e)]
         simp [e]
     . intro j hj
       rw [getD_set_ne false (by omega)]
       exact hM j hj
     . grind
     . intro j o hj hj' e he hb
       by_cases hji : j = i
       . subst hji
         rw [hoi] at hj; cases hj
         exact getD_set_true (hafter e he hb)
       . rw [getD_set_ne false (Ne.symm hji)] at hj'
         exact getD_set_true (dn j o hj hj' e he hb)
     . intro j hj
       have hj' : j ∈ pre ++ i :: post /\ j ≠ i := by
        simp only [List.mem_append] at hj
        rcases hj with h | h
        . grind
        . grind
       exact ⟨hF j hj'.1, by omega⟩
     . intro b hb
       exact ⟨hF2 b hb, by omega⟩
theorem zos {c : Cx} {ops : Array Oper} {Q : Exit -> Act -> World -> Prop} {a : Act} {w : World} (hQ : Q .normal a w) : ∀ (fuel : Nat) (listed : Array Bool), listed.size = ops.size -> (∀ i, i < ops.size -> listed.getD i false = true) -> wpAnyIn (FR c.ro) 0 c.E.P .any ops Q fuel listed a w := by
 intro fuel listed hs hL
 have hr : ∀ i, ¬ i ∈ Region.ready .any ops listed := by
  intro i hi
  rw [Region.ready, List.mem_filter] at hi
  grind
 cases fuel with
 | zero => exact ⟨List.eq_nil_iff_forall_not_mem.2 hr, hQ⟩
 | succ fuel => exact ⟨fun _ => hQ, fun i hi => absurd hi (hr i)⟩
include ok in
theorem zy5 {ops : Array Oper} (st : ztq ops = true) (hd : ∀ o ∈ ops.toList, ∀ d, o.dst = some d -> d < N) (id : Nat) {sl : Slots} {h : Heap} {n : Nat} {K : Slots -> Heap -> Nat -> Prop} (k : jD c.E ops.toList ops.toList sl h n K) {a : Act} {w : World} (D : Den c N sl h n a w) {Q : Exit -> Act -> World -> Prop}
 (hQ : ∀ sl' h' n' a' w', K sl' h' n' -> Den c N sl' h' n' a' w' -> Q .normal a' w') : (Code.region id ops true).wpIn (FR c.ro) 0 c.E.P Q a w := by
 have k1 := zqu (pre := []) (r := ops.toList) rfl (by simpa using k)
 let K' : Slots -> Heap -> Prop := fun s g => ∃ s0 g0, (∀ t, lk s0 t = lk s t) /\ (∀ b, lkB g0 b = lkB g b) /\ K s0 g0 (n + ops.toList.length)
 have inv : Inv K' := fun s g s' g' e1 e2 ⟨s0, g0, h1, h2, h3⟩ => ⟨s0, g0, fun t => (h1 t).trans (e1 t), fun b => (h2 b).trans (e2 b), h3⟩
 have mono : ∀ r sl h, yk c.E ops.toList n r sl h (fun s g => K s g (n + ops.toList.length)) -> yk c.E ops.toList n r sl h K' := by
  intro r
  induction r with
  | nil => exact fun sl h k => ⟨sl, h, fun _ => rfl, fun _ => rfl, k⟩
  | cons i r ih =>
    intro sl h k
    simp only [yk] at k ⊢
    split at k
    case h_2 => cases k
    exact zbt (fun s g k => ih s g k) k
 refine wpIn_region_any ok.mixed ?_
 refine zwr ok (Nat.le_refl _) (zzo st) (fun j h1 h2 => by omega) hd (n := n) inv (fun fuel listed s g a w hs hL hfu hk D => ?_) ops.size _ (List.range ops.size) sl h (fun b => n <= b) a _ (by simp) List.pairwise_lt_range ?_ (fun i hi => ?_) (by simp) ?_ (fun i _ => by omega) (fun b hb => by omega) D.drew ?_
 . obtain ⟨s0, g0, h1, h2, h3⟩ := hk
   have h3' : K s0 g0 (n + ops.size) := by simpa using h3
   exact zos (hQ s0 g0 _ a w h3' (DenF.lkeq (fun t => (h1 t).symm) (fun b => (h2 b).symm) D)) fuel listed hs fun i hi => (hL i).2 hi
 . simp_all
 . grind
 . intro i o hi hL
   exfalso
   rw [Array.getD_eq_getD_getElem?] at hL
   grind
 . have := mono _ _ _ k1
   simpa [List.range_eq_range'] using this
def zmn (b : Nat) : Nat -> Bool
 | 0 => true
 | p + 1 => match b.testBit p with | true => zmn b p | false => false
theorem zm9 {b : Nat} : ∀ {m : Nat}, zmn b m = true -> ∀ p, p < m -> b.testBit p = true
 | 0, _, p, hp => by omega
 | m + 1, h, p, hp => by
   simp only [zmn] at h
   split at h
   . rename_i e
     by_cases g : p = m
     . subst g; exact e
     . exact zm9 h p (by omega)
   . cases h
def ztt (all : List Oper) (cls : List Nat) (i : List Oper) (o : Oper) : Bool := match chk all cls i 0, zmn (cls.getD i.length 0) i.length, zav i.length o.after.toList with
 | true, true, true => true
 | _, _, _ => false
include ok in
theorem zv6 {ops : Array Oper} {i : List Oper} {o : Oper} (hio : ops.toList = i ++ [o]) (st : ztt ops.toList (zc2 ops.toList []) i o = true) (hd : ∀ o ∈ ops.toList, ∀ d, o.dst = some d -> d < N) (id : Nat) {sl : Slots} {h : Heap} {n : Nat} {K : Slots -> Heap -> Nat -> Prop} (k : jD c.E ops.toList i sl h n fun sl h n => jl c.E ops.toList o sl h n K) {a : Act} {w : World} (D : Den c N sl h n a w) {Q : Exit -> Act -> World -> Prop}
 (hQ : ∀ sl' h' n' a' w', K sl' h' n' -> Den c N sl' h' n' a' w' -> Q .normal a' w') : (Code.region id ops true).wpIn (FR c.ro) 0 c.E.P Q a w := by
 unfold ztt at st
 split at st
 case h_2 => cases st
 rename_i st1 st2 st3
 have hsz : ops.size = i.length + 1 := by have := congrArg List.length hio; simpa using this
 have hlo : ops[i.length]? = some o := by rw [<- Array.getElem?_toList, hio]; simp
 have k1 := zo0 (pre := []) (r := i) (post := [o]) (by simpa using hio) (by simpa using k)
 let K' : Slots -> Heap -> Prop := fun s g => ∃ s0 g0, (∀ t, lk s0 t = lk s t) /\ (∀ b, lkB g0 b = lkB g b) /\ jl c.E ops.toList o s0 g0 (n + i.length) K
 have inv : Inv K' := fun s g s' g' e1 e2 ⟨s0, g0, h1, h2, h3⟩ => ⟨s0, g0, fun t => (h1 t).trans (e1 t), fun b => (h2 b).trans (e2 b), h3⟩
 have mono : ∀ r sl h, yk c.E ops.toList n r sl h (fun s g => jl c.E ops.toList o s g (n + i.length) K) -> yk c.E ops.toList n r sl h K' := by
  intro r
  induction r with
  | nil => exact fun sl h k => ⟨sl, h, fun _ => rfl, fun _ => rfl, k⟩
  | cons i r ih =>
    intro sl h k
    simp only [yk] at k ⊢
    split at k
    case h_2 => cases k
    exact zbt (fun s g k => ih s g k) k
 refine wpIn_region_any ok.mixed ?_
 refine zwr ok (m := i.length) (by omega) (zpy hio st1) (fun j h1 h2 p hp => ?_) hd (n := n) inv (fun fuel listed s g a w hs hL hfu hk D => ?_) ops.size _ (List.range i.length) sl h (fun b => n <= b) a _ (by simp) List.pairwise_lt_range ?_ (fun j hj => ?_) (by simp; omega) ?_ (fun i _ => by omega) (fun b hb => by omega) D.drew ?_
 . obtain rfl : j = i.length := by omega
   exact zm9 st2 p hp
 . obtain ⟨s0, g0, h1, h2, h3⟩ := hk
   have D0 := DenF.lkeq (fun t => (h1 t).symm) (fun b => (h2 b).symm) D
   cases fuel with
   | zero => omega
   | succ fuel =>
     refine ⟨fun hr => ?_, fun j hj => ?_⟩
     . exfalso
       have : i.length ∈ Region.ready .any ops listed := by
        rw [Region.ready, List.mem_filter]
        refine ⟨by simp [hsz], ?_⟩
        have hgt : listed.getD i.length true = listed.getD i.length false := by
         grind
        have hnl : listed.getD i.length false = false := by
         grind
        rw [hgt, hnl, hlo]
        simp only [Bool.not_false, Bool.true_and, Option.map_some, Option.getD_some]
        rw [Array.all_eq_true_iff_forall_mem]
        intro e he
        cases hb : Region.binds .any e with
        | false => rfl
        | true =>
          have hlt := zak st3 e (by simpa using he) hb
          grind
       grind
     . rw [Region.ready, List.mem_filter] at hj
       obtain ⟨hj1, hj2⟩ := hj
       have hjs : j < ops.size := by simpa using hj1
       rw [Bool.and_eq_true] at hj2
       have hgt : listed.getD j true = listed.getD j false := by
        grind
       have hje : j = i.length := by
        grind
       subst hje
       have hmem : o ∈ ops.toList := by rw [hio]; simp
       have rest : ∀ sl2 h2 n2 a2 w2, K sl2 h2 n2 -> Den c N sl2 h2 n2 a2 w2 -> wpAnyIn (FR c.ro) 0 c.E.P .any ops Q fuel (listed.setIfInBounds i.length true) a2 w2 := by
        intro sl2 h2 n2 a2 w2 k1 k2
        refine zos (hQ _ _ _ _ _ k1 k2) fuel _ (by simpa using hs) fun j hj => ?_
        by_cases e : j = i.length
        . simp_all
        . rw [getD_set_ne false (Ne.symm e)]
          grind
       unfold jl at h3
       obtain ⟨sl', D', hw⟩ := uL hd h3 D0 rfl
       unfold wpOpIn
       simp only [hlo]
       rcases hw with ⟨g1, g2⟩ | ⟨g1, g2⟩
       . rw [if_pos g1]
         exact zbm ok g2 (hd o hmem) D' rest
       . rw [if_neg (by rw [g1]; simp)]
         refine ⟨fun _ _ => trivial, ?_⟩
         refine rest (yJ o.dst und sl') _ _ _ _ ?_ (D'.skip (hd o hmem))
         cases hdst : o.dst <;> simp only [hdst] at g2 <;> exact g2
 . intro j
   rw [List.mem_range]
   constructor
   . intro hi
     refine ⟨hi, ?_⟩
     rw [Array.getD_eq_getD_getElem?]
     grind
   . exact fun h => h.1
 . rw [Array.getD_eq_getD_getElem?]
   grind
 . intro j o hj hL
   exfalso
   rw [Array.getD_eq_getD_getElem?] at hL
   grind
 . have := mono _ _ _ k1
   simpa [List.range_eq_range'] using this
end
def zAe (ops : Array Oper) : Bool := match zbs ops.toList with
 | none => ztq ops
 | some (i, o) => ztt ops.toList (zc2 ops.toList []) i o
def yb (ld : List Nat) (N : Nat) : Code -> Bool
 | .region _ ops draw => match zbc N ops.toList with
   | true => (match draw with | true => (match ui ld ops.toList with | true => true | false => match cpB ops.toList with | true => true | false => zAe ops) | false => true)
   | false => false
 | .seq a b => match yb ld N a with | true => yb ld N b | false => false
 | .cond _ a b => match yb ld N a with | true => yb ld N b | false => false
 | .block _ b => yb ld N b
 | .loop b => yb ld N b
 | .scope b => yb ld N b
 | _ => true
theorem zwv {g : Nat} {d : Option Nat} : zml [] g d = false := by cases d <;> rfl
theorem zln : ∀ {l : List Oper}, ui [] l = false
 | [] => rfl
 | o :: r => by
   have := zln (l := r)
   unfold ui
   simp only [zwv]
   split
   . split <;> exact this
   . exact this
theorem qF {E : Env} (ok : EnvOK E) {ld : List Nat} (hld : ld = [] \/ ld = E.lend) {N : Nat} : ∀ {c : Code}, yb ld N c = true -> wM E N c
 | .region id ops draw, h => by
   simp only [yb] at h
   split at h
   case h_2 => cases h
   rename_i e
   refine ⟨jN e, fun hd hl hcp => ?_⟩
   subst hd
   have hl2 : ui ld ops.toList = false := by rcases hld with rfl | rfl; exact zln; exact hl
   simp only [hl2, hcp] at h
   unfold zn2
   unfold zAe at h
   split
   . rename_i e1
     rw [e1] at h
     intro c hc id sl h' n K hk a w D Q hQ
     subst hc
     exact zy5 ok h (jN e) id hk D hQ
   . rename_i p e1
     rw [e1] at h
     intro c hc id sl h' n K hk a w D Q hQ
     subst hc
     exact zv6 ok (znp e1) h (jN e) id hk D hQ
 | .seq a b, h => by
   simp only [yb] at h
   split at h
   . rename_i e; exact ⟨qF ok hld e, qF ok hld h⟩
   . cases h
 | .cond _ a b, h => by
   simp only [yb] at h
   split at h
   . rename_i e; exact ⟨qF ok hld e, qF ok hld h⟩
   . cases h
 | .block _ b, h => qF ok hld (c := b) h
 | .loop b, h => qF ok hld (c := b) h
 | .scope b, h => qF ok hld (c := b) h
 | .skip, _ | .exit _, _ | .ret, _ | .rangeFunc _ _ _ _, _ | .label _, _ | .goto _, _ | .refuse _, _ => trivial
theorem wR (i : Nat) (v : SV) (r : Slots) (t : Nat) : lk ((i, v) :: r) t = if i = t then v else lk r t := by
 simp only [lk]
 by_cases e : i = t
 . subst e; simp
 . rw [xn e, if_neg e]
theorem zed {s : Slots} {t : Nat} (h : t <= 999999) : lk (shS s) t = .any := by
 induction s with
 | nil => rfl
 | cons x r ih =>
   obtain ⟨i, v⟩ := x
   simp only [shS]
   rw [wR, if_neg (by omega)]
   exact ih
theorem zla {s : Slots} {t : Nat} : lk (shS s) (t + 1000000) = lk s t := by
 induction s with
 | nil => rfl
 | cons x r ih =>
   grind [wR, shS]
theorem zwy {s : Slots} {t : Nat} : lk (unS s) t = lk s (t + 1000000) := by
 induction s with
 | nil => rfl
 | cons x r ih =>
   obtain ⟨i, v⟩ := x
   simp only [unS]
   split
   . grind [Nat.ble_eq, wR]
   . rename_i e
     have : ¬ i <= 999999 := by rw [<- Nat.ble_eq, e]; simp
     rw [wR, wR, ih]
     by_cases e : i = t + 1000000
     . simp_all
     . rw [if_neg e, if_neg (by omega)]
theorem zhp {c : Cx} (ok : EnvOK c.E) {sl : Slots} {h : Heap} {F : Nat -> Prop} {β : Beta} {Y : Nat -> Prop} {w : World} {a : Act} (m : Mem c h F β Y w) (hs : zN c sl h β Y w a) :
 ∀ (l : List ResultVar) (K : List SV -> Prop), xF c.E sl h l K -> ∃ vs us, K vs /\ (jm a l).run c.E.P w = .ok us w /\ vs.length = us.length /\ ∀ (i : Nat) (v : SV) (u : Value), vs[i]? = some v -> us[i]? = some u -> rel w (XX c.Z Y β h) v β u
 | [], K, hK => ⟨[], [], hK, by simp [jm], rfl, fun i v u h => by simp at h⟩
 | .tmp t :: r, K, hK => by
   simp only [xF, zB] at hK
   obtain ⟨vs, us, q1, q2, q3, q4⟩ := zhp ok m hs r _ hK
   refine ⟨_ :: vs, a.tmps.getD t undef :: us, q1, ?_, by simp [q3], fun i v u h1 h2 => ?_⟩
   . simp only [jm] at q2 ⊢
     simp only [List.mapM_cons, Sem.run_bind, Sem.run_pure, Result.andThen_ok]
     rw [q2]
     rfl
   . cases i with
     | zero =>
       simp only [List.getElem?_cons_zero, Option.some.injEq] at h1 h2
       subst h1; subst h2; exact we m hs (.tmp t)
     | succ i => exact q4 i v u (by simpa using h1) (by simpa using h2)
 | .cell t T :: r, K, hK => by
   simp only [xF] at hK
   have hK' : opE c.E sl h 0 (.load T (.tmp t)) (fun v _ _ => xF c.E sl h r fun vs => K (v :: vs)) := hK
   obtain ⟨v, u, ad, k0, hu, k5, k6⟩ := zhx ok m hK' (we m hs (.tmp t))
   obtain ⟨vs, us, q1, q2, q3, q4⟩ := zhp ok m hs r _ k0
   refine ⟨v :: vs, u :: us, q1, ?_, by simp [q3], fun i v' u' h1 h2 => ?_⟩
   . simp only [jm] at q2 ⊢
     have ha : asAddr (.pointer (some ad)) = pure ad := rfl
     replace hu : a.tmps.getD t undef = .pointer (some ad) := hu
     simp only [List.mapM_cons, Sem.run_bind, hu, ha, Sem.run_pure, Result.andThen_ok, k5]
     rw [q2]
     rfl
   . cases i with
     | zero => simp at h1 h2; subst h1; subst h2; exact k6
     | succ i => exact q4 i v' u' (by simpa using h1) (by simpa using h2)
theorem zqx {w : World} {X : Nat -> Prop} {β : Beta} : ∀ {vs : List SV} {us : List Value}, vs.length = us.length -> wh vs = true -> (∀ (i : Nat) (v : SV) (u : Value), vs[i]? = some v -> us[i]? = some u -> rel w X v β u) -> relL w X vs β us
 | [], us, h, _, _ => by rw [relL_nil]; exact List.length_eq_zero_iff.1 (by simpa using h.symm)
 | v :: r, [], h, _, _ => by simp at h
 | v :: r, u :: us, h, hn, k => by
   obtain ⟨h1, h2⟩ := zc5 hn
   rw [relL_cons]
   refine ⟨u, us, rfl, ?_, zqx (by simpa using h) h2 fun i v' u' g1 g2 => k (i + 1) v' u' (by simpa using g1) (by simpa using g2)⟩
   have := k 0 v u (by simp) (by simp)
   rw [qo h1] at this
   exact this
theorem zAv {c : Cx} (ok : EnvOK c.E) {fn : Func} {sl : Slots} {h : Heap} {F : Nat -> Prop} {β : Beta} {Y : Nat -> Prop} {w : World} {a : Act} (m : Mem c h F β Y w) (hs : zN c sl h β Y w a) {K : SV -> Prop} (hK : zg9 c.E fn sl h K) :
 ∃ r v, K r /\ (results fn a.tmps).run c.E.P w = .ok v w /\ rel w (XX c.Z Y β h) r β v := by
 unfold zg9 at hK
 obtain ⟨vs, us', k1, k2, k3, k4⟩ := zhp ok m hs fn.results.toList _ hK
 have k2' : (fn.results.mapM fun
  | .tmp t => pure (a.tmps.getD t undef)
  | .cell x t => do loadVar t (<- asAddr (a.tmps.getD x undef)) : Sem (Array Value)).run c.E.P w = .ok us'.toArray w := by
  rw [Array.mapM_eq_mapM_toList, Sem.run_map]
  have k2'' := k2
  simp only [jm] at k2''
  exact (congrArg (fun r => r.andThen fun (a : List Value) w'' => Result.ok a.toArray w'') k2'')
 have k5 : (results fn a.tmps).run c.E.P w = (Result.ok us'.toArray w).andThen fun (a : Array Value) w'' => (pure (if h : a.size = 1 then a[0] else Value.tuple a) : Sem Value).run c.E.P w'' := by
  grind [Sem.run_bind, results]
 split at k1
 . rename_i v
   match us', k3, k4, k5 with
   | [u], k3, k4, k5 => exact ⟨v, u, k1, by rw [k5]; simp only [Result.andThen_ok, Sem.run_pure]; rfl, k4 0 v u rfl rfl⟩
 . rename_i hne
   split at k1
   case h_2 => cases k1
   rename_i hnt
   have hne1 : us'.length ≠ 1 := by
    intro e1
    have e2 := k3.trans e1
    obtain ⟨v, rfl⟩ := List.length_eq_one_iff.1 e2
    exact hne v rfl
   refine ⟨.tup vs, .tuple us'.toArray, k1, by rw [k5]; simp [hne1], us'.toArray, rfl, ?_⟩
   simpa using zqx k3 hnt k4
def ua (c : Cx) (a : Act) (Y : Nat -> Prop) (ro : Option Nat) : Cx := { c with sh := qA c a, ro := ro, Y0 := Y, bot := [], nm := false }
theorem zEm {c : Cx} {h : Heap} {F : Nat -> Prop} {β : Beta} {Y Y0 : Nat -> Prop} {w : World} {a : Act} {ro : Option Nat} (m : Mem c h F β Y w) : Mem (ua c a Y0 ro) h F β Y w :=
 ⟨m.fresh, m.blk, m.inj, m.own, m.yy, m.zz, m.size, m.frame, m.os, m.tape, m.output, m.gl⟩
theorem zB9 {c : Cx} {h : Heap} {F : Nat -> Prop} {β : Beta} {Y Y0 : Nat -> Prop} {w : World} {a : Act} {ro : Option Nat} (m : Mem (ua c a Y0 ro) h F β Y w) : Mem c h F β Y w :=
 ⟨m.fresh, m.blk, m.inj, m.own, m.yy, m.zz, m.size, m.frame, m.os, m.tape, m.output, m.gl⟩
theorem zne {c : Cx} {sl : Slots} {h : Heap} {β : Beta} {Y Y0 Y1 : Nat -> Prop} {w : World} {a a' : Act} {ro : Option Nat} (ha : a.tmps.size <= 1000000) (hs : zN (ua c a Y0 ro) sl h β Y w a') : zN c (unS sl) h β Y w a := by
 refine ⟨ha, fun t => ?_⟩
 rw [zwy]
 have := hs.2 (t + 1000000)
 unfold qA at this
 rw [if_neg (by omega), Nat.add_sub_cancel] at this
 exact this
theorem zr1 {c : Cx} {sl sl2 : Slots} {h : Heap} {β : Beta} {Y Y0 : Nat -> Prop} {w : World} {a a' : Act} {ro : Option Nat} (hs : zN c sl h β Y w a) (ha : a'.tmps.size <= 1000000) (h1 : ∀ t, t <= 999999 -> rel w (XX c.Z Y β h) (lk sl2 t) β (a'.tmps.getD t undef)) (h2 : ∀ t, 999999 < t -> lk sl2 t = lk (shS sl) t) :
 zN (ua c a Y0 ro) sl2 h β Y w a' := by
 refine ⟨ha, fun t => ?_⟩
 by_cases hle : t <= 999999
 . unfold qA
   rw [if_pos hle]
   exact h1 t hle
 . rw [h2 t (by omega)]
   obtain ⟨t', rfl⟩ : ∃ t', t = t' + 1000000 := ⟨t - 1000000, by omega⟩
   rw [zla]
   unfold qA
   rw [if_neg hle, Nat.add_sub_cancel]
   exact hs.2 t'
theorem zvc {E : Env} (ok : EnvOK E) {f : FuncId} {fn : Func} {code : Code} {cuts : List Nat} {as : List SV} {sl : Slots} {h : Heap} {n : Nat} {K : SV -> Slots -> Heap -> Nat -> Prop} (hf : E.P.funcs[f]? = some fn) (hb : fn.body = some code) (hname : (fn.name == "runtime.NumGoroutine") = false)
 (hargs : as.length <= fn.ntmps) (hN : fn.ntmps <= 1000000) (hc : wM E fn.ntmps code)
 (hx : jn sl fun sl1 => ini as 0 sl1 fun sl2 => exec E fn.ntmps cuts code sl2 h n fun e sl3 h3 n3 => match e with
   | .normal | .ret => zg9 E fn sl3 h3 fun r => yQ sl3 fun sl4 => K r sl4 h3 n3
   | _ => False) : qp E f as sl h n K := by
 unfold qp
 refine ⟨⟨fn, hf, by rw [hb]; rfl, hname⟩, ?_⟩
 intro c a w β Y us hE m hs hus
 subst hE
 obtain ⟨hlen, hget⟩ := zbk hus
 rw [xS] at hx
 obtain ⟨sl2, hx, h1, h2⟩ := zdx as 0 _ hx
 have hsize : us.size = as.length := by rw [<- Array.length_toList]; exact hlen.symm
 have D : Den (ua c a Y none) fn.ntmps sl2 h n { tmps := us ++ Array.replicate (fn.ntmps - us.size) undef, defers := [] } w := by
  refine ⟨β, Y, zEm m, zr1 hs (by simp; omega) (fun t hle => ?_) (fun t ht => h2 t (by omega)), by simp; omega, .nil fun _ h => h⟩
  by_cases ht : t < as.length
  . rw [h1 t (by omega) (by omega)]
    have := hget t ht
    have hu : (us ++ Array.replicate (fn.ntmps - us.size) undef).getD t undef = us.toList.getD t undef := by
     rw [Array.getD_eq_getD_getElem?, Array.getElem?_append_left (by omega)]
     simp
    show rel w _ _ β ((us ++ Array.replicate (fn.ntmps - us.size) undef).getD t undef)
    rw [hu]
    simpa using xh this
  . rw [h2 t (by omega), zed hle]
    exact trivial
 refine callsIn_wide.1 (callsIn_of_wp_marks (n := 0) hf hb trivial (qP (c := ua c a Y none) ok code sl2 h n _ hx hc (.inl ⟨rfl, rfl⟩) _ w D _ ?_))
 intro e sl' h' n' a' w' k D'
 have fin : (zg9 c.E fn sl' h' fun r => yQ sl' fun sl4 => K r sl4 h' n') -> LeavesInM Fence.wide 0 c.E.P fn a'.tmps (fun e w' => ∃ u, e = .returned u /\ ∃ r sl' h' n' β' Y', (∀ r, Y r -> Y' r) /\ K r sl' h' n' /\ Mem c h' (fun b => n' <= b) β' Y' w' /\ zN c sl' h' β' Y' w' a /\ rel w' (XX c.Z Y' β' h') r β' u) a'.defers .returning w' := by
  intro hres
  refine zo4 (c := ua c a Y none) rfl D' fun β2 Y2 w2 m2 hs2 hY2 => ?_
  obtain ⟨r, v, k1, k2, k3⟩ := zAv (c := ua c a Y none) ok m2 hs2 hres
  rw [xl] at k1
  exact ⟨v, k2, v, rfl, r, _, h', n', β2, Y2, hY2, k1, zB9 m2, zne (Y1 := Y) hs.1 hs2, k3⟩
 cases e with
 | normal => exact fin k
 | ret => exact fin k
 | _ => cases k
def zgy : List Nat -> List SV -> Slots -> (Slots -> Prop) -> Prop
 | [], [], sl, K => K sl
 | t :: ts, v :: vs, sl, K => frc v fun v => zgy ts vs ((t, v) :: sl) K
 | _, _, _, _ => False
theorem zqs {K : Slots -> Prop} {w : World} {X : Nat -> Prop} {β : Beta} : ∀ (ts : List Nat) (vs : List SV) (sl : Slots) (tmps : Array Value) (us : List Value), zgy ts vs sl K -> (∀ t ∈ ts, t < tmps.size) -> relL w X vs β us -> (∀ t, t <= 999999 -> rel w X (lk sl t) β (tmps.getD t undef)) ->
 ∃ sl', K sl' /\ (∀ t, t <= 999999 -> rel w X (lk sl' t) β (((ts.zip us).foldl (fun tmps (t, a) => tmps.setIfInBounds t a) tmps).getD t undef)) /\ (∀ t, t ∉ ts -> lk sl' t = lk sl t) /\ ((ts.zip us).foldl (fun tmps (t, a) => tmps.setIfInBounds t a) tmps).size = tmps.size /\ ts.length = us.length
 | [], [], sl, tmps, us, hk, _, hr, h => by
   rw [relL_nil] at hr; subst hr
   exact ⟨sl, hk, h, fun _ _ => rfl, rfl, rfl⟩
 | t :: ts, v :: vs, sl, tmps, us, hk, hlt, hr, h => by
   rw [relL_cons] at hr
   obtain ⟨u, us', rfl, h1, h2⟩ := hr
   simp only [zgy, zB] at hk
   have ht := hlt t (by simp)
   obtain ⟨sl', g1, g2, g3, g4, g5⟩ := zqs ts vs ((t, v) :: sl) (tmps.setIfInBounds t u) us' hk (fun t' h' => by rw [Array.size_setIfInBounds]; exact hlt t' (by simp [h'])) h2 (fun t' ht' => by
    rw [wR]
    by_cases e : t = t'
    . subst e
      rw [if_pos rfl]
      simpa [ht] using xh h1
    . rw [if_neg e]
      have := h t' ht'
      rw [Array.getD_eq_getD_getElem?] at this ⊢
      rw [Array.getElem?_setIfInBounds_ne e]
      exact this)
   refine ⟨sl', g1, g2, fun t' ht' => ?_, by simpa using g4, by simp [g5]⟩
   rw [g3 t' (fun h => ht' (by simp [h])), wR, if_neg (by rintro rfl; simp at ht')]
 | [], _ :: _, _, _, _, hk, _, _, _ => hk.elim
 | _ :: _, [], _, _, _, hk, _, _, _ => hk.elim
def zCa (q : Lp) : Exit -> Option Lp
 | .normal => some { q with st := .ready, pend := none }
 | .ret => some { q with st := .done, pend := some .ret }
 | .exit i => some { q with st := .done, pend := some (.exit i) }
 | _ => none
def zig (N : Nat) : List Nat -> Bool
 | [] => true
 | t :: r => match Nat.blt t N with | true => zig N r | false => false
theorem zhl {N : Nat} : ∀ {l : List Nat}, zig N l = true -> ∀ t ∈ l, t < N
 | t :: r, h, t', ht => by
   simp only [zig] at h
   split at h
   . rename_i e
     rcases List.mem_cons.1 ht with rfl | ht
     . simpa using e
     . exact zhl h t' ht
   . cases h
def zun : LoopState -> LoopState -> Bool
 | .ready, .ready | .busy, .busy => true
 | _, _ => false
def zee : Slots -> Slots -> Slots
 | [], r => r
 | (t, v) :: s, r => match Nat.ble t 999999 with
   | true => (t, v) :: zee s r
   | false => zee s r
def zfd {R : Sort _} : Slots -> Slots -> (Slots -> R) -> R
 | [], r, K => K r
 | (t, v) :: s, r, K => match Nat.ble t 999999 with
   | true => zfd s r fun r => K ((t, v) :: r)
   | false => zfd s r K
theorem zoo {R : Sort _} (s r : Slots) (K : Slots -> R) : zfd s r K = K (zee s r) := by
 induction s generalizing K with
 | nil => rfl
 | cons x s ih =>
   grind [zee, zfd]
theorem zsc {s r : Slots} {t : Nat} (h : t <= 999999) (hr : lk r t = .any) : lk (zee s r) t = lk s t := by
 induction s with
 | nil => exact hr
 | cons x s ih =>
   grind [Nat.ble_eq, wR, zee]
theorem zr9 {s r : Slots} {t : Nat} (h : 999999 < t) : lk (zee s r) t = lk r t := by
 induction s with
 | nil => rfl
 | cons x s ih =>
   grind [Nat.ble_eq, wR, zee]
def zfi (v : SV) (b : Nat) : Bool := match v with
 | .yld b' => Nat.beq b' b
 | _ => false
theorem zph {v : SV} {b : Nat} (h : zfi v b = true) : v = .yld b := by
 cases v <;> simp only [zfi] at h <;> first | cases h | (rw [zk h])
def zom (E : Env) (cuts : List Nat) (b : Nat) (as : List SV) (sl : Slots) (h : Heap) (n : Nat) (K : SV -> Slots -> Heap -> Nat -> Prop) : Prop :=
 match lkB h b with
 | some (.gho q s) => (match q.dead, zig q.N q.ps.toList, Nat.ble q.N 999999 with
   | false, true, true => jn sl fun sl1 => zfd s sl1 fun sl1 => zgy q.ps.toList as sl1 fun sl2 => exec E q.N cuts q.asg ((1999999, .yld b) :: sl2) h n fun e sl3 h3 n3 => match e with
     | .normal => (match lkB h3 b with
       | some (.gho q3 s3) => (match zun q3.st .ready, q3.dead, zfi (lk sl3 1999999) b with
         | true, false, true => stK h3 b (.gho { q3 with st := .busy } s3) fun h4 => exec E q.N cuts q.body sl3 h4 n3 fun e sl5 h5 n5 => (match lkB h5 b with
           | some (.gho q5 s5) => (match q5.dead, zCa q5 e, zfi (lk sl5 1999999) b with
             | false, some q6, true => stK h5 b (.gho q6 s5) fun h6 => yQ sl5 fun sl6 => K (match e with | .normal => .tru | _ => .fls) ((999999, .any) :: sl6) h6 n5
             | _, _, _ => False)
           | _ => False)
         | _, _, _ => False)
       | _ => False)
     | _ => False
   | _, _, _ => False)
 | _ => False
def za8 (c : Cx) (a : Act) (Y : Nat -> Prop) (l : Nat) : Cx := { c with sh := fun t => if t = 999999 then .func (.yield l) #[] #[] else qA c a t, ro := some l, Y0 := Y, bot := [], nm := false }
theorem zCd {c : Cx} {a a' : Act} {Y0 Y : Nat -> Prop} {l b : Nat} {sl : Slots} {h : Heap} {β : Beta} {w : World} (hs : zN (za8 c a Y0 l) sl h β Y w a') (hb : lk sl 1999999 = .yld b) {l' : Loc} (hl : β b = some l') : l'.r = l := by
 have := hs.2 1999999
 rw [hb] at this
 have hle : ¬ ((1999999 : Nat) <= 999999) := by omega
 simp only [qA, hle, if_false] at this
 have h2 := zO rfl (by simp) (by simp) this
 simp only [zg] at h2
 simp_all [Fn.yield.injEq, List.cons.injEq, Value.func.injEq, and_true, za8, if_pos]
theorem zEl {c : Cx} {a : Act} {Y : Nat -> Prop} {l t : Nat} (h : t ≠ 999999) : (za8 c a Y l).sh t = qA c a t := if_neg h
theorem zA2 {c : Cx} {a a' : Act} {Y : Nat -> Prop} {l t : Nat} (h : t ≠ 999999) : qA (za8 c a Y l) a' (t + 1000000) = qA c a t := by
 have h1 : ¬ (t + 1000000 <= 999999) := by omega
 rw [<- zEl (Y := Y) (l := l) h]
 unfold qA
 grind
theorem zEu {c : Cx} {h : Heap} {F : Nat -> Prop} {β : Beta} {Y Y0 : Nat -> Prop} {w : World} {a : Act} {l : Nat} (m : Mem c h F β Y w) : Mem (za8 c a Y0 l) h F β Y w :=
 ⟨m.fresh, m.blk, m.inj, m.own, m.yy, m.zz, m.size, m.frame, m.os, m.tape, m.output, m.gl⟩
theorem zxg {c : Cx} {h : Heap} {F : Nat -> Prop} {β : Beta} {Y Y0 : Nat -> Prop} {w : World} {a : Act} {l : Nat} (m : Mem (za8 c a Y0 l) h F β Y w) : Mem c h F β Y w :=
 ⟨m.fresh, m.blk, m.inj, m.own, m.yy, m.zz, m.size, m.frame, m.os, m.tape, m.output, m.gl⟩
theorem ztd {s : LoopState} (h : zun s .ready = true) : s = .ready := by cases s <;> simp_all [zun]
theorem zn7 {E : Env} (ok : EnvOK E) {cuts : List Nat} {b : Nat} {q : Lp} {s : Slots} {as : List SV} {sl : Slots} {h : Heap} {n : Nat} {K : SV -> Slots -> Heap -> Nat -> Prop} (hq : lkB h b = some (.gho q s)) (hc1 : wM E q.N q.asg) (hc2 : wM E q.N q.body)
 (hr1 : rfB q.asg = false) (hr2 : rfB q.body = false) (hx : zom E cuts b as sl h n K) : za4 E b as sl h n K := by
 unfold za4
 intro c a w β Y us l hE m hs hus hl
 subst hE
 unfold zom at hx
 simp only [hq] at hx
 split at hx
 case h_2 => cases hx
 rename_i hdead hlt hNle
 rw [Nat.ble_eq] at hNle
 obtain ⟨l', hl', hok⟩ := m.blk b _ hq
 rw [hl] at hl'; cases hl'
 obtain ⟨fn, tmps, D, hrec, htm, hslots⟩ := hok.resolve_left (by rw [hdead]; simp)
 rw [xS, zoo] at hx
 obtain ⟨sl2, hx, g1, g2, g3, g4⟩ := zqs (w := w) (X := XX c.Z Y β h) (β := β) q.ps.toList as _ tmps us.toList hx (fun t ht => by rw [htm]; exact zhl hlt t ht) hus (fun t ht => by
  rw [zsc ht (zed ht)]; exact hslots t ht)
 have hps : us.size = q.ps.size := by rw [<- Array.length_toList, <- Array.length_toList, g4]
 obtain ⟨tm, htmE⟩ : ∃ tm : Array Value, ((q.ps.zip us).foldl (fun tmps (t, a) => tmps.setIfInBounds t a) tmps) = tm := ⟨_, rfl⟩
 have htmL : ((q.ps.toList.zip us.toList).foldl (fun tmps (t, a) => tmps.setIfInBounds t a) tmps) = tm := by
  rw [<- htmE, <- Array.foldl_toList, Array.toList_zip]
 rw [htmL] at g1 g3
 have hy := run_yield (P := c.E.P) (args := us) hrec hps
 simp only [htmE] at hy
 refine ⟨fn, tm, q.asg, q.body, hy, roundIn_of_wpIn (F := Fence.wide) trivial ?_⟩
 have hle : ¬ ((1999999 : Nat) <= 999999) := by omega
 have D1 : Den (za8 c a Y l.r) q.N ((1999999, .yld b) :: sl2) h n { tmps := tm, defers := [] } w := by
  refine ⟨β, Y, zEu m, ⟨by show tm.size <= _; rw [g3, htm]; omega, fun t => ?_⟩, by rw [<- htm, <- g3], .nil fun _ h => h⟩
  rw [wR]
  by_cases e : 1999999 = t
  . subst e
    rw [if_pos rfl]
    simp only [qA, hle, if_false, za8, if_pos]
    exact wm rfl ⟨l, hl, rfl⟩
  . rw [if_neg e]
    by_cases ht : t <= 999999
    . unfold qA
      rw [if_pos ht]
      exact g1 t ht
    . have hni : t ∉ q.ps.toList := fun hm => by have := zhl hlt t hm; omega
      rw [g2 t hni, zr9 (by omega)]
      unfold qA
      rw [if_neg ht]
      obtain ⟨t', rfl⟩ : ∃ t', t = t' + 1000000 := ⟨t - 1000000, by omega⟩
      rw [zla, Nat.add_sub_cancel]
      have hne : t' ≠ 999999 := by omega
      show rel w _ _ β (if t' = 999999 then _ else qA c a t')
      rw [if_neg hne]
      exact hs.2 t'
 refine qP (c := za8 c a Y l.r) ok q.asg _ h n _ hx hc1 (.inr hr1) _ w D1 _ ?_
 intro e sl3 h3 n3 a1 w1 k D3
 cases e with
 | normal =>
   simp only at k
   split at k
   case h_2 => cases k
   rename_i q3 s3 hq3
   split at k
   case h_2 => cases k
   rename_i hst3 hd3 hsm3
   rw [qS] at k
   have hy3 := zph hsm3
   obtain ⟨β3, Y3, m3, hs3, hN3, hdef3⟩ := D3
   obtain ⟨l3, hl3, hok3⟩ := m3.blk b _ hq3
   have hlr3 := zCd hs3 hy3 hl3
   obtain ⟨fn3, tmps3, D', hrec3, htm3, hslots3⟩ := hok3.resolve_left (by rw [hd3]; simp)
   obtain ⟨m4, e4⟩ := Mem.set m3 (k := .gho { q3 with st := .busy } s3) (o' := .loop { state := .busy, pending := q3.pend, fn := fn3, tmps := tmps3, params := q3.ps, assign := q3.asg, body := q3.body, defers := D' }) hq3 hl3
    (jV (by rw [hd3]; simp)) (jV (q := { q3 with st := .busy }) (by show ¬ q3.dead = true; rw [hd3]; simp)) hrec3 (fun e hh => .inr ⟨fn3, tmps3, D', hh, htm3, fun t ht => zD e (zp (fun _ _ k => k) _) (hslots3 t ht)⟩)
   have hbeg := run_beginRound (P := c.E.P) (w := w1) hrec3 (ztd hst3)
   rw [hlr3] at hbeg m4 e4
   refine ⟨_, hbeg, ?_⟩
   have D4 : Den (za8 c a Y l.r) q.N sl3 (stB h3 b (.gho { q3 with st := .busy } s3)) n3 a1 (World.put w1 l.r (.loop { state := .busy, pending := q3.pend, fn := fn3, tmps := tmps3, params := q3.ps, assign := q3.asg, body := q3.body, defers := D' })) :=
    ⟨β3, Y3, m4, ⟨hs3.1, fun t => zD e4 (zp (fun _ _ k => k) _) (hs3.2 t)⟩, hN3, hdef3⟩
   refine qP (c := za8 c a Y l.r) ok q.body _ _ n3 _ k hc2 (.inr hr2) _ _ D4 _ ?_
   intro e sl5 h5 n5 a5 w5 k D5
   split at k
   case h_2 => cases k
   rename_i q5 s5 hq5
   split at k
   case h_2 => cases k
   rename_i q6 hd5 heq hsm5
   rw [qS, xl] at k
   have hy5 := zph hsm5
   obtain ⟨β5, Y5, m5, hs5, hN5, h05, _⟩ := D5
   obtain ⟨l5, hl5, hok5⟩ := m5.blk b _ hq5
   have hlr5 := zCd hs5 hy5 hl5
   obtain ⟨fn5, tmps5, D'', hrec5, htm5, hslots5⟩ := hok5.resolve_left (by rw [hd5]; simp)
   have fin : ∀ (jump : Option Code) (v : SV), q6 = { q5 with st := if jump.isNone then .ready else .done, pend := jump } -> (v = if jump.isNone then .tru else .fls) -> K v ((999999, .any) :: unS sl5) (stB h5 b (.gho q6 s5)) n5 ->
    ∃ u w', (Instr.endRound l.r jump).run c.E.P w5 = .ok u w' /\ (∃ u', Ending.returned u = .returned u' /\ ∃ r sl' h' n' β' Y', (∀ r, Y r -> Y' r) /\ K r sl' h' n' /\ Mem c h' (fun b => n' <= b) β' Y' w' /\ zN c sl' h' β' Y' w' a /\ rel w' (XX c.Z Y' β' h') r β' u') := by
    intro jump v hq6 hv hk
    have hend := run_endRound (P := c.E.P) (w := w5) jump hrec5
    have hd6 : ¬ q6.dead = true := by rw [hq6]; show ¬ q5.dead = true; rw [hd5]; simp
    obtain ⟨m6, e6⟩ := Mem.set m5 (k := .gho q6 s5) (o' := .loop { state := if jump.isNone then .ready else .done, pending := jump, fn := fn5, tmps := tmps5, params := q5.ps, assign := q5.asg, body := q5.body, defers := D'' }) hq5 hl5
     (jV (by rw [hd5]; simp)) (jV hd6) hrec5 (fun e hh => .inr ⟨fn5, tmps5, D'', by rw [hq6]; exact hh, by rw [hq6]; exact htm5, fun t ht => zD e (zp (fun _ _ k => k) _) (hslots5 t ht)⟩)
    rw [hlr5] at hend m6 e6
    refine ⟨_, _, hend, _, rfl, v, _, _, n5, β5, Y5, h05, hk, zxg m6, ⟨hs.1, fun t => ?_⟩, ?_⟩
    . rw [wR]
      by_cases et : 999999 = t
      . rw [if_pos et]; exact trivial
      . rw [if_neg et, zwy]
        have := zD e6 (zp (fun _ _ k => k) _) (hs5.2 (t + 1000000))
        rw [zA2 (Ne.symm et)] at this
        exact this
    . rw [hv]
      cases jump with
      | none => exact rel_tru.2 rfl
      | some j => exact rel_fls.2 rfl
   cases e with
   | normal => cases heq; exact fin none .tru rfl rfl k
   | ret => cases heq; exact fin (some .ret) .fls rfl rfl k
   | exit i => cases heq; exact fin (some (.exit i)) .fls rfl rfl k
   | _ => cases heq
 | _ => cases k
def zz7 (w : World) (X : Nat -> Prop) (b : Nat) (v : SV) : Prop := ∃ cs ty lo hi, w.heap[b]? = some (.cells cs ty (lo, hi)) /\ (cs.size <= lo \/ hi <= lo) /\ zg w X v nob cs.toList
def zE7 (E : Env) (f : FuncId) (v : SV) (args : List SV) (r v' : SV) : Prop :=
 wc E.P f /\ ∀ (w : World) (X : Nat -> Prop) (b : Nat) (us : List Value), Good E w (fun k => X k \/ k = b) -> ¬ X b -> zz7 w (fun k => X k \/ k = b) b v -> relL w (fun k => X k \/ k = b) args nob us ->
  Calls E.P f (Value.pointer (some ⟨b, 0, none⟩) :: us).toArray w fun e w' => ∃ u, e = .returned u /\ w'.os = w.os /\ w'.tape = w.tape /\ w'.output = w.output /\ w.heap.size <= w'.heap.size /\
   (∀ k, k < w.heap.size -> k ≠ b -> w'.heap[k]? = w.heap[k]?) /\ zz7 w' (fun k => X k \/ k = b) b v' /\ rel w' (fun k => X k \/ k = b) r nob u
theorem zny {β β' : Beta} {v : SV} (h : v.undr 0 = true) : v.nms fun b => ∀ l, β b = some l -> β' b = some l := yA (fun b hb => absurd hb (by omega)) _ (xU v h)
theorem zrh {β' : Beta} {v : SV} : v.nms fun b => ∀ l, nob b = some l -> β' b = some l := zp (fun b l h => by cases h) v
theorem zk7 {β β' : Beta} : ∀ {l : List SV}, uq 0 l = true -> xx (fun b => ∀ l, β b = some l -> β' b = some l) l
 | [], _ => trivial
 | v :: r, h => by
   simp only [uq] at h
   split at h
   . rename_i e; exact ⟨zny e, zk7 h⟩
   . cases h
theorem lend {E : Env} {f : FuncId} {v : SV} {args : List SV} {r v' : SV} {sl : Slots} {h : Heap} {n b : Nat} {K : SV -> Slots -> Heap -> Nat -> Prop} (hR : zE7 E f v args r v') (hb : lkB h b = some (.var true v)) (hv : v.undr 0 = true) (ha : uq 0 args = true)
 (k : K r sl (stB h b (.var true v')) n) : qp E f (.ptr b [] :: args) sl h n K := by
 unfold qp
 refine ⟨hR.1, ?_⟩
 intro c a w β Y us hE m hs hus
 subst hE
 rw [relL_cons] at hus
 obtain ⟨u0, us', hus0, h1, h2⟩ := hus
 rw [qi rfl (by simp)] at h1
 simp only [zg] at h1
 obtain ⟨l, hl, hu0⟩ := h1
 simp only [List.cons.injEq, and_true] at hu0
 subst hu0
 obtain ⟨l', hl', hblk⟩ := m.blk b _ hb
 rw [hl] at hl'; cases hl'
 obtain ⟨cs, ty, lo, hi, g1, g2, g3, _⟩ := hblk
 have hown : XX c.Z Y β h l.r := .inr (.inr ⟨b, _, l, hb, hl, rfl, rfl⟩)
 have hlt : l.r < w.heap.size := m.xlt hown
 have hX : (fun k => (XX c.Z Y β h k /\ k ≠ l.r) \/ k = l.r) = XX c.Z Y β h := by
  funext k
  refine propext ⟨fun e => e.elim (·.1) (fun e => e ▸ hown), fun e => ?_⟩
  by_cases ek : k = l.r
  . exact .inr ek
  . exact .inl ⟨e, ek⟩
 have hc := hR.2 w (fun k => XX c.Z Y β h k /\ k ≠ l.r) l.r us' (by rw [hX]; exact m.good) (fun e => e.2 rfl)
  (by rw [hX]; exact ⟨cs, ty, lo, hi, g1, g2, zU (Ext.refl _ _) _ _ (zny hv) g3⟩) (by rw [hX]; exact zbf (Ext.refl _ _) _ _ (zk7 ha) h2)
 have hus1 : us = (Value.pointer (some ⟨l.r, 0, none⟩) :: us').toArray := by apply Array.toList_inj.1; rw [hus0]; rfl
 rw [hus1]
 refine hc.mono ?_
 rintro e w' ⟨u, rfl, ho, ht, hou, hsz, hsame, hat, hrel⟩
 rw [hX] at hat hrel
 obtain ⟨cs', ty', lo', hi', f1, f2, f3⟩ := hat
 refine ⟨u, rfl, r, sl, stB h b (.var true v'), n, β, Y, fun _ h => h, k, ?_⟩
 let w1 : World := World.put w' l.r (.cells cs ty (lo, hi))
 have hlt' : l.r < w'.heap.size := Nat.lt_of_lt_of_le hlt hsz
 have bel : Below w.heap.size w w1 := ⟨ho, ht, hou, by show _ <= (World.put w' l.r _).heap.size; rw [wa]; exact hsz, fun k hk => by
  by_cases ek : k = l.r
  . subst ek; show (World.put w' l.r _).heap[l.r]? = _; rw [yC hlt', g1]
  . show (World.put w' l.r _).heap[k]? = _; rw [xy ek]; exact hsame k hk ek⟩
 obtain ⟨m1, e1⟩ := m.step bel
 have hw' : World.put w1 l.r (.cells cs' ty' (lo', hi')) = w' := by
  show World.put (World.put w' l.r _) l.r _ = w'
  unfold World.put
  have : (w'.heap.setIfInBounds l.r (.cells cs ty (lo, hi))).setIfInBounds l.r (.cells cs' ty' (lo', hi')) = w'.heap := by
   apply Array.ext
   . simp
   . intro i h1 h2
     by_cases ei : l.r = i
     . subst ei
       rw [Array.getElem_setIfInBounds_self]
       rw [Array.getElem?_eq_getElem h2] at f1
       exact (Option.some.inj f1).symm
     . rw [Array.getElem_setIfInBounds_ne _ ei, Array.getElem_setIfInBounds_ne _ ei]
       all_goals (simp at h1 ⊢; omega)
  simp only [this]
 have hw1 : w1.heap[l.r]? = some (.cells cs ty (lo, hi)) := yC hlt'
 obtain ⟨m2, e2⟩ := Mem.set m1 (k := .var true v') hb hl rfl rfl hw1 (o' := .cells cs' ty' (lo', hi')) (by
  intro _ _
  rw [hw']
  exact ⟨cs', ty', lo', hi', f1, f2, zU (Ext.refl _ _) _ _ zrh f3, fun e => by cases e⟩)
 rw [hw'] at m2 e2
 have e3 : Ext w (XX c.Z Y β h) w' (XX c.Z Y β (stB h b (.var true v'))) := e1.trans e2
 refine ⟨m2, ⟨hs.1, fun t => zD e3 (zp (fun _ _ k => k) _) (hs.2 t)⟩, ?_⟩
 have hOwn : ∀ r, Own β (stB h b (.var true v')) r -> Own β h r := by
  rintro r ⟨b', k', l', q1, q2, q3, q4⟩
  rw [wE hb] at q1
  by_cases eb : b' = b
  . subst eb; rw [hl] at q2; cases q2; exact ⟨b', _, l, hb, hl, rfl, q4⟩
  . rw [if_neg eb] at q1; exact ⟨b', k', l', q1, q2, q3, q4⟩
 refine zD (w := w') (X := XX c.Z Y β h) ⟨Nat.le_refl _, fun _ _ _ => rfl, fun r _ hx hx' => ?_⟩ zrh hrel
 rcases hx' with hx' | hx' | hx'
 . exact hx (.inl hx')
 . exact hx (.inr (.inl hx'))
 . exact hx (.inr (.inr (hOwn r hx')))
abbrev Rt := Option SV
def frN (n : Nat) (K : Nat -> Rt) : Rt := match n with | 0 => K 0 | m + 1 => K (Nat.succ m)
theorem zey (n : Nat) (K : Nat -> Rt) : frN n K = K n := by cases n <;> rfl
def frI (i : Int) (K : Int -> Rt) : Rt := match i with | .ofNat n => frN n fun n => K (.ofNat n) | .negSucc n => frN n fun n => K (.negSucc n)
theorem zib (i : Int) (K : Int -> Rt) : frI i K = K i := by cases i <;> simp only [frI, zey]
def frB (b : Bool) (K : Bool -> Rt) : Rt := match b with | true => K true | false => K false
theorem zwm (b : Bool) (K : Bool -> Rt) : frB b K = K b := by cases b <;> rfl
def frU (u : UInt8) (K : UInt8 -> Rt) : Rt := frN u.toNat fun n => K (UInt8.ofNat n)
theorem zCg (u : UInt8) (K : UInt8 -> Rt) : frU u K = K u := by simp only [frU, zey, UInt8.ofNat_toNat]
def zja : List UInt8 -> (List UInt8 -> Rt) -> Rt
 | [], K => K []
 | u :: r, K => frU u fun u => zja r fun r => K (u :: r)
theorem znw (s : List UInt8) (K : List UInt8 -> Rt) : zja s K = K s := by
 induction s generalizing K with
 | nil => rfl
 | cons u r ih => simp only [zja, zCg, ih]
def frV : List SV -> (List SV -> Rt) -> Rt
 | [], K => K []
 | v :: r, K => frV r fun r => K (v :: r)
theorem znv (s : List SV) (K : List SV -> Rt) : frV s K = K s := by
 induction s generalizing K with
 | nil => rfl
 | cons u r ih => simp only [frV, ih]
abbrev KC := SV -> List Nat -> EA -> Rt
def zef (xs : List SV) (i : Int) (K : SV -> Rt) : Rt := match i with
 | .ofNat n => (match xs[n]? with | some s => K s | none => none)
 | .negSucc _ => none
def zse (s : List UInt8) (i : Int) (K : UInt8 -> Rt) : Rt := match i with
 | .ofNat n => (match s[n]? with | some s => K s | none => none)
 | .negSucc _ => none
def inR (k : IntKind) (e : Int) : Bool := match k with
 | .i64 => (match decide (-9223372036854775808 <= e) with | true => decide (e <= 9223372036854775807) | false => false)
 | .i32 => (match decide (-2147483648 <= e) with | true => decide (e <= 2147483647) | false => false)
 | .u8 => (match decide (0 <= e) with | true => decide (e <= 255) | false => false)
 | _ => false
def xz (k : IntKind) (e : Int) (K : Int -> Rt) : Rt := frI e fun e => match inR k e with | true => K e | false => frI (k.wrap e) K
def yn (p : Prop) [Decidable p] (K : Rt) : Rt := match decide p with | true => K | false => none
theorem zfq {r : SV} {xs : List SV} {i : Int} {K : SV -> Rt} {K' : SV -> Prop} (hk : zef xs i K = some r) (h : ∀ s, K s = some r -> K' s) : wD xs i K' := by
 unfold zef at hk
 split at hk
 . split at hk
   . rename_i e; exact zl (Int.natCast_nonneg _) e (h _ hk)
   . cases hk
 . cases hk
theorem zCr {r : SV} {xs : List UInt8} {i : Int} {K : UInt8 -> Rt} {K' : UInt8 -> Prop} (hk : zse xs i K = some r) (h : ∀ s, K s = some r -> K' s) : xC xs i K' := by
 unfold zse at hk
 split at hk
 . grind [xC]
 . cases hk
theorem zDq {k : IntKind} {e : Int} (h : inR k e = true) : k.wrap e = e := by
 cases k <;> simp only [inR] at h <;> (try cases h) <;> split at h <;> (try cases h) <;> rename_i h1 <;> rw [decide_eq_true_eq] at h h1 <;> simp only [IntKind.wrap, IntKind.signed, IntKind.bits]
 . grind
 . grind
 . grind
theorem zch {r : SV} {k : IntKind} {e : Int} {K : Int -> Rt} {K' : Int -> Prop} (hk : xz k e K = some r) (h : ∀ s, K s = some r -> K' s) : qU k e K' := by
 unfold xz at hk
 simp only [zib] at hk
 split at hk
 . rename_i e1; exact zu (zDq e1) (h _ hk)
 . exact zvd (h _ hk)
theorem wY {r : SV} {p : Prop} [Decidable p] {K : Rt} {K' : Prop} (hk : yn p K = some r) (h : K = some r -> K') : zK p K' := by
 unfold yn at hk
 split at hk
 . rename_i e; exact qb (of_decide_eq_true e) (h hk)
 . cases hk
def xd (v : SV) : List Step -> (SV -> Rt) -> Rt
 | [], K => frc v K
 | .fld i off :: p, K =>
   match v with
   | .agg fs => match Nat.beq off (szs (fs.take i)) with
     | true => (match fs[i]? with | some s => xd s p K | none => none)
     | false => none
   | _ => none
 | .idx i sz :: p, K =>
   match v with
   | .arr _ sz' xs => match Nat.beq sz sz' with
     | true => zef xs i fun s => xd s p K
     | false => none
   | _ => none
def zb6 (v : SV) (x : SV) : List Step -> (SV -> Rt) -> Rt
 | [], K => match Nat.beq v.sz x.sz with
   | true => frc x K
   | false => none
 | .fld i off :: p, K =>
   match v with
   | .agg fs => match Nat.beq off (szs (fs.take i)) with
     | true => (match fs[i]? with | some s => zb6 s x p fun s' => yV (fs.set i s') fun fs' => K (.agg fs') | none => none)
     | false => none
   | _ => none
 | .idx i sz :: p, K =>
   match v with
   | .arr n sz' xs => match Nat.beq sz sz' with
     | true => zef xs i fun s => zb6 s x p fun s' => K (.arr n sz' (xs.set i s'))
     | false => none
   | _ => none
mutual
def yU (h : Heap) : Nat -> SV -> List Nat -> (SV -> List Nat -> Rt) -> Rt
 | 0, _, _, _ => none
 | d + 1, v, ns, K => match v with
   | .ptr b p => match lkB h b with
     | some (.var _ u) => xd u p fun u => yU h d u (b :: ns) fun u ns => K (.iptr u) ns
     | _ => none
   | .osl b sz => match lkB h b with
     | some (.row _ sz' xs) => (match Nat.beq sz sz' with | true => K (.sl sz xs) (b :: ns) | false => none)
     | _ => none
   | .agg fs => yF h d fs ns fun fs ns => K (.agg fs) ns
   | .tup fs => yF h d fs ns fun fs ns => K (.tup fs) ns
   | .fn f cs => yF h d cs ns fun cs ns => K (.fn f cs) ns
   | .ifc T cs => yF h d cs ns fun cs ns => K (.ifc T cs) ns
   | .yld _ => none
   | .mpr _ => none
   | .vsl .. => none
   | v => frc v fun v => K v ns
def yF (h : Heap) : Nat -> List SV -> List Nat -> (List SV -> List Nat -> Rt) -> Rt
 | 0, _, _, _ => none
 | d + 1, l, ns, K => match l with
   | [] => K [] ns
   | v :: r => yU h d v ns fun v ns => yF h d r ns fun r ns => K (v :: r) ns
end
def zx3 (E : Env) (op : BinOp) (T : TypeId) (x y : SV) (K : SV -> Rt) : Rt :=
 match op, x, y with
 | .add, .int k a, .int k' b => match kq k k' with | true => xz k (a + b) fun r => K (.int k r) | false => none
 | .sub, .int k a, .int k' b => match kq k k' with | true => xz k (a - b) fun r => K (.int k r) | false => none
 | .mul, .int k a, .int k' b => match kq k k' with | true => xz k (a * b) fun r => K (.int k r) | false => none
 | .quo, .int k a, .int k' b => match kq k k' with | true => yn (b ≠ 0) (xz k (a.tdiv b) fun r => K (.int k r)) | false => none
 | .rem, .int k a, .int k' b => match kq k k' with | true => yn (b ≠ 0) (frI (a.tmod b) fun r => K (.int k r)) | false => none
 | .and, .int k a, .int k' b => match kq k k' with | true => frI (bits .and k a b) fun r => K (.int k r) | false => none
 | .or, .int k a, .int k' b => match kq k k' with | true => frI (bits .or k a b) fun r => K (.int k r) | false => none
 | .xor, .int k a, .int k' b => match kq k k' with | true => frI (bits .xor k a b) fun r => K (.int k r) | false => none
 | .andNot, .int k a, .int k' b => match kq k k' with | true => frI (bits .andNot k a b) fun r => K (.int k r) | false => none
 | .shl, .int k a, .int _ b => yn (0 <= b) (xz k (a * 2 ^ (min b.toNat k.bits)) fun r => K (.int k r))
 | .shr, .int k a, .int _ b => yn (0 <= b) (frI (a.fdiv (2 ^ (min b.toNat k.bits))) fun r => K (.int k r))
 | .lss, .int k a, .int k' b => match kq k k' with | true => frB (decide (a < b)) fun b => K (.bool b) | false => none
 | .leq, .int k a, .int k' b => match kq k k' with | true => frB (decide (a <= b)) fun b => K (.bool b) | false => none
 | .gtr, .int k a, .int k' b => match kq k k' with | true => frB (decide (b < a)) fun b => K (.bool b) | false => none
 | .geq, .int k a, .int k' b => match kq k k' with | true => frB (decide (b <= a)) fun b => K (.bool b) | false => none
 | .add, .str s, .str t => yn (((s.length + t.length : Nat) : Int) <= 9223372036854775807) (zja (s ++ t) fun r => K (.str r))
 | .eql, x, y => match eqT E.tt 50 T x y with | some b => frB b fun b => K (.bool b) | none => none
 | .neq, x, y => match eqT E.tt 50 T x y with | some b => frB (!b) fun b => K (.bool b) | none => none
 | _, _, _ => none
def zjj (E : Env) (sl : Slots) (lo hi : Option Operand) (n : Nat) (K : Int -> Int -> Rt) : Rt :=
 match lo with
 | none => (match hi with
   | none => K 0 n
   | some h => match ev E sl h with
     | .int _ h => yn (0 <= h /\ h <= n) (K 0 h)
     | _ => none)
 | some l => match ev E sl l with
   | .int _ l => (match hi with
     | none => yn (0 <= l /\ l <= n) (K l n)
     | some h => match ev E sl h with
       | .int _ h => yn (0 <= l /\ l <= h /\ h <= n) (K l h)
       | _ => none)
   | _ => none
def zy4 (h : Heap) (v : SV) (K : Option (Nat × List SV) -> Rt) : Rt :=
 match v with
 | .sl sz xs => K (some (sz, xs))
 | .osl b _ => (match lkB h b with
   | some (.row _ sz xs) => K (some (sz, xs))
   | _ => none)
 | .nils | .mt => K none
 | _ => none
def jE (v : SV) (K : SV -> Rt) : Rt :=
 match v with
 | .any => none
 | .tup _ => none
 | v => frc v K
def zg6 (E : Env) (sl : Slots) : List (Nat × Operand) -> List SV -> (List SV -> Rt) -> Rt
 | [], vs, K => yV vs K
 | (i, x) :: r, vs, K => match vs[i]? with
   | some z => jE (ev E sl x) fun v => (match Nat.beq z.sz v.sz with
     | true => zg6 E sl r (vs.set i v) K
     | false => none)
   | none => none
def ziv (E : Env) (sl : Slots) (sz : Nat) : List (Nat × Operand) -> (List SV -> Rt) -> Rt
 | [], K => K []
 | (_, x) :: r, K => jE (ev E sl x) fun v => (match Nat.beq v.sz sz with
   | true => ziv E sl sz r fun vs => K (v :: vs)
   | false => none)
def zt1 (h : Heap) (b : Nat) (v : SV) (p : List Step) (u : SV) (K : KC) : Rt :=
 match zaq p with
 | false => zb6 v u p fun v => K .any [] (.set b (.var true v))
 | true => yU h 60 u [] fun u ns => (match wo b ns with
   | false => zb6 v u p fun v => K .any ns (.set b (.var true v))
   | true => none)
def zuf (h : Heap) (b sz : Nat) (xs : List SV) (p : List Step) (u : SV) (K : KC) : Rt :=
 yU h 60 u [] fun u ns => (match wo b ns, p with
  | false, .idx i s :: p => (match Nat.beq s sz with
    | true => zef xs i fun x => zb6 x u p fun x => K .any ns (.set b (.row true sz (xs.set i x)))
    | false => none)
  | _, _ => none)
def opC (E : Env) (CR : FuncId -> List SV -> Rt) (sl : Slots) (h : Heap) (n : Nat) (o : Op) (K : KC) : Rt :=
 match o with
 | .move x | .assign x => frc (ev E sl x) fun v => K v [] .nil
 | .pick c a b => match ev E sl c with
   | .tru => frc (ev E sl a) fun v => K v [] .nil
   | .fls => frc (ev E sl b) fun v => K v [] .nil
   | _ => none
 | .alloc T => jE (lkT E.tt T).zero fun v => K (.ptr n []) [] (.new (.var true v))
 | .box _ x => jE (ev E sl x) fun v => K (.ptr n []) [] (.new (.var true v))
 | .build T ps => match (lkT E.tt T).d, (lkT E.tt T).zero with
   | .strct fs, .agg zs => (match zht E fs 0 zs with
     | true => zg6 E sl ps.toList zs fun vs => K (.agg vs) [] .nil
     | false => none)
   | .arr _ e, .arr m' sz zs => (match Nat.beq sz (lkT E.tt e).size, Nat.ble 1 sz with
     | true, true => zg6 E sl ps.toList zs fun vs => yF h 60 vs [] fun vs ns => K (.arr m' sz vs) ns .nil
     | _, _ => none)
   | _, _ => none
 | .buildSlice T len ps => match (lkT E.tt T).d with
   | .sl e => (match Nat.beq len ps.toList.length && zca 0 ps.toList, Nat.ble 1 (lkT E.tt e).size, Nat.ble (len * (lkT E.tt e).size) 16777216, (lkT E.tt e).zero with
     | _, _, _, .any => none
     | true, true, true, _ => ziv E sl (lkT E.tt e).size ps.toList fun vs => yF h 60 vs [] fun vs ns => K (.osl n (lkT E.tt e).size) ns (.new (.row true (lkT E.tt e).size vs))
     | false, true, true, z => jE z fun z => (match Nat.beq z.sz (lkT E.tt e).size with
       | true => zg6 E sl ps.toList (List.replicate len z) fun vs => yF h 60 vs [] fun vs ns => K (.osl n (lkT E.tt e).size) ns (.new (.row true (lkT E.tt e).size vs))
       | false => none)
     | _, _, _, _ => none)
   | _ => none
 | .nilCheck x => match ev E sl x with
   | .iptr t => K (.iptr t) [] .nil
   | .ptr b p => K (.ptr b p) [] .nil
   | .fn f c => K (.fn f c) [] .nil
   | _ => none
 | .fieldAddr T x f => match (lkT E.tt T).d with
   | .strct fs => (match fs[f]? with
     | some (T', off) => (match Nat.ble 1 (lkT E.tt T').size with
       | true => (match ev E sl x with
         | .ptr b p => K (.ptr b (p ++ [.fld f off])) [] .nil
         | .iptr t => xd t [.fld f off] fun u => K (.iptr u) [] .nil
         | _ => none)
       | false => none)
     | none => none)
   | _ => none
 | .field T x f => match (lkT E.tt T).d with
   | .strct fs => (match fs[f]? with
     | some (T', off) => xd (ev E sl x) [.fld f off] fun u => (match Nat.beq u.sz (lkT E.tt T').size with
       | true => (match (lkT E.tt T').d, u.isAgg with
         | .other, _ => none
         | .strct _, true | .arr .., true => K u [] .nil
         | .strct _, false | .arr .., false => none
         | _, false => K u [] .nil
         | _, true => none)
       | false => none)
     | none => none)
   | _ => none
 | .load T x => match ev E sl x with
   | .ptr b p => (match lkB h b with
     | some (.var _ v) => xd v p fun u => (match Nat.beq u.sz (lkT E.tt T).size with
       | true => (match (lkT E.tt T).d, u.isAgg with
         | .other, _ => none
         | .strct _, true | .arr .., true => K u [] .nil
         | .strct _, false | .arr .., false => none
         | _, false => K u [] .nil
         | _, true => none)
       | false => none)
     | some (.row _ sz xs) => (match p with
       | [] => none
       | _ :: _ => xd (.arr 0 sz xs) p fun u => (match Nat.beq u.sz (lkT E.tt T).size with
         | true => (match (lkT E.tt T).d, u.isAgg with
           | .other, _ => none
           | .strct _, true | .arr .., true => K u [] .nil
           | .strct _, false | .arr .., false => none
           | _, false => K u [] .nil
           | _, true => none)
         | false => none))
     | _ => none)
   | .iptr t => frc t fun u => (match Nat.beq u.sz (lkT E.tt T).size with
      | true => (match (lkT E.tt T).d, u.isAgg with
        | .other, _ => none
        | .strct _, true | .arr .., true => K u [] .nil
        | .strct _, false | .arr .., false => none
        | _, false => K u [] .nil
        | _, true => none)
      | false => none)
   | _ => none
 | .store T x y => match Nat.ble 1 (lkT E.tt T).size, ev E sl x with
   | true, .ptr b p => (match lkB h b with
     | some (.var true v) => jE (ev E sl y) fun u => (match Nat.beq u.sz (lkT E.tt T).size with
       | true => zt1 h b v p u K
       | false => none)
     | some (.row true sz xs) => jE (ev E sl y) fun u => (match Nat.beq u.sz (lkT E.tt T).size with
       | true => zuf h b sz xs p u K
       | false => none)
     | _ => none)
   | _, _ => none
 | .indexAddr T x i => match ev E sl i with
   | .int _ i => (match (lkT E.tt T).d with
     | .sl e => (match ev E sl x with
       | .sl sz xs => (match Nat.beq sz (lkT E.tt e).size, Nat.ble 1 sz with
         | true, true => zef xs i fun u => K (.iptr u) [] .nil
         | _, _ => none)
       | .osl b sz => (match lkB h b, Nat.beq sz (lkT E.tt e).size && Nat.ble 1 sz with
         | some (.row _ _ xs), true => yn (0 <= i /\ i < xs.length) (frN i.toNat fun j => K (.ptr b [.idx j sz]) [] .nil)
         | _, _ => none)
       | _ => none)
     | .arr m e => (match Nat.ble 1 (lkT E.tt e).size, ev E sl x with
       | true, .ptr b p => yn (0 <= i /\ i < m) (frN i.toNat fun j => K (.ptr b (p ++ [.idx j (lkT E.tt e).size])) [] .nil)
       | true, .iptr t => yn (0 <= i /\ i < m) (xd t [.idx i.toNat (lkT E.tt e).size] fun u => K (.iptr u) [] .nil)
       | _, _ => none)
     | _ => none)
   | _ => none
 | .index T x i => match (lkT E.tt T).d, ev E sl i, ev E sl x with
   | .str, .int _ i, .str s => zse s i fun c => frI c.toNat fun r => K (.int .u8 r) [] .nil
   | .arr m e, .int _ i, .arr m' sz xs => (match Nat.beq m m' && Nat.beq sz (lkT E.tt e).size with
     | true => zef xs i fun u => (match Nat.beq u.sz (lkT E.tt e).size with
       | true => (match (lkT E.tt e).d, u.isAgg with
         | .other, _ => none
         | .strct _, true | .arr .., true => K u [] .nil
         | .strct _, false | .arr .., false => none
         | _, false => K u [] .nil
         | _, true => none)
       | false => none)
     | false => none)
   | _, _, _ => none
 | .binOp op T x y _ => zx3 E op T (ev E sl x) (ev E sl y) fun v => K v [] .nil
 | .unOp .not _ x => match ev E sl x with
   | .bool b => frB (!b) fun b => K (.bool b) [] .nil
   | .tru => K .fls [] .nil
   | .fls => K .tru [] .nil
   | _ => none
 | .unOp .neg _ x => match ev E sl x with
   | .int k a => xz k (0 - a) fun r => K (.int k r) [] .nil
   | _ => none
 | .convert S T x => match (lkT E.tt S).d, (lkT E.tt T).d, ev E sl x with
   | .other, _, _ => none
   | _, .int k, .int _ a => xz k a fun r => K (.int k r) [] .nil
   | _, .str, .str s => K (.str s) [] .nil
   | _, .str, .int _ a => K (.str (Utf8.encode a).data.toList) [] .nil
   | _, _, _ => none
 | .extract x i => match ev E sl x with
   | .tup vs => (match vs[i]? with
     | some v => frc v fun v => K v [] .nil
     | none => none)
   | _ => none
 | .makeFunc (.func f) fst caps => match fst.toList with
   | [] => yV (caps.toList.map (ev E sl)) fun cs => (match wh cs with | true => K (.fn f cs) [] .nil | false => none)
   | _ => none
 | .slice T x lo hi mx => match mx with
   | some _ => none
   | none => (match ev E sl x with
     | .str s => (match (lkT E.tt T).d with
       | .str => zjj E sl lo hi s.length fun l h => zja ((s.take h.toNat).drop l.toNat) fun r => K (.str r) [] .nil
       | _ => none)
     | .sl sz xs => (match (lkT E.tt T).d with
       | .sl e => (match Nat.beq sz (lkT E.tt e).size && Nat.ble 1 sz with
         | true => zjj E sl lo hi xs.length fun l h => frV ((xs.take h.toNat).drop l.toNat) fun r => K (.sl sz r) [] .nil
         | false => none)
       | _ => none)
     | .osl b sz => (match lkB h b with
       | some (.row _ sz' xs) => (match (lkT E.tt T).d with
         | .sl e => (match Nat.beq sz (lkT E.tt e).size && Nat.ble 1 sz && Nat.beq sz sz' with
           | true => zjj E sl lo hi xs.length fun l h => frV ((xs.take h.toNat).drop l.toNat) fun r => K (.sl sz r) [b] .nil
           | false => none)
         | _ => none)
       | _ => none)
     | x => (match (lkT E.tt T).d with
       | .arr m e => yU h 60 x [] fun u ns => (match u with
         | .iptr (.arr m' sz xs) => (match Nat.beq m m' && Nat.beq sz (lkT E.tt e).size && Nat.ble 1 sz with
           | true => zjj E sl lo hi m fun l h => frV ((xs.take h.toNat).drop l.toNat) fun r => K (.sl sz r) ns .nil
           | false => none)
         | _ => none)
       | _ => none))
 | .makeSlice T l c => match (lkT E.tt T).d, ev E sl l, ev E sl c with
   | .sl e, .int _ a, .int _ b => jE (lkT E.tt e).zero fun z => (match Nat.beq z.sz 1, Nat.beq (lkT E.tt e).size 1 with
     | true, true => yn (0 <= a /\ a = b /\ b <= 70368744177664 /\ b * (lkT E.tt e).bytes <= 70368744177664) (frV (List.replicate a.toNat z) fun r => K (.osl n 1) [] (.new (.row true 1 r)))
     | _, _ => none)
   | _, _, _ => none
 | .makeMap _ none => K (.mpr n) [] (.new (.mp []))
 | .lookup T x i ok => match (lkT E.tt T).d, ev E sl x with
   | .mp kT e, .mpr b => (match lkB h b with
     | some (.mp es) => jE (ev E sl i) fun k => (match uU E.tt kT k with
       | true => ww E.tt kT k
         (jE (lkT E.tt e).zero fun z => (match ok with | true => K (.tup [z, .bool false]) [] .nil | false => K z [] .nil)) none
         (fun _ v => match ok with | true => K (.tup [v, .bool true]) [] .nil | false => K v [] .nil) es 0
       | false => none)
     | _ => none)
   | _, _ => none
 | .mapUpdate T x i y => match (lkT E.tt T).d, ev E sl x with
   | .mp kT _, .mpr b => (match lkB h b with
     | some (.mp es) => jE (ev E sl i) fun k => jE (ev E sl y) fun v => (match uU E.tt kT k, v.pur with
       | true, true => ww E.tt kT k (K .any [] (.set b (.mp (zad k v es)))) none (fun j u => uv v u (K .any [] (.set b (.mp es))) (K .any [] (.set b (.mp (zjf k v es j))))) es 0
       | _, _ => none)
     | _ => none)
   | _, _ => none
 | .call c => match c.callee with
   | .builtin .len => (match c.args.toList, c.argTypes.toList with
     | [x], [T] => (match (lkT E.tt T).d, ev E sl x with
       | .sl _, .sl _ xs => frI xs.length fun r => K (.int .i64 r) [] .nil
       | .str, .str xs => frI xs.length fun r => K (.int .i64 r) [] .nil
       | .sl _, .nils | .sl _, .mt => K (.int .i64 0) [] .nil
       | .sl _, .osl b _ => (match lkB h b with
         | some (.row _ _ xs) => frI xs.length fun r => K (.int .i64 r) [] .nil
         | _ => none)
       | _, _ => none)
     | _, _ => none)
   | .builtin .append => (match c.args.toList, c.argTypes.toList with
     | [x, y], [T, T'] => (match (lkT E.tt T).d with
       | .sl e => zy4 h (ev E sl y) fun o => (match o with
         | some (sz, ys) => (match Nat.beq sz (lkT E.tt e).size, Nat.ble 1 sz, Nat.beq T T' && xP E e, Nat.ble 1 (lkT E.tt e).bytes with
           | true, true, true, true => (match ev E sl x with
             | .osl b _ => (match lkB h b with
               | some (.row true sz' xs) => (match Nat.beq sz sz' with
                 | true => yn ((xs.length + ys.length) * (lkT E.tt e).bytes <= 70368744177664) (frV (xs ++ ys) fun r => K (.osl b sz) [] (.app b (.row true sz r)))
                 | false => none)
               | _ => none)
             | .nils | .mt => yn (ys.length * (lkT E.tt e).bytes <= 70368744177664) (K (.osl n sz) [] (.new (.row true sz ys)))
             | _ => none)
           | _, _, _, _ => none)
         | none => (match Nat.beq T T' && Nat.ble 1 (lkT E.tt e).size, ev E sl x with
           | true, .osl b s => (match lkB h b with
             | some (.row ..) => K (.osl b s) [] .nil
             | _ => none)
           | true, .sl s xs => K (.sl s xs) [] .nil
           | true, .nils => K .nils [] .nil
           | true, .mt => K .mt [] .nil
           | _, _ => none))
       | _ => none)
     | _, _ => none)
   | .builtin .min => (match c.args.toList with
     | [x, y] => (match ev E sl x, ev E sl y with
       | .int k a, .int k' b => (match kq k k' with | true => frI (min a b) fun r => K (.int k r) [] .nil | false => none)
       | _, _ => none)
     | _ => none)
   | .builtin .max => (match c.args.toList with
     | [x, y] => (match ev E sl x, ev E sl y with
       | .int k a, .int k' b => (match kq k k' with | true => frI (max a b) fun r => K (.int k r) [] .nil | false => none)
       | _, _ => none)
     | _ => none)
   | .value f => (match ev E sl f with
     | .fn f caps => (match wo f E.idf with
       | true => (match c.args.toList, caps with
         | [x], [] => jE (ev E sl x) fun v => K v [] .nil
         | _, _ => none)
       | false => yV (c.args.toList.map (ev E sl)) fun as => (match wh as with
         | true => yF h 60 as [] fun as ns => yF h 60 caps ns fun caps ns => (match CR f (as ++ caps) with
           | some r => frc r fun r => (match ns with
             | [] => K r [] .nil
             | ns => match r.scalar with
               | true => K r [] .nil
               | false => K r ns .nil)
           | none => none)
         | false => none))
     | _ => none)
   | _ => none
 | _ => none
theorem xM {r : SV} : ∀ {p : List Step} {v : SV} {K : SV -> Rt} {K' : SV -> Prop}, xd v p K = some r -> (∀ s, K s = some r -> K' s) -> nav v p K'
 | [], v, K, K', hk, h => by
   simp only [xd, nav, zB] at hk ⊢
   exact h _ hk
 | .fld i off :: p, v, K, K', hk, h => by
   simp only [xd, nav] at hk ⊢
   split at hk
   case h_2 => cases hk
   split at hk
   case h_2 => cases hk
   rename_i e1
   split at hk
   case h_2 => cases hk
   rename_i e2
   simp only [e1, e2]
   exact xM hk h
 | .idx i sz :: p, v, K, K', hk, h => by
   simp only [xd, nav] at hk ⊢
   split at hk
   case h_2 => cases hk
   split at hk
   case h_2 => cases hk
   rename_i e1
   simp only [e1]
   exact zfq hk fun s hs => xM hs h
theorem zfh {r : SV} {x : SV} : ∀ {p : List Step} {v : SV} {K : SV -> Rt} {K' : SV -> Prop}, zb6 v x p K = some r -> (∀ s, K s = some r -> K' s) -> upd v x p K'
 | [], v, K, K', hk, h => by
   simp only [zb6, upd, zB] at hk ⊢
   split at hk
   case h_2 => cases hk
   rename_i e1
   simp only [e1]
   exact h _ hk
 | .fld i off :: p, v, K, K', hk, h => by
   simp only [zb6, upd] at hk ⊢
   split at hk
   case h_2 => cases hk
   split at hk
   case h_2 => cases hk
   rename_i e1
   split at hk
   case h_2 => cases hk
   rename_i e2
   simp only [e1, e2]
   refine zfh hk fun s hs => ?_
   rw [qv] at hs ⊢
   exact h _ hs
 | .idx i sz :: p, v, K, K', hk, h => by
   simp only [zb6, upd] at hk ⊢
   split at hk
   case h_2 => cases hk
   split at hk
   case h_2 => cases hk
   rename_i e1
   simp only [e1]
   exact zfq hk fun s hs => zfh hs fun s' hs' => h _ hs'
mutual
theorem zc7 {r : SV} {h : Heap} : ∀ {d : Nat} {v : SV} {ns : List Nat} {K : SV -> List Nat -> Rt} {K' : SV -> List Nat -> Prop}, yU h d v ns K = some r -> (∀ s ns, K s ns = some r -> K' s ns) -> frz h d v ns K'
 | 0, _, _, _, _, hk, _ => by simp only [yU] at hk; cases hk
 | d + 1, v, ns, K, K', hk, g => by
   cases v with
   | ptr b p =>
     simp only [yU, frz] at hk ⊢
     split at hk
     case h_2 => cases hk
     rename_i e1
     simp only [e1]
     exact xM hk fun s hs => zc7 hs fun s' ns' h' => g _ _ h'
   | osl b sz =>
     simp only [yU, frz] at hk ⊢
     split at hk
     case h_2 => cases hk
     rename_i e1
     simp only [e1]
     split at hk
     case h_2 => cases hk
     rename_i e2
     simp only [e2]
     exact g _ _ hk
   | agg fs => simp only [yU, frz] at hk ⊢; exact ja hk fun s' ns' h' => g _ _ h'
   | tup fs => simp only [yU, frz] at hk ⊢; exact ja hk fun s' ns' h' => g _ _ h'
   | fn f fs => simp only [yU, frz] at hk ⊢; exact ja hk fun s' ns' h' => g _ _ h'
   | ifc f fs => simp only [yU, frz] at hk ⊢; exact ja hk fun s' ns' h' => g _ _ h'
   | yld b => simp only [yU] at hk; cases hk
   | mpr b => simp only [yU] at hk; cases hk
   | vsl b p n => simp only [yU] at hk; cases hk
   | _ => simp only [yU, frz, zB] at hk ⊢; exact g _ _ hk
theorem ja {r : SV} {h : Heap} : ∀ {d : Nat} {v : List SV} {ns : List Nat} {K : List SV -> List Nat -> Rt} {K' : List SV -> List Nat -> Prop}, yF h d v ns K = some r -> (∀ s ns, K s ns = some r -> K' s ns) -> qW h d v ns K'
 | 0, _, _, _, _, hk, _ => by simp only [yF] at hk; cases hk
 | d + 1, [], ns, K, K', hk, g => by simp only [yF, qW] at hk ⊢; exact g _ _ hk
 | d + 1, v :: r, ns, K, K', hk, g => by
   simp only [yF, qW] at hk ⊢
   exact zc7 hk fun s ns h1 => ja h1 fun s' ns' h' => g _ _ h'
end
theorem jh {r : SV} {v : SV} {K : SV -> Rt} {K' : SV -> Prop} (hk : jE v K = some r) (h : ∀ s, K s = some r -> K' s) : yc v K' := by
 cases v <;> simp only [jE, yc, zB] at hk ⊢ <;> first | cases hk | exact h _ hk
section
variable {E : Env} {sl : Slots} {h : Heap} {n : Nat}
theorem zEr {r : SV} {op : BinOp} {T : TypeId} {x y : SV} {K : SV -> Rt} {K' : SV -> Prop} (hk : zx3 E op T x y K = some r) (h : ∀ s, K s = some r -> K' s) : xI E op T x y K' := by
 unfold zx3 at hk
 unfold xI
 simp only [zib, zwm, znw] at hk
 split at hk <;> simp only at hk ⊢ <;> (try cases hk)
 all_goals first
  | exact h _ hk
  | exact wY hk fun hk => zch hk fun r hr => h _ hr
  | exact wY hk fun hk => h _ hk
  | (split at hk
     case h_2 => cases hk
     rename_i e; simp only [e]
     first | exact h _ hk | exact zch hk fun r hr => h _ hr | exact wY hk fun hk => zch hk fun r hr => h _ hr | exact wY hk fun hk => h _ hk)
theorem zme {r : SV} {lo hi : Option Operand} {m : Nat} {K : Int -> Int -> Rt} {K' : Int -> Int -> Prop} (hk : zjj E sl lo hi m K = some r) (h : ∀ a b, K a b = some r -> K' a b) : yM E sl lo hi m K' := by
 unfold zjj at hk
 unfold yM
 split at hk
 . split at hk
   . exact h _ _ hk
   . split at hk
     . rename_i e; simp only [e]; exact wY hk fun hk => h _ _ hk
     . cases hk
 . split at hk
   . rename_i e1
     split at hk
     . simp only [e1]; exact wY hk fun hk => h _ _ hk
     . split at hk
       . rename_i e2; simp only [e1, e2]; exact wY hk fun hk => h _ _ hk
       . cases hk
   . cases hk
theorem zEk {r : SV} {v : SV} {K : Option (Nat × List SV) -> Rt} {K' : Option (Nat × List SV) -> Prop} (hk : zy4 h v K = some r) (g : ∀ s, K s = some r -> K' s) : xw h v K' := by
 cases v <;> simp only [zy4, xw] at hk ⊢ <;> first
  | (cases hk; done)
  | exact g _ hk
  | (split at hk
     case h_2 => cases hk
     rename_i e; simp only [e]; exact g _ hk)
theorem zmm {r : SV} : ∀ {l : List (Nat × Operand)} {vs : List SV} {K : List SV -> Rt} {K' : List SV -> Prop}, zg6 E sl l vs K = some r -> (∀ s, K s = some r -> K' s) -> wl E sl l vs K'
 | [], vs, K, K', hk, g => by simp only [zg6, wl, qv] at hk ⊢; exact g _ hk
 | (i, x) :: r, vs, K, K', hk, g => by
   simp only [zg6, wl] at hk ⊢
   split at hk
   case h_2 => cases hk
   rename_i e1
   simp only [e1]
   refine jh hk fun v hv => ?_
   split at hv
   case h_2 => cases hv
   rename_i e2
   simp only [e2]
   exact zmm hv g
theorem zws {r : SV} {sz : Nat} : ∀ {l : List (Nat × Operand)} {K : List SV -> Rt} {K' : List SV -> Prop}, ziv E sl sz l K = some r -> (∀ s, K s = some r -> K' s) -> wu E sl sz l K'
 | [], K, K', hk, g => by simp only [ziv, wu] at hk ⊢; exact g _ hk
 | (i, x) :: r, K, K', hk, g => by
   simp only [ziv, wu] at hk ⊢
   refine jh hk fun v hv => ?_
   split at hv
   case h_2 => cases hv
   rename_i e2
   simp only [e2]
   exact zws hv fun s hs => g _ hs
theorem zAo {r : SV} {v u : SV} {A B : Rt} {A' B' : Prop} (h : uv v u A B = some r) (g1 : A = some r -> A') (g2 : B = some r -> B') : uv v u A' B' := by
 unfold uv at h ⊢
 split at h
 . split at h
   . exact g1 h
   . first | exact g2 h | (split <;> first | exact g2 h | exact g1 h)
 . first | exact g2 h | (split <;> first | exact g2 h | exact g1 h)
theorem zj7 {r : SV} {tt : List (Nat × TI)} {kT : TypeId} {k : SV} {Kno : Rt} {Kyes : Nat -> SV -> Rt} {Kno' : Prop} {Kyes' : Nat -> SV -> Prop} : ∀ {es : List (SV × SV)} {i : Nat}, ww tt kT k Kno none Kyes es i = some r -> (Kno = some r -> Kno') -> (∀ j v, Kyes j v = some r -> Kyes' j v) -> ww tt kT k Kno' False Kyes' es i
 | [], i, h, g1, g2 => g1 h
 | p :: l, i, h, g1, g2 => by
   simp only [ww] at h
   split at h
   . rename_i e; simp only [ww, e]; exact g2 _ _ h
   . rename_i e; simp only [ww, e]; exact zj7 h g1 g2
   . cases h
theorem zCj {r : SV} {b : Nat} {v : SV} {p : List Step} {u : SV} {K : KC} {K' : KE} (hk : zt1 h b v p u K = some r) (g : ∀ a b c, K a b c = some r -> K' a b c) : yv h b v p u K' := by
 unfold zt1 at hk
 unfold yv
 split at hk
 . rename_i e; simp only [e]; exact zfh hk fun s hs => g _ _ _ hs
 . rename_i e; simp only [e]
   refine zc7 hk fun s ns hs => ?_
   split at hs
   case h_2 => cases hs
   rename_i e1; simp only [e1]
   exact zfh hs fun s hs => g _ _ _ hs
theorem zDy {r : SV} {b sz : Nat} {xs : List SV} {p : List Step} {u : SV} {K : KC} {K' : KE} (hk : zuf h b sz xs p u K = some r) (g : ∀ a b c, K a b c = some r -> K' a b c) : yH h b sz xs p u K' := by
 unfold zuf at hk
 unfold yH
 refine zc7 hk fun s ns hs => ?_
 split at hs
 case h_2 => cases hs
 rename_i e1
 split at hs
 case h_2 => cases hs
 rename_i e2
 simp only [e1, e2]
 exact zfq hs fun s hs => zfh hs fun s hs => g _ _ _ hs
theorem zi2 {r : SV} {d : TD} {b : Bool} {K : Rt} {p : Prop} (hk : (match d, b with
 | .other, _ => none
 | .strct _, true | .arr .., true => K
 | .strct _, false | .arr .., false => none
 | _, false => K
 | _, true => none) = some r) (g : K = some r -> p) : shp d b p := by
 cases d <;> cases b <;> first | exact g hk | exact absurd hk (by simp)
end
section
variable {E : Env} {sl : Slots} {h : Heap} {n : Nat}
theorem zs3 {r : SV} {CR : FuncId -> List SV -> Rt} (hCR : ∀ f args r, CR f args = some r -> Ret E f args r) {o : Op} {K : KC} {K' : KE} (hk : opC E CR sl h n o K = some r) (g : ∀ a b c, K a b c = some r -> K' a b c) : opE E sl h n o K' := by
 cases o with
 | move x => simp only [opC, opE, zB] at hk ⊢; exact g _ _ _ hk
 | assign x => simp only [opC, opE, zB] at hk ⊢; exact g _ _ _ hk
 | pick c a b =>
   simp only [opC, opE, zB] at hk ⊢
   split at hk
   . rename_i e; simp only [e]; exact g _ _ _ hk
   . rename_i e; simp only [e]; exact g _ _ _ hk
   . cases hk
 | alloc T => simp only [opC, opE] at hk ⊢; exact jh hk fun s hs => g _ _ _ hs
 | box T x => simp only [opC, opE] at hk ⊢; exact jh hk fun s hs => g _ _ _ hs
 | build T ps =>
   simp only [opC, opE] at hk ⊢
   split at hk
   . rename_i e1 e2
     split at hk
     case h_2 => cases hk
     rename_i e3
     simp only [e1, e2, e3]
     exact zmm hk fun s hs => g _ _ _ hs
   . rename_i e1 e2
     split at hk
     case h_2 => cases hk
     rename_i e3 e4
     simp only [e1, e2, e3, e4]
     exact zmm hk fun s hs => ja hs fun s ns hs => g _ _ _ hs
   . cases hk
 | buildSlice T len ps =>
   simp only [opC, opE] at hk ⊢
   split at hk
   case h_2 => cases hk
   rename_i e0
   split at hk
   . cases hk
   . rename_i e1 e2 e3 e4
     simp only [e0, e1, e2, e3]
     exact zws hk fun s hs => ja hs fun s ns hs => g _ _ _ hs
   . rename_i e1 e2 e3 e4
     simp only [e0, e1, e2, e3]
     refine jh hk fun v hv => ?_
     split at hv
     case h_2 => cases hv
     rename_i e5
     simp only [e5]
     exact zmm hv fun s hs => ja hs fun s ns hs => g _ _ _ hs
   . cases hk
 | nilCheck x =>
   simp only [opC, opE] at hk ⊢
   split at hk <;> first | (cases hk; done) | (rename_i e; simp only [e]; exact g _ _ _ hk)
 | fieldAddr T x f =>
   simp only [opC, opE] at hk ⊢
   split at hk
   case h_2 => cases hk
   rename_i e1
   split at hk
   case h_2 => cases hk
   rename_i e2
   split at hk
   case h_2 => cases hk
   rename_i e3
   split at hk
   . rename_i e4; simp only [e1, e2, e3, e4]; exact g _ _ _ hk
   . rename_i e4; simp only [e1, e2, e3, e4]; exact xM hk fun s hs => g _ _ _ hs
   . cases hk
 | field T x f =>
   simp only [opC, opE] at hk ⊢
   split at hk
   case h_2 => cases hk
   rename_i e1
   split at hk
   case h_2 => cases hk
   rename_i e2
   simp only [e1, e2]
   refine xM hk fun s hs => ?_
   split at hs
   case h_2 => cases hs
   rename_i e3
   simp only [e3]
   exact zi2 hs fun hs => g _ _ _ hs
 | load T x =>
   simp only [opC, opE] at hk ⊢
   split at hk
   . rename_i e1
     split at hk
     . rename_i e2
       simp only [e1, e2]
       refine xM hk fun s hs => ?_
       split at hs
       case h_2 => cases hs
       rename_i e3
       simp only [e3]
       exact zi2 hs fun hs => g _ _ _ hs
     . rename_i e2
       split at hk
       . cases hk
       . simp only [e1, e2]
         refine xM hk fun s hs => ?_
         split at hs
         case h_2 => cases hs
         rename_i e3
         simp only [e3]
         exact zi2 hs fun hs => g _ _ _ hs
     . cases hk
   . rename_i e1
     simp only [e1]
     rw [zB] at hk ⊢
     split at hk
     case h_2 => cases hk
     rename_i e3
     simp only [e3]
     exact zi2 hk fun hs => g _ _ _ hs
   . cases hk
 | store T x y =>
   simp only [opC, opE] at hk ⊢
   split at hk
   case h_2 => cases hk
   rename_i e1 e2
   split at hk
   . rename_i e3
     simp only [e1, e2, e3]
     refine jh hk fun s hs => ?_
     split at hs
     case h_2 => cases hs
     rename_i e4
     simp only [e4]
     exact zCj hs g
   . rename_i e3
     simp only [e1, e2, e3]
     refine jh hk fun s hs => ?_
     split at hs
     case h_2 => cases hs
     rename_i e4
     simp only [e4]
     exact zDy hs g
   . cases hk
 | indexAddr T x i =>
   simp only [opC, opE, zey] at hk ⊢
   split at hk
   case h_2 => cases hk
   rename_i e1
   split at hk
   . rename_i e2
     split at hk
     . rename_i e3
       split at hk
       case h_2 => cases hk
       rename_i e4 e5
       simp only [e1, e2, e3, e4, e5]
       exact zfq hk fun s hs => g _ _ _ hs
     . rename_i e3
       split at hk
       case h_2 => cases hk
       rename_i e4 e5
       simp only [e1, e2, e3, e4, e5]
       exact wY hk fun hs => g _ _ _ hs
     . cases hk
   . rename_i e2
     split at hk
     . rename_i e3 e4
       simp only [e1, e2, e3, e4]
       exact wY hk fun hs => g _ _ _ hs
     . rename_i e3 e4
       simp only [e1, e2, e3, e4]
       exact wY hk fun hs => xM hs fun s hs => g _ _ _ hs
     . cases hk
   . cases hk
 | index T x i =>
   simp only [opC, opE, zib] at hk ⊢
   split at hk
   . rename_i e1 e2 e3
     simp only [e1, e2, e3]
     exact zCr hk fun s hs => g _ _ _ hs
   . rename_i e1 e2 e3
     split at hk
     case h_2 => cases hk
     rename_i e4
     simp only [e1, e2, e3, e4]
     refine zfq hk fun s hs => ?_
     split at hs
     case h_2 => cases hs
     rename_i e5
     simp only [e5]
     exact zi2 hs fun hs => g _ _ _ hs
   . cases hk
 | binOp op T x y T' => simp only [opC, opE] at hk ⊢; exact zEr hk fun s hs => g _ _ _ hs
 | unOp op T x =>
   cases op <;> simp only [opC, opE, zwm] at hk ⊢ <;> (try cases hk)
   all_goals (split at hk <;> first | (cases hk; done) | (rename_i e; simp only [e]; exact g _ _ _ hk) | (rename_i e; simp only [e]; exact zch hk fun r hr => g _ _ _ hr))
 | convert S T x =>
   simp only [opC, opE] at hk ⊢
   split at hk
   . cases hk
   . rename_i e1 e2 e3
     simp only [e1, e2]
     generalize (lkT E.tt S).d = dS at e3 ⊢
     cases dS <;> first | exact absurd rfl e3 | exact zch hk fun r hr => g _ _ _ hr
   . rename_i e1 e2 e3
     simp only [e1, e2]
     generalize (lkT E.tt S).d = dS at e3 ⊢
     cases dS <;> first | exact absurd rfl e3 | exact g _ _ _ hk
   . rename_i e1 e2 e3
     simp only [e1, e2]
     generalize (lkT E.tt S).d = dS at e3 ⊢
     cases dS <;> first | exact absurd rfl e3 | exact g _ _ _ hk
   . cases hk
 | extract x i =>
   simp only [opC, opE] at hk ⊢
   split at hk
   case h_2 => cases hk
   rename_i e1
   split at hk
   case h_2 => cases hk
   rename_i e2
   simp only [e1, e2]
   rw [zB] at hk ⊢
   exact g _ _ _ hk
 | makeFunc f fst caps =>
   cases f <;> simp only [opC, opE] at hk ⊢ <;> (try cases hk)
   split at hk
   case h_2 => cases hk
   rename_i e1
   simp only [e1]
   rw [qv] at hk ⊢
   split at hk
   case h_2 => cases hk
   rename_i e2
   simp only [e2]
   exact g _ _ _ hk
 | slice T x lo hi mx =>
   simp only [opC, opE, znw, znv] at hk ⊢
   split at hk
   . cases hk
   split at hk
   . rename_i e1
     split at hk
     case h_2 => cases hk
     rename_i e2
     simp only [e1, e2]
     exact zme hk fun a b hs => g _ _ _ hs
   . rename_i e1
     split at hk
     case h_2 => cases hk
     rename_i e2
     split at hk
     case h_2 => cases hk
     rename_i e3
     simp only [e1, e2, e3]
     exact zme hk fun a b hs => g _ _ _ hs
   . rename_i e1
     split at hk
     case h_2 => cases hk
     rename_i e2
     split at hk
     case h_2 => cases hk
     rename_i e3
     split at hk
     case h_2 => cases hk
     rename_i e4
     simp only [e1, e2, e3, e4]
     exact zme hk fun a b hs => g _ _ _ hs
   . rename_i e1 e2 e3
     split at hk
     case h_2 => cases hk
     rename_i e4
     simp only [e4]
     refine zc7 hk fun u ns hs => ?_
     split at hs
     case h_2 => cases hs
     split at hs
     case h_2 => cases hs
     rename_i e5
     simp only [e5]
     exact zme hs fun a b hs => g _ _ _ hs
 | makeMap T rs =>
   cases rs with
   | some x => simp only [opC] at hk; cases hk
   | none => simp only [opC, opE] at hk ⊢; exact g _ _ _ hk
 | lookup T x y b =>
   simp only [opC, opE] at hk ⊢
   split at hk
   case h_2 => cases hk
   rename_i e1 e2
   simp only [e1, e2]
   split at hk
   case h_2 => cases hk
   rename_i e3
   simp only [e3]
   refine jh hk fun k hs => ?_
   split at hs
   case h_2 => cases hs
   rename_i e4
   simp only [e4]
   refine zj7 hs (fun hs => jh hs fun z hs => ?_) (fun j v hs => ?_)
   . cases b <;> exact g _ _ _ hs
   . cases b <;> exact g _ _ _ hs
 | mapUpdate T x y z =>
   simp only [opC, opE] at hk ⊢
   split at hk
   case h_2 => cases hk
   rename_i e1 e2
   simp only [e1, e2]
   split at hk
   case h_2 => cases hk
   rename_i e3
   simp only [e3]
   refine jh hk fun k hs => jh hs fun v hs => ?_
   split at hs
   case h_2 => cases hs
   rename_i e4 e5
   simp only [e4, e5]
   exact zj7 hs (fun hs => g _ _ _ hs) (fun j v hs => zAo hs (fun hs => g _ _ _ hs) (fun hs => g _ _ _ hs))
 | makeSlice T l c =>
   simp only [opC, opE, znv] at hk ⊢
   split at hk
   case h_2 => cases hk
   rename_i e1 e2 e3
   simp only [e1, e2, e3]
   refine jh hk fun s hs => ?_
   split at hs
   case h_2 => cases hs
   rename_i e4 e5
   simp only [e4, e5]
   exact wY hs fun hs => g _ _ _ hs
 | call c =>
   simp only [opC, opE, zib, znv] at hk ⊢
   split at hk
   . rename_i e0
     simp only [e0]
     split at hk
     case h_2 => cases hk
     rename_i e1 e2
     simp only [e1, e2]
     split at hk <;> (try (cases hk; done))
     . rename_i e3 e4; simp only [e3, e4]; exact g _ _ _ hk
     . rename_i e3 e4; simp only [e3, e4]; exact g _ _ _ hk
     . rename_i e3 e4; simp only [e3, e4]; exact g _ _ _ hk
     . rename_i e3 e4; simp only [e3, e4]; exact g _ _ _ hk
     . rename_i e3 e4
       simp only [e3, e4]
       split at hk
       case h_2 => cases hk
       rename_i e5
       simp only [e5]; exact g _ _ _ hk
   . rename_i e0
     simp only [e0]
     split at hk
     case h_2 => cases hk
     rename_i e1 e2
     simp only [e1, e2]
     split at hk
     case h_2 => cases hk
     rename_i e3
     simp only [e3]
     refine zEk hk fun o hs => ?_
     split at hs
     . split at hs
       case h_2 => cases hs
       rename_i q1 q2 q3 q4
       simp only [q1, q2, q3, q4]
       split at hs
       . rename_i q5
         simp only [q5]
         split at hs
         case h_2 => cases hs
         rename_i q6
         simp only [q6]
         split at hs
         case h_2 => cases hs
         rename_i q7
         simp only [q7]
         exact wY hs fun hs => g _ _ _ hs
       . rename_i q5; simp only [q5]; exact wY hs fun hs => g _ _ _ hs
       . rename_i q5; simp only [q5]; exact wY hs fun hs => g _ _ _ hs
       . cases hs
     . split at hs
       . rename_i q1 q2
         simp only [q1, q2]
         split at hs
         case h_2 => cases hs
         rename_i q3
         simp only [q3]
         exact g _ _ _ hs
       . rename_i q1 q2; simp only [q1, q2]; exact g _ _ _ hs
       . rename_i q1 q2; simp only [q1, q2]; exact g _ _ _ hs
       . rename_i q1 q2; simp only [q1, q2]; exact g _ _ _ hs
       . cases hs
   . rename_i e0
     simp only [e0]
     split at hk
     case h_2 => cases hk
     rename_i e1
     simp only [e1]
     split at hk
     case h_2 => cases hk
     rename_i e2 e3
     simp only [e2, e3]
     split at hk
     case h_2 => cases hk
     rename_i e4
     simp only [e4]
     exact g _ _ _ hk
   . rename_i e0
     simp only [e0]
     split at hk
     case h_2 => cases hk
     rename_i e1
     simp only [e1]
     split at hk
     case h_2 => cases hk
     rename_i e2 e3
     simp only [e2, e3]
     split at hk
     case h_2 => cases hk
     rename_i e4
     simp only [e4]
     exact g _ _ _ hk
   . rename_i e0
     simp only [e0]
     split at hk
     case h_2 => cases hk
     rename_i e1
     simp only [e1]
     split at hk
     . rename_i e2
       simp only [e2]
       split at hk
       case h_2 => cases hk
       rename_i e3
       simp only [e3]
       exact jh hk fun s hs => g _ _ _ hs
     . rename_i e2
       simp only [e2]
       rw [qv] at hk ⊢
       split at hk
       case h_2 => cases hk
       rename_i e3
       simp only [e3]
       refine ja hk fun as ns hs => ja hs fun caps ns hs => ?_
       split at hs
       case h_2 => cases hs
       rename_i r' e4
       refine call (hCR _ _ _ e4) ?_
       rw [zB] at hs ⊢
       split at hs
       . exact g _ _ _ hs
       . split at hs
         . rename_i e5; simp only [e5]; exact g _ _ _ hs
         . rename_i e5; simp only [e5]; exact g _ _ _ hs
   . cases hk
 | _ => simp only [opC] at hk; cases hk
end
inductive Rq where
 | ret (f : FuncId) (as : List SV)
 | sem (f : FuncId) (as : List SV) (sl : Slots) (h : Heap) (n : Nat) (K : SV -> Slots -> Heap -> Nat -> Rt)
 | yld (b : Nat) (as : List SV) (sl : Slots) (h : Heap) (n : Nat) (K : SV -> Slots -> Heap -> Nat -> Rt)
abbrev KXC := Exit -> Slots -> Heap -> Nat -> Rt
def zt6 (v : SV) (ns : List Nat) (a : EA) (d : Option Nat) (sl : Slots) (h : Heap) (n : Nat) (K : Slots -> Heap -> Rt) : Rt :=
 xT ns h fun h =>
 match a with
 | .nil => (match d with | some d => K ((d, v) :: sl) h | none => K sl h)
 | .new k => (match d with | some d => K ((d, v) :: sl) ((n, k) :: h) | none => K sl ((n, k) :: h))
 | .set b k => stK h b k fun h => (match d with | some d => K ((d, v) :: sl) h | none => K sl h)
 | .app b k => jJ b sl fun sl => yx b h fun h => stK h b k fun h => (match d with | some d => K ((d, v) :: sl) h | none => K sl h)
theorem zAg {r : SV} {v : SV} {ns : List Nat} {a : EA} {d : Option Nat} {sl : Slots} {h : Heap} {n : Nat} {K : Slots -> Heap -> Rt} {K' : Slots -> Heap -> Prop} (hk : zt6 v ns a d sl h n K = some r) (g : ∀ s h, K s h = some r -> K' s h) : app v ns a d sl h n K' := by
 unfold zt6 at hk
 unfold app
 rw [zfl] at hk ⊢
 grind [xk, js, qS]
def zng (all : List Oper) (g : Option (Nat × Bool)) (sl : Slots) (Kyes Kno : Slots -> Rt) : Rt :=
 match g with
 | none => Kyes sl
 | some (j, want) => match all[j]? with
   | some o => (match o.dst with
     | some d => (match lk sl d with
       | .tru => (match want with | true => Kyes sl | false => Kno sl)
       | .fls => (match want with | true => Kno sl | false => Kyes sl)
       | .bool b => (match b with
         | true => (match want with | true => Kyes ((d, .tru) :: sl) | false => Kno ((d, .tru) :: sl))
         | false => (match want with | true => Kno ((d, .fls) :: sl) | false => Kyes ((d, .fls) :: sl)))
       | .tup [] => Kno sl
       | _ => none)
     | none => none)
   | none => none
theorem zs0 {r : SV} {all : List Oper} {g : Option (Nat × Bool)} {sl : Slots} {Ky Kn : Slots -> Rt} {Ky' Kn' : Slots -> Prop} (hk : zng all g sl Ky Kn = some r) (g1 : ∀ s, Ky s = some r -> Ky' s) (g2 : ∀ s, Kn s = some r -> Kn' s) : grd all g sl Ky' Kn' := by
 unfold zng at hk
 unfold grd
 split at hk
 . exact g1 _ hk
 . grind
def zbo (E : Env) (CR : FuncId -> List SV -> Rt) (all : List Oper) : List Oper -> Slots -> Heap -> Nat -> (Slots -> Heap -> Nat -> Rt) -> Rt
 | [], sl, h, n, K => K sl h n
 | o :: r, sl, h, n, K => zng all o.guard sl (fun sl => opC E CR sl h n o.op fun v ns a => zt6 v ns a o.dst sl h n fun sl h => zbo E CR all r sl h (n + 1) K)
   (fun sl => match o.dst with
     | some d => zbo E CR all r ((d, und) :: sl) h (n + 1) K
     | none => zbo E CR all r sl h (n + 1) K)
theorem zij {r : SV} {E : Env} {CR : FuncId -> List SV -> Rt} (hCR : ∀ f args r, CR f args = some r -> Ret E f args r) {all : List Oper} : ∀ {l : List Oper} {sl : Slots} {h : Heap} {n : Nat} {K : Slots -> Heap -> Nat -> Rt} {K' : Slots -> Heap -> Nat -> Prop}, zbo E CR all l sl h n K = some r -> (∀ s h n, K s h n = some r -> K' s h n) -> jD E all l sl h n K'
 | [], sl, h, n, K, K', hk, g => by simp only [zbo, jD] at hk ⊢; exact g _ _ _ hk
 | o :: l, sl, h, n, K, K', hk, g => by
   simp only [zbo, jD, wI, opX] at hk ⊢
   refine zs0 hk (fun s hs => zs3 hCR hs fun a b c hs => zAg hs fun s h hs => zij hCR hs g) (fun s hs => ?_)
   split at hs <;> (rename_i e; simp only [e]; exact zij hCR hs g)
def ztv (E : Env) (d : Option Nat) (o : Op) (sl : Slots) (Kno : Rt) (Kyes : FuncId -> List SV -> Rt) (Kyld : Nat -> List SV -> Rt) : Rt :=
 match o with
 | .call c => match c.callee with
   | .value f => match ev E sl f with
     | .fn g caps => match zml E.lend g d with
       | true => yV (c.args.toList.map (ev E sl)) fun as => match wh as with
         | true => Kyes g (as ++ caps)
         | false => none
       | false => Kno
     | .yld b => yV (c.args.toList.map (ev E sl)) fun as => match wh as with
        | true => Kyld b as
        | false => none
     | _ => Kno
   | _ => Kno
 | _ => Kno
theorem zCf {r : SV} {E : Env} {d : Option Nat} {o : Op} {sl : Slots} {Kno : Rt} {Kyes : FuncId -> List SV -> Rt} {Kyld : Nat -> List SV -> Rt} {Kno' : Prop} {Kyes' : FuncId -> List SV -> Prop} {Kyld' : Nat -> List SV -> Prop}
 (hk : ztv E d o sl Kno Kyes Kyld = some r) (g1 : Kno = some r -> Kno') (g2 : ∀ f as, Kyes f as = some r -> Kyes' f as) (g3 : ∀ b as, Kyld b as = some r -> Kyld' b as) : zh4 E d o sl Kno' Kyes' Kyld' := by
 unfold ztv at hk
 unfold zh4
 split at hk
 . grind [qv]
 . grind
def znj (E : Env) (run : Rq -> Rt) (o : Oper) (sl : Slots) (h : Heap) (n : Nat) (K : Slots -> Heap -> Nat -> Rt) : Rt :=
 match zzv E o with
 | some sz => (match o.dst with
   | some d => K ((d, .osl n sz) :: sl) ((n, .row true sz []) :: h) (n + 1)
   | none => K sl h (n + 1))
 | none => ztv E o.dst o.op sl (opC E (fun f as => run (.ret f as)) sl h n o.op fun v ns a => zt6 v ns a o.dst sl h n fun sl h => K sl h (n + 1)) (fun f as =>
   run (.sem f as sl h n fun r sl h n => match o.dst with
    | some d => K ((d, r) :: sl) h n
    | none => K sl h n)) fun b as =>
   run (.yld b as sl h n fun r sl h n => match o.dst with
    | some d => K ((d, r) :: sl) h n
    | none => K sl h n)
def zxu (E : Env) (T : TypeId) (hi : Option Operand) (sl : Slots) (h : Heap) (b : Nat) (p : List Step) (K : SV -> Rt) : Rt :=
 match lkB h b with
 | some (.var _ v) => xd v p fun u => match u with
   | .arr N sz _ => match (lkT E.tt T).d with
     | .arr m e => (match Nat.beq m N && Nat.beq sz 1 && Nat.beq (lkT E.tt e).size 1 with
       | true => (match hi with
         | none => K (.vsl b p N)
         | some y => match ev E sl y with
           | .int _ i => zef ((List.range (N + 1)).map fun j => SV.vsl b p j) i K
           | _ => none)
       | false => none)
     | _ => none
   | _ => none
 | _ => none
def zsn (E : Env) (T : TypeId) (vd vs : SV) (h : Heap) (K : Nat -> Heap -> Rt) : Rt :=
 match vd, vs with
 | .vsl b p n, .vsl b' p' n' => match zaq p, lkB h b, lkB h b' with
   | false, some (.var true v), some (.var _ v') => xd v p fun u => xd v' p' fun u' => match u, u' with
     | .arr N sz xs, .arr N' sz' ys => (match Nat.beq sz 1 && Nat.beq sz' 1 && Nat.ble n N && Nat.ble n' N', (lkT E.tt T).d with
       | true, .sl e => (match Nat.beq (lkT E.tt e).size 1 with
         | true => zb6 v (.arr N 1 (ys.take (min n' n) ++ xs.drop (min n' n))) p fun v2 => stK h b (.var true v2) fun h2 => K (min n' n) h2
         | false => none)
       | _, _ => none)
     | _, _ => none
   | _, _, _ => none
 | _, _ => none
def zx7 (E : Env) (T : TypeId) (v : SV) (K : SV -> Rt) : Rt := match (lkT E.tt T).d with
 | .ifc | .other => none
 | _ => yV [v] fun cs => match wh cs with | true => K (.ifc T cs) | false => none
def zz5 (E : Env) (ret : Nat -> List SV -> Rt) (rv : SV) (name : String) (as : List SV) (h : Heap) (K : SV -> Heap -> Rt) : Rt := match rv with
 | .ifc T vs => (match lkM E.mt T name, wh as with
   | some f, true => yF h 60 as [] fun as ns => yF h 60 vs ns fun vs ns => (match ret f (vs ++ as) with
     | some r => frc r fun r => xT ns h fun h2 => K r h2
     | none => none)
   | _, _ => none)
 | _ => none
def zzk (E : Env) (T : TypeId) (x : SV) (lo : Option SV) (hi mx : SV) (K : SV -> Rt) : Rt :=
 match (lkT E.tt T).d with
 | .sl e => (match Nat.ble 1 (lkT E.tt e).size with
   | true => (match zoj x, lo, xJ hi, xJ mx with
     | true, none, true, true => K .mt
     | true, some l, true, true => (match xJ l with | true => K .mt | false => none)
     | _, _, _, _ => none)
   | false => none)
 | _ => none
def zy6 (E : Env) (T : TypeId) (lo : SV) (h : Heap) (b sz : Nat) (K : SV -> Rt) : Rt :=
 match lkB h b, lo, (lkT E.tt T).d with
 | some (.row true sz' xs), .int _ i, .sl e => (match Nat.beq sz 1 && Nat.beq sz' 1 && Nat.beq (lkT E.tt e).size 1 with
   | true => yn (0 <= i /\ i < xs.length) (frN i.toNat fun j => frN (xs.length - i.toNat) fun n => K (.vsl b [.idx j 1] n))
   | false => none)
 | _, _, _ => none
def zzh (E : Env) (T : TypeId) (v : SV) (h : Heap) (K : Heap -> Rt) : Rt :=
 match v, (lkT E.tt T).d with
 | .vsl b [.idx i sz] n, .sl e => (match lkB h b with
   | some (.row true sz' xs) => jE (lkT E.tt e).zero fun z => (match Nat.beq sz 1 && Nat.beq sz' 1 && Nat.beq z.sz 1 && Nat.beq (lkT E.tt e).size 1 with
     | true => yn (1 <= n /\ i + n <= xs.length) (yV (xs.take i ++ (List.replicate n z ++ xs.drop (i + n))) fun ys => stK h b (.row true 1 ys) fun h2 => K h2)
     | false => none)
   | _ => none)
 | _, _ => none
def zxh (E : Env) (T : TypeId) (h : Heap) (n : Nat) (K : SV -> Heap -> Rt) : Rt := match zt8 (lkT E.tt T).zero with
 | true => K (.ptr n []) ((n, .tv T (.agg [.nilp, .nils])) :: h)
 | false => none
def zud (E : Env) (run : Rq -> Rt) (all : List Oper) (o : Oper) (sl : Slots) (h : Heap) (n : Nat) (K : Slots -> Heap -> Nat -> Rt) : Rt :=
 match zh0 o.op with
 | some (d, s, T) => zsn E T (ev E sl (.tmp d)) (ev E sl (.tmp s)) h fun k h2 => frN k fun k => (match o.dst with | some t => K ((t, .int .i64 k) :: sl) h2 (n + 1) | none => K sl h2 (n + 1))
 | none => match ztg E o.op with
  | some T => zxh E T h n fun v h2 => (match o.dst with | some t => K ((t, v) :: sl) h2 (n + 1) | none => K sl h2 (n + 1))
  | none => match znd E o.op with
  | some _ => none
  | none => match spK o.op with
  | .mkI T x => zx7 E T (ev E sl x) fun v => (match o.dst with | some t => K ((t, v) :: sl) h (n + 1) | none => K sl h (n + 1))
  | .inv r name as => zz5 E (fun f as => run (.ret f as)) (ev E sl r) name (as.map (ev E sl)) h fun v h2 => (match o.dst with | some t => K ((t, v) :: sl) h2 (n + 1) | none => K sl h2 (n + 1))
  | .sl3 T x lo hi mx => zzk E T (ev E sl x) (lo.map (ev E sl)) (ev E sl hi) (ev E sl mx) fun v => (match o.dst with | some t => K ((t, v) :: sl) h (n + 1) | none => K sl h (n + 1))
  | .clr t T => zzh E T (ev E sl (.tmp t)) h fun h2 => (match o.dst with | some _ => none | none => K sl h2 (n + 1))
  | .none => match zx9 all o with
   | some (T, x, hi) => (match ev E sl x with
     | .ptr b p => zxu E T hi sl h b p fun v => (match o.dst with | some t => K ((t, v) :: sl) h (n + 1) | none => K sl h (n + 1))
     | _ => znj E run o sl h n K)
   | none => match zxd all o with
    | some (T, x, lo) => (match ev E sl x with
     | .osl b sz => zy6 E T (ev E sl lo) h b sz fun v => (match o.dst with | some t => K ((t, v) :: sl) h (n + 1) | none => K sl h (n + 1))
     | _ => znj E run o sl h n K)
    | none => znj E run o sl h n K
structure RunOK (E : Env) (run : Rq -> Rt) : Prop where
 ret : ∀ f as r, run (.ret f as) = some r -> Ret E f as r
 sem : ∀ f as sl h n K r (K' : SV -> Slots -> Heap -> Nat -> Prop), run (.sem f as sl h n K) = some r -> (∀ v s h n, K v s h n = some r -> K' v s h n) -> qp E f as sl h n K'
 yld : ∀ b as sl h n K r (K' : SV -> Slots -> Heap -> Nat -> Prop), run (.yld b as sl h n K) = some r -> (∀ v s h n, K v s h n = some r -> K' v s h n) -> za4 E b as sl h n K'
def zaf (E : Env) (run : Rq -> Rt) (all : List Oper) : List Oper -> Slots -> Heap -> Nat -> (Slots -> Heap -> Nat -> Rt) -> Rt
 | [], sl, h, n, K => K sl h n
 | o :: r, sl, h, n, K => zng all o.guard sl (fun sl => zud E run all o sl h n fun sl h n => zaf E run all r sl h n K)
   (fun sl => match o.dst with
     | some d => zaf E run all r ((d, und) :: sl) h n K
     | none => zaf E run all r sl h n K)
theorem ztr {r : SV} {E : Env} {run : Rq -> Rt} (ok : RunOK E run) {o : Oper} {sl : Slots} {h : Heap} {n : Nat} {K : Slots -> Heap -> Nat -> Rt} {K' : Slots -> Heap -> Nat -> Prop} (hk : znj E run o sl h n K = some r) (g : ∀ s h n, K s h n = some r -> K' s h n) : opY E o sl h n K' := by
 unfold znj at hk
 unfold opY
 split at hk
 . grind
 . rename_i e0
   simp only [e0]
   refine zCf hk (fun hk => ?_) (fun f as hk => ?_) (fun b as hk => ?_)
   . unfold opX
     exact zs3 ok.ret hk fun a b c hs => zAg hs fun s h hs => g _ _ _ hs
   . refine ok.sem _ _ _ _ _ _ r _ hk fun v s h n hs => ?_
     grind
   . refine ok.yld _ _ _ _ _ _ r _ hk fun v s h n hs => ?_
     grind
theorem zD9 {r : SV} {E : Env} {T : TypeId} {hi : Option Operand} {sl : Slots} {h : Heap} {b : Nat} {p : List Step} {K : SV -> Rt} {K' : SV -> Prop} (hk : zxu E T hi sl h b p K = some r) (g : ∀ v, K v = some r -> K' v) : zov E T hi sl h b p K' := by
 unfold zxu at hk
 unfold zov
 split at hk
 case h_2 => cases hk
 rename_i e0
 simp only [e0]
 refine xM hk fun u hu => ?_
 split at hu
 case h_2 => cases hu
 simp only
 split at hu
 case h_2 => cases hu
 rename_i e1
 simp only [e1]
 split at hu
 case h_2 => cases hu
 rename_i e2
 simp only [e2]
 split at hu
 . exact g _ hu
 . simp only
   split at hu
   case h_2 => cases hu
   rename_i e3
   simp only [e3]
   exact zfq hu g
theorem zCz {r : SV} {E : Env} {T : TypeId} {vd vs : SV} {h : Heap} {K : Nat -> Heap -> Rt} {K' : Nat -> Heap -> Prop} (hk : zsn E T vd vs h K = some r) (g : ∀ k h, K k h = some r -> K' k h) : zis E T vd vs h K' := by
 unfold zsn at hk
 unfold zis
 split at hk
 case h_2 => cases hk
 simp only
 split at hk
 case h_2 => cases hk
 rename_i e1 e2 e3
 simp only [e1, e2, e3]
 refine xM hk fun u hu => ?_
 refine xM hu fun u' hu' => ?_
 split at hu'
 case h_2 => cases hu'
 simp only
 split at hu'
 case h_2 => cases hu'
 rename_i e4 e5
 simp only [e4, e5]
 split at hu'
 case h_2 => cases hu'
 rename_i e6
 simp only [e6]
 refine zfh hu' fun v2 hv2 => ?_
 grind [qS]
theorem zEv {r : SV} {E : Env} {T : TypeId} {v : SV} {K : SV -> Rt} {K' : SV -> Prop} (hk : zx7 E T v K = some r) (g : ∀ v, K v = some r -> K' v) : zoy E T v K' := by
 grind [qv, zx7, zoy]
theorem zEg {r : SV} {E : Env} {ret : Nat -> List SV -> Rt} (hr : ∀ f as r, ret f as = some r -> Ret E f as r) {rv : SV} {name : String} {as : List SV} {h : Heap} {K : SV -> Heap -> Rt} {K' : SV -> Heap -> Prop} (hk : zz5 E ret rv name as h K = some r) (g : ∀ v h, K v h = some r -> K' v h) : zs7 E rv name as h K' := by
 unfold zz5 at hk
 unfold zs7
 split at hk
 case h_2 => cases hk
 simp only
 split at hk
 case h_2 => cases hk
 rename_i f e1 e2
 simp only [e1, e2]
 refine ja hk fun as' ns hs => ?_
 refine ja hs fun vs' ns' hs => ?_
 split at hs
 case h_2 => cases hs
 rename_i r0 e3
 refine call (hr _ _ _ e3) ?_
 grind [zB, zfl]
theorem zEi {r : SV} {E : Env} {T : TypeId} {x hi mx : SV} {lo : Option SV} {K : SV -> Rt} {K' : SV -> Prop} (hk : zzk E T x lo hi mx K = some r) (g : ∀ v, K v = some r -> K' v) : zpu E T x lo hi mx K' := by
 unfold zzk at hk
 grind [zpu]
theorem zEo {r : SV} {E : Env} {T : TypeId} {lo : SV} {h : Heap} {b sz : Nat} {K : SV -> Rt} {K' : SV -> Prop} (hk : zy6 E T lo h b sz K = some r) (g : ∀ v, K v = some r -> K' v) : zm0 E T lo h b sz K' := by
 unfold zy6 at hk
 unfold zm0
 split at hk
 case h_2 => cases hk
 rename_i e1 e2
 simp only [e1, e2]
 split at hk
 case h_2 => cases hk
 rename_i e3
 simp only [e3]
 simp only [zey] at hk
 exact wY hk fun hk => g _ hk
theorem zEn {r : SV} {E : Env} {T : TypeId} {v : SV} {h : Heap} {K : Heap -> Rt} {K' : Heap -> Prop} (hk : zzh E T v h K = some r) (g : ∀ h, K h = some r -> K' h) : zp3 E T v h K' := by
 unfold zzh at hk
 unfold zp3
 split at hk
 case h_2 => cases hk
 rename_i e1
 simp only [e1]
 split at hk
 case h_2 => cases hk
 rename_i e2
 simp only [e2]
 refine jh hk fun z hz => ?_
 split at hz
 case h_2 => cases hz
 rename_i e3
 simp only [e3]
 refine wY hz fun hz => ?_
 grind [qv, qS]
theorem zEc {r : SV} {E : Env} {T : TypeId} {h : Heap} {n : Nat} {K : SV -> Heap -> Rt} {K' : SV -> Heap -> Prop} (hk : zxh E T h n K = some r) (g : ∀ v h, K v h = some r -> K' v h) : zmy E T h n K' := by
 grind [zxh, zmy]
theorem zAl {r : SV} {E : Env} {run : Rq -> Rt} (ok : RunOK E run) {all : List Oper} {o : Oper} {sl : Slots} {h : Heap} {n : Nat} {K : Slots -> Heap -> Nat -> Rt} {K' : Slots -> Heap -> Nat -> Prop} (hk : zud E run all o sl h n K = some r) (g : ∀ s h n, K s h n = some r -> K' s h n) : opZ E all o sl h n K' := by
 unfold zud at hk
 unfold opZ
 split at hk
 . rename_i e0
   simp only [e0]
   refine zCz hk fun k h2 hs => ?_
   grind [zey]
 . rename_i e0
   simp only [e0]
   split at hk
   . rename_i ea
     simp only [ea]
     refine zEc hk fun v h2 hs => ?_
     grind
   rename_i ea
   simp only [ea]
   split at hk
   . cases hk
   rename_i eb
   simp only [eb]
   split at hk
   . rename_i e1
     simp only [e1]
     refine zEv hk fun v hs => ?_
     grind
   . rename_i e1
     simp only [e1]
     refine zEg ok.ret hk fun v h2 hs => ?_
     grind
   . rename_i e1
     simp only [e1]
     refine zEi hk fun v hs => ?_
     grind
   . rename_i e1
     simp only [e1]
     refine zEn hk fun h2 hs => ?_
     grind
   rename_i e9
   simp only [e9]
   split at hk
   . rename_i e1
     simp only [e1]
     split at hk
     . rename_i e2
       simp only [e2]
       refine zD9 hk fun v hs => ?_
       grind
     . rename_i e2
       split
       . grind
       . exact ztr ok hk g
   . rename_i e1
     simp only [e1]
     split at hk
     . rename_i e4
       simp only [e4]
       split at hk
       . rename_i e2
         simp only [e2]
         refine zEo hk fun v hs => ?_
         grind
       . rename_i e2
         split
         . grind
         . exact ztr ok hk g
     . rename_i e4
       simp only [e4]
       exact ztr ok hk g
theorem zeh {r : SV} {E : Env} {run : Rq -> Rt} (ok : RunOK E run) {all : List Oper} : ∀ {l : List Oper} {sl : Slots} {h : Heap} {n : Nat} {K : Slots -> Heap -> Nat -> Rt} {K' : Slots -> Heap -> Nat -> Prop}, zaf E run all l sl h n K = some r -> (∀ s h n, K s h n = some r -> K' s h n) -> zcv E all l sl h n K'
 | [], sl, h, n, K, K', hk, g => by simp only [zaf, zcv] at hk ⊢; exact g _ _ _ hk
 | o :: l, sl, h, n, K, K', hk, g => by
   rw [zes]
   simp only [zaf, jl] at hk ⊢
   refine zs0 hk (fun s hs => zAl ok hs fun s h n hs => zeh ok hs g) (fun s hs => ?_)
   split at hs <;> (rename_i e; simp only [e]; exact zeh ok hs g)
mutual
def ztj : SV -> SV -> Bool
 | .int k n, .int k' n' => match decide (k = k') with | true => decide (n = n') | false => false
 | .bool b, .bool b' => decide (b = b')
 | .tru, .tru => true
 | .fls, .fls => true
 | .str s, .str s' => decide (s = s')
 | .agg l, .agg l' => eqL l l'
 | .arr n s l, .arr n' s' l' => match Nat.beq n n', Nat.beq s s' with | true, true => eqL l l' | _, _ => false
 | .tup l, .tup l' => eqL l l'
 | .sl n l, .sl n' l' => match Nat.beq n n' with | true => eqL l l' | false => false
 | .mt, .mt => true
 | .nils, .nils => true
 | .nilf, .nilf => true
 | .nilp, .nilp => true
 | .nili, .nili => true
 | _, _ => false
def eqL : List SV -> List SV -> Bool
 | [], [] => true
 | v :: r, v' :: r' => match ztj v v' with | true => eqL r r' | false => false
 | _, _ => false
end
mutual
theorem zrq : ∀ {a b : SV}, ztj a b = true -> a = b
 | a, b, h => by
   cases a <;> cases b <;> simp only [ztj] at h <;> first | (cases h; done) | rfl | skip
   . split at h
     . rename_i e; rw [of_decide_eq_true e, of_decide_eq_true h]
     . cases h
   . rw [of_decide_eq_true h]
   . rw [of_decide_eq_true h]
   . rw [zbi h]
   . split at h
     . rename_i e1 e2; rw [zk e1, zk e2, zbi h]
     . cases h
   . rw [zbi h]
   . split at h
     . rename_i e1; rw [zk e1, zbi h]
     . cases h
theorem zbi : ∀ {a b : List SV}, eqL a b = true -> a = b
 | [], [], _ => rfl
 | v :: r, v' :: r', h => by
   simp only [eqL] at h
   split at h
   . rename_i e; rw [zrq e, zbi h]
   . cases h
 | [], _ :: _, h => by simp only [eqL] at h; cases h
 | _ :: _, [], h => by simp only [eqL] at h; cases h
end
def zmq (f : Nat × Oper -> Rt) : List (Nat × Oper) -> Rt
 | [] => none
 | [a] => f a
 | a :: r => match f a with
   | some v => (match zmq f r with
     | some v' => (match ztj v' v with | true => some v | false => none)
     | none => none)
   | none => none
theorem zBy {f : Nat × Oper -> Rt} {v : SV} (l : List (Nat × Oper)) : zmq f l = some v -> ∀ p ∈ l, f p = some v := by
 induction l with
 | nil => intro _ p hp; cases hp
 | cons a r ih =>
   intro h p hp
   cases r with
   | nil =>
     grind [zmq]
   | cons b r =>
     simp only [zmq] at h
     split at h
     case h_2 => cases h
     rename_i v1 e1
     split at h
     case h_2 => cases h
     rename_i v2 e2
     split at h
     case h_2 => cases h
     rename_i e3
     cases h
     rw [zrq e3] at e2
     grind
theorem zBt {f : Nat × Oper -> Prop} (l : List (Nat × Oper)) (h : ∀ p ∈ l, f p) : zuk f l := by
 induction l with
 | nil => trivial
 | cons a r ih => exact ⟨h a (by simp), ih fun p hp => h p (by simp [hp])⟩
def zcn (E : Env) (run : Rq -> Rt) (ops : List Oper) : Nat -> List Nat -> Slots -> Heap -> Nat -> (Slots -> Heap -> Nat -> Rt) -> Rt
 | 0, L, sl, h, n, K => match rdy L ops 0 with
   | [] => K sl h n
   | _ :: _ => none
 | f + 1, L, sl, h, n, K => match rdy L ops 0 with
   | [] => K sl h n
   | q :: r => zmq (fun p => zng ops p.2.guard sl (fun sl => zud E run ops p.2 sl h n fun sl h n => zcn E run ops f (p.1 :: L) sl h n K)
     (fun sl => match p.2.dst with
       | some d => zcn E run ops f (p.1 :: L) ((d, und) :: sl) h n K
       | none => zcn E run ops f (p.1 :: L) sl h n K)) (q :: r)
theorem zm3 {r : SV} {E : Env} {run : Rq -> Rt} (ok : RunOK E run) {ops : List Oper} : ∀ {f : Nat} {L : List Nat} {sl : Slots} {h : Heap} {n : Nat} {K : Slots -> Heap -> Nat -> Rt} {K' : Slots -> Heap -> Nat -> Prop}, zcn E run ops f L sl h n K = some r -> (∀ s h n, K s h n = some r -> K' s h n) -> zcl E ops f L sl h n K'
 | 0, L, sl, h, n, K, K', hk, g => by
   simp only [zcn, zcl] at hk ⊢
   split at hk
   . rename_i e; simp only [e]; exact g _ _ _ hk
   . cases hk
 | f + 1, L, sl, h, n, K, K', hk, g => by
   simp only [zcn, zcl] at hk ⊢
   split at hk
   . rename_i e; simp only [e]; exact g _ _ _ hk
   . rename_i q r' e
     simp only [e]
     refine zBt _ fun p hp => ?_
     have hk := zBy _ hk p hp
     unfold jl
     refine zs0 hk (fun s hs => zAl ok hs fun s h n hs => zm3 ok hs g) (fun s hs => ?_)
     split at hs <;> (rename_i e; simp only [e]; exact zm3 ok hs g)
def zmv : List Nat -> Slots -> (Slots -> Rt) -> Rt
 | _, [], K => K []
 | seen, (t, v) :: r, K => match wo t seen with
   | true => zmv seen r K
   | false => zmv (t :: seen) r fun r => K ((t, v) :: r)
theorem zkv {r : SV} : ∀ {sl : Slots} {seen : List Nat} {K : Slots -> Rt}, zmv seen sl K = some r -> ∃ s, K s = some r /\ ∀ t, t ∉ seen -> lk s t = lk sl t
 | [], seen, K, h => ⟨[], h, fun _ _ => rfl⟩
 | (i, v) :: l, seen, K, h => by
   simp only [zmv] at h
   split at h
   . rename_i e
     obtain ⟨s, h1, h2⟩ := zkv h
     refine ⟨s, h1, fun t ht => ?_⟩
     rw [h2 t ht, wR, if_neg]
     rintro rfl
     exact ht (memb_true.1 e)
   . rename_i e
     obtain ⟨s, h1, h2⟩ := zkv h
     refine ⟨_, h1, fun t ht => ?_⟩
     rw [wR, wR]
     by_cases et : i = t
     . rw [if_pos et, if_pos et]
     . rw [if_neg et, if_neg et]
       exact h2 t (by simp [ht, Ne.symm et])
def zih (B : Slots -> Heap -> Nat -> KXC -> Rt) : Nat -> Slots -> Heap -> Nat -> KXC -> Rt
 | 0, _, _, _, _ => none
 | f + 1, sl, h, n, K => zmv [] sl fun sl => B sl h n fun e sl h n => match e with
   | .normal => zih B f sl h n K
   | e => K e sl h n
def qK (E : Env) (run : Rq -> Rt) (fuel N : Nat) : Code -> Slots -> Heap -> Nat -> KXC -> Rt
 | .skip, sl, h, n, K => K .normal sl h n
 | .seq a b, sl, h, n, K => qK E run fuel N a sl h n fun e sl h n => match e with
   | .normal => qK E run fuel N b sl h n K
   | e => K e sl h n
 | .cond c a b, sl, h, n, K => (match ev E sl c with
   | .bool t => (match t with | true => qK E run fuel N a sl h n K | false => qK E run fuel N b sl h n K)
   | .tru => qK E run fuel N a sl h n K
   | .fls => qK E run fuel N b sl h n K
   | _ => none)
 | .block id b, sl, h, n, K => qK E run fuel N b sl h n fun e sl h n => (match e with
    | .exit i => (match Nat.beq i id with | true => K .normal sl h n | false => K (.exit i) sl h n)
    | e => K e sl h n)
 | .exit i, sl, h, n, K => K (.exit i) sl h n
 | .ret, sl, h, n, K => K .ret sl h n
 | .region _ ops true, sl, h, n, K => (match ui E.lend ops.toList, cpB ops.toList with
   | false, false => (match zbs ops.toList with
     | none => zbo E (fun f as => run (.ret f as)) ops.toList ops.toList sl h n fun sl h n => K .normal sl h n
     | some (i, o) => zbo E (fun f as => run (.ret f as)) ops.toList i sl h n fun sl h n => zaf E run ops.toList [o] sl h n fun sl h n => K .normal sl h n)
   | _, _ => zcn E run ops.toList ops.toList.length [] sl h n fun sl h n => K .normal sl h n)
 | .region _ ops false, sl, h, n, K => zaf E run ops.toList ops.toList sl h n fun sl h n => K .normal sl h n
 | .loop b, sl, h, n, K => zih (qK E run fuel N b) fuel sl h n K
 | .scope b, sl, h, n, K => qK E run fuel N b sl h n fun e sl h n => match e with
   | .goto _ => none
   | e => K e sl h n
 | .label _, sl, h, n, K => K .normal sl h n
 | .rangeFunc f ps asg b, sl, h, n, K => (match ev E sl f with
   | .fn g caps => run (.sem g (.yld n :: caps) ((1999999, .yld n) :: sl) ((n, .gho ⟨.ready, none, N, ps, asg, b, false⟩ sl) :: h) (n + 1) fun _ sl h n' => (match lk sl 1999999 with
     | .yld b => (match Nat.beq b n with
       | true => (match lkB h n with
         | some (.gho q _) => (match q.dead with
           | true => none
           | false => (match q.st with
             | .busy => none
             | _ => (match q.pend with
               | none => stK h n .dead fun h => K .normal ((1999999, .any) :: sl) h n'
               | some .ret => stK h n .dead fun h => K .ret ((1999999, .any) :: sl) h n'
               | some (.exit i) => stK h n .dead fun h => K (.exit i) ((1999999, .any) :: sl) h n'
               | _ => none)))
         | _ => none)
       | false => none)
     | _ => none))
   | _ => none)
 | _, _, _, _, _ => none
theorem wT {r : SV} {E : Env} {run : Rq -> Rt} (ok : RunOK E run) {fuel N : Nat} : ∀ (code : Code) {sl : Slots} {h : Heap} {n : Nat} {K : KXC} {K' : KX}, qK E run fuel N code sl h n K = some r -> (∀ e s h n, K e s h n = some r -> K' e s h n) -> exec E N [] code sl h n K'
 | .skip, sl, h, n, K, K', hk, g => by simp only [qK, exec] at hk ⊢; exact g _ _ _ _ hk
 | .exit i, sl, h, n, K, K', hk, g => by simp only [qK, exec] at hk ⊢; exact g _ _ _ _ hk
 | .ret, sl, h, n, K, K', hk, g => by simp only [qK, exec] at hk ⊢; exact g _ _ _ _ hk
 | .label _, sl, h, n, K, K', hk, g => by simp only [qK, exec] at hk ⊢; exact g _ _ _ _ hk
 | .seq a b, sl, h, n, K, K', hk, g => by
   simp only [qK, exec] at hk ⊢
   refine wT ok a hk fun e s h n hs => ?_
   cases e with
   | normal => exact wT ok b hs g
   | _ => exact g _ _ _ _ hs
 | .cond c a b, sl, h, n, K, K', hk, g => by
   simp only [qK, exec, brk] at hk ⊢
   split at hk
   . rename_i t e
     simp only [e]
     cases t with
     | true => exact ⟨fun _ => wT ok a hk g, fun h => by cases h⟩
     | false => exact ⟨fun h => (by cases h), fun _ => wT ok b hk g⟩
   . rename_i e; simp only [e]; exact wT ok a hk g
   . rename_i e; simp only [e]; exact wT ok b hk g
   . cases hk
 | .block id b, sl, h, n, K, K', hk, g => by
   simp only [qK, exec, wo] at hk ⊢
   refine wT ok b hk fun e s h n hs => ?_
   cases e with
   | exit i =>
     simp only at hs ⊢
     split at hs <;> (rename_i e; simp only [e]; exact g _ _ _ _ hs)
   | _ => exact g _ _ _ _ hs
 | .region _ ops true, sl, h, n, K, K', hk, g => by
   simp only [qK, exec] at hk ⊢
   split at hk
   . rename_i e e'; simp only [e, e']
     split at hk
     . rename_i e3
       simp only [e3]
       exact zij ok.ret hk fun s h n hs => g _ _ _ _ hs
     . rename_i i o e3
       simp only [e3]
       refine zij ok.ret hk fun s h n hs => ?_
       have := zeh ok hs fun s h n hs => g _ _ _ _ hs
       simpa only [zes, znc] using this
   . rename_i e
     split
     . rename_i e1 e2; exact absurd e2 (e e1)
     . exact zm3 ok hk fun s h n hs => g _ _ _ _ hs
 | .region _ ops false, sl, h, n, K, K', hk, g => by
   simp only [qK, exec] at hk ⊢
   exact zeh ok hk fun s h n hs => g _ _ _ _ hs
 | .loop b, sl, h, n, K, K', hk, g => by
   simp only [qK, exec] at hk ⊢
   unfold xB
   intro I h1 _ h3
   have go : ∀ f sl h n, zih (qK E run fuel N b) f sl h n K = some r -> I sl h n := by
    intro f
    induction f with
    | zero => intro sl h n hk; simp only [zih] at hk; cases hk
    | succ f ih =>
      intro sl h n hk
      simp only [zih] at hk
      obtain ⟨s, hs, hl⟩ := zkv hk
      refine h3 s sl h n (fun t => .inr (hl t (by simp))) (h1 _ _ _ ?_)
      refine wT ok b hs fun e s h n hs => ?_
      grind
   exact go _ _ _ _ hk
 | .scope b, sl, h, n, K, K', hk, g => by
   simp only [qK, exec] at hk ⊢
   refine wT ok b hk fun e s h n hs => ?_
   grind
 | .rangeFunc f ps asg b, sl, h, n, K, K', hk, g => by
   simp only [qK, exec] at hk ⊢
   split at hk
   case h_2 => cases hk
   rename_i e0
   simp only [e0]
   refine ok.sem _ _ _ _ _ _ r _ hk fun v s h n' hs => ?_
   split at hs
   case h_2 => cases hs
   rename_i e1
   simp only [e1]
   split at hs
   case h_2 => cases hs
   grind [zi6, qS]
 | .goto _, sl, h, n, K, K', hk, g => by simp only [qK] at hk; cases hk
 | .refuse _, sl, h, n, K, K', hk, g => by simp only [qK] at hk; cases hk
end Go.Sx
