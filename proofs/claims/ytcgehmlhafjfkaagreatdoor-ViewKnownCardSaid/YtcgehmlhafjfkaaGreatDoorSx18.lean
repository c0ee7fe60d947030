/-
  A REGION WITH ONE ORDER. Generic: no program in sight. An own text.
-/
import Derived.Test.YtcgehmlhafjfkaaGreatDoorSx17
import Derived.OrdersIn
namespace Go.Sx
open Go.RowKit (Below)

/-- The walk's fence: it lets everything in; the frame may be a round's. -/
def FR (ro : Option Nat) : Fence := { Fence.wide with round := ro }
theorem fenced_FR {P : Program} {ro : Option Nat} : Machine.fenced P (FR ro) = Machine.fenced P Fence.wide := rfl
theorem room_FR {ro : Option Nat} (n : Nat) : (FR ro).room n := fun _ h => by simp [FR, Fence.wide] at h
theorem callsIn_FR {ro : Option Nat} {n : Nat} {P : Program} {f : FuncId} {args : Array Value} {w : World} {R : Ending → World → Prop} : CallsIn (FR ro) n P f args w R ↔ Calls P f args w R :=
  ⟨fun h cs => let ⟨e, w', fr, r, s, x⟩ := h.2 cs (room_FR _); ⟨e, w', fr, r, comesIn_wide.1 s, x⟩,
   fun h => ⟨trivial, fun cs _ => let ⟨e, w', fr, r, s, x⟩ := h cs; ⟨e, w', fr, r, comesIn_wide.2 s, x⟩⟩⟩
theorem rowsIn_FR {ro : Option Nat} {n : Nat} {P : Program} {row : String} {args : Array Value} {w : World} {R : Value → World → Prop} (h : Rows P row args w R) : RowsIn (FR ro) n P row args w R :=
  fun c cs _ => let ⟨v, w', r, s⟩ := h c cs; ⟨v, w', r, stepsIn_wide.2 s⟩
theorem depth_FR {ro : Option Nat} : (FR ro).depth.isSome = true → 1 ≤ 0 := fun h => by simp [FR, Fence.wide] at h

theorem wp_in {P : Program} {o : Oper} {a : Act} {w : World} {ro : Option Nat} {next : Act → World → Prop} {Q : Exit → Act → World → Prop} (hd : ∀ c, o.op ≠ .defer c) (h : o.wp P a w next Q) : o.wpIn (FR ro) 0 P a w next Q := by
  refine ⟨fun _ _ => trivial, ?_⟩
  rw [Oper.semAt_eq _ _ _ hd]
  unfold Oper.wp at h
  generalize (execOp a.eval o).run P w = r at h ⊢
  cases r with
  | ok x w' =>
    cases x <;> simp only [Oper.upon] at h <;> first
      | exact h
      | exact ⟨depth_FR, callsIn_FR.2 h⟩
      | exact ⟨depth_FR, rowsIn_FR h⟩
  | halt x w' => cases x <;> simp only [Oper.upon] at h <;> exact h

/-- The marks that ranges over functions have left on a frame. -/
def marks (Ds : List Nat) : List Deferred := Ds.map fun D => { target := .collected D, args := #[] }
def DefOK (Y0 Y : Nat → Prop) (ds : List Deferred) : Prop := (∀ r, Y0 r → Y r) ∧ ∃ Ds : List Nat, ds = marks Ds ∧ Ds.Nodup ∧ ∀ D ∈ Ds, Y D ∧ ¬ Y0 D
theorem DefOK.nil {Y0 Y : Nat → Prop} (h : ∀ r, Y0 r → Y r) : DefOK Y0 Y [] := ⟨h, [], rfl, List.nodup_nil, fun _ h => by cases h⟩
theorem DefOK.mono {Y0 Y Y' : Nat → Prop} {ds : List Deferred} (h : DefOK Y0 Y ds) (hY : ∀ r, Y r → Y' r) : DefOK Y0 Y' ds := by
  obtain ⟨h0, Ds, h1, h2, h3⟩ := h
  exact ⟨fun r hr => hY r (h0 r hr), Ds, h1, h2, fun D hD => ⟨hY D (h3 D hD).1, (h3 D hD).2⟩⟩

/-- What a symbolic state says of a frame and a world. F: names that are still free. -/
def DenF (c : Cx) (N : Nat) (sl : Slots) (h : Heap) (F : Nat → Prop) (a : Act) (w : World) : Prop :=
  ∃ β Y, Mem c h F β Y w ∧ SlotsOK c sl h β Y w a ∧ a.tmps.size = N ∧ DefOK c.Y0 Y a.defers
def Den (c : Cx) (N : Nat) (sl : Slots) (h : Heap) (n : Nat) (a : Act) (w : World) : Prop := DenF c N sl h (fun b => n ≤ b) a w

theorem Mem.lessF {c : Cx} {h : Heap} {F F' : Nat → Prop} {β : Beta} {Y : Nat → Prop} {w : World} (m : Mem c h F β Y w) (hF : ∀ b, F' b → F b) : Mem c h F' β Y w :=
  ⟨fun b hb => m.fresh b (hF b hb), m.blk, m.inj, m.own, m.yy, m.zz, m.size, m.frame, m.os, m.tape, m.output, m.gl⟩
theorem DenF.less {c : Cx} {N : Nat} {sl : Slots} {h : Heap} {F F' : Nat → Prop} {a : Act} {w : World} (D : DenF c N sl h F a w) (hF : ∀ b, F' b → F b) : DenF c N sl h F' a w := by
  obtain ⟨β, Y, m, r⟩ := D
  exact ⟨β, Y, m.lessF hF, r⟩

def killE (ea : EA) (sl : Slots) : Slots := match ea with | .app b _ => killS b sl | _ => sl
def putS (d : Option Nat) (v : SV) (sl : Slots) : Slots := match d with | some d => (d, v) :: sl | none => sl

theorem app_iff {v : SV} {ns : List Nat} {ea : EA} {d : Option Nat} {sl : Slots} {h : Heap} {n : Nat} {K : Slots → Heap → Prop} : app v ns ea d sl h n K ↔ K (putS d v (killE ea sl)) (hE ns ea h n) := by
  unfold app
  rw [iceK_eq]
  cases ea with
  | nil => cases d <;> exact Iff.rfl
  | new k => cases d <;> exact Iff.rfl
  | set b k => simp only [stK_eq]; cases d <;> exact Iff.rfl
  | app b k => simp only [killSK_eq, killHK_eq, stK_eq]; cases d <;> exact Iff.rfl


theorem lk_killE {ea : EA} (sl : Slots) (t : Nat) : lk (killE ea sl) t = kE ea (lk sl t) := by
  cases ea <;> first | rfl | exact lk_killS sl t

theorem lk_put (d : Option Nat) (v : SV) (sl : Slots) (t : Nat) : lk (putS d v sl) t = if d = some t then v else lk sl t := by
  cases d with
  | none => simp [putS]
  | some d =>
    simp only [putS, lk]
    by_cases e : d = t
    · subst e; simp
    · rw [beq_false e]; simp [e]

theorem put_tmps (a : Act) (d : Option Nat) (u : Value) (t : Nat) (hd : ∀ d', d = some d' → d' < a.tmps.size) : (a.put d u).tmps.getD t undef = if d = some t then u else a.tmps.getD t undef := by
  cases d with
  | none => simp [Act.put]
  | some d =>
    have := hd d rfl
    simp only [Act.put]
    by_cases e : d = t
    · subst e
      simp [this]
    · simp only [Option.some.injEq, e, if_false]
      simp only [Array.getD_eq_getD_getElem?]
      rw [Array.getElem?_setIfInBounds_ne e]

theorem put_size' (a : Act) (d : Option Nat) (u : Value) : (a.put d u).tmps.size = a.tmps.size := by cases d <;> simp [Act.put]
theorem put_defers' (a : Act) (d : Option Nat) (u : Value) : (a.put d u).defers = a.defers := by cases d <;> rfl

theorem slotv_put {c : Cx} (a : Act) (d : Option Nat) (u : Value) (t : Nat) (hd : ∀ d', d = some d' → d' < a.tmps.size) (hN : a.tmps.size ≤ 1000000) : slotv c (a.put d u) t = if d = some t then u else slotv c a t := by
  unfold slotv
  by_cases h : t ≤ 999999
  · rw [if_pos h, if_pos h, put_tmps _ _ _ _ hd]
  · rw [if_neg h, if_neg h, if_neg]
    intro e
    have := hd t e
    omega

section
variable {c : Cx} (ok : EnvOK c.E) {N : Nat}

theorem Den.put {o : Oper} {sl : Slots} {h : Heap} {n : Nat} {F : Nat → Prop} {β : Beta} {Y : Nat → Prop} {w w' : World} {a : Act} {v : SV} {ns : List Nat} {ea : EA} {u : Value} {β' : Beta} (hs : SlotsOK c sl h β Y w a) (hN : a.tmps.size = N) (hdef : DefOK c.Y0 Y a.defers)
    (hd : ∀ d, o.dst = some d → d < N) (r : Res c h n F β Y w v ns ea u w' β') : DenF c N (putS o.dst v (killE ea sl)) (hE ns ea h n) (rmF F n) (a.put o.dst u) w' := by
  refine ⟨β', Y, r.mem.lessF (fun b hb => ?_), ⟨by rw [put_size']; exact hs.1, fun t => ?_⟩, by rw [put_size', hN], by rw [put_defers']; exact hdef⟩
  · cases ea <;> first | exact hb | exact hb.1
  rw [lk_put, slotv_put _ _ _ _ (by rw [hN]; exact hd) hs.1]
  by_cases e : o.dst = some t
  · rw [if_pos e, if_pos e]; exact r.val
  · rw [if_neg e, if_neg e, lk_killE]; exact r.keep _ _ (hs.2 t)

include ok in
theorem opX_sound {o : Oper} {sl : Slots} {h : Heap} {n : Nat} {F : Nat → Prop} {K : Slots → Heap → Prop} (hK : opX c.E o sl h n K) (hF : F n) (hd : ∀ d, o.dst = some d → d < N) {a : Act} {w : World} (D : DenF c N sl h F a w)
    {next : Act → World → Prop} {Q : Exit → Act → World → Prop} (hn : ∀ sl' h' a' w', K sl' h' → DenF c N sl' h' (rmF F n) a' w' → next a' w') : o.wp c.E.P a w next Q := by
  obtain ⟨β, Y, m, hs, hN, hdef⟩ := D
  unfold opX at hK
  obtain ⟨v, ns, ea, k1, k2⟩ := opE_sound ok (a := a) m hF (fun x _ => ev_ok m hs x) hK
  have k3 := app_iff.1 k1
  exact k2 next Q fun u w' β' r => hn _ _ _ _ k3 (Den.put hs hN hdef hd r)

theorem DenF.skip {o : Oper} {sl : Slots} {h : Heap} {F : Nat → Prop} {a : Act} {w : World} (D : DenF c N sl h F a w) (hd : ∀ d, o.dst = some d → d < N) : DenF c N (putS o.dst und sl) h F (a.put o.dst undef) w := by
  obtain ⟨β, Y, m, hs, hN, hdef⟩ := D
  refine ⟨β, Y, m, ⟨by rw [put_size']; exact hs.1, fun t => ?_⟩, by rw [put_size', hN], by rw [put_defers']; exact hdef⟩
  rw [lk_put, slotv_put _ _ _ _ (by rw [hN]; exact hd) hs.1]
  by_cases e : o.dst = some t
  · rw [if_pos e, if_pos e]; exact ⟨#[], rfl, by simp [relL_nil]⟩
  · rw [if_neg e, if_neg e]; exact hs.2 t

/-- a slot that is known better -/
theorem DenF.know {sl : Slots} {h : Heap} {F : Nat → Prop} {a : Act} {w : World} {d : Nat} {v : SV} (D : DenF c N sl h F a w) (hv : ∀ w X β u, rel w X (lk sl d) β u → rel w X v β u) : DenF c N ((d, v) :: sl) h F a w := by
  obtain ⟨β, Y, m, hs, hN, hdef⟩ := D
  refine ⟨β, Y, m, ⟨hs.1, fun t => ?_⟩, hN, hdef⟩
  simp only [lk]
  cases hb : Nat.beq d t with
  | true =>
    have := beq_of hb; subst this
    exact hv _ _ _ _ (hs.2 d)
  | false => exact hs.2 t

theorem grd_sound {ops : Array Oper} (hall : ∀ o ∈ ops.toList, ∀ d, o.dst = some d → d < N) {g : Option (Nat × Bool)} {sl : Slots} {Kyes Kno : Slots → Prop} {h : Heap} {F : Nat → Prop} {a : Act} {w : World} (hK : grd ops.toList g sl Kyes Kno) (D : DenF c N sl h F a w) {o : Oper} (ho : o.guard = g) :
    ∃ sl', DenF c N sl' h F a w ∧ (Region.wanted o (yielded ops a.tmps) = true ∧ Kyes sl' ∨ Region.wanted o (yielded ops a.tmps) = false ∧ Kno sl') := by
  unfold grd at hK
  unfold Region.wanted
  rw [ho]
  split at hK
  · exact ⟨sl, D, .inl ⟨rfl, hK⟩⟩
  · rename_i j want
    split at hK
    case h_2 => exact hK.elim
    rename_i o' hj
    split at hK
    case h_2 => exact hK.elim
    rename_i d hd
    have hval : ∀ b, a.tmps.getD d undef = .bool b → yielded ops a.tmps j = some b := by
      intro b hb
      have hlt : a.tmps[d]? = some (.bool b) := by
        rw [Array.getD_eq_getD_getElem?] at hb
        cases hh : a.tmps[d]? with
        | none => rw [hh] at hb; simp [undef] at hb
        | some x => rw [hh] at hb; simpa using hb
      rw [Array.getElem?_toList] at hj
      simp [yielded, hj, hd, hlt]
    have hDd : ∀ b, (∀ w X β u, rel w X (lk sl d) β u → u = .bool b) → yielded ops a.tmps j = some b := by
      intro b hb
      obtain ⟨β, Y, m, hs, hN, _⟩ := D
      have hlt : d ≤ 999999 := Nat.le_of_lt_succ (Nat.lt_of_lt_of_le (hall o' (List.mem_of_getElem? hj) d hd) (hN ▸ hs.1))
      have h3 := hs.2 d
      unfold slotv at h3
      rw [if_pos hlt] at h3
      exact hval b (hb _ _ _ _ h3)
    split at hK
    · rename_i hl
      have hy := hDd true (fun w X β u hu => by rw [hl] at hu; exact rel_tru.1 hu)
      simp only [hy]
      cases want with
      | true => exact ⟨sl, D, .inl ⟨rfl, hK⟩⟩
      | false => exact ⟨sl, D, .inr ⟨rfl, hK⟩⟩
    · rename_i hl
      have hy := hDd false (fun w X β u hu => by rw [hl] at hu; exact rel_fls.1 hu)
      simp only [hy]
      cases want with
      | true => exact ⟨sl, D, .inr ⟨rfl, hK⟩⟩
      | false => exact ⟨sl, D, .inl ⟨rfl, hK⟩⟩
    · rename_i b hl
      have hy := hDd b (fun w X β u hu => by rw [hl] at hu; exact rel_bool.1 hu)
      simp only [hy]
      cases want with
      | true =>
        cases b with
        | true => exact ⟨_, D.know (v := .tru) (fun w X β u hu => by rw [hl] at hu; exact rel_tru.2 (rel_bool.1 hu)), .inl ⟨rfl, hK.1 rfl⟩⟩
        | false => exact ⟨_, D.know (v := .fls) (fun w X β u hu => by rw [hl] at hu; exact rel_fls.2 (rel_bool.1 hu)), .inr ⟨rfl, hK.2 rfl⟩⟩
      | false =>
        cases b with
        | true => exact ⟨_, D.know (v := .tru) (fun w X β u hu => by rw [hl] at hu; exact rel_tru.2 (rel_bool.1 hu)), .inr ⟨rfl, hK.2 rfl⟩⟩
        | false => exact ⟨_, D.know (v := .fls) (fun w X β u hu => by rw [hl] at hu; exact rel_fls.2 (rel_bool.1 hu)), .inl ⟨rfl, hK.1 rfl⟩⟩
    · rename_i hl
      have hy : yielded ops a.tmps j = none := by
        have D0 := D
        obtain ⟨β, Y, m, hs, hN, _⟩ := D0
        have hlt : d ≤ 999999 := Nat.le_of_lt_succ (Nat.lt_of_lt_of_le (hall o' (List.mem_of_getElem? hj) d hd) (hN ▸ hs.1))
        have h3 := hs.2 d
        unfold slotv at h3
        rw [if_pos hlt, hl] at h3
        obtain ⟨us, hu, _⟩ := h3
        have hj2 : ops[j]? = some o' := by rw [← Array.getElem?_toList]; exact hj
        unfold yielded
        simp only [hj2, Option.bind_some, hd]
        have : a.tmps[d]? = some (.tuple us) ∨ a.tmps[d]? = none := by
          rw [Array.getD_eq_getD_getElem?] at hu
          cases hh : a.tmps[d]? with
          | none => exact .inr rfl
          | some x => rw [hh] at hu; exact .inl (by rw [← hu]; rfl)
        rcases this with h | h <;> rw [h]
      simp only [hy]
      exact ⟨sl, D, .inr ⟨by cases want <;> rfl, hK⟩⟩
    · exact hK.elim

theorem opX_nodefer {E : Env} {o : Oper} {sl : Slots} {h : Heap} {n : Nat} {K : Slots → Heap → Prop} (k : opX E o sl h n K) : ∀ c, o.op ≠ .defer c := by
  intro c e
  unfold opX opE at k
  rw [e] at k
  exact k

include ok in
/-- one operation of a region, its guard heeded -/
theorem gopX_sound {ops : Array Oper} (hall : ∀ o ∈ ops.toList, ∀ d, o.dst = some d → d < N) {o : Oper} {i : Nat} (hi : ops[i]? = some o) {sl : Slots} {h : Heap} {n : Nat} {F : Nat → Prop} {K : Slots → Heap → Prop} (hK : gopX c.E ops.toList o sl h n K) (hF : F n) (hd : ∀ d, o.dst = some d → d < N) {a : Act} {w : World} (D : DenF c N sl h F a w)
    {next : Act → World → Prop} {Q : Exit → Act → World → Prop} (hn : ∀ sl' h' a' w', K sl' h' → DenF c N sl' h' (rmF F n) a' w' → next a' w') : wpOpIn (FR c.ro) 0 c.E.P ops Q i next a w := by
  unfold gopX at hK
  obtain ⟨sl', D', hw⟩ := grd_sound hall hK D rfl
  unfold wpOpIn
  simp only [hi]
  rcases hw with ⟨h1, h2⟩ | ⟨h1, h2⟩
  · rw [if_pos h1]
    exact wp_in (opX_nodefer h2) (opX_sound ok h2 hF hd D' hn)
  · rw [if_neg (by rw [h1]; simp)]
    refine ⟨fun _ _ => trivial, ?_⟩
    refine hn (putS o.dst und sl') h _ _ ?_ ((D'.skip hd).less fun b hb => hb.1)
    cases hdst : o.dst <;> simp only [hdst] at h2 <;> exact h2

include ok in
theorem opsX_sound {ops : Array Oper} (hd : ∀ o ∈ ops.toList, ∀ d, o.dst = some d → d < N) {Q : Exit → Act → World → Prop} : ∀ (r pre : List Oper) (sl : Slots) (h : Heap) (n : Nat) (K : Slots → Heap → Nat → Prop), ops.toList = pre ++ r → opsX c.E ops.toList r sl h n K →
    ∀ a w, Den c N sl h n a w → (∀ sl' h' n' a' w', K sl' h' n' → Den c N sl' h' n' a' w' → Q .normal a' w') → wpOpsIn (FR c.ro) 0 c.E.P ops Q (List.range' pre.length r.length) a w
  | [], pre, sl, h, n, K, hp, hK, a, w, D, hQ => by
    simp only [opsX] at hK
    simp only [List.length_nil, List.range'_zero, wpOpsIn]
    exact hQ _ _ _ _ _ hK D
  | o :: r, pre, sl, h, n, K, hp, hK, a, w, D, hQ => by
    simp only [opsX] at hK
    have hoi : ops[pre.length]? = some o := by rw [← Array.getElem?_toList, hp]; simp
    have hmem : o ∈ ops.toList := by rw [hp]; simp
    simp only [List.length_cons, List.range'_succ]
    rw [wpOpsIn_cons]
    refine gopX_sound ok hd hoi hK (Nat.le_refl n) (hd o hmem) D fun sl2 h2 a2 w2 k1 k2 => ?_
    have := opsX_sound hd r (pre ++ [o]) sl2 h2 (n + 1) K (by rw [hp]; simp) k1 a2 w2 (k2.less fun b hb => ⟨by omega, by omega⟩) hQ
    simpa using this
end
end Go.Sx
