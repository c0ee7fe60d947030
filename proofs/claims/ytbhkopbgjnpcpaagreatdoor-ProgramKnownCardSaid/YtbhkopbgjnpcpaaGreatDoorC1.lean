/-
  ROWS OF SLICES WHOSE CONTENTS NOBODY ASKS FOR: what is known of them while they grow. Generic: no program in sight. An own text.
-/
import Derived.Test.YtbhkopbgjnpcpaaGreatDoorB9
namespace Go.Sx
open Go.RowKit (Below)
def JSl (J : Nat → Prop) (b q : Nat) (w : World) (v : Value) : Prop :=
 v = .slice none 0 0 ∨ ∃ r len cap cs T lo hi, v = .slice (some ⟨r, 0, none⟩) len cap ∧ J r ∧ r ≠ b ∧ w.heap[r]? = some (.cells cs T (lo, hi)) ∧ (cs.size ≤ lo ∨ hi ≤ lo) ∧ cap ≤ cs.size ∧ len ≤ cap ∧ len ≤ q
def JRow (J : Nat → Prop) (m q : Nat) (H : Value) (w : World) : Prop :=
 m = 0 ∨ ∃ b cap cs T lo hi, H = .slice (some ⟨b, 0, none⟩) m cap ∧ m ≤ cap ∧ J b ∧ w.heap[b]? = some (.cells cs T (lo, hi)) ∧ (cs.size ≤ lo ∨ hi ≤ lo) ∧ m ≤ cs.size ∧ ∀ j v, j < m → cs[j]? = some v → JSl J b q w v
def JI (J : Nat → Prop) (c : Cx) (w : World) : Prop :=
 (∀ r, J r → r < w.heap.size) ∧ ∃ m q : Nat, c.sh 8 = .int .i64 m ∧ c.sh 9 = .int .i64 q ∧ JRow J m q (c.sh 7) w
structure JB (c0 c : Cx) (J : Nat → Prop) : Prop where
 E : c.E = c0.E
 ro : c.ro = c0.ro
 nm : c.nm = c0.nm
 bot : c.bot = c0.bot
 Y0 : c.Y0 = c0.Y0
 Z : ∀ r, c.Z r ↔ (c0.Z r ∨ J r)
 J : ∀ r, J r → c0.w0.heap.size ≤ r
 F0 : ∀ r, c.F0 r → c0.w0.heap.size ≤ r ∨ c0.F0 r
 size : c0.w0.heap.size ≤ c.w0.heap.size
 frame : ∀ r, r < c0.w0.heap.size → ¬ c0.F0 r → c.w0.heap[r]? = c0.w0.heap[r]?
 os : c.w0.os = c0.w0.os
 tape : c.w0.tape = c0.w0.tape
 output : c.w0.output = c0.w0.output
 sh : ∀ t, t ≠ 7 → t ≠ 8 → t ≠ 9 → c.sh t = c0.sh t
 zz : ∀ r, c0.Z r → r < c0.w0.heap.size ∧ ¬ c0.F0 r
 fx : FXc c0
def DenJ (c0 : Cx) (N : Nat) (sl : Slots) (h : Heap) (n : Nat) (a : Act) (w : World) : Prop := ∃ J c, JB c0 c J ∧ Den c N sl h n a w ∧ JI J c w
theorem JSl.ext {J : Nat → Prop} {b q : Nat} {w w' : World} {v : Value} (hs : ∀ r, J r → w'.heap[r]? = w.heap[r]?) (h : JSl J b q w v) : JSl J b q w' v := by
 rcases h with h | ⟨r, len, cap, cs, T, lo, hi, h1, h2, h3, h4, h5⟩
 · exact .inl h
 · exact .inr ⟨r, len, cap, cs, T, lo, hi, h1, h2, h3, (hs r h2).trans h4, h5⟩
theorem JI.ext {J : Nat → Prop} {c : Cx} {w w' : World} (hs : ∀ r, J r → w'.heap[r]? = w.heap[r]?) (hz : w.heap.size ≤ w'.heap.size) (h : JI J c w) : JI J c w' := by
 obtain ⟨h1, m, q, h2, h3, h4⟩ := h
 refine ⟨fun r hr => Nat.lt_of_lt_of_le (h1 r hr) hz, m, q, h2, h3, ?_⟩
 rcases h4 with h4 | ⟨b, cap, cs, T, lo, hi, g1, g2, g3, g4, g5, g6, g7⟩
 · exact .inl h4
 · exact .inr ⟨b, cap, cs, T, lo, hi, g1, g2, g3, (hs b g3).trans g4, g5, g6, fun j v hj hv => (g7 j v hj hv).ext hs⟩
theorem ext_same {w : World} {X X' : Nat → Prop} (h : ∀ r, X' r → X r) : Ext w X w X' := ⟨Nat.le_refl _, fun _ _ _ => rfl, fun r _ hr hx => hr (h r hx)⟩
theorem rebase {c0 c : Cx} {J : Nat → Prop} {N n : Nat} {sl : Slots} {h : Heap} {a : Act} {w : World} (B : JB c0 c J) (D : Den c N sl h n a w) (I : JI J c w) :
 ∃ c2, JB c0 c2 J ∧ Den c2 N sl h n a w ∧ c2.w0 = w ∧ c2.sh = c.sh ∧ ∀ r, J r → ¬ c2.F0 r := by
 obtain ⟨β, Y, m, hs, hN, hd⟩ := D
 have hF : ∀ r, Own β h r ∨ Y r → c0.w0.heap.size ≤ r ∨ c0.F0 r := by
  intro r hr
  have : c.w0.heap.size ≤ r ∨ c.F0 r := hr.elim (fun h => (m.own r h).2.2.2) fun h => (m.yy r h).2.2
  exact this.elim (fun h => .inl (Nat.le_trans B.size h)) (B.F0 r)
 have hJ : ∀ r, c.Z r → ¬ (Own β h r ∨ Y r) := fun r hz hr => hr.elim (fun h => (m.own r h).2.1 hz) fun h => (m.yy r h).2.1 hz
 have hlt : ∀ r, Own β h r ∨ Y r → r < w.heap.size := fun r hr => hr.elim (fun h => (m.own r h).1) fun h => hlt_of (m.yy r h).1
 refine ⟨{ c with w0 := w, F0 := fun r => Own β h r ∨ Y r }, ⟨B.E, B.ro, B.nm, B.bot, B.Y0, B.Z, B.J, hF, Nat.le_trans B.size m.size, fun r hr hf => ?_, m.os.trans B.os, m.tape.trans B.tape, m.output.1.trans B.output, B.sh, B.zz, B.fx⟩,
  ⟨β, Y, ⟨m.fresh, m.blk, m.inj, fun r hr => ⟨(m.own r hr).1, (m.own r hr).2.1, (m.own r hr).2.2.1, .inr (.inl hr)⟩, fun r hr => ⟨(m.yy r hr).1, (m.yy r hr).2.1, .inr (.inr hr)⟩, fun r hr => ⟨?_, hJ r hr⟩, Nat.le_refl _, fun _ _ _ => rfl, rfl, rfl, ⟨rfl, fun p hp => ?_⟩, m.gl⟩, hs, hN, hd⟩, rfl, rfl, fun r hr => hJ r ((B.Z r).2 (.inr hr))⟩
 · rw [m.frame r (Nat.lt_of_lt_of_le hr B.size) fun h => ?_]
   · exact B.frame r hr hf
   · rcases B.F0 r h with h | h
     · omega
     · exact hf h
 · exact Nat.lt_of_lt_of_le (m.zz r hr).1 m.size
 · obtain ⟨_, _, g⟩ := m.good
   obtain ⟨g1, g2⟩ := g p hp
   exact ⟨g1, fun h => g2 (h.elim (fun h => .inr (.inr h)) fun h => .inr (.inl h)), fun h => g2 (.inl h)⟩
theorem leafJ {c0 : Cx} {N : Nat} (ok : EnvOK c0.E) {cuts : List Nat} {id : Nat} {ops : Array Oper} {d : Bool} {sl : Slots} {h : Heap} {n : Nat} {K : KX} (hx : regP c0.E N cuts id ops d sl h n (npK K)) (hc : codeP c0.E N (.region id ops d)) {a : Act} {w : World} (D : DenJ c0 N sl h n a w)
 {Q : Exit → Act → World → Prop} (hQ : ∀ e sl' h' n' a' w', K e sl' h' n' → DenJ c0 N sl' h' n' a' w' → Q e a' w') : (Code.region id ops d).wpIn (FR c0.ro) 0 c0.E.P Q a w := by
 obtain ⟨J, c, B, D, I⟩ := D
 obtain ⟨c2, B2, D2, e1, e2, e3⟩ := rebase B D I
 rw [← B2.ro, ← B2.E]
 rw [← B2.E] at ok hx hc
 refine regP_sound ok hx hc (.inr rfl) D2 ⟨fun e sl' h' n' a' w' hne k D' => ?_, fun v sl' h' n' a' w' k D' => k.elim⟩
 have k : K e sl' h' n' := by
  cases e with
  | panic ch => exact absurd rfl (hne ch)
  | outgrown => exact k.elim
  | _ => exact k
 refine hQ e sl' h' n' a' w' k ⟨J, c2, B2, D', ?_⟩
 obtain ⟨β, Y, m, _⟩ := D'
 have I2 : JI J c2 w := by unfold JI; rw [e2]; exact I
 refine I2.ext (fun r hr => ?_) (e1 ▸ m.size)
 have := m.frame r (e1 ▸ I.1 r hr) (e3 r hr)
 rw [this, e1]
theorem DenJ.out {c0 : Cx} {N : Nat} {sl sl' : Slots} {h : Heap} {n : Nat} {a : Act} {w : World} (D : DenJ c0 N sl h n a w) (hsl : ∀ t, lk sl' t = .any ∨ lk sl' t = lk sl t ∧ t ≠ 1000007 ∧ t ≠ 1000008 ∧ t ≠ 1000009) : Den c0 N sl' h n a w := by
 obtain ⟨J, c, B, ⟨β, Y, m, hs, hN, hd⟩, I⟩ := D
 have hX : ∀ r, XX c0.Z Y β h r → XX c.Z Y β h r := fun r hr => hr.elim (fun h => .inl ((B.Z r).2 (.inl h))) .inr
 have e : Ext w (XX c.Z Y β h) w (XX c0.Z Y β h) := ext_same hX
 have hF : ∀ r, c.w0.heap.size ≤ r ∨ c.F0 r → c0.w0.heap.size ≤ r ∨ c0.F0 r := fun r h => h.elim (fun h => .inl (Nat.le_trans B.size h)) (B.F0 r)
 refine ⟨β, Y, ⟨m.fresh, fun b k hk => ?_, m.inj, fun r hr => ⟨(m.own r hr).1, fun h => (m.own r hr).2.1 ((B.Z r).2 (.inl h)), (m.own r hr).2.2.1, hF r (m.own r hr).2.2.2⟩,
  fun r hr => ⟨(m.yy r hr).1, fun h => (m.yy r hr).2.1 ((B.Z r).2 (.inl h)), hF r (m.yy r hr).2.2⟩, B.zz, Nat.le_trans B.size m.size, fun r hr hf => ?_, m.os.trans B.os, m.tape.trans B.tape, ⟨m.output.1.trans B.output, B.fx⟩, fun g t hg ht => ?_⟩, ⟨hs.1, fun t => ?_⟩, hN, ?_⟩
 · obtain ⟨l, h1, h2⟩ := m.blk b k hk
   exact ⟨l, h1, h2.ext e rfl (fun _ _ k => k) fun _ hn hx => hn (hX _ hx)⟩
 · rw [m.frame r (Nat.lt_of_lt_of_le hr B.size) fun h => ?_]
   · exact B.frame r hr hf
   · rcases B.F0 r h with h | h
     · omega
     · exact hf h
 · have := m.gl g t (by rw [B.E]; exact hg) ht
   exact relP_ext e _ _ (nms_true (fun _ _ k => k) _) this
 · rcases hsl t with h | ⟨h, h7, h8, h9⟩
   · rw [h]; exact rel_any
   · rw [h]
     have := rel_ext e (nms_true (fun _ _ k => k) _) (hs.2 t)
     unfold slotv at this ⊢
     split
     · rename_i hle; rw [if_pos hle] at this; exact this
     · rename_i hle
       rw [if_neg hle, B.sh (t - 1000000) (by omega) (by omega) (by omega)] at this
       exact this
 · unfold DefOK at hd ⊢
   rw [← B.Y0, ← B.bot, ← B.nm]
   exact hd
end Go.Sx
