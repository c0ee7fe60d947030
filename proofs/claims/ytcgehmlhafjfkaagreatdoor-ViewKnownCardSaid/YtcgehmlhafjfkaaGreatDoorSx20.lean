/-
  THE USER'S RULES: loops, cuts, elements, sums, calls. Generic: no program in sight. An own text.
-/
import Derived.Test.YtcgehmlhafjfkaaGreatDoorSx19
namespace Go.Sx
open Go.RowKit (Below)

/-- THE RULE OF A LOOP: states 'S i' with a measure that falls. -/
theorem loop_rule {ι : Type} {B : Slots → Heap → Nat → (Slots → Heap → Nat → Prop) → Prop} {sl : Slots} {h : Heap} {n : Nat} (p : ι → Prop) (m : ι → Nat) (S : ι → Slots) (H : ι → Heap) (N : ι → Nat) (i : ι) (hp : p i) (hs : Sub sl h n (S i) (H i) (N i))
    (hb : ∀ i, p i → ∀ I : Slots → Heap → Nat → Prop, (∀ j sl' h' n', p j → m j < m i → Sub sl' h' n' (S j) (H j) (N j) → I sl' h' n') → B (S i) (H i) (N i) I) : LoopVC sl h n B := by
  unfold LoopVC
  intro I h1 h2 _
  have go : ∀ k i, p i → m i ≤ k → I (S i) (H i) (N i) := by
    intro k
    induction k with
    | zero => exact fun i hi hk => h1 _ _ _ (hb i hi I fun j _ _ _ _ hj _ => absurd hj (by omega))
    | succ k ih => exact fun i hi hk => h1 _ _ _ (hb i hi I fun j sl' h' n' hpj hj hs => h2 _ _ _ _ _ _ hs (ih j hpj (by omega)))
  exact h2 _ _ _ _ _ _ hs (go (m i) i hp (Nat.le_refl _))

/-- one round, laid open -/
theorem loop_once {B : Slots → Heap → Nat → (Slots → Heap → Nat → Prop) → Prop} {sl : Slots} {h : Heap} {n : Nat} (hb : ∀ I : Slots → Heap → Nat → Prop, (∀ sl h n, B sl h n I → I sl h n) → (∀ sl h n sl' h' n', Sub sl' h' n' sl h n → I sl h n → I sl' h' n') → B sl h n I) : LoopVC sl h n B := by
  unfold LoopVC
  intro I h1 h2 _
  exact h1 _ _ _ (hb I h1 h2)

/-- THE RULE OF A CUT: the block ends in a state that is at least S. -/
theorem cut_rule {B : KX → Prop} {K : KX} (hb : B fun e sl' h' n' => ∃ sl h n, ((sl = sl' ∧ h = h' ∧ n = n') ∨ Sub sl' h' n' sl h n) ∧ K e sl h n) : CutVC B K := by unfold CutVC; exact hb
theorem cut_same {K : KX} {e : Exit} {sl : Slots} {h : Heap} {n : Nat} (k : K e sl h n) : ∃ sl2 h2 n2, ((sl2 = sl ∧ h2 = h ∧ n2 = n) ∨ Sub sl h n sl2 h2 n2) ∧ K e sl2 h2 n2 := ⟨sl, h, n, .inl ⟨rfl, rfl, rfl⟩, k⟩
theorem cut_sub {K : KX} {e : Exit} {sl' sl : Slots} {h' h : Heap} {n' n : Nat} (hs : Sub sl' h' n' sl h n) (k : K e sl h n) : ∃ sl2 h2 n2, ((sl2 = sl' ∧ h2 = h' ∧ n2 = n') ∨ Sub sl' h' n' sl2 h2 n2) ∧ K e sl2 h2 n2 := ⟨sl, h, n, .inr hs, k⟩

theorem idx_some {xs : List SV} {i : Int} {K : SV → Prop} {s : SV} (h0 : 0 ≤ i) (h1 : xs[i.toNat]? = some s) (k : K s) : IdxVC xs i K := by unfold IdxVC; exact ⟨s, h0, h1, k⟩
theorem idx_map {α : Type} (enc : α → SV) {xs : List α} {i : Int} {K : SV → Prop} (h0 : 0 ≤ i) (h1 : i < (xs.length : Int)) (k : ∀ x, xs[i.toNat]? = some x → K (enc x)) : IdxVC (xs.map enc) i K := by
  have hlt : i.toNat < xs.length := by omega
  exact idx_some h0 (s := enc xs[i.toNat]) (by simp [hlt]) (k _ (by simp [hlt]))
theorem byte_at {s : List UInt8} {i : Int} {K : UInt8 → Prop} (h0 : 0 ≤ i) (h1 : i < (s.length : Int)) (k : ∀ x, s[i.toNat]? = some x → K x) : ByteVC s i K := by
  have hlt : i.toNat < s.length := by omega
  unfold ByteVC
  exact ⟨s[i.toNat], h0, by simp [hlt], k _ (by simp [hlt])⟩
theorem wrap_i64 {e : Int} (h1 : -9223372036854775808 ≤ e) (h2 : e ≤ 9223372036854775807) : IntKind.wrap .i64 e = e := by
  simp only [IntKind.wrap, IntKind.signed, IntKind.bits]
  have h3 : (2 : Int) ^ 64 = 18446744073709551616 := by decide
  have h4 : (2 : Int) ^ (64 - 1) = 9223372036854775808 := by decide
  simp only [h3, h4, Bool.true_and, decide_eq_true_eq, ge_iff_le]
  split <;> omega
theorem arith_i64 {e : Int} {K : Int → Prop} (h1 : -9223372036854775808 ≤ e) (h2 : e ≤ 9223372036854775807) (k : K e) : ArithVC .i64 e K := by unfold ArithVC; exact ⟨e, wrap_i64 h1 h2, k⟩
theorem arith_raw {q : IntKind} {e : Int} {K : Int → Prop} (k : K (q.wrap e)) : ArithVC q e K := by unfold ArithVC; exact ⟨_, rfl, k⟩
theorem arith_eq {q : IntKind} {e r : Int} {K : Int → Prop} (h : q.wrap e = r) (k : K r) : ArithVC q e K := by unfold ArithVC; exact ⟨_, h, k⟩
theorem side {p K : Prop} (h : p) (k : K) : SideVC p K := by unfold SideVC; exact ⟨h, k⟩
theorem call {E : Env} {f : FuncId} {args : List SV} {K : SV → Prop} {r : SV} (h : Ret E f args r) (k : K r) : CallVC E f args K := by unfold CallVC; exact ⟨r, h, k⟩
end Go.Sx
