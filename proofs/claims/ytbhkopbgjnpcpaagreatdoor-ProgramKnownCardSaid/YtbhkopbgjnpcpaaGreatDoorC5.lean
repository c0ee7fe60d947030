/-
  ROWS OF SLICES WHOSE CONTENTS NOBODY ASKS FOR: code in which they grow. Generic: no program in sight. An own text.
-/
import Derived.Test.YtbhkopbgjnpcpaaGreatDoorC4
namespace Go.Sx
open Go.RowKit (Below)
def hasApp : List Oper → Bool
 | [] => false
 | o :: r => match o.op with
   | .call cl => (match cl.callee with | .builtin .append => true | _ => hasApp r)
   | _ => hasApp r
def execJ (E : Env) (N : Nat) (cuts : List Nat) (p : JP) : Code → Slots → Heap → Nat → KX → Prop
 | .skip, sl, h, n, K => K .normal sl h n
 | .seq a b, sl, h, n, K => execJ E N cuts p a sl h n fun e sl h n => match e with
   | .normal => execJ E N cuts p b sl h n K
   | e => K e sl h n
 | .cond c a b, sl, h, n, K => match meetB a b with
   | false => brk (ev E sl c) (execJ E N cuts p a sl h n K) (execJ E N cuts p b sl h n K)
   | true => CutVC (fun K => brk (ev E sl c) (execJ E N cuts p a sl h n K) (execJ E N cuts p b sl h n K)) K
 | .block id b, sl, h, n, K => match memb id cuts with
   | false => execJ E N cuts p b sl h n fun e sl h n => (match e with
     | .exit i => (match Nat.beq i id with | true => K .normal sl h n | false => K (.exit i) sl h n)
     | e => K e sl h n)
   | true => CutVC (fun K => execJ E N cuts p b sl h n fun e sl h n => (match e with
     | .exit i => (match Nat.beq i id with | true => K .normal sl h n | false => K (.exit i) sl h n)
     | e => K e sl h n)) K
 | .exit i, sl, h, n, K => K (.exit i) sl h n
 | .ret, sl, h, n, K => K .ret sl h n
 | .region id ops d, sl, h, n, K => match hasApp ops.toList with
   | true => JReg p sl h fun sl => K .normal sl h n
   | false => regP E N cuts id ops d sl h n (npK K)
 | .loop b, sl, h, n, K => LoopVC sl h n fun sl h n C => execJ E N cuts p b sl h n fun e sl h n => match e with
   | .normal => C sl h n
   | e => K e sl h n
 | _, _, _, _, _ => False
def codeJ (E : Env) (N : Nat) (p : JP) : Code → Prop
 | .seq a b => codeJ E N p a ∧ codeJ E N p b
 | .cond _ a b => codeJ E N p a ∧ codeJ E N p b
 | .block _ b => codeJ E N p b
 | .loop b => codeJ E N p b
 | .region id ops d => match hasApp ops.toList with
   | true => ops = jOps p ∧ d = true
   | false => codeP E N (.region id ops d)
 | _ => True
section
variable {c0 : Cx} {N : Nat}
theorem DenJ.sub {sl sl' : Slots} {h h' : Heap} {n n' : Nat} {a : Act} {w : World} (hs : SubX sl' h' n' sl h n) (D : DenJ c0 N sl' h' n' a w) : DenJ c0 N sl h n a w := by
 unfold SubX at hs
 obtain ⟨J, c, B, D, I⟩ := D
 exact ⟨J, c, B, hs c N a w D, I⟩
theorem DenJ.fewer {sl sl' : Slots} {h : Heap} {n : Nat} {a : Act} {w : World} (hs : ∀ t, lk sl t = .any ∨ lk sl t = lk sl' t) (D : DenJ c0 N sl' h n a w) : DenJ c0 N sl h n a w := by
 obtain ⟨J, c, B, D, I⟩ := D
 exact ⟨J, c, B, D.fewer hs, I⟩
theorem execJ_sound (ok : EnvOK c0.E) {cuts : List Nat} {p : JP} (t : JT c0.E p) (hp : p.tS < p.d ∧ p.ti < p.d ∧ p.ta < p.d ∧ p.d + 12 ≤ N) : ∀ (code : Code) (sl : Slots) (h : Heap) (n : Nat) (K : KX), execJ c0.E N cuts p code sl h n K → codeJ c0.E N p code → ∀ (a : Act) (w : World), DenJ c0 N sl h n a w →
 ∀ Q : Exit → Act → World → Prop, (∀ e sl' h' n' a' w', K e sl' h' n' → DenJ c0 N sl' h' n' a' w' → Q e a' w') → code.wpIn (FR c0.ro) 0 c0.E.P Q a w
 | .skip, sl, h, n, K, hK, _, a, w, D, Q, hQ => by
   simp only [execJ] at hK
   exact wpIn_skip (hQ _ _ _ _ _ _ hK D)
 | .exit i, sl, h, n, K, hK, _, a, w, D, Q, hQ => by
   simp only [execJ] at hK
   exact wpIn_exit (hQ _ _ _ _ _ _ hK D)
 | .ret, sl, h, n, K, hK, _, a, w, D, Q, hQ => by
   simp only [execJ] at hK
   exact wpIn_ret (hQ _ _ _ _ _ _ hK D)
 | .seq x y, sl, h, n, K, hK, hc, a, w, D, Q, hQ => by
   simp only [execJ] at hK
   refine wpIn_seq (execJ_sound ok t hp x sl h n _ hK hc.1 a w D _ ?_)
   intro e sl' h' n' a' w' k D'
   cases e with
   | normal => exact execJ_sound ok t hp y sl' h' n' K k hc.2 a' w' D' Q hQ
   | _ => exact hQ _ _ _ _ _ _ k D'
 | .cond x c1 c2, sl, h, n, K, hK, hc, a, w, D, Q, hQ => by
   have go : ∀ K' : KX, brk (ev c0.E sl x) (execJ c0.E N cuts p c1 sl h n K') (execJ c0.E N cuts p c2 sl h n K') → (∀ e sl' h' n' a' w', K' e sl' h' n' → DenJ c0 N sl' h' n' a' w' → Q e a' w') → (Code.cond x c1 c2).wpIn (FR c0.ro) 0 c0.E.P Q a w := by
    intro K' hK' hQ'
    have D0 := D
    obtain ⟨J, c, B, ⟨β, Y, m, hs, _⟩, _⟩ := D0
    rw [← B.E] at hK'
    obtain ⟨tt, ht, h1, h2⟩ := brk_sound hK' (ev_ok m hs x)
    rw [B.E] at h1 h2
    refine wpIn_cond_split ht (fun e => ?_) (fun e => ?_)
    · exact execJ_sound ok t hp c1 sl h n K' (h1 e) hc.1 a w D Q hQ'
    · exact execJ_sound ok t hp c2 sl h n K' (h2 e) hc.2 a w D Q hQ'
   simp only [execJ] at hK
   split at hK
   · exact go K hK hQ
   · unfold CutVC at hK
     refine go (fun e sl' h' n' => ∃ sl h n, SubX sl' h' n' sl h n ∧ K e sl h n) hK fun e sl' h' n' a' w' k D' => ?_
     obtain ⟨sl2, h2, n2, hs, k⟩ := k
     exact hQ _ _ _ _ _ _ k (D'.sub hs)
 | .block id b, sl, h, n, K, hK, hc, a, w, D, Q, hQ => by
   have go : ∀ K' : KX, (execJ c0.E N cuts p b sl h n fun e sl h n => (match e with
    | .exit i => (match Nat.beq i id with | true => K' .normal sl h n | false => K' (.exit i) sl h n)
    | e => K' e sl h n)) → (∀ e sl' h' n' a' w', K' e sl' h' n' → DenJ c0 N sl' h' n' a' w' → Q e a' w') → (Code.block id b).wpIn (FR c0.ro) 0 c0.E.P Q a w := by
    intro K' hK' hQ'
    refine wpIn_block (execJ_sound ok t hp b sl h n _ hK' hc a w D _ ?_)
    intro e sl' h' n' a' w' k D'
    cases e with
    | exit i =>
      simp only at k
      simp only [Exit.inBlock]
      cases hb : Nat.beq i id with
      | true => simp only [hb] at k; rw [if_pos (beq_of hb)]; exact hQ' _ _ _ _ _ _ k D'
      | false => simp only [hb] at k; rw [if_neg (beq_ne hb)]; exact hQ' _ _ _ _ _ _ k D'
    | _ => exact hQ' _ _ _ _ _ _ k D'
   simp only [execJ] at hK
   split at hK
   · exact go K hK hQ
   · unfold CutVC at hK
     refine go (fun e sl' h' n' => ∃ sl h n, SubX sl' h' n' sl h n ∧ K e sl h n) hK fun e sl' h' n' a' w' k D' => ?_
     obtain ⟨sl2, h2, n2, hs, k⟩ := k
     exact hQ _ _ _ _ _ _ k (D'.sub hs)
 | .region id ops d, sl, h, n, K, hK, hc, a, w, D, Q, hQ => by
   simp only [execJ] at hK
   simp only [codeJ] at hc
   split at hK
   · rename_i e
     rw [e] at hc
     obtain ⟨rfl, rfl⟩ := hc
     exact jreg_sound ok t hp hK D fun sl' a' w' k D' => hQ _ _ _ _ _ _ k D'
   · rename_i e
     rw [e] at hc
     exact leafJ ok hK hc D hQ
 | .loop b, sl, h, n, K, hK, hc, a, w, D, Q, hQ => by
   simp only [execJ] at hK
   unfold LoopVC at hK
   refine loopWp_loop ?_
   refine hK (fun sl h n => ∀ a w, DenJ c0 N sl h n a w → LoopWp c0.ro c0.E.P b Q a w) ?_ ?_ ?_ a w D
   · intro sl h n hB a w D
     refine loopWp_step (execJ_sound ok t hp b sl h n _ hB hc a w D _ ?_)
     intro e sl' h' n' a' w' k D'
     cases e with
     | normal => exact k a' w' D'
     | _ => exact hQ _ _ _ _ _ _ k D'
   · intro sl h n sl' h' n' hs hI a w D
     exact hI a w (D.sub hs)
   · intro sl sl' h n hs hI a w D'
     exact hI a w (D'.fewer hs)
 | .scope b, sl, h, n, K, hK, _, a, w, D, Q, hQ => by simp only [execJ] at hK
 | .label _, sl, h, n, K, hK, _, a, w, D, Q, hQ => by simp only [execJ] at hK
 | .goto _, sl, h, n, K, hK, _, a, w, D, Q, hQ => by simp only [execJ] at hK
 | .refuse _, sl, h, n, K, hK, _, a, w, D, Q, hQ => by simp only [execJ] at hK
 | .rangeFunc .., sl, h, n, K, hK, _, a, w, D, Q, hQ => by simp only [execJ] at hK
end
@[irreducible] def JLen (xs : List SV) (K : Nat → Prop) : Prop := ∃ m, xs = List.replicate m .nils ∧ K m
theorem jlen_rep {m : Nat} {K : Nat → Prop} (h : K m) : JLen (List.replicate m .nils) K := by unfold JLen; exact ⟨m, rfl, h⟩
def rmB (bk : Nat) : Heap → Heap
 | [] => []
 | (b, k) :: r => match Nat.beq b bk with | true => rmB bk r | false => (b, k) :: rmB bk r
theorem lkB_rm {bk b : Nat} : ∀ {h : Heap}, lkB (rmB bk h) b = if b = bk then none else lkB h b
 | [] => by simp [rmB, lkB]
 | (b', k) :: r => by
   have ih := lkB_rm (bk := bk) (b := b) (h := r)
   simp only [rmB]
   cases hb : Nat.beq b' bk with
   | true =>
     have := beq_of hb; subst this
     simp only
     rw [ih]
     by_cases e : b = b'
     · rw [if_pos e, if_pos e]
     · rw [if_neg e, if_neg e]
       simp only [lkB]
       rw [show Nat.beq b' b = false from by cases h : Nat.beq b' b with | false => rfl | true => exact absurd (beq_of h).symm e]
   | false =>
     have hne := beq_ne hb
     simp only [lkB]
     cases h : Nat.beq b' b with
     | true =>
       have := beq_of h; subst this
       simp only
       rw [if_neg hne]
     | false => exact ih
theorem relR_nils {w : World} {X : Nat → Prop} {β : Beta} : ∀ {m : Nat} {cs : List Value}, relR w X 1 (List.replicate m .nils) β cs → ∀ v ∈ cs, v = .slice none 0 0
 | 0, cs, h => by
   simp only [List.replicate_zero, relR_nil] at h
   subst h; simp
 | m + 1, cs, h => by
   rw [List.replicate_succ, relR_cons] at h
   obtain ⟨k1, k2, rfl, _, k4, k5⟩ := h
   have k4 : k1 = [.slice none 0 0] := k4
   subst k4
   intro v hv
   rcases List.mem_cons.1 hv with h | h
   · exact h
   · exact relR_nils k5 v h
def jIn (p : JP) (sl : Slots) (h : Heap) (K : Slots → Heap → Prop) : Prop := match lk sl p.tS with
 | .ptr b2 [] => (match lkB h b2 with
   | some (.var true (.agg fs)) => (match nthS fs p.fld with
     | .osl bk s => (match lkB h bk with
       | some (.row true 1 xs) => JLen xs fun m => K ((1000007, .osl bk s) :: (1000008, .int .i64 m) :: (1000009, .int .i64 0) :: sl) (rmB bk h)
       | _ => False)
     | _ => False)
   | _ => False)
 | _ => False
def anyF (bk : Nat) : List SV → List SV
 | [] => []
 | v :: r => (match v with
   | .osl b s => (match Nat.beq b bk with | true => .any | false => .osl b s)
   | v => v) :: anyF bk r
def jOut (p : JP) (sl : Slots) (h : Heap) (K : Slots → Heap → Prop) : Prop := match lk sl p.tS, lk sl 1000007 with
 | .ptr b2 [], .osl bk _ => (match lkB h b2 with
   | some (.var true (.agg fs)) => K ((1000007, .any) :: (1000008, .any) :: (1000009, .any) :: sl) ((b2, .var true (.agg (anyF bk fs))) :: h)
   | _ => False)
 | _, _ => False
section
variable {c0 : Cx} {N : Nat}
theorem jIn_sound {p : JP} {sl : Slots} {h : Heap} {n : Nat} {K : Slots → Heap → Prop} (hK : jIn p sl h K) (hf0 : ∀ r, ¬ c0.F0 r) {a : Act} {w : World} (D : Den c0 N sl h n a w) : ∃ sl' h', K sl' h' ∧ DenJ c0 N sl' h' n a w := by
 unfold jIn at hK
 split at hK
 case h_2 => exact hK.elim
 rename_i b2 e1
 split at hK
 case h_2 => exact hK.elim
 rename_i fs e2
 split at hK
 case h_2 => exact hK.elim
 rename_i bk s e3
 split at hK
 case h_2 => exact hK.elim
 rename_i xs e4
 unfold JLen at hK
 obtain ⟨m, rfl, hk⟩ := hK
 refine ⟨_, _, hk, ?_⟩
 obtain ⟨β, Y, M, hs, hN, hd⟩ := D
 obtain ⟨l, hl, g1, g2, g3, g4⟩ := M.blk bk _ e4
 obtain ⟨l2, hl2, cs2, ty2, lo2, hi2, q1, q2, q3, q4⟩ := M.blk b2 _ e2
 obtain ⟨c1, c2, c3, p1, p2, p3, _⟩ := relC_get (w := w) (X := XX c0.Z Y β h) (show relC w (XX c0.Z Y β h) fs β cs2.toList from q3) (nthS_get (by simp) e3)
 obtain ⟨lk2, ad, hlk2, p4, had⟩ := p3
 rw [hl] at hlk2; cases hlk2
 rw [List.length_replicate] at g1
 have hlv : l.cap ≠ 0 → Own β h l.r := fun hc => ⟨bk, _, l, e4, hl, by simp [live, hc], rfl⟩
 have hO : ∀ r, Own β (rmB bk h) r → Own β h r ∧ ¬ (r = l.r ∧ l.cap ≠ 0) := by
  rintro r ⟨b, k, l', k1, k2, k3, k4⟩
  rw [lkB_rm] at k1
  split at k1
  · cases k1
  rename_i hne
  refine ⟨⟨b, k, l', k1, k2, k3, k4⟩, fun hr => hne ?_⟩
  exact M.inj b bk k _ l' l k1 e4 k2 hl k3 (by simp [live, hr.2]) (k4.trans hr.1)
 let J : Nat → Prop := fun r => r = l.r ∧ l.cap ≠ 0
 have hJO : ∀ r, J r → Own β h r := fun r hr => hr.1 ▸ hlv hr.2
 have hXX : XX (fun r => c0.Z r ∨ J r) Y β (rmB bk h) = XX c0.Z Y β h := by
  funext r
  refine propext ⟨fun hr => ?_, fun hr => ?_⟩
  · rcases hr with (hr | hr) | hr | hr
    · exact .inl hr
    · exact .inr (.inr (hJO r hr))
    · exact .inr (.inl hr)
    · exact .inr (.inr (hO r hr).1)
  · rcases hr with hr | hr | ⟨b, k, l', k1, k2, k3, k4⟩
    · exact .inl (.inl hr)
    · exact .inr (.inl hr)
    · by_cases e : b = bk
      · subst e
        rw [e4] at k1; cases k1
        rw [hl] at k2; cases k2
        refine .inl (.inr ⟨k4.symm, fun hc => ?_⟩)
        simp [live, hc] at k3
      · exact .inr (.inr ⟨b, k, l', by rw [lkB_rm, if_neg e]; exact k1, k2, k3, k4⟩)
 have hJs : ∀ r, J r → r < w.heap.size := fun r hr => (M.own r (hJO r hr)).1
 let c : Cx := { c0 with w0 := w, F0 := fun r => Own β (rmB bk h) r ∨ Y r, Z := fun r => c0.Z r ∨ J r, sh := fun t => if t = 7 then .slice ad l.len l.cap else if t = 8 then .int .i64 m else if t = 9 then .int .i64 0 else c0.sh t }
 have hshE : c.sh = fun t => if t = 7 then Value.slice ad l.len l.cap else if t = 8 then .int .i64 m else if t = 9 then .int .i64 0 else c0.sh t := rfl
 have s7 : c.sh 7 = .slice ad l.len l.cap := by rw [hshE]; rfl
 have s8 : c.sh 8 = .int .i64 m := by rw [hshE]; rfl
 have s9 : c.sh 9 = .int .i64 0 := by rw [hshE]; rfl
 have s0 : ∀ t, t ≠ 7 → t ≠ 8 → t ≠ 9 → c.sh t = c0.sh t := fun t h7 h8 h9 => by rw [hshE]; simp only [if_neg h7, if_neg h8, if_neg h9]
 have hF : ∀ r, Own β (rmB bk h) r ∨ Y r → c0.w0.heap.size ≤ r ∨ c0.F0 r := fun r hr => hr.elim (fun h => (M.own r (hO r h).1).2.2.2) fun h => (M.yy r h).2.2
 refine ⟨J, c, ⟨rfl, rfl, rfl, rfl, rfl, fun r => Iff.rfl, fun r hr => ?_, hF, M.size, fun r hr hf => M.frame r hr hf, M.os, M.tape, M.output.1, s0, M.zz, M.output.2⟩,
  ⟨β, Y, ⟨M.fresh, fun b k hk => ?_, fun b b' k k' l l' h1 h2 => ?_, fun r hr => ⟨(M.own r (hO r hr).1).1, fun h => ?_, (M.own r (hO r hr).1).2.2.1, .inr (.inl hr)⟩, fun r hr => ⟨(M.yy r hr).1, fun h => ?_, .inr (.inr hr)⟩, fun r hr => ⟨?_, fun h => ?_⟩, Nat.le_refl _, fun _ _ _ => rfl, rfl, rfl, ⟨rfl, fun pp hp => ?_⟩, fun g t hg ht => ?_⟩, ⟨hs.1, fun t => ?_⟩, hN, hd⟩, hJs, m, 0, s8, s9, ?_⟩
 · exact ((M.own r (hJO r hr)).2.2.2).resolve_right (hf0 r)
 · rw [lkB_rm] at hk
   split at hk
   · cases hk
   show ∃ l, β b = some l ∧ BlkOK w (XX (fun r => c0.Z r ∨ J r) Y β (rmB bk h)) β k l
   rw [hXX]
   exact M.blk b k hk
 · rw [lkB_rm] at h1 h2
   split at h1
   · cases h1
   split at h2
   · cases h2
   exact M.inj b b' k k' l l' h1 h2
 · rcases h with h | h
   · exact (M.own r (hO r hr).1).2.1 h
   · exact (hO r hr).2 h
 · rcases h with h | h
   · exact (M.yy r hr).2.1 h
   · exact (M.own r (hJO r h)).2.2.1 hr
 · rcases hr with hr | hr
   · exact Nat.lt_of_lt_of_le (M.zz r hr).1 M.size
   · exact hJs r hr
 · rcases hr with hr | hr
   · rcases h with h | h
     · exact (M.own r (hO r h).1).2.1 hr
     · exact (M.yy r h).2.1 hr
   · rcases h with h | h
     · exact (hO r h).2 hr
     · exact (M.own r (hJO r hr)).2.2.1 h
 · obtain ⟨_, _, g⟩ := M.good
   obtain ⟨k1, k2⟩ := g pp hp
   refine ⟨k1, fun h => k2 (h.elim (fun h => .inr (.inr (hO _ h).1)) fun h => .inr (.inl h)), fun h => k2 ?_⟩
   rcases h with h | h
   · exact .inl h
   · exact .inr (.inr (hJO _ h))
 · show relP w (XX (fun r => c0.Z r ∨ J r) Y β (rmB bk h)) _ _ _
   rw [hXX]
   exact M.gl g t hg ht
 · show rel w (XX (fun r => c0.Z r ∨ J r) Y β (rmB bk h)) _ _ _
   rw [hXX]
   have old := hs.2 t
   simp only [lk]
   cases h7 : Nat.beq 1000007 t with
   | true =>
     have := beq_of h7; subst this
     exact rel_osl.2 ⟨l, ad, hl, s7, had⟩
   | false =>
     simp only
     cases h8 : Nat.beq 1000008 t with
     | true =>
       have := beq_of h8; subst this
       exact relP_int.2 s8
     | false =>
       simp only
       cases h9 : Nat.beq 1000009 t with
       | true =>
         have := beq_of h9; subst this
         exact relP_int.2 s9
       | false =>
         have h7 := beq_ne h7
         have h8 := beq_ne h8
         have h9 := beq_ne h9
         simp only
         unfold slotv at old ⊢
         split
         · rename_i hle; rw [if_pos hle] at old; exact old
         · rename_i hle
           rw [if_neg hle] at old
           rw [s0 (t - 1000000) (by omega) (by omega) (by omega)]
           exact old
 · rw [s7]
   by_cases hm : m = 0
   · exact .inl hm
   have hc : l.cap ≠ 0 := by omega
   rcases g4 with g4 | ⟨cs, ty, lo, hi, f1, f2, f3, ⟨d1, d2, f4, f5⟩, f6⟩
   · exact absurd g4 hc
   refine .inr ⟨l.r, l.cap, cs, ty, lo, hi, by rw [had hc, g1], by omega, ⟨rfl, hc⟩, f1, f2, by omega, fun j v hj hv => .inl ?_⟩
   have hall := relR_nils f5
   have hlen := relR_len _ _ _ f5
   rw [List.length_replicate] at hlen
   rw [← Array.getElem?_toList, f4, List.getElem?_append_left (by omega)] at hv
   exact hall v (List.mem_of_getElem? hv)
theorem anyF_ok {w : World} {X : Nat → Prop} {β : Beta} {bk : Nat} : ∀ {fs : List SV} {cs : List Value}, relC w X fs β cs → relC w X (anyF bk fs) β cs
 | [], cs, h => h
 | v :: r, cs, h => by
   obtain ⟨c1, c2, h1, h2, h3⟩ := h
   refine ⟨c1, c2, h1, ?_, anyF_ok h3⟩
   split
   · split
     · obtain ⟨l, ad, _, h4, _⟩ := h2
       rw [h4]; exact ⟨_, rfl, rfl⟩
     · exact h2
   · exact h2
theorem Den.lessVar {sl : Slots} {h : Heap} {n : Nat} {a : Act} {w : World} {b : Nat} {o : Bool} {v v' : SV} (hv : ∀ w X β cs, relP w X v β cs → relP w X v' β cs) (hb : lkB h b = some (.var o v)) (D : Den c0 N sl h n a w) : Den c0 N sl ((b, .var o v') :: h) n a w := by
 obtain ⟨β, Y, M, hs, hN, hd⟩ := D
 have hlk : ∀ b', lkB ((b, .var o v') :: h) b' = if b' = b then some (.var o v') else lkB h b' := by
  intro b'
  simp only [lkB]
  cases e : Nat.beq b b' with
  | true => have := beq_of e; subst this; simp
  | false => have := beq_ne e; simp only; rw [if_neg (Ne.symm this)]
 have get : ∀ b' k, lkB ((b, .var o v') :: h) b' = some k → ∃ k0, lkB h b' = some k0 ∧ ∀ l, live k0 l = live k l := by
  intro b' k hk
  rw [hlk] at hk
  split at hk
  · rename_i e; subst e; cases hk; exact ⟨_, hb, fun l => rfl⟩
  · exact ⟨k, hk, fun l => rfl⟩
 have hO : ∀ r, Own β ((b, .var o v') :: h) r ↔ Own β h r := by
  intro r
  constructor
  · rintro ⟨b', k, l, h1, h2, h3, h4⟩
    obtain ⟨k0, g1, g2⟩ := get b' k h1
    exact ⟨b', k0, l, g1, h2, (g2 l).trans h3, h4⟩
  · rintro ⟨b', k, l, h1, h2, h3, h4⟩
    by_cases e : b' = b
    · subst e
      rw [hb] at h1; cases h1
      exact ⟨b', .var o v', l, by rw [hlk, if_pos rfl], h2, h3, h4⟩
    · exact ⟨b', k, l, by rw [hlk, if_neg e]; exact h1, h2, h3, h4⟩
 have hXX : XX c0.Z Y β ((b, .var o v') :: h) = XX c0.Z Y β h := by
  funext r
  simp only [XX, hO]
 refine ⟨β, Y, ⟨M.fresh, fun b' k hk => ?_, fun b1 b2 k1 k2 l1 l2 h1 h2 e1 e2 v1 v2 => ?_, fun r hr => M.own r ((hO r).1 hr), M.yy, M.zz, M.size, M.frame, M.os, M.tape, M.output, fun g t hg ht => by rw [hXX]; exact M.gl g t hg ht⟩, ⟨hs.1, fun t => by rw [hXX]; exact hs.2 t⟩, hN, hd⟩
 · rw [hXX]
   rw [hlk] at hk
   split at hk
   · rename_i e; subst e; cases hk
     obtain ⟨l, hl, cs, ty, lo, hi, g1, g2, g3, g4⟩ := M.blk b' _ hb
     exact ⟨l, hl, cs, ty, lo, hi, g1, g2, hv _ _ _ _ g3, g4⟩
   · exact M.blk b' k hk
 · obtain ⟨k1', g1, f1⟩ := get b1 k1 h1
   obtain ⟨k2', g2, f2⟩ := get b2 k2 h2
   exact M.inj b1 b2 k1' k2' l1 l2 g1 g2 e1 e2 ((f1 l1).trans v1) ((f2 l2).trans v2)
theorem jOut_sound {p : JP} {sl : Slots} {h : Heap} {n : Nat} {K : Slots → Heap → Prop} (hK : jOut p sl h K) {a : Act} {w : World} (D : DenJ c0 N sl h n a w) : ∃ sl' h', K sl' h' ∧ Den c0 N sl' h' n a w := by
 unfold jOut at hK
 split at hK
 case h_2 => exact hK.elim
 rename_i b2 bk s _ _
 split at hK
 case h_2 => exact hK.elim
 rename_i fs e
 refine ⟨_, _, hK, Den.lessVar (v := .agg fs) (v' := .agg (anyF bk fs)) (fun w X β cs h => anyF_ok (show relC w X fs β cs from h)) e (D.out fun t => ?_)⟩
 simp only [lk]
 cases h7 : Nat.beq 1000007 t with
 | true => exact .inl rfl
 | false =>
   cases h8 : Nat.beq 1000008 t with
   | true => exact .inl rfl
   | false =>
     cases h9 : Nat.beq 1000009 t with
     | true => exact .inl rfl
     | false => exact .inr ⟨rfl, (beq_ne h7).symm, (beq_ne h8).symm, (beq_ne h9).symm⟩
end
def exec1 (E : Env) (N : Nat) (cuts : List Nat) (jid : Nat) (p : JP) : Code → Slots → Heap → Nat → KX → Prop
 | .seq a b, sl, h, n, K => exec1 E N cuts jid p a sl h n fun e sl h n => match e with
   | .normal => exec1 E N cuts jid p b sl h n K
   | e => K e sl h n
 | .block id b, sl, h, n, K => match Nat.beq id jid with
   | true => (match Nat.blt jid 999999 with
     | true => jIn p sl h fun sl h => execJ E N cuts p (.block id b) sl h n fun e sl h n => jOut p sl h fun sl h => K e sl h n
     | false => False)
   | false => exP E N cuts (.block id b) sl h n (npK K)
 | c, sl, h, n, K => exP E N cuts c sl h n (npK K)
def code1 (E : Env) (N : Nat) (jid : Nat) (p : JP) : Code → Prop
 | .seq a b => code1 E N jid p a ∧ code1 E N jid p b
 | .block id b => match Nat.beq id jid with
   | true => (match Nat.blt jid 999999 with | true => codeJ E N p b | false => True)
   | false => codeP E N b
 | c => codeP E N c
def JH (E : Env) (N jid : Nat) (p : JP) : Prop := Nat.blt jid 999999 = true → JT E p ∧ p.tS < p.d ∧ p.ti < p.d ∧ p.ta < p.d ∧ p.d + 12 ≤ N
theorem ends_np {c : Cx} {N : Nat} {K : KX} {Q : Exit → Act → World → Prop} (hQ : ∀ e sl' h' n' a' w', K e sl' h' n' → Den c N sl' h' n' a' w' → Q e a' w') : Ends c N (npK K) Q :=
 ⟨fun e sl' h' n' a' w' hne k D' => hQ e sl' h' n' a' w' (by
  cases e with
  | panic ch => exact absurd rfl (hne ch)
  | outgrown => exact k.elim
  | _ => exact k) D', fun v sl' h' n' a' w' k D' => k.elim⟩
theorem exec1_sound {c0 : Cx} {N : Nat} (ok : EnvOK c0.E) {cuts : List Nat} {jid : Nat} {p : JP} (hj : JH c0.E N jid p) (hf0 : ∀ r, ¬ c0.F0 r) (hro : c0.ro = none ∧ c0.nm = false) : ∀ (code : Code) (sl : Slots) (h : Heap) (n : Nat) (K : KX), exec1 c0.E N cuts jid p code sl h n K → code1 c0.E N jid p code → ∀ (a : Act) (w : World), Den c0 N sl h n a w →
 ∀ Q : Exit → Act → World → Prop, (∀ e sl' h' n' a' w', K e sl' h' n' → Den c0 N sl' h' n' a' w' → Q e a' w') → code.wpIn (FR c0.ro) 0 c0.E.P Q a w
 | .seq x y, sl, h, n, K, hK, hc, a, w, D, Q, hQ => by
   simp only [exec1] at hK
   simp only [code1] at hc
   refine wpIn_seq (exec1_sound ok hj hf0 hro x sl h n _ hK hc.1 a w D _ ?_)
   intro e sl' h' n' a' w' k D'
   cases e with
   | normal => exact exec1_sound ok hj hf0 hro y sl' h' n' K k hc.2 a' w' D' Q hQ
   | _ => exact hQ _ _ _ _ _ _ k D'
 | .block id b, sl, h, n, K, hK, hc, a, w, D, Q, hQ => by
   simp only [exec1] at hK
   simp only [code1] at hc
   split at hK
   · rename_i e
     rw [e] at hc
     split at hK
     case h_2 => exact hK.elim
     rename_i e2
     simp only [e2] at hc
     obtain ⟨t, hp⟩ := hj e2
     obtain ⟨sl1, h1, hK, D1⟩ := jIn_sound hK hf0 D
     refine execJ_sound ok t hp (.block id b) sl1 h1 n _ hK hc a w D1 Q fun e sl' h' n' a' w' k D' => ?_
     obtain ⟨sl2, h2, k, D2⟩ := jOut_sound k D'
     exact hQ _ _ _ _ _ _ k D2
   · rename_i e
     rw [e] at hc
     exact exP_sound ok _ sl h n _ hK hc (.inl hro) a w D Q (ends_np hQ)
 | .skip, sl, h, n, K, hK, hc, a, w, D, Q, hQ => exP_sound ok _ sl h n _ hK hc (.inl hro) a w D Q (ends_np hQ)
 | .exit _, sl, h, n, K, hK, hc, a, w, D, Q, hQ => exP_sound ok _ sl h n _ hK hc (.inl hro) a w D Q (ends_np hQ)
 | .ret, sl, h, n, K, hK, hc, a, w, D, Q, hQ => exP_sound ok _ sl h n _ hK hc (.inl hro) a w D Q (ends_np hQ)
 | .cond .., sl, h, n, K, hK, hc, a, w, D, Q, hQ => exP_sound ok _ sl h n _ hK hc (.inl hro) a w D Q (ends_np hQ)
 | .region .., sl, h, n, K, hK, hc, a, w, D, Q, hQ => exP_sound ok _ sl h n _ hK hc (.inl hro) a w D Q (ends_np hQ)
 | .loop _, sl, h, n, K, hK, hc, a, w, D, Q, hQ => exP_sound ok _ sl h n _ hK hc (.inl hro) a w D Q (ends_np hQ)
 | .scope _, sl, h, n, K, hK, hc, a, w, D, Q, hQ => exP_sound ok _ sl h n _ hK hc (.inl hro) a w D Q (ends_np hQ)
 | .label _, sl, h, n, K, hK, hc, a, w, D, Q, hQ => exP_sound ok _ sl h n _ hK hc (.inl hro) a w D Q (ends_np hQ)
 | .goto _, sl, h, n, K, hK, hc, a, w, D, Q, hQ => exP_sound ok _ sl h n _ hK hc (.inl hro) a w D Q (ends_np hQ)
 | .refuse _, sl, h, n, K, hK, hc, a, w, D, Q, hQ => exP_sound ok _ sl h n _ hK hc (.inl hro) a w D Q (ends_np hQ)
 | .rangeFunc .., sl, h, n, K, hK, hc, a, w, D, Q, hQ => exP_sound ok _ sl h n _ hK hc (.inl hro) a w D Q (ends_np hQ)
end Go.Sx
