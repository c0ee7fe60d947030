/-
  WHAT A ROW LISTS, AS A SYMBOLIC VALUE: a slice of strings that is a package-level variable. Generic: no program in sight. An own text.
  strings.Join AND strings.Split (at one byte) AS HOOKS OF CLOSED RUNS. Over any program that bears the shelf's layings. An own text.
-/
import Derived.Test.YtbhkopbgjnpcpaaGreatDoorD2
import Derived.Lib.LaidU8
import Derived.Shelf.Strings.OnBuilder
import Derived.Shelf.Strings.Split
namespace Go.Sx
theorem add_zero (a : Addr) : a.add 0 = a := by simp [Addr.add]
theorem add_at {a : Addr} (h : a.spot = none) (i : Nat) : a.add i = ⟨a.block, a.off + i, none⟩ := by
 obtain ⟨b, o, sp⟩ := a
 simp at h; subst h
 simp only [Addr.add]
 split
 · rename_i e; subst e; rfl
 · rfl
theorem cell_spot {w : World} {a : Addr} {v : Value} (h : w.cell? a = some v) : a.spot = none ∧ a.block < w.heap.size := by
 simp only [World.cell?] at h
 split at h
 · rename_i e1
   refine ⟨?_, heap_lt e1⟩
   cases hs : a.spot with
   | none => rfl
   | some s => rw [hs] at h; simp at h
 · cases h
theorem relR_strs {w : World} {X : Nat → Prop} : ∀ (ss : List (List UInt8)), relR w X 1 (ss.map .str) nob (ss.map fun s => Value.string ⟨s.toArray⟩)
 | [] => by simp [relR_nil]
 | s :: r => by
   simp only [List.map_cons]
   rw [relR_cons]
   exact ⟨[.string ⟨s.toArray⟩], _, rfl, rfl, by simp only [relP], relR_strs r⟩
theorem laid_strs {P : Program} {w : World} {n : String} {ss : List (List UInt8)} (h : Lib.VarReads P w n (.slice (ss.map fun s => .lit (.string s)) [])) {g : Nat} {t e : TypeId} (hg : P.globalNamed n = some g) (ht : (P.globals[g]?).map (·.type) = some t)
 (hu : P.underlying t = some (.slice e)) (hs : P.underlying e = some .string) (hc : P.cellsOf e = 1) :
 relP w (fun _ => False) (.iptr (.sl 1 (ss.map .str))) nob [.pointer (some ⟨g, 0, none⟩)] := by
 obtain ⟨g', t', cs, fuel, p, h1, h2, h3, h4⟩ := h
 rw [hg] at h1; cases h1
 rw [ht] at h2; cases h2
 simp only [World.var?, hg, Option.bind_some] at h3
 have hh : ∃ ty fz, w.heap[g]? = some (.cells cs ty fz) := by
  split at h3
  · rename_i e1; cases h3; exact ⟨_, _, e1⟩
  · cases h3
 obtain ⟨ty, fz, hh⟩ := hh
 rcases DataW.trod_slice hu h4 with ⟨_, hx⟩ | ⟨a, len, cap, elems, rest, m, rfl, hcs, hx, _, hle, _, hel, hat, _⟩
 · cases hx
 have hd : elems.map (·.1) = ss.map fun s => (DataW.lit (.string s) : DataW Unit) := by
  have := congrArg Prod.fst hx
  simp at this
  exact this.1.symm
 have hlen : len = ss.length := by
  have := congrArg List.length hd
  simp at this; omega
 have hcell : ∀ i s, ss[i]? = some s → w.cell? (a.add i) = some (.string ⟨s.toArray⟩) := by
  intro i s hi
  have hlt : i < len := by
   rw [hlen]
   rcases Nat.lt_or_ge i ss.length with g | g
   · exact g
   · rw [List.getElem?_eq_none g] at hi; cases hi
  have k := hat i hlt
  rw [hc, Nat.mul_one] at k
  have he : ∃ b, elems[i]? = some b := ⟨elems[i]'(by omega), List.getElem?_eq_getElem (by omega)⟩
  obtain ⟨b, he⟩ := he
  rw [he] at k
  obtain ⟨c1, k1, k2⟩ := Option.bind_eq_some_iff.1 k
  obtain ⟨s', rfl, rfl, _⟩ := DataW.trod_string hs k2
  have hb : (elems.map (·.1))[i]? = some (.lit (.string s'.data.toList)) := by simp [he]
  rw [hd] at hb
  simp only [List.getElem?_map, hi, Option.map_some, Option.some.injEq, DataW.lit.injEq, Lit.string.injEq] at hb
  subst hb
  simp only [World.cells?] at k1
  split at k1
  · have k3 : w.cell? ((a.add i).add 0) = some (.string s') := by
     cases hcc : w.cell? ((a.add i).add 0) with
     | none => simp [List.range, List.range.loop, hcc] at k1
     | some v => simpa [List.range, List.range.loop, hcc] using k1
    rw [add_zero] at k3
    exact k3
  · cases k1
 simp only [relP]
 refine ⟨g, 0, cs.toList, rfl, id, heap_lt hh, fun j v hj => ?_, a, cap, ?_, by simpa [← hlen] using hle, ?_⟩
 · have : cs[j]? = some v := by simpa using hj
   simp only [World.cell?, hh, Nat.zero_add]
   simpa using this
 · rw [hcs]; simp [hlen]
 · cases hss : ss with
   | nil => exact .inl rfl
   | cons s r =>
     right
     have h0 := hcell 0 s (by rw [hss]; rfl)
     rw [add_zero] at h0
     obtain ⟨hsp, hblk⟩ := cell_spot h0
     rw [← hss]
     refine ⟨a.block, a.off, ss.map fun s => Value.string ⟨s.toArray⟩, ?_, id, hblk, fun j v hj => ?_, relR_strs ss⟩
     · obtain ⟨b, o, sp⟩ := a; simp at hsp; subst hsp; rfl
     · simp only [List.getElem?_map, Option.map_eq_some_iff] at hj
       obtain ⟨s', h1, rfl⟩ := hj
       have := hcell j s' h1
       rw [add_at hsp] at this
       exact this
end Go.Sx
set_option linter.unusedVariables false
namespace Go.Sx
open Go.RowKit (Below)
open Go.Shelf Go.Proofs
variable {P : Program} {ρ : Ren}
def joinT : List (List UInt8) → List UInt8 → List UInt8
 | [], _ => []
 | x :: r, s => s ++ (x ++ joinT r s)
def joinL : List (List UInt8) → List UInt8 → List UInt8
 | [], _ => []
 | x :: r, s => x ++ joinT r s
def unStr {R : Sort _} : List SV → (List (List UInt8) → R) → R → R
 | [], K, _ => K []
 | v :: r, K, z => match v with
   | .str s => unStr r (fun l => K (s :: l)) z
   | _ => z
def joinH : List SV → Rt
 | [.sl sz xs, .str s] => (match Nat.beq sz 1 with
   | true => unStr xs (fun l => match Nat.ble l.length 1000000, Nat.ble (joinL l s).length 1000000 with | true, true => some (.str (joinL l s)) | _, _ => none) none
   | false => none)
 | _ => none
def splitL (c : UInt8) : List UInt8 → List UInt8 → List (List UInt8)
 | [], cur => [cur.reverse]
 | x :: r, cur => match Nat.beq x.toNat c.toNat with
   | true => cur.reverse :: splitL c r []
   | false => splitL c r (x :: cur)
theorem splitK_ne {b c : UInt8} (l : List UInt8) (h : b ≠ c) : ∀ k, k ≤ Lib.count l [c] → ∃ p r, Lib.splitK [c] 0 k l = p :: r ∧ Lib.splitK [c] 0 k (b :: l) = (b :: p) :: r := by
 intro k hk
 have hp : ([c] : List UInt8).isPrefixOf (b :: l) = false := by simp [List.isPrefixOf, Ne.symm h]
 have hix : Lib.index (b :: l) [c] = if Lib.index l [c] == -1 then -1 else Lib.index l [c] + 1 := by rw [Lib.index, hp]; simp
 cases k with
 | zero => exact ⟨l, [], rfl, rfl⟩
 | succ k =>
   by_cases hm : Lib.index l [c] = -1
   · rw [Lib.count_miss hm] at hk; omega
   · have hge := Lib.index_ge l [c]
     obtain ⟨j, hj⟩ : ∃ j : Nat, Lib.index l [c] = j := ⟨(Lib.index l [c]).toNat, by omega⟩
     have hix' : Lib.index (b :: l) [c] = ((j + 1 : Nat) : Int) := by rw [hix, if_neg (fun e => hm (beq_iff_eq.1 e)), hj]; omega
     refine ⟨_, _, by rw [Lib.splitK, if_neg (by rw [hj]; intro e; have := beq_iff_eq.1 e; omega), hj], ?_⟩
     rw [Lib.splitK, if_neg (by rw [hix']; intro e; have := beq_iff_eq.1 e; omega), hix']
     have e1 : ((j + 1 : Nat) : Int).toNat = j + 1 := by omega
     have e2 : ((j : Nat) : Int).toNat = j := by omega
     rw [e1, e2]
     simp
theorem splitL_eq (c : UInt8) : ∀ (s cur : List UInt8), ∃ p r, Lib.splitK [c] 0 (Lib.count s [c]) s = p :: r ∧ splitL c s cur = (cur.reverse ++ p) :: r
 | [], cur => ⟨[], [], by rw [Lib.count_miss (by simp [Lib.index])]; rfl, by simp [splitL]⟩
 | b :: l, cur => by
   by_cases h : b = c
   · subst h
     have hix : Lib.index (b :: l) [b] = ((0 : Nat) : Int) := by rw [Lib.index]; simp [List.isPrefixOf]
     obtain ⟨p, r, h1, h2⟩ := splitL_eq b l []
     refine ⟨[], p :: r, ?_, ?_⟩
     · rw [Lib.count_cons_eq, Nat.add_comm, Lib.splitK, if_neg (by rw [hix]; decide), hix]
       simp only [Int.toNat_natCast, Nat.add_zero, List.take_zero, List.length_singleton, Nat.zero_add, List.drop_succ_cons, List.drop_zero]
       rw [h1]
     · simp [splitL, h2]
   · rw [Lib.count_cons_ne b c l h]
     obtain ⟨p, r, h1, h2⟩ := splitK_ne l h _ (Nat.le_refl _)
     obtain ⟨p', r', h3, h4⟩ := splitL_eq c l (b :: cur)
     rw [h1] at h3
     cases h3
     refine ⟨b :: p, r, h2, ?_⟩
     have hb : Nat.beq b.toNat c.toNat = false := by
      cases hh : Nat.beq b.toNat c.toNat with
      | false => rfl
      | true => exact absurd (UInt8.toNat_inj.1 (Nat.eq_of_beq_eq_true hh)) h
     simp only [splitL, hb]
     rw [h4]; simp
theorem split_one (L : Lays.n146 P ρ) (hi9 : (P.info? (ρ.t 9)).map (fun i => (i.zero, i.size, i.bytes)) = some (some (.string ByteArray.empty), 1, 16)) (s : ByteArray) (c : UInt8) (w : World) (hs : s.size < 4294967281) :
 Calls P (ρ.f 146) #[.string s, .string ⟨#[c]⟩] w fun e w' =>
  e = .returned (.slice (some ⟨w.heap.size, 0, none⟩) (Lib.countB s ⟨#[c]⟩ + 1) (Lib.countB s ⟨#[c]⟩ + 1)) ∧ w' = w.alloc (.cells ((Lib.splitB ⟨#[c]⟩ 0 (Lib.countB s ⟨#[c]⟩) s).map Value.string).toArray (ρ.t 9)) := by
 have h1 : 1 ≤ (⟨#[c]⟩ : ByteArray).size := by simp [ByteArray.size]
 have hle := Lib.countB_le ⟨#[c]⟩ h1 s.size s (Nat.le_refl _)
 have hlen := Lib.splitB_all ⟨#[c]⟩ h1 0 _ s rfl
 have c0 := Any.strings_genSplit_core (P := P) (ρ := ρ) { L with } hi9 s ⟨#[c]⟩ 0 (-1) (Lib.countB s ⟨#[c]⟩ + 1) w hs h1 (Nat.zero_le _)
  (fun x cc hx => (Any.strings_Index_one { L with } x c (w.alloc (.cells cc (ρ.t 9)))).mono fun e w' ⟨he, hw⟩ => ⟨by rw [he]; show _ = Ending.returned (Value.int .i64 (Lib.index x.data.toList [c])); rw [Lib.index_one], hw⟩)
  ((Any.strings_Count_one { L with } s c w).mono fun e w' ⟨he, hw⟩ => ⟨by rw [he]; show _ = Ending.returned (Value.int .i64 ((Lib.count s.data.toList [c] : Nat) : Int)); rw [Lib.count_one]; rfl, hw⟩)
  (by decide) (by decide) (by rw [if_pos (by decide)]; omega)
 have cc := c0
 rw [Nat.add_sub_cancel, hlen] at cc
 have e2 : Lib.cellsOf (Lib.splitB ⟨#[c]⟩ 0 (Lib.countB s ⟨#[c]⟩) s) (Lib.countB s ⟨#[c]⟩ + 1) = ((Lib.splitB ⟨#[c]⟩ 0 (Lib.countB s ⟨#[c]⟩) s).map Value.string).toArray := by rw [← hlen]; exact Lib.cellsOf_full _
 rw [e2] at cc
 have t3 := L.t3; have t9 := L.t9; have t31 := L.t31
 have a3 := L.a3; have a9 := L.a9; have a31 := L.a31
 have z3 := L.z3; have v3 := L.v3; have z9 := L.z9; have v9 := L.v9; have z31 := L.z31; have v31 := L.v31
 have e221 : ∀ args w, (callFunc (ρ.f 221) args).run P w = .ok (.enter (ρ.f 221) args) w := enters_of L.f221 (by kernel_rfl) rfl
 go_enter L.f146, Body.n146_ntmps ρ
 go_wp2_with (go_at_fn (ρ.f 221); refine cc.mono ?_; rintro e w' ⟨rfl, hw⟩; rw [hw])
 go_ret
 exact ⟨rfl, rfl⟩
def splitH : List SV → Rt
 | [.str s, .str [c]] => (match Nat.ble s.length 1000000 with | true => some (.sl 1 ((splitL c s []).map .str)) | false => none)
 | _ => none
theorem ret_Split {E : Env} (L : Lays.n146 E.P ρ) (hi9 : (E.P.info? (ρ.t 9)).map (fun i => (i.zero, i.size, i.bytes)) = some (some (.string ByteArray.empty), 1, 16)) (hcal : Callable E.P (ρ.f 146)) {az : List SV} {r : SV} (h : splitH az = some r) : Ret E (ρ.f 146) az r := by
 unfold splitH at h
 split at h
 case h_2 => cases h
 rename_i s c
 split at h
 case h_2 => cases h
 rename_i e
 rw [Nat.ble_eq] at e
 cases h
 refine ⟨hcal, fun w X0 us hg hr => ?_⟩
 obtain ⟨u, us', hu, h1, h2⟩ := relL_cons.1 hr
 obtain ⟨u2, us2, rfl, h3, h4⟩ := relL_cons.1 h2
 obtain rfl := relL_nil.1 h4
 rw [relV_leaf rfl (by simp)] at h1 h3
 simp only [relP, List.cons.injEq, and_true] at h1 h3
 subst h1 h3
 obtain rfl : us = #[.string ⟨s.toArray⟩, .string ⟨#[c]⟩] := Array.toList_inj.1 (by rw [hu])
 refine (split_one L hi9 ⟨s.toArray⟩ c w (by simp [ByteArray.size]; omega)).mono ?_
 rintro e w' ⟨rfl, rfl⟩
 have hX : ∀ k, X0 k → k < w.heap.size := hg.1
 have h1 : 1 ≤ (⟨#[c]⟩ : ByteArray).size := by simp [ByteArray.size]
 have hlen := Lib.splitB_all ⟨#[c]⟩ h1 0 _ ⟨s.toArray⟩ rfl
 have hd := Lib.splitB_data ⟨#[c]⟩ 0 (Lib.countB ⟨s.toArray⟩ ⟨#[c]⟩) ⟨s.toArray⟩
 have e0 : Lib.countB ⟨s.toArray⟩ ⟨#[c]⟩ = Lib.count s [c] := by simp [Lib.countB]
 obtain ⟨p, q, g1, g2⟩ := splitL_eq c s []
 have hsp : (Lib.splitB ⟨#[c]⟩ 0 (Lib.countB ⟨s.toArray⟩ ⟨#[c]⟩) ⟨s.toArray⟩).map (·.data.toList) = splitL c s [] := by
  rw [hd, g2]
  simp only [List.reverse_nil, List.nil_append]
  rw [← g1, e0]
 have hl2 : (splitL c s []).length = Lib.countB ⟨s.toArray⟩ ⟨#[c]⟩ + 1 := by rw [← hsp, List.length_map, hlen]
 refine ⟨_, rfl, (Below.refl _ _).alloc (Nat.le_refl _) _, rel_sl.2 ⟨_, _, by rw [List.length_map, hl2], by rw [List.length_map, hl2]; exact Nat.le_refl _, .inr ⟨w.heap.size, 0, _, rfl, fun hx => by have := hX _ hx; omega, by simp, ?_, relR_strs _⟩⟩⟩
 intro j v hv
 have hh : (w.alloc (.cells ((Lib.splitB ⟨#[c]⟩ 0 (Lib.countB ⟨s.toArray⟩ ⟨#[c]⟩) ⟨s.toArray⟩).map Value.string).toArray (ρ.t 9))).heap[w.heap.size]? = some (.cells ((Lib.splitB ⟨#[c]⟩ 0 (Lib.countB ⟨s.toArray⟩ ⟨#[c]⟩) ⟨s.toArray⟩).map Value.string).toArray (ρ.t 9)) := heap_alloc_new w _
 rw [Lib.cell_of_heap hh]
 rw [← hsp] at hv
 simp only [List.map_map, List.getElem?_map, Function.comp_def] at hv
 simp only [Nat.zero_add, List.getElem?_toArray, List.getElem?_map]
 cases hq : (Lib.splitB ⟨#[c]⟩ 0 (Lib.countB ⟨s.toArray⟩ ⟨#[c]⟩) ⟨s.toArray⟩)[j]? with
 | none => rw [hq] at hv; cases hv
 | some x => rw [hq] at hv; simp only [Option.map_some, Option.some.injEq] at hv ⊢; rw [← hv]
end Go.Sx
