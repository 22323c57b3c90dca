/-
  xvalue.Union of two lists of whole numbers, SameInts.
-/
import Derived.Test.YtkikeacnbgjjlaaGreatDoorVp
import Derived.Test.YtkikeacnbgjjlaaGreatDoorVs
import Derived.Test.YtkikeacnbgjjlaaGreatDoorVt
import Derived.Lib.OwnBridge
namespace Go.Proofs.YtkikeacnbgjjlaaGreatDoor
open Go.RowKit Go.ChangeMaps
set_option linter.unusedSimpArgs false
/-- A list of whole numbers in a slice that the call made: nil, or a row. -/
def Ints (w : World) (v : Value) (l : List Int) : Prop := (v = .slice none 0 0 ∧ l = []) ∨ ∃ g c, v = .slice (some ⟨g, 0, none⟩) l.length c ∧ l.length ≤ c ∧ c ≤ maxLen ∧ g < w.heap.size ∧ ∀ (k : Nat) (x : Int), l[k]? = some x → w.cell? ⟨g, k, none⟩ = some (.int .i64 x)
def IntsPost (w : World) (r : List Int) (e : Ending) (w' : World) : Prop := ∃ v, e = .returned v ∧ Ints w' v r ∧ Below w.heap.size w w'
theorem Ints.below {w w' : World} {v : Value} {l : List Int} (h : Ints w v l) (hb : Below w.heap.size w w') : Ints w' v l := by
  rcases h with h | ⟨g, c, h1, h2, h3, h4, h5⟩
  · exact .inl h
  · exact .inr ⟨g, c, h1, h2, h3, Nat.lt_of_lt_of_le h4 hb.size, fun k x hx => (hb.cell h4).trans (h5 k x hx)⟩
theorem Ints.at {w : World} {v : Value} {l : List Int} (h : Ints w v l) : ∃ ao c, v = .slice ao l.length c ∧ IntsAt w ao c l := by
  rcases h with ⟨rfl, rfl⟩ | ⟨g, c, rfl, h2, h3, h4, h5⟩
  · exact ⟨none, 0, rfl, fun _ => ⟨rfl, rfl⟩, fun k x hx => by simp at hx⟩
  · refine ⟨_, c, rfl, ⟨fun e => by (cases e), fun k x hx => ⟨_, rfl, ?_, h4⟩⟩⟩
    have e1 : ({ block := g, off := 0 } : Addr).add k = ⟨g, k, none⟩ := by simp [Addr.add] <;> omega
    rw [e1]
    exact h5 k x hx
theorem ints_of_row {w : World} {base n : Nat} {v : Value} {l : List Int} (h : w.ownsRow base 3 1 v n (l.map (Value.int .i64))) : Ints w v l := by
  have hl : l.length = n := by simpa using h.1
  by_cases hv : v = .slice none 0 0
  · rcases h.2 with ⟨_, h0⟩ | ⟨g, cap, cur, e, _⟩
    · exact .inl ⟨hv, List.length_eq_zero_iff.1 (by omega)⟩
    · rw [hv] at e; cases e
  · obtain ⟨g, cap, rfl, _, hg, hn, hm, hz, hH⟩ := Lib.holds_of_ownsRow h hv
    subst hl
    refine .inr ⟨g, cap, rfl, hn, hm, hg, fun k x hx => ?_⟩
    obtain ⟨hk, hx2⟩ := List.getElem?_eq_some_iff.1 hx
    have := (hH k (by simpa using hk)).1
    rw [Nat.zero_add] at this
    rw [this]
    simp [getElem!_pos, hk, hx2]
theorem below_grow {B : Nat} {a w : World} (h : Below B a w) (hB : B ≤ w.heap.size) (os : Array Obj) : Below B a (Sort.grow w os) :=
  ⟨h.os, h.tape, h.output, by rw [Sort.size_grow]; have := h.size; omega, fun k hk => (Sort.heap_grow_old w os (by omega)).trans (h.block k hk)⟩
theorem ownsRow_base {w : World} {B B' : Nat} {e : TypeId} {g n cap : Nat} {us : List Value} (h : w.ownsRow B e 1 (.slice (some ⟨g, 0, none⟩) n cap) n us) (hB : B' ≤ g) : w.ownsRow B' e 1 (.slice (some ⟨g, 0, none⟩) n cap) n us := by
  refine ⟨h.1, ?_⟩
  rcases h.2 with ⟨e0, _⟩ | ⟨g', cap', cur, e0, _, rest⟩
  · cases e0
  · injection e0 with e1 _ e3
    injection e1 with e1
    injection e1 with e1
    subst e1; subst e3
    exact .inr ⟨g, cap, cur, rfl, hB, rest⟩
set_option maxRecDepth 20000 in
set_option maxHeartbeats 4000000 in
theorem union_any (ao bo : Option Addr) (c d : Nat) (xs ys : List Int) (w : World) (ha : IntsAt w ao c xs) (hb : IntsAt w bo d ys) (hx : xs.length ≤ 10000000) (hy : ys.length ≤ 10000000) :
    Calls Tryz.prog 14 #[.slice ao xs.length c, .slice bo ys.length d] w (IntsPost w (setL (xs ++ ys))) := by
  have HA := Lib.hid ha
  have HB := Lib.hid hb
  clear ha hb
  have hbw : Below w.heap.size w (w.alloc (.cells #[.slice ao xs.length c, .slice bo ys.length d] 26)) := (Below.refl _ _).alloc (Nat.le_refl _) _
  have hcc := concat_ints ao bo c d xs ys (w.alloc (.cells #[.slice ao xs.length c, .slice bo ys.length d] 26)) (IntsAt.below HA hbw) (IntsAt.below HB hbw) hx hy w.heap.size 2 (by simp) (by simp) (by simp)
  go_enter Tryz.func14, Tryz.ntmps14
  go_wp2_with fail
  refine hcc.mono ?_
  rintro e w1 ⟨v, rfl, hown, hb1⟩
  have hb1w : Below w.heap.size w w1 := hbw.trans (hb1.mono (by simp))
  have hL : (xs ++ ys).length = xs.length + ys.length := List.length_append
  have hS : (sortL (xs ++ ys)).length = xs.length + ys.length := by rw [List.length_mergeSort, hL]
  have hU : (Lib.compact (sortL (xs ++ ys))).length ≤ (sortL (xs ++ ys)).length := Lib.compact_length_le _
  clear hb1 hbw hcc
  by_cases hv : v = .slice none 0 0
  · subst hv
    have h0 : xs.length + ys.length = 0 ∧ xs ++ ys = [] := by
      rcases hown.2 with ⟨_, h0⟩ | ⟨g, cap, cur, e, _⟩
      · have h0' : xs ++ ys = [] := by simpa using h0
        refine ⟨?_, h0'⟩
        have := congrArg List.length h0'
        simpa using this
      · cases e
    obtain ⟨h0, h1⟩ := h0
    have hse : setL (xs ++ ys) = [] := by rw [h1, setL_nil]
    have HSE := Lib.hid hse
    clear hse h0 h1 hown hL hS hU
    go_wp2_with fail
    refine (Tryz.slices_Sort_int_none none 0 w1).mono ?_
    rintro e w2 ⟨rfl, rfl⟩
    go_wp2_with fail
    refine (Tryz.slices_Compact_int_empty none 0 w2).mono ?_
    rintro e w3 ⟨rfl, rfl⟩
    go_wp2
    go_ret
    exact ⟨_, rfl, .inl ⟨rfl, HSE.out⟩, hb1w⟩
  · obtain ⟨g, cap, rfl, hBg, hg, hn, hm, hz, hH⟩ := Lib.holds_of_ownsRow hown hv
    have hs1 := hb1w.size
    have hBg2 : w.heap.size ≤ g := by simp at hBg; omega
    have hsort := Tryz.slices_Sort_int g 0 cap (xs ++ ys) w1 hH hg (by omega)
    rw [hL] at hsort
    have hS' : (sortL (xs ++ ys)).length = xs.length + ys.length := hS
    go_wp2_with fail
    refine hsort.mono ?_
    rintro e w2 ⟨rfl, q, os, hw2⟩
    have hown1 : (Sort.putRow (Value.int .i64) (Sort.ahead w1 q) g 0 (sortL (xs ++ ys)).toArray).ownsRow w.heap.size 3 1 (.slice (some ⟨g, 0, none⟩) (xs.length + ys.length) cap) (xs.length + ys.length) ((sortL (xs ++ ys)).map (Value.int .i64)) := by
      have := Lib.ownsRow_putRow (q := q) (ys := sortL (xs ++ ys)) (ownsRow_base hown hBg2) hS' (Nat.le_refl _)
      rwa [List.take_of_length_le (Nat.le_of_eq hS')] at this
    have hb2 : Below w.heap.size w (Sort.putRow (Value.int .i64) (Sort.ahead w1 q) g 0 (sortL (xs ++ ys)).toArray) := Lib.below_putRow hb1w hBg2
    have hown2 : w2.ownsRow w.heap.size 3 1 (.slice (some ⟨g, 0, none⟩) (xs.length + ys.length) cap) (xs.length + ys.length) ((sortL (xs ++ ys)).map (Value.int .i64)) := by
      rw [hw2]
      exact World.ownsRow.kept hown1 (row := none) ⟨rfl, rfl, rfl, by simp, fun k hk _ => Sort.heap_grow_old _ os hk⟩ (Classical.em _)
    have hb2' : Below w.heap.size w w2 := by
      rw [hw2]
      exact below_grow hb2 hb2.size os
    clear hown1 hb2 hw2 hown hsort hb1w hH
    obtain ⟨g', cap', he, hBg', hg', hn', hm', hz', hH'⟩ := Lib.holds_of_ownsRow hown2 (by simp)
    obtain ⟨rfl, rfl⟩ : g = g' ∧ cap = cap' := by simpa using he
    have hcomp := Tryz.slices_Compact_int g 0 cap (sortL (xs ++ ys)) w2 hH' (by omega) (by omega)
    rw [hS'] at hcomp
    go_wp2_with fail
    refine hcomp.mono ?_
    rintro e w3 ⟨rfl, q3, rfl⟩
    go_wp2
    go_ret
    refine ⟨_, rfl, ?_, Lib.below_putRow hb2' hBg2⟩
    refine ints_of_row (base := w.heap.size) (n := (Lib.compact (sortL (xs ++ ys))).length) ?_
    have hU' : (Lib.compact (sortL (xs ++ ys))).length ≤ xs.length + ys.length := by rw [← hS']; exact hU
    have := Lib.ownsRow_putRow (q := q3) (k := (Lib.compact (sortL (xs ++ ys))).length) (ys := Lib.compact (sortL (xs ++ ys)) ++ List.replicate ((xs.length + ys.length) - (Lib.compact (sortL (xs ++ ys))).length) 0) hown2 (by rw [List.length_append, List.length_replicate]; omega) hU'
    rw [List.take_left'] at this
    · exact this
    · rfl
end Go.Proofs.YtkikeacnbgjjlaaGreatDoor
