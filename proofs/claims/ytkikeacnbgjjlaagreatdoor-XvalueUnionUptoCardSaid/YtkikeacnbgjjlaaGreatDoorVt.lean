/-
  Plain law: the sorted list without doubles of a list of whole numbers.
-/
import Derived.Lib.RowBridge
namespace Go.Proofs.YtkikeacnbgjjlaaGreatDoor
open Go.Sort
theorem compact_mem (zs : List Int) (x : Int) : x ∈ Lib.compact zs ↔ x ∈ zs := by
  unfold Lib.compact Lib.compactUpTo
  rw [List.mem_map]
  constructor
  · rintro ⟨j, hj, rfl⟩
    have hlt : j < zs.length := List.mem_range.1 (List.mem_filter.1 hj).1
    simp [getElem!_pos, hlt]
  · intro hx
    obtain ⟨i, hi, rfl⟩ := List.getElem_of_mem hx
    have key : ∀ i (hi : i < zs.length), ∃ j, j ∈ (List.range zs.length).filter (Lib.keeps zs.toArray) ∧ zs.toArray[j]! = zs[i] := by
      intro i
      induction i with
      | zero =>
        intro hi
        refine ⟨0, List.mem_filter.2 ⟨List.mem_range.2 hi, by simp [Lib.keeps]⟩, ?_⟩
        simp [getElem!_pos, hi]
      | succ i ih =>
        intro hi
        by_cases hk : Lib.keeps zs.toArray (i + 1) = true
        · refine ⟨i + 1, List.mem_filter.2 ⟨List.mem_range.2 hi, hk⟩, ?_⟩
          simp [getElem!_pos, hi]
        · obtain ⟨j, hj, e⟩ := ih (by omega)
          refine ⟨j, hj, e.trans ?_⟩
          have hi' : i < zs.length := by omega
          simp only [Lib.keeps, decide_eq_true_eq, Nat.add_sub_cancel] at hk
          have e2 : zs.toArray[i + 1]! = zs.toArray[i]! := by
            apply Classical.byContradiction
            intro hne
            exact hk (.inr hne)
          simp [getElem!_pos, hi, hi'] at e2
          exact e2.symm
    exact key i hi
theorem compact_strict (zs : List Int) (h : zs.Pairwise (· ≤ ·)) : (Lib.compact zs).Pairwise (· < ·) := by
  unfold Lib.compact Lib.compactUpTo
  rw [List.pairwise_map]
  refine (List.Pairwise.filter _ (List.pairwise_lt_range (n := zs.length))).imp_of_mem ?_
  intro a b ha hb hlt
  have h1 : a < zs.length := List.mem_range.1 (List.mem_filter.1 ha).1
  have h2 : b < zs.length := List.mem_range.1 (List.mem_filter.1 hb).1
  have hk := (List.mem_filter.1 hb).2
  have h3 : b - 1 < zs.length := by omega
  simp only [Lib.keeps, decide_eq_true_eq] at hk
  rcases hk with hk | hk
  · omega
  · simp [getElem!_pos, h2, h3] at hk
    simp only [List.getElem!_toArray, getElem!_pos, h1, h2]
    have hp := List.pairwise_iff_getElem.1 h
    have e1 : zs[b - 1] ≤ zs[b] := hp _ _ h3 h2 (by omega)
    have e2 : zs[a] ≤ zs[b - 1] := by
      by_cases e : a = b - 1
      · subst e
        exact Int.le_refl _
      · exact hp _ _ h1 h3 (by omega)
    omega
theorem strict_ext : ∀ (a b : List Int), a.Pairwise (· < ·) → b.Pairwise (· < ·) → (∀ x, x ∈ a ↔ x ∈ b) → a = b
  | [], [], _, _, _ => rfl
  | [], y :: b, _, _, h => by have := (h y).2 (List.mem_cons_self ..); cases this
  | x :: a, [], _, _, h => by have := (h x).1 (List.mem_cons_self ..); cases this
  | x :: a, y :: b, ha, hb, h => by
    rw [List.pairwise_cons] at ha hb
    have e : x = y := by
      have h1 := (h x).1 (List.mem_cons_self ..)
      have h2 := (h y).2 (List.mem_cons_self ..)
      rcases List.mem_cons.1 h1 with h1 | h1
      · exact h1
      · rcases List.mem_cons.1 h2 with h2 | h2
        · exact h2.symm
        · have := ha.1 y h2
          have := hb.1 x h1
          omega
    subst e
    congr 1
    refine strict_ext a b ha.2 hb.2 fun z => ⟨fun hz => ?_, fun hz => ?_⟩
    · have h1 := (h z).1 (List.mem_cons_of_mem _ hz)
      rcases List.mem_cons.1 h1 with h1 | h1
      · have := ha.1 z hz
        omega
      · exact h1
    · have h1 := (h z).2 (List.mem_cons_of_mem _ hz)
      rcases List.mem_cons.1 h1 with h1 | h1
      · have := hb.1 z hz
        omega
      · exact h1
abbrev sortL (l : List Int) : List Int := l.mergeSort fun x y => decide (x ≤ y)
/-- The numbers of a list, rising, each once. -/
def setL (l : List Int) : List Int := Lib.compact (sortL l)
theorem mem_setL (l : List Int) (x : Int) : x ∈ setL l ↔ x ∈ l := by
  unfold setL sortL
  rw [compact_mem, List.mem_mergeSort]
theorem setL_strict (l : List Int) : (setL l).Pairwise (· < ·) := by
  unfold setL
  apply compact_strict
  have := List.pairwise_mergeSort (le := fun x y : Int => decide (x ≤ y)) (fun a b c h1 h2 => by simp at *; omega) (fun a b => by simp; omega) l
  exact this.imp fun h => by simpa using h
theorem setL_length (l : List Int) : (setL l).length ≤ l.length := by
  have := Lib.compact_length_le (sortL l)
  unfold sortL at this
  rw [List.length_mergeSort] at this
  exact this
theorem setL_ext {a b : List Int} (h : ∀ x, x ∈ a ↔ x ∈ b) : setL a = setL b :=
  strict_ext _ _ (setL_strict a) (setL_strict b) fun x => by rw [mem_setL, mem_setL, h]
theorem setL_nil : setL [] = [] := by
  have := setL_length []
  exact List.length_eq_zero_iff.1 (Nat.le_zero.1 this)
theorem setL_of (l : List Int) (h : l.Pairwise (· < ·)) : setL l = l := strict_ext _ _ (setL_strict l) h fun x => mem_setL l x
theorem union_comm (a b : List Int) : setL (a ++ b) = setL (b ++ a) := setL_ext fun x => by simp [or_comm]
theorem union_self (a : List Int) : setL (setL a ++ setL a) = setL a := setL_ext fun x => by simp [mem_setL]
theorem union_assoc (a b c : List Int) : setL (setL (a ++ b) ++ c) = setL (a ++ setL (b ++ c)) := setL_ext fun x => by simp [mem_setL, or_assoc]
/-- One more number, put where it belongs. -/
theorem set_add_old (p : List Int) (n : Int) (k : Nat) (h : (setL p)[k]? = some n) : setL (p ++ [n]) = setL p := by
  have hn : n ∈ p := (mem_setL p n).1 (List.mem_of_getElem? h)
  refine setL_ext fun x => ?_
  simp
  rintro rfl
  exact hn
theorem set_add_new (p : List Int) (n : Int) (k : Nat) (h1 : ∀ j x, k ≤ j → (setL p)[j]? = some x → n < x) (h2 : ∀ x, 0 < k → (setL p)[k - 1]? = some x → x < n) (hk : k ≤ (setL p).length) :
    setL (p ++ [n]) = (setL p).take k ++ n :: (setL p).drop k := by
  refine strict_ext _ _ (setL_strict _) ?_ ?_
  · have hs := setL_strict p
    rw [List.pairwise_append]
    refine ⟨hs.take, ?_, ?_⟩
    · rw [List.pairwise_cons]
      refine ⟨fun y hy => ?_, hs.drop⟩
      obtain ⟨j, hj⟩ := List.getElem?_of_mem hy
      rw [List.getElem?_drop] at hj
      exact h1 _ y (by omega) hj
    · intro x hx y hy
      obtain ⟨i, hi⟩ := List.getElem?_of_mem hx
      rw [List.getElem?_take] at hi
      split at hi
      · rename_i hik
        have hk1 : k - 1 < (setL p).length := by omega
        have hxn : x < n := by
          have h3 := h2 _ (by omega) (List.getElem?_eq_getElem hk1)
          obtain ⟨hi', hi2⟩ := List.getElem?_eq_some_iff.1 hi
          by_cases e : i = k - 1
          · subst e
            omega
          · have := List.pairwise_iff_getElem.1 hs i (k - 1) hi' hk1 (by omega)
            omega
        rcases List.mem_cons.1 hy with rfl | hy
        · exact hxn
        · obtain ⟨j, hj⟩ := List.getElem?_of_mem hy
          rw [List.getElem?_drop] at hj
          have := h1 _ y (by omega) hj
          omega
      · cases hi
  · intro x
    rw [mem_setL]
    simp only [List.mem_append, List.mem_cons, List.not_mem_nil, or_false]
    rw [← mem_setL p x]
    conv => lhs; rw [← List.take_append_drop k (setL p)]
    rw [List.mem_append]
    constructor
    · rintro ((h | h) | h)
      · exact .inl h
      · exact .inr (.inr h)
      · exact .inr (.inl h)
    · rintro (h | h | h)
      · exact .inl (.inl h)
      · exact .inr h
      · exact .inl (.inr h)
end Go.Proofs.YtkikeacnbgjjlaaGreatDoor
