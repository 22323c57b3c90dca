/-
  SameInts; the reference's add and Union of lists of whole numbers.
-/
import Derived.Test.YtkikeacnbgjjlaaGreatDoorVq
import Derived.Deep.QuietTactic
import Derived.BigQuiet
namespace Go.Proofs.YtkikeacnbgjjlaaGreatDoor
open Go.RowKit Go.ChangeMaps
set_option linter.unusedSimpArgs false
set_option maxRecDepth 20000 in
set_option maxHeartbeats 2000000 in
/-- Two slices of the same numbers are the same. -/
theorem sameInts_eq (ao bo : Option Addr) (c d : Nat) (l : List Int) (w : World) (ha : IntsAt w ao c l) (hb : IntsAt w bo d l) (hl : l.length ≤ 100000000) :
    Calls Tryz.prog 15 #[.slice ao l.length c, .slice bo l.length d] w (RetPost (.bool true) w) := by
  have HA := Lib.hid ha
  have HB := Lib.hid hb
  clear ha hb
  go_enter Tryz.func15, Tryz.ntmps15
  go_wp2_with fail
  go_loopg [5] l.length (fun gk i wx => ∃ k : Nat, k + gk = l.length ∧ i = .int .i64 k ∧ Below w.heap.size w wx)
  case atStart => exact ⟨0, by simp, rfl, Below.refl _ _⟩
  case round =>
    obtain ⟨k, hk, rfl, hbw⟩ := hrel
    have hsz := hbw.size
    by_cases hlt : k < l.length
    · obtain ⟨x, hx⟩ : ∃ x, l[k]? = some x := ⟨_, List.getElem?_eq_getElem hlt⟩
      obtain ⟨a1, rfl, c1, l1⟩ := (HA.out.below hbw).2 k x hx
      obtain ⟨a2, rfl, c2, l2⟩ := (HB.out.below hbw).2 k x hx
      have hltz : (k : Int) < (l.length : Int) := by omega
      have hne : (x != x) = false := by simp
      clear hx
      go_wp2_with fail
      go_quiet (fail)
      go_wp2_with fail
      go_roundg (gk - 1)
      case measure => omega
      case rel => exact ⟨k + 1, by omega, by go_num, below_drewN hbw _⟩
    · have hkl : k = l.length := by omega
      subst hkl
      go_wp2
      go_ret
      exact ⟨rfl, hbw⟩
end Go.Proofs.YtkikeacnbgjjlaaGreatDoor
