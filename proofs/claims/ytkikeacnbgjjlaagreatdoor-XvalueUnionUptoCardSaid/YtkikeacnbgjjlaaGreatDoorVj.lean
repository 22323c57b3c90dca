/-
  The laws' helper text: a string function's answer through Call.
-/
import Derived.Test.YtkikeacnbgjjlaaGreatDoorVi
import Derived.Laws.AppendOwn
import Derived.OwnWalk
namespace Go.Proofs.YtkikeacnbgjjlaaGreatDoor
open Go.RowKit Go.ChangeMaps
set_option linter.unusedSimpArgs false
theorem grown_below {B : Nat} {a w w' : World} {row : Option Nat} (h : Below B a w) (hg : w.grownBy w' row) (hrow : ∀ k, row = some k → B ≤ k) (hB : B ≤ w.heap.size) : Below B a w' :=
  h.trans ⟨hg.os, hg.tape, hg.output, hg.size, fun k hk => hg.block k (by omega) (fun e => by have := hrow k e.symm; omega)⟩
/-- A row of values that the call owns, as arguments. -/
theorem argsIn_row {w : World} {B : Nat} {v : Value} {L : List VV} (h : w.ownsRow B 31 6 v L.length (L.flatMap VV.cells)) (hL : L ≠ []) : ∃ b c, v = .slice (some ⟨b, 0, none⟩) L.length c ∧ B ≤ b ∧ ArgsIn w b L := by
  obtain ⟨hzl, ⟨_, h0⟩ | ⟨g, cap, cur, hv, hB, hg, hn, _, hs, ht⟩⟩ := h
  · exact absurd (List.length_eq_zero_iff.1 h0) hL
  · refine ⟨g, cap, hv, hB, (Array.getElem?_eq_some_iff.1 hg).1, fun i x hx => ?_⟩
    have key : ∀ j, j < 6 → (L.flatMap VV.cells)[i * 6 + j]? = x.cells[j]? := by
      intro j hj
      clear hB hg hn ht hs hv hL hzl
      induction L generalizing i with
      | nil => simp at hx
      | cons y l ih =>
        cases i with
        | zero =>
          simp at hx
          subst hx
          rw [List.flatMap_cons, List.getElem?_append_left (by simp; omega)]
          simp
        | succ i =>
          rw [List.flatMap_cons, List.getElem?_append_right (by simp; omega)]
          simp at hx
          have := ih i hx
          rw [← this]
          congr 1
          simp
          omega
    have hi : i < L.length := (List.getElem?_eq_some_iff.1 hx).1
    have cell : ∀ j, j < 6 → w.cell? ⟨g, i * 6 + j, none⟩ = x.cells[j]? := by
      intro j hj
      rw [← key j hj, ← ht, List.getElem?_take_of_lt (by omega), Lib.cell_of_heap hg]
      simp
    exact ⟨cell 0 (by omega), cell 1 (by omega), cell 2 (by omega), cell 3 (by omega), cell 4 (by omega), cell 5 (by omega)⟩
set_option maxHeartbeats 4000000 in
set_option maxRecDepth 20000 in
theorem textfn_any (nm : ByteArray) (p c : Nat) (L : List ByteArray) (r : ByteArray) (w : World) (hL : L.length ≤ 100) (hL0 : L ≠ []) (hp : p < w.heap.size) (hc : ∀ i x, L[i]? = some x → w.cell? ⟨p, i, none⟩ = some (.string x))
    (hC : ∀ b c w', Below w.heap.size w w' → ArgsIn w' b (L.map VV.text) → Calls Tryz.prog 10 #[.pointer none, .string nm, .slice (some ⟨b, 0, none⟩) L.length c] w' (RetPost (ansV 2 0 r false 0) w')) :
    Calls Tryz.prog 9 #[.string nm, .slice (some ⟨p, 0, none⟩) L.length c] w (RetPost (.tuple #[.string r, .bool true]) w) := by
  have HC := Lib.hid hC
  have Hc := Lib.hid hc
  clear hC hc
  obtain ⟨i31, hi31, hz31, hs31, hb31⟩ := info_parts (P := Tryz.prog) (e := 31) (z := valV 0 0 ⟨#[]⟩ false) (size := 6) (bytes := 72) (by kernel_rfl)
  go_enter Tryz.func9, Tryz.ntmps9
  go_wp2
  go_loopg [6, 7] L.length (fun gk v i wx => ∃ k : Nat, k + gk = L.length ∧ i = .int .i64 k ∧ wx.ownsRow w.heap.size 31 6 v k ((L.map VV.text).take k |>.flatMap VV.cells) ∧ Below w.heap.size w wx)
  case atStart => exact ⟨0, by simp, rfl, World.ownsRow_nil _ _ _ _, Below.refl _ _⟩
  case round =>
    obtain ⟨k, hk, rfl, hown, hbw⟩ := hrel
    by_cases hlt : k < L.length
    · obtain ⟨x, hx⟩ : ∃ x, L[k]? = some x := ⟨_, List.getElem?_eq_getElem hlt⟩
      have hcell : wr.cell? ⟨p, k, none⟩ = some (.string x) := (hbw.cell (by dsimp only; omega)).trans (Hc.out k x hx)
      have hltz : (k : Int) < (L.length : Int) := by omega
      go_wp2_with fail
      refine (ofText_any x wr).mono ?_
      rintro e w1 ⟨rfl, h1⟩
      have hs1 := h1.size
      have hsw := hbw.size
      have hown1 := World.ownsRow.kept hown (row := none) ⟨h1.os, h1.tape, h1.output, h1.size, fun k hk _ => h1.block k hk⟩ (Classical.em _)
      have hbw1 := hbw.trans (h1.mono hsw)
      clear hown hbw h1
      go_wp2_with (at_builtin; refine wpList_append_own _ rfl _ _ 49 rfl w.heap.size 31 i31 _ 6 72 Tryz.underlying49 hi31 hz31 hs31 hb31 rfl (by decide) _ k _ rfl (World.ownsRow.alloc hown1 _) ⟨w1.heap.size, 0, none⟩ 1 1 (VV.text x).cells rfl rfl ?c1 ?c2 ?c3 ?c4 ?c5 ?_)
      case c1 =>
        intro j u hj
        have : (VV.text x).cells[j]? = _ := hj
        have hj6 : j < 6 := (List.getElem?_eq_some_iff.1 hj).1
        have e1 : ({ block := w1.heap.size, off := 0 } : Addr).add j = ⟨w1.heap.size, j, none⟩ := by simp [Addr.add] <;> omega
        rw [e1, World.cell?_alloc_new, List.getElem?_toArray]
        exact hj
      case c2 =>
        intro u hu
        simp at hu
        rcases hu with rfl | rfl | rfl | rfl | rfl | rfl <;> rfl
      case c3 => unfold maxLen; omega
      case c4 => omega
      case c5 => simp; omega
      intro v' w2 hown2 hg2 _
      have hbw2 : Below w.heap.size w w2 := grown_below (hbw1.alloc (by omega) _) hg2 (fun j hj => (World.ownsRow.lt hown1 j hj).1) (by simp; omega)
      clear hown1 hbw1 hg2
      go_wp2_with fail
      go_roundg (gk - 1)
      case measure => omega
      case rel =>
        refine ⟨k + 1, by omega, by go_num, ?_, hbw2⟩
        have e2 : (List.take (k + 1) (List.map VV.text L)).flatMap VV.cells = List.flatMap VV.cells (List.take k (List.map VV.text L)) ++ (VV.text x).cells := by
          rw [List.take_add_one, List.getElem?_map, hx]
          simp
        rw [e2]
        exact hown2
    · have hkL : k = L.length := by omega
      subst hkL
      have ht : List.take L.length (List.map VV.text L) = List.map VV.text L := List.take_of_length_le (by simp)
      rw [ht] at hown
      have hlen : L.length = (L.map VV.text).length := by simp
      obtain ⟨b, cap, rfl, hB, hA⟩ := argsIn_row (L := L.map VV.text) (by rw [← hlen]; exact hown) (by simpa using hL0)
      simp only [List.length_map] at *
      have hz := hbw.size
      clear hown
      go_wp2_with fail
      refine (HC.out b cap wr hbw hA).mono ?_
      rintro e w3 ⟨rfl, h3⟩
      have hs3 := h3.size
      have hb3 := hbw.trans (h3.mono hz)
      clear h3 hbw
      go_wp2_with fail
      generalize hW : World.alloc w3 _ = W7
      have hz7 : w3.heap.size + 1 ≤ W7.heap.size := by rw [← hW]; simp
      have p0 : W7.cell? ⟨w3.heap.size, 0, none⟩ = some (.int .i64 2) := by rw [← hW]; simp
      have p4 : W7.cell? ⟨w3.heap.size, 4, none⟩ = some (.string r) := by rw [← hW]; simp
      have hb7 : Below w.heap.size w W7 := by rw [← hW]; exact hb3.alloc hb3.size _
      clear hW hb3
      have rd : ∀ w', Below W7.heap.size W7 w' → w'.cell? ⟨w3.heap.size, 0, none⟩ = some (.int .i64 2) ∧ w'.cell? ⟨w3.heap.size, 4, none⟩ = some (.string r) := fun w' h => ⟨(h.cell (by dsimp only; omega)).trans p0, (h.cell (by dsimp only; omega)).trans p4⟩
      refine wp_region_quiet (C := fun w' => Below W7.heap.size W7 w') (by kernel_rfl) (by kernel_rfl) (Below.refl _ W7).drew (WQ.out ?_)
      try simp only [Act.put, List.setIfInBounds_toArray, List.set_cons_zero, List.set_cons_succ]
      refine WQ.val (by kernel_rfl) (.pointer (some ⟨w3.heap.size, 4, none⟩)) (fun w' hw' => ?_) ?_
      · go_simp
      try simp only [Act.put, List.setIfInBounds_toArray, List.set_cons_zero, List.set_cons_succ]
      refine WQ.val (by kernel_rfl) (.string r) (fun w' hw' => ?_) ?_
      · obtain ⟨t0, t1⟩ := rd w' hw'
        go_simp
      try simp only [Act.put, List.setIfInBounds_toArray, List.set_cons_zero, List.set_cons_succ]
      refine WQ.val (by kernel_rfl) (.int .i64 0) (fun w' hw' => ?_) ?_
      · go_simp
      try simp only [Act.put, List.setIfInBounds_toArray, List.set_cons_zero, List.set_cons_succ]
      refine WQ.val (by kernel_rfl) (.bool true) (fun w' hw' => ?_) ?_
      · go_simp
      try simp only [Act.put, List.setIfInBounds_toArray, List.set_cons_zero, List.set_cons_succ]
      refine WQ.val (by kernel_rfl) (.bool true) (fun w' hw' => ?_) ?_
      · go_simp
      try simp only [Act.put, List.setIfInBounds_toArray, List.set_cons_zero, List.set_cons_succ]
      refine WQ.val (by kernel_rfl) (.pointer (some ⟨w3.heap.size, 0, none⟩)) (fun w' hw' => ?_) ?_
      · go_simp
      try simp only [Act.put, List.setIfInBounds_toArray, List.set_cons_zero, List.set_cons_succ]
      refine WQ.val (by kernel_rfl) (.int .i64 2) (fun w' hw' => ?_) ?_
      · obtain ⟨t0, t1⟩ := rd w' hw'
        go_simp
      try simp only [Act.put, List.setIfInBounds_toArray, List.set_cons_zero, List.set_cons_succ]
      refine WQ.val (by kernel_rfl) (.bool true) (fun w' hw' => ?_) ?_
      · go_simp
      try simp only [Act.put, List.setIfInBounds_toArray, List.set_cons_zero, List.set_cons_succ]
      refine WQ.val (by kernel_rfl) (.bool true) (fun w' hw' => ?_) ?_
      · go_simp
      try simp only [Act.put, List.setIfInBounds_toArray, List.set_cons_zero, List.set_cons_succ]
      refine WQ.val (by kernel_rfl) (.string r) (fun w' hw' => ?_) ?_
      · go_simp
      try simp only [Act.put, List.setIfInBounds_toArray, List.set_cons_zero, List.set_cons_succ]
      refine WQ.val (by kernel_rfl) (.bool true) (fun w' hw' => ?_) ?_
      · go_simp
      try simp only [Act.put, List.setIfInBounds_toArray, List.set_cons_zero, List.set_cons_succ]
      refine WQ.nil ?_
      intro W8 hb8
      go_wp2
      go_ret2
      exact ⟨rfl, hb7.trans (hb8.mono (by omega))⟩
end Go.Proofs.YtkikeacnbgjjlaaGreatDoor
