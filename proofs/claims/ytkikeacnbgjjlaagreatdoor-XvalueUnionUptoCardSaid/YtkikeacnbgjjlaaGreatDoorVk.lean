/-
  XvalueParts walked.
-/
import Derived.Test.YtkikeacnbgjjlaaGreatDoorVj
import Derived.Lib.IndexMore
import Derived.Lib.IndexLaws
import Derived.Lib.IndexBytes
namespace Go.Proofs.YtkikeacnbgjjlaaGreatDoor
open Go.RowKit Go.ChangeMaps
set_option linter.unusedSimpArgs false
/-- What stands ahead of u's first place in s, and behind it: empty where u is not in s. -/
def bfB (s u : ByteArray) : ByteArray := if (Lib.cut s.data.toList u.data.toList).2.2 then ⟨(Lib.cut s.data.toList u.data.toList).1.toArray⟩ else ⟨#[]⟩
def afB (s u : ByteArray) : ByteArray := if (Lib.cut s.data.toList u.data.toList).2.2 then ⟨(Lib.cut s.data.toList u.data.toList).2.1.toArray⟩ else ⟨#[]⟩
abbrev hasB (s u : ByteArray) : Bool := Lib.contains s.data.toList u.data.toList
theorem cut_ok (s u : ByteArray) : (Lib.cut s.data.toList u.data.toList).2.2 = hasB s u := by
  unfold Lib.cut hasB Lib.contains
  split <;> simp_all
theorem occ_cut {s u : List UInt8} {i : Nat} (h : Lib.occAt s u i = true) (_hi : i ≤ s.length) : s = s.take i ++ u ++ s.drop (i + u.length) := by
  obtain ⟨t, ht⟩ := List.isPrefixOf_iff_prefix.1 h
  have e1 : s.drop (i + u.length) = t := by
    rw [← List.drop_drop, ← ht]
    simp
  rw [e1, List.append_assoc, ht, List.take_append_drop]
theorem parts_join (s u : ByteArray) (h : hasB s u = true) : bfB s u ++ u ++ afB s u = s := by
  have h0 : 0 ≤ Lib.index s.data.toList u.data.toList := by simpa [hasB, Lib.contains] using h
  rcases Lib.index_spec s.data.toList u.data.toList with ⟨h1, _⟩ | ⟨i, h1, h2, h3, _⟩
  · omega
  · have := occ_cut h3 h2
    unfold bfB afB Lib.cut
    rw [if_pos h0]
    simp only [if_true]
    rw [h1]
    apply ByteArray.ext
    apply Array.toList_inj.1
    simp only [ByteArray.data_append, Array.toList_append, Int.toNat_natCast]
    rw [List.append_assoc] at this
    rw [List.append_assoc]
    exact this.symm
theorem parts_first (s u : ByteArray) (h : hasB s u = true) : hasB (bfB s u) u = false ∨ u = ⟨#[]⟩ := by
  by_cases hu : u = ⟨#[]⟩
  · exact .inr hu
  left
  have hu' : u.data.toList ≠ [] := by
    intro h1
    apply hu
    apply ByteArray.ext
    exact Array.toList_inj.1 h1
  have h0 : 0 ≤ Lib.index s.data.toList u.data.toList := by simpa [hasB, Lib.contains] using h
  rcases Lib.index_spec s.data.toList u.data.toList with ⟨h1, _⟩ | ⟨i, h1, h2, h3, h4⟩
  · omega
  · have e1 : (bfB s u).data.toList = s.data.toList.take i := by
      unfold bfB Lib.cut
      rw [if_pos h0, h1]
      simp
    unfold hasB
    rw [e1]
    simp only [Lib.contains, decide_eq_false_iff_not]
    intro h5
    rcases Lib.index_spec (s.data.toList.take i) u.data.toList with ⟨h6, _⟩ | ⟨j, h6, h7, h8, _⟩
    · omega
    · have hr := Lib.index_room (s.data.toList.take i) u.data.toList h5
      rw [h6] at hr
      have hl : 0 < u.data.toList.length := List.length_pos_iff.2 hu'
      have hli : (s.data.toList.take i).length = i := List.length_take_of_le h2
      have hji : j < i := by omega
      have := h4 j hji
      obtain ⟨t, ht⟩ := List.isPrefixOf_iff_prefix.1 h8
      have : Lib.occAt s.data.toList u.data.toList j = true := by
        refine List.isPrefixOf_iff_prefix.2 ⟨t ++ s.data.toList.drop i, ?_⟩
        rw [← List.append_assoc, ht, ← List.drop_append_of_le_length (by omega), List.take_append_drop]
      simp_all
theorem parts_size (s u : ByteArray) : (bfB s u).size ≤ s.size ∧ (afB s u).size ≤ s.size := by
  have es : s.size = s.data.toList.length := Lib.size_eq s
  unfold bfB afB Lib.cut
  by_cases h : 0 ≤ Lib.index s.data.toList u.data.toList
  · rw [if_pos h, if_pos rfl, if_pos rfl]
    show (List.take _ s.data.toList).length ≤ _ ∧ (List.drop _ s.data.toList).length ≤ _
    rw [List.length_take, List.length_drop, es]
    omega
  · rw [if_neg h, if_neg (by simp), if_neg (by simp)]
    exact ⟨Nat.zero_le _, Nat.zero_le _⟩
theorem do_before (b c : Nat) (s u : ByteArray) (w : World) (hA : ArgsIn w b [.text s, .text u]) (hG : GV w) (hs : s.size ≤ 32768) :
    Calls Tryz.prog 10 #[.pointer none, .string ⟨#[115, 117, 98, 115, 116, 114, 105, 110, 103, 45, 98, 101, 102, 111, 114, 101]⟩, .slice (some ⟨b, 0, none⟩) 2 c] w (RetPost (ansV 2 0 (bfB s u) false 0) w) :=
  call_before b c 2 0 (bfB s u) false 0 w (fun w' bx hb hx => textC_61 b 2 c (bfB s u) bx w' hx (Nat.le_trans (parts_size s u).1 hs) (fun w'' hb' => before_any b 2 c s u _ _ _ w'' (Nat.le_refl _) ((hA.below hb).below hb') ((hG.grown hb).grown hb')
    (fun w hG' => by obtain ⟨_, _, m, hm⟩ := hG'; exact (Tryz.strings_Cut s u m w (by omega) hm).mono fun e w' ⟨he, n, hn⟩ => ⟨he, hn ▸ below_drewN (Below.refl _ _) n⟩)))
theorem do_after (b c : Nat) (s u : ByteArray) (w : World) (hA : ArgsIn w b [.text s, .text u]) (hG : GV w) (hs : s.size ≤ 32768) :
    Calls Tryz.prog 10 #[.pointer none, .string ⟨#[115, 117, 98, 115, 116, 114, 105, 110, 103, 45, 97, 102, 116, 101, 114]⟩, .slice (some ⟨b, 0, none⟩) 2 c] w (RetPost (ansV 2 0 (afB s u) false 0) w) :=
  call_after b c 2 0 (afB s u) false 0 w (fun w' bx hb hx => textC_63 b 2 c (afB s u) bx w' hx (Nat.le_trans (parts_size s u).2 hs) (fun w'' hb' => after_any b 2 c s u _ _ _ w'' (Nat.le_refl _) ((hA.below hb).below hb') ((hG.grown hb).grown hb')
    (fun w hG' => by obtain ⟨_, _, m, hm⟩ := hG'; exact (Tryz.strings_Cut s u m w (by omega) hm).mono fun e w' ⟨he, n, hn⟩ => ⟨he, hn ▸ below_drewN (Below.refl _ _) n⟩)))
theorem do_contains (b c : Nat) (s u : ByteArray) (w : World) (hA : ArgsIn w b [.text s, .text u]) (hG : GV w) (hs : s.size ≤ 32768) :
    Calls Tryz.prog 10 #[.pointer none, .string ⟨#[99, 111, 110, 116, 97, 105, 110, 115]⟩, .slice (some ⟨b, 0, none⟩) 2 c] w (RetPost (ansV 3 0 ⟨#[]⟩ (hasB s u) 0) w) :=
  call_contains b c 3 0 ⟨#[]⟩ (hasB s u) 0 w (fun w' bx hb hx => truthC_59 b 2 c (hasB s u) bx w' hx (fun w'' hb' => contains_any b 2 c s u w'' (Nat.le_refl _) ((hA.below hb).below hb') _ ((hG.grown hb).grown hb')
    (fun w hG' => by obtain ⟨_, _, m, hm⟩ := hG'; exact Tryz.strings_Contains s u m w (by omega) hm)))
theorem text_two (nm s u r : ByteArray) (w : World)
    (hC : ∀ b c w', Below w.heap.size w w' → ArgsIn w' b [.text s, .text u] → Calls Tryz.prog 10 #[.pointer none, .string nm, .slice (some ⟨b, 0, none⟩) 2 c] w' (RetPost (ansV 2 0 r false 0) w')) :
    Calls Tryz.prog 9 #[.string nm, .slice (some ⟨w.heap.size, 0, none⟩) 2 2] (w.alloc (.cells #[.string s, .string u] 9)) fun e w' => e = .returned (.tuple #[.string r, .bool true]) ∧ Below w.heap.size w w' := by
  have hb : Below w.heap.size w (w.alloc (.cells #[.string s, .string u] 9)) := (Below.refl _ _).alloc (Nat.le_refl _) _
  have hcell : ∀ i x, [s, u][i]? = some x → (w.alloc (.cells #[.string s, .string u] 9)).cell? ⟨w.heap.size, i, none⟩ = some (.string x) := by
    intro i x hi
    rw [World.cell?_alloc_new]
    match i with
    | 0 => simp at hi; subst hi; rfl
    | 1 => simp at hi; subst hi; rfl
    | i + 2 => simp at hi
  exact (textfn_any nm w.heap.size 2 [s, u] r _ (by show 2 ≤ 100; omega) (by simp) (by simp) hcell (fun b c w' h hA => hC b c w' (hb.trans (h.mono (by simp))) hA)).mono fun e w' ⟨he, h⟩ => ⟨he, hb.trans (h.mono (by simp))⟩
set_option maxHeartbeats 4000000 in
set_option maxRecDepth 20000 in
theorem parts_any (s u : ByteArray) (w : World) (hG : GV w) (hs : s.size ≤ 1099511627776) (hu : u.size ≤ 1099511627776) : Calls Tryz.prog 3 #[.string s, .string u] w (RetPost (.bool true) w) := by
  by_cases hsz : s.size + u.size > 20000
  · have hsz' : (20000 : Int) < (s.size : Int) + (u.size : Int) := by omega
    go_enter Tryz.func3, Tryz.ntmps3
    go_wp2_with fail
    refine (live_any w hG).mono ?_
    rintro e w1 ⟨rfl, h1⟩
    go_wp2
    go_ret
    exact ⟨rfl, h1⟩
  · have hsz' : ¬ ((20000 : Int) < (s.size : Int) + (u.size : Int)) := by omega
    have hG0 := hG.1
    go_enter Tryz.func3, Tryz.ntmps3
    go_wp2_with fail
    refine (text_two ⟨#[115, 117, 98, 115, 116, 114, 105, 110, 103, 45, 98, 101, 102, 111, 114, 101]⟩ s u (bfB s u) w (fun b c w' h hA => do_before b c s u w' hA (hG.grown h) (by omega))).mono ?_
    rintro e w1 ⟨rfl, h1⟩
    have hs1 := h1.size
    have hG1 := hG.grown h1
    go_wp2_with fail
    refine (text_two ⟨#[115, 117, 98, 115, 116, 114, 105, 110, 103, 45, 97, 102, 116, 101, 114]⟩ s u (afB s u) w1 (fun b c w' h hA => do_after b c s u w' hA (hG1.grown h) (by omega))).mono ?_
    rintro e w2 ⟨rfl, h2⟩
    have hs2 := h2.size
    have hb2 := h1.trans (h2.mono hs1)
    clear h1 h2 hG1
    go_wp2_with fail
    refine (ofText_any s _).mono ?_
    rintro e w3 ⟨rfl, h3⟩
    have hs3 := h3.size
    go_wp2_with fail
    refine (ofText_any u _).mono ?_
    rintro e w4 ⟨rfl, h4⟩
    have hs4 := h4.size
    have hb4 : Below w.heap.size w w4 := (hb2.trans (h3.mono (by omega))).trans (h4.mono (by omega))
    clear hb2 h3 h4
    go_wp2_with fail
    have hb5 : Below w.heap.size w (w4.alloc (.cells #[.int .i64 2, .slice none 0 0, .int .i64 0, .int .i64 0, .string s, .bool false, .int .i64 2, .slice none 0 0, .int .i64 0, .int .i64 0, .string u, .bool false] 31)) := hb4.alloc (by omega) _
    refine (do_contains w4.heap.size 2 s u _ (argsIn_new w4 [.text s, .text u] _ _ rfl) (hG.grown hb5) (by omega)).mono ?_
    rintro e w6 ⟨rfl, h6⟩
    have hb6 := hb5.trans (h6.mono (by simp; omega))
    have hs6 := hb6.size
    clear hb4 hb5 h6
    rcases Bool.eq_false_or_eq_true (hasB s u) with hh | hh
    · have hj := parts_join s u hh
      have hfst := parts_first s u hh
      have hbz := (parts_size s u).1
      have haz := (parts_size s u).2
      rw [hh]
      go_upto_region 8 with fail
      generalize hW : World.alloc w6 _ = W
      have c4 : W.cell? ⟨w6.heap.size, 5, none⟩ = some (.bool true) := by rw [← hW]; simp
      have hbW : Below w.heap.size w W := by rw [← hW]; exact hb6.alloc hs6 _
      have hzW : w6.heap.size < W.heap.size := by rw [← hW]; simp
      clear hW hb6
      go_wp2_with fail
      refine (ofText_any (bfB s u) _).mono ?_
      rintro e w7 ⟨rfl, h7⟩
      have hs7 := h7.size
      go_wp2_with fail
      refine (ofText_any u _).mono ?_
      rintro e w8 ⟨rfl, h8⟩
      have hs8 := h8.size
      have hb8 : Below w.heap.size w w8 := (hbW.trans (h7.mono hbW.size)).trans (h8.mono (by have := hbW.size; omega))
      clear hbW h7 h8 c4
      go_wp2_with fail
      have hb9 : Below w.heap.size w (w8.alloc (.cells #[.int .i64 2, .slice none 0 0, .int .i64 0, .int .i64 0, .string (bfB s u), .bool false, .int .i64 2, .slice none 0 0, .int .i64 0, .int .i64 0, .string u, .bool false] 31)) := hb8.alloc hb8.size _
      refine (do_contains w8.heap.size 2 (bfB s u) u _ (argsIn_new w8 [.text (bfB s u), .text u] _ _ rfl) (hG.grown hb9) (by omega)).mono ?_
      rintro e w10 ⟨rfl, h10⟩
      have hb10 := hb9.trans (h10.mono (by have := hb8.size; simp; omega))
      have hs10 := hb10.size
      clear hb8 hb9 h10
      go_upto_region 11 with fail
      generalize hW : World.alloc w10 _ = W2
      have c4 : W2.cell? ⟨w10.heap.size, 5, none⟩ = some (.bool (hasB (bfB s u) u)) := by rw [← hW]; simp
      have hbW : Below w.heap.size w W2 := by rw [← hW]; exact hb10.alloc hs10 _
      have hzW : w10.heap.size < W2.heap.size := by rw [← hW]; simp
      clear hW hb10
      go_wp2_with fail
      refine (live_any _ (hG.grown hbW)).mono ?_
      rintro e w11 ⟨rfl, h11⟩
      have d4 := (h11.cell (p := ⟨w10.heap.size, 5, none⟩) (by dsimp only; omega)).trans c4
      clear c4
      rcases hfst with hf | hf
      · rw [hf] at d4
        go_wp2
        go_ret
        exact ⟨rfl, hbW.trans (h11.mono hbW.size)⟩
      · generalize hasB (bfB s u) u = q at *
        subst hf
        cases q
        all_goals (
          go_wp2
          go_ret
          exact ⟨rfl, hbW.trans (h11.mono hbW.size)⟩)
    · have hb0 : bfB s u = ⟨#[]⟩ := by unfold bfB; rw [cut_ok, hh]; rfl
      have ha0 : afB s u = ⟨#[]⟩ := by unfold afB; rw [cut_ok, hh]; rfl
      rw [hh]
      go_upto_region 8 with fail
      generalize hW : World.alloc w6 _ = W
      have c4 : W.cell? ⟨w6.heap.size, 5, none⟩ = some (.bool false) := by rw [← hW]; simp
      have hbW : Below w.heap.size w W := by rw [← hW]; exact hb6.alloc hs6 _
      clear hW hb6
      go_wp2_with fail
      refine (live_any _ (hG.grown hbW)).mono ?_
      rintro e w11 ⟨rfl, h11⟩
      go_wp2
      go_ret
      exact ⟨rfl, hbW.trans (h11.mono hbW.size)⟩
end Go.Proofs.YtkikeacnbgjjlaaGreatDoor
