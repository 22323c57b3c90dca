/-
  XvalueLimits walked.
-/
import Derived.Test.YtkikeacnbgjjlaaGreatDoorVk
import Derived.Laws.BytesArg
import Derived.Laws.MakeOwn
namespace Go.Proofs.YtkikeacnbgjjlaaGreatDoor
open Go.RowKit Go.ChangeMaps
set_option linter.unusedSimpArgs false
theorem do_concat (b c : Nat) (s u : ByteArray) (w : World) (hA : ArgsIn w b [.text s, .text u]) (hs : (s ++ u).size ≤ 32768) :
    Calls Tryz.prog 10 #[.pointer none, .string ⟨#[99, 111, 110, 99, 97, 116]⟩, .slice (some ⟨b, 0, none⟩) 2 c] w (RetPost (ansV 2 0 (s ++ u) false 0) w) :=
  have hz : s.size + u.size ≤ 32768 := by rw [← ByteArray.size_append]; exact hs
  call_concat b c 2 0 (s ++ u) false 0 w (fun w' bx hb hx => textC_56 b 2 c (s ++ u) bx w' hx hs (fun w'' hb' => concat_two b 2 c s u w'' rfl ((hA.below hb).below hb') (by omega) (by omega)))
theorem do_concat_long (b c : Nat) (s u : ByteArray) (w : World) (hA : ArgsIn w b [.text s, .text u]) (hs : 32768 < (s ++ u).size) (h1 : s.size ≤ 1099511627776) (h2 : u.size ≤ 1099511627776) :
    Calls Tryz.prog 10 #[.pointer none, .string ⟨#[99, 111, 110, 99, 97, 116]⟩, .slice (some ⟨b, 0, none⟩) 2 c] w (RetPost (ansV 0 0 ⟨#[]⟩ false 6) w) :=
  call_concat b c 0 0 ⟨#[]⟩ false 6 w (fun w' bx hb hx => textL_56 b 2 c (s ++ u) bx w' hx hs (fun w'' hb' => concat_two b 2 c s u w'' rfl ((hA.below hb).below hb') h1 h2))
def zeros (n : Nat) : ByteArray := strOfNums (List.replicate n 0)
theorem zeros_size (n : Nat) : (zeros n).size = n := by rw [zeros, strOfNums_size, List.length_replicate]
theorem make_zeros (n : Nat) (w : World) (hn : n ≤ 65535) : ∃ W', (Instr.makeSlice 42 (.int .i64 (n : Int)) (.int .i64 (n : Int))).run Tryz.prog w = .ok (.slice (some ⟨w.heap.size, 0, none⟩) n n) W' ∧
    (convert 42 9 (.slice (some ⟨w.heap.size, 0, none⟩) n n)).run Tryz.prog W' = .ok (.string (zeros n)) W' ∧ Below w.heap.size w W' := by
  obtain ⟨i5, hi, hz, hs, hb⟩ := info_parts (P := Tryz.prog) (e := 5) (z := .int .u8 0) (size := 1) (bytes := 1) (by kernel_rfl)
  have hr := run_make (P := Tryz.prog) w 42 5 i5 (.int .u8 0) Tryz.underlying42 hi hz .i64 .i64 n n (by omega) (Int.le_refl _) (by rw [hb]; omega) (by omega)
  simp only [Int.toNat_natCast] at hr
  refine ⟨_, hr, ?_, (Below.refl _ _).alloc (Nat.le_refl _) _⟩
  refine run_convert_bytes_arg (P := Tryz.prog) _ 42 5 Tryz.underlying42 Tryz.underlying5 w.heap.size 0 n n (List.replicate n 0) (by simp) (fun i h => ?_) 9 Tryz.underlying9
  rw [Nat.zero_add, World.cell?_alloc_new, hs]
  have e1 : (Value.int .u8 0).cells = #[Value.int .u8 0] := rfl
  simp [madeCells, h, e1, Nat.mod_one]
set_option maxHeartbeats 4000000 in
set_option maxRecDepth 20000 in
theorem limits_any (x y : Int) (w : World) (hG : GV w) (hx : 0 ≤ x) (hx' : x ≤ 65535) (hy : 0 ≤ y) (hy' : y ≤ 65535) : Calls Tryz.prog 6 #[.int .u16 x, .int .u16 y] w (RetPost (.bool true) w) := by
  obtain ⟨n, hn⟩ : ∃ n : Nat, x.tmod 32768 = n := ⟨(x.tmod 32768).toNat, by have := Int.tmod_nonneg 32768 hx; omega⟩
  obtain ⟨m, hm⟩ : ∃ n : Nat, y.tmod 32768 = n := ⟨(y.tmod 32768).toNat, by have := Int.tmod_nonneg 32768 hy; omega⟩
  have hn' : n < 32768 := by have := Int.tmod_lt_of_pos x (b := 32768) (by omega); omega
  have hm' : m < 32768 := by have := Int.tmod_lt_of_pos y (b := 32768) (by omega); omega
  obtain ⟨w1, a1, c1, b1⟩ := make_zeros n w (by omega)
  obtain ⟨w2, a2, c2, b2⟩ := make_zeros m w1 (by omega)
  have hb2 : Below w.heap.size w w2 := b1.trans (b2.mono b1.size)
  have hs2 := hb2.size
  have zn := zeros_size n
  have zm := zeros_size m
  have ze : (zeros n ++ zeros m).size = n + m := by rw [ByteArray.size_append, zn, zm]
  by_cases hbig : 32768 < n + m
  all_goals (
    clear b1 b2
    go_enter Tryz.func6, Tryz.ntmps6
    go_wp2_with fail
    refine (ofText_any (zeros n) _).mono ?_
    rintro e w3 ⟨rfl, h3⟩
    have hs3 := h3.size
    go_wp2_with fail
    refine (ofText_any (zeros m) _).mono ?_
    rintro e w4 ⟨rfl, h4⟩
    have hs4 := h4.size
    have hb4 : Below w.heap.size w w4 := (hb2.trans (h3.mono hs2)).trans (h4.mono (by omega))
    clear h3 h4
    go_wp2_with fail
    have hb5 : Below w.heap.size w (w4.alloc (.cells #[.int .i64 2, .slice none 0 0, .int .i64 0, .int .i64 0, .string (zeros n), .bool false, .int .i64 2, .slice none 0 0, .int .i64 0, .int .i64 0, .string (zeros m), .bool false] 31)) := hb4.alloc (by omega) _)
  · have hbz : (32768 : Int) < (n : Int) + (m : Int) := by omega
    refine (do_concat_long w4.heap.size 2 (zeros n) (zeros m) _ (argsIn_new w4 [.text (zeros n), .text (zeros m)] _ _ rfl) (by omega) (by omega) (by omega)).mono ?_
    rintro e w6 ⟨rfl, h6⟩
    have hb6 := hb5.trans (h6.mono (by simp; omega))
    have hs6 := hb6.size
    clear hb4 hb5 h6
    go_upto_region 4 with fail
    generalize hW : World.alloc w6 _ = W
    have c4 : W.cell? ⟨w6.heap.size, 4, none⟩ = some (.string ⟨#[]⟩) := by rw [← hW]; simp
    have hbW : Below w.heap.size w W := by rw [← hW]; exact hb6.alloc hs6 _
    have hzW : w6.heap.size < W.heap.size := by rw [← hW]; simp
    clear hW hb6
    go_wp2_with fail
    refine (live_any _ (hG.grown hbW)).mono ?_
    rintro e w7 ⟨rfl, h7⟩
    have d4 := (h7.cell (p := ⟨w6.heap.size, 4, none⟩) (by dsimp only; omega)).trans c4
    clear c4
    go_wp2
    go_ret
    exact ⟨rfl, hbW.trans (h7.mono hbW.size)⟩
  · have hbz : ¬ ((32768 : Int) < (n : Int) + (m : Int)) := by omega
    refine (do_concat w4.heap.size 2 (zeros n) (zeros m) _ (argsIn_new w4 [.text (zeros n), .text (zeros m)] _ _ rfl) (by omega)).mono ?_
    rintro e w6 ⟨rfl, h6⟩
    have hb6 := hb5.trans (h6.mono (by simp; omega))
    have hs6 := hb6.size
    clear hb4 hb5 h6
    go_upto_region 4 with fail
    generalize hW : World.alloc w6 _ = W
    have c4 : W.cell? ⟨w6.heap.size, 4, none⟩ = some (.string (zeros n ++ zeros m)) := by rw [← hW]; simp
    have hbW : Below w.heap.size w W := by rw [← hW]; exact hb6.alloc hs6 _
    have hzW : w6.heap.size < W.heap.size := by rw [← hW]; simp
    clear hW hb6
    go_wp2_with fail
    refine (live_any _ (hG.grown hbW)).mono ?_
    rintro e w7 ⟨rfl, h7⟩
    have d4 := (h7.cell (p := ⟨w6.heap.size, 4, none⟩) (by dsimp only; omega)).trans c4
    clear c4
    go_wp2
    go_ret
    exact ⟨rfl, hbW.trans (h7.mono hbW.size)⟩
end Go.Proofs.YtkikeacnbgjjlaaGreatDoor
