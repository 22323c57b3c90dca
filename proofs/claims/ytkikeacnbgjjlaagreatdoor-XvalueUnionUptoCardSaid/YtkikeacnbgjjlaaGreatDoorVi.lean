/-
  OfText, OfNum, live().
-/
import Derived.Test.YtkikeacnbgjjlaaGreatDoorVe
import Derived.Test.YtkikeacnbgjjlaaGreatDoorVg
import Derived.Test.YtkikeacnbgjjlaaGreatDoorVh
namespace Go.Proofs.YtkikeacnbgjjlaaGreatDoor
open Go.RowKit Go.ChangeMaps
set_option linter.unusedSimpArgs false
set_option maxHeartbeats 800000 in
theorem ofText_any (s : ByteArray) (w : World) : Calls Tryz.prog 11 #[.string s] w (RetPost (valV 2 0 s false) w) := by
  go_enter Tryz.func11, Tryz.ntmps11
  go_wp2_with fail
  refine bodyPost_ret (v := valV 2 0 s false) (by simp [results, Tryz.results11, go_sem]) rfl ⟨rfl, ?_⟩
  first | exact (Below.refl _ _).alloc (Nat.le_refl _) _ | trace_state
set_option maxHeartbeats 800000 in
theorem ofNum_any (n : Int) (w : World) : Calls Tryz.prog 17 #[finV n] w (RetPost (valV 1 n ⟨#[]⟩ false) w) := by
  go_enter Tryz.func17, Tryz.ntmps17
  go_wp2_with fail
  refine bodyPost_ret (v := valV 1 n ⟨#[]⟩ false) (by simp [results, Tryz.results17, go_sem]) rfl ⟨rfl, ?_⟩
  first | exact ((Below.refl _ _).alloc (Nat.le_refl _) _).alloc (by simp) _ | trace_state
/-- A value's six cells. -/
abbrev VV.cells (x : VV) : List Value := [.int .i64 x.k, .slice none 0 0, .int .i64 0, .int .i64 x.nv, .string x.s, .bool x.t]
theorem argsIn_new (w : World) (l : List VV) (T : Nat) (cs : Array Value) (h : cs = (l.flatMap VV.cells).toArray) : ArgsIn (w.alloc (.cells cs T)) w.heap.size l := by
  subst h
  refine ⟨by simp, fun i x hx => ?_⟩
  have key : ∀ j, j < 6 → (l.flatMap VV.cells)[i * 6 + j]? = x.cells[j]? := by
    intro j hj
    clear w T
    induction l generalizing i with
    | nil => simp at hx
    | cons y l ih =>
      cases i with
      | zero =>
        simp at hx
        subst hx
        rw [List.flatMap_cons, List.getElem?_append_left (by simp; omega)]
        simp
      | succ i =>
        rw [List.flatMap_cons, List.getElem?_append_right (by simp; omega)]
        simp at hx
        have := ih i hx
        rw [← this]
        congr 1
        simp
        omega
  refine ⟨?_, ?_, ?_, ?_, ?_, ?_⟩ <;> rw [World.cell?_alloc_new, List.getElem?_toArray]
  · exact key 0 (by omega)
  · exact key 1 (by omega)
  · exact key 2 (by omega)
  · exact key 3 (by omega)
  · exact key 4 (by omega)
  · exact key 5 (by omega)
theorem do_translate (b c : Nat) (s u v r : ByteArray) (fu fv : List Int) (w : World) (hA : ArgsIn w b [.text s, .text u, .text v]) (hu : RunesOf u fu) (hv : RunesOf v fv) (hus : u.size ≤ 1000) (hvs : v.size ≤ 1000) (hG : GV w) (hs : s.size ≤ 1000000)
    (hf : ∀ x : Nat, x ≤ 1114111 → -2147483648 ≤ trI fu fv x ∧ trI fu fv x ≤ 2147483647) (hr : ⟨(Lib.mapD (trI fu fv) s.data.toList).toArray⟩ = r) (hrs : r.size ≤ 32768) :
    Calls Tryz.prog 10 #[.pointer none, .string ⟨#[116, 114, 97, 110, 115, 108, 97, 116, 101]⟩, .slice (some ⟨b, 0, none⟩) 3 c] w (RetPost (ansV 2 0 r false 0) w) :=
  call_translate b c 2 0 r false 0 w (fun w' bx hb hx => textC_64 b 3 c r bx w' hx hrs (fun w'' hb' => hr ▸ translate_any b 3 c s u v fu fv w'' (by omega) ((hA.below hb).below hb') hu hv hus hvs ((hG.grown hb).grown hb') hs hf))
theorem do_substring (b c : Nat) (w : World) (hA : ArgsIn w b [.text s5, .num 1500000, .num 2600000]) :
    Calls Tryz.prog 10 #[.pointer none, .string ⟨#[115, 117, 98, 115, 116, 114, 105, 110, 103]⟩, .slice (some ⟨b, 0, none⟩) 3 c] w (RetPost (ansV 2 0 ⟨#[50, 51, 52]⟩ false 0) w) :=
  call_substring b c 2 0 ⟨#[50, 51, 52]⟩ false 0 w (fun w' bx hb hx => textC_65 b 3 c ⟨#[50, 51, 52]⟩ bx w' hx (by decide) (fun w'' hb' => substring_live b c w'' ((hA.below hb).below hb')))
theorem live_tr : (⟨(Lib.mapD (trI [97, 98, 99] [65, 66]) [98, 97, 114]).toArray⟩ : ByteArray) = ⟨#[66, 65, 114]⟩ := by kernel_rfl
theorem trI_live (x : Nat) (hx : x ≤ 1114111) : -2147483648 ≤ trI [97, 98, 99] [65, 66] x ∧ trI [97, 98, 99] [65, 66] x ≤ 2147483647 := by
  unfold trI
  have hb := idxI_bounds [97, 98, 99] (x : Int)
  split
  · omega
  · split
    · rename_i h1 h2
      simp at h2
      have : (idxI [97, 98, 99] (x : Int)).toNat = 0 ∨ (idxI [97, 98, 99] (x : Int)).toNat = 1 := by omega
      rcases this with h | h <;> rw [h] <;> simp
    · omega
set_option maxHeartbeats 4000000 in
set_option maxRecDepth 20000 in
theorem live_any (w : World) (hG : GV w) : Calls Tryz.prog 8 #[] w (RetPost (.bool true) w) := by
  have hG0 := hG.1
  go_enter Tryz.func8, Tryz.ntmps8
  go_wp2_with fail
  refine (ofText_any ⟨#[98, 97, 114]⟩ _).mono ?_
  rintro e w1 ⟨rfl, h1⟩
  go_wp2_with fail
  refine (ofText_any ⟨#[97, 98, 99]⟩ _).mono ?_
  rintro e w2 ⟨rfl, h2⟩
  go_wp2_with fail
  refine (ofText_any ⟨#[65, 66]⟩ _).mono ?_
  rintro e w3 ⟨rfl, h3⟩
  have hb3 : Below w.heap.size w w3 := (h1.trans (h2.mono h1.size)).trans (h3.mono (h1.trans (h2.mono h1.size)).size)
  have hs3 := hb3.size
  clear h1 h2 h3
  go_wp2_with fail
  refine (do_translate w3.heap.size 3 ⟨#[98, 97, 114]⟩ ⟨#[97, 98, 99]⟩ ⟨#[65, 66]⟩ ⟨#[66, 65, 114]⟩ [97, 98, 99] [65, 66] _ (argsIn_new w3 [.text ⟨#[98, 97, 114]⟩, .text ⟨#[97, 98, 99]⟩, .text ⟨#[65, 66]⟩] _ _ rfl) (by unfold RunesOf; kernel_rfl) (by unfold RunesOf; kernel_rfl) (by decide) (by decide) ((hG.grown hb3).grown ((Below.refl _ _).alloc (Nat.le_refl _) _)) (by decide) trI_live live_tr (by decide)).mono ?_
  rintro e w4 ⟨rfl, h4⟩
  have hb4 : Below w.heap.size w w4 := (hb3.alloc hs3 _).trans (h4.mono (by simp; omega))
  have hs4 := hb4.size
  clear h4 hb3
  go_wp2_with fail
  generalize hW : World.alloc w4 _ = W
  have c4 : W.cell? ⟨w4.heap.size, 4, none⟩ = some (.string ⟨#[66, 65, 114]⟩) := by rw [← hW]; simp
  have hbW : Below w.heap.size w W := by rw [← hW]; exact hb4.alloc hs4 _
  have hzW : w4.heap.size < W.heap.size := by rw [← hW]; simp
  clear hW hb4
  refine (ofText_any ⟨#[49, 50, 51, 52, 53]⟩ _).mono ?_
  rintro e w5 ⟨rfl, h5⟩
  have hs5 := h5.size
  go_wp2_with fail
  refine (ofNum_any 1500000 _).mono ?_
  rintro e w6 ⟨rfl, h6⟩
  have hs6 := h6.size
  go_wp2_with fail
  refine (ofNum_any 2600000 _).mono ?_
  rintro e w7 ⟨rfl, h7⟩
  have hs7 := h7.size
  have hb7 : Below W.heap.size W w7 := (h5.trans (h6.mono hs5)).trans (h7.mono (by omega))
  clear h5 h6 h7
  go_wp2_with fail
  refine (do_substring w7.heap.size 3 _ (argsIn_new w7 [.text s5, .num 1500000, .num 2600000] _ _ rfl)).mono ?_
  rintro e w8 ⟨rfl, h8⟩
  have hb8 : Below W.heap.size W w8 := (hb7.alloc hb7.size _).trans (h8.mono (by simp; omega))
  have hs8 := hb8.size
  have c8 : w8.cell? ⟨w4.heap.size, 4, none⟩ = some (.string ⟨#[66, 65, 114]⟩) := (hb8.cell hzW).trans c4
  have n8 : w4.heap.size < w8.heap.size := by omega
  clear h8 hb7 c4
  go_wp2
  go_ret
  exact ⟨rfl, (hbW.trans (hb8.mono hbW.size)).alloc (by omega) _⟩
end Go.Proofs.YtkikeacnbgjjlaaGreatDoor
