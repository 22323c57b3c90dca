/-
  xvalue.Call at the names that the laws use: it runs the closure that the table holds, and hands on its answer.
-/
import Derived.Test.YtkikeacnbgjjlaaGreatDoorVd
namespace Go.Proofs.YtkikeacnbgjjlaaGreatDoor
open Go.RowKit Go.ChangeMaps
set_option linter.unusedSimpArgs false
set_option maxHeartbeats 1600000 in
set_option maxRecDepth 20000 in
theorem call_concat (b c : Nat) (k nv : Int) (s : ByteArray) (t : Bool) (e : Int) (w : World)
    (hC : ∀ w' bx, Below w.heap.size w w' → w'.heap[bx]? = some (.cells #[.func (.func 56) #[] #[]] 80 (0, 0)) → Calls Tryz.prog 85 #[argsV b 2 c, .pointer (some ⟨bx, 0, none⟩)] w' (RetPost (ansV k nv s t e) w')) :
    Calls Tryz.prog 10 #[.pointer none, .string ⟨#[99, 111, 110, 99, 97, 116]⟩, .slice (some ⟨b, 0, none⟩) 2 c] w (RetPost (ansV k nv s t e) w) := by
  have H := Lib.hid hC
  clear hC
  go_enter Tryz.func10, Tryz.ntmps10
  go_wp2_with fail
  refine (functions_any _).mono ?_
  rintro e0 w1 ⟨r, rfl, hF, hB1, hr⟩
  obtain ⟨v, hl, b1, rfl, hx⟩ := run_lookup (P := Tryz.prog) (s := ⟨#[99, 111, 110, 99, 97, 116]⟩) Tryz.underlying54 Tryz.underlying9 hF (fk := .wrap 2 8 85 (.func (.func 56) #[] #[]) 80) (by kernel_rfl)
  have Hx := Lib.hid hx
  have hs1 := hB1.size
  simp at hs1
  obtain ⟨hc1, hf1⟩ := bcell hB1
  clear hF hr hx
  have hq : ∀ a w, (binOp .eql 51 (.func (.func 85) #[] #[.pointer a]) .nilFunc).run Tryz.prog w = .ok (.bool false) w := fun _ _ => by kernel_rfl
  go_wp2_with fail
  refine (H.out _ b1 ?_ ?_).mono ?_
  · exact ((Below.refl _ _).alloc (Nat.le_refl _) _).trans ((hB1.mono (by simp)).alloc (by omega) _)
  · rw [Below.heap_alloc _ _ _ (Array.getElem?_eq_some_iff.1 Hx.out).1]; exact Hx.out
  rintro e1 w2 ⟨rfl, hB2⟩
  have hBB := (hB1.trans ((Below.refl _ _).alloc hB1.size (.cells #[.int .i64 2, .int .i64 8, .bool false, .func (.func 85) #[] #[.pointer (some ⟨b1, 0, none⟩)]] 53))).trans (hB2.mono (by simp; omega))
  clear hc1 hf1
  have hs2 := hBB.size
  simp at hs2
  obtain ⟨hc2, hf2⟩ := bcell hBB
  clear hl hq
  go_wp2_with fail
  refine bodyPost_ret (v := ansV k nv s t e) (by simp [results, Tryz.results10, go_sem, hc2]) rfl ⟨rfl, ?_⟩
  exact below_set6 (((Below.refl _ _).alloc (Nat.le_refl _) _).trans (hBB.mono (by simp))) (by omega) _ _ _ _ _ _
set_option maxHeartbeats 1600000 in
set_option maxRecDepth 20000 in
theorem call_before (b c : Nat) (k nv : Int) (s : ByteArray) (t : Bool) (e : Int) (w : World)
    (hC : ∀ w' bx, Below w.heap.size w w' → w'.heap[bx]? = some (.cells #[.func (.func 61) #[] #[]] 80 (0, 0)) → Calls Tryz.prog 85 #[argsV b 2 c, .pointer (some ⟨bx, 0, none⟩)] w' (RetPost (ansV k nv s t e) w')) :
    Calls Tryz.prog 10 #[.pointer none, .string ⟨#[115, 117, 98, 115, 116, 114, 105, 110, 103, 45, 98, 101, 102, 111, 114, 101]⟩, .slice (some ⟨b, 0, none⟩) 2 c] w (RetPost (ansV k nv s t e) w) := by
  have H := Lib.hid hC
  clear hC
  go_enter Tryz.func10, Tryz.ntmps10
  go_wp2_with fail
  refine (functions_any _).mono ?_
  rintro e0 w1 ⟨r, rfl, hF, hB1, hr⟩
  obtain ⟨v, hl, b1, rfl, hx⟩ := run_lookup (P := Tryz.prog) (s := ⟨#[115, 117, 98, 115, 116, 114, 105, 110, 103, 45, 98, 101, 102, 111, 114, 101]⟩) Tryz.underlying54 Tryz.underlying9 hF (fk := .wrap 2 2 85 (.func (.func 61) #[] #[]) 80) (by kernel_rfl)
  have Hx := Lib.hid hx
  have hs1 := hB1.size
  simp at hs1
  obtain ⟨hc1, hf1⟩ := bcell hB1
  clear hF hr hx
  have hq : ∀ a w, (binOp .eql 51 (.func (.func 85) #[] #[.pointer a]) .nilFunc).run Tryz.prog w = .ok (.bool false) w := fun _ _ => by kernel_rfl
  go_wp2_with fail
  refine (H.out _ b1 ?_ ?_).mono ?_
  · exact ((Below.refl _ _).alloc (Nat.le_refl _) _).trans ((hB1.mono (by simp)).alloc (by omega) _)
  · rw [Below.heap_alloc _ _ _ (Array.getElem?_eq_some_iff.1 Hx.out).1]; exact Hx.out
  rintro e1 w2 ⟨rfl, hB2⟩
  have hBB := (hB1.trans ((Below.refl _ _).alloc hB1.size (.cells #[.int .i64 2, .int .i64 2, .bool false, .func (.func 85) #[] #[.pointer (some ⟨b1, 0, none⟩)]] 53))).trans (hB2.mono (by simp; omega))
  clear hc1 hf1
  have hs2 := hBB.size
  simp at hs2
  obtain ⟨hc2, hf2⟩ := bcell hBB
  clear hl hq
  go_wp2_with fail
  refine bodyPost_ret (v := ansV k nv s t e) (by simp [results, Tryz.results10, go_sem, hc2]) rfl ⟨rfl, ?_⟩
  exact below_set6 (((Below.refl _ _).alloc (Nat.le_refl _) _).trans (hBB.mono (by simp))) (by omega) _ _ _ _ _ _
set_option maxHeartbeats 1600000 in
set_option maxRecDepth 20000 in
theorem call_after (b c : Nat) (k nv : Int) (s : ByteArray) (t : Bool) (e : Int) (w : World)
    (hC : ∀ w' bx, Below w.heap.size w w' → w'.heap[bx]? = some (.cells #[.func (.func 63) #[] #[]] 80 (0, 0)) → Calls Tryz.prog 85 #[argsV b 2 c, .pointer (some ⟨bx, 0, none⟩)] w' (RetPost (ansV k nv s t e) w')) :
    Calls Tryz.prog 10 #[.pointer none, .string ⟨#[115, 117, 98, 115, 116, 114, 105, 110, 103, 45, 97, 102, 116, 101, 114]⟩, .slice (some ⟨b, 0, none⟩) 2 c] w (RetPost (ansV k nv s t e) w) := by
  have H := Lib.hid hC
  clear hC
  go_enter Tryz.func10, Tryz.ntmps10
  go_wp2_with fail
  refine (functions_any _).mono ?_
  rintro e0 w1 ⟨r, rfl, hF, hB1, hr⟩
  obtain ⟨v, hl, b1, rfl, hx⟩ := run_lookup (P := Tryz.prog) (s := ⟨#[115, 117, 98, 115, 116, 114, 105, 110, 103, 45, 97, 102, 116, 101, 114]⟩) Tryz.underlying54 Tryz.underlying9 hF (fk := .wrap 2 2 85 (.func (.func 63) #[] #[]) 80) (by kernel_rfl)
  have Hx := Lib.hid hx
  have hs1 := hB1.size
  simp at hs1
  obtain ⟨hc1, hf1⟩ := bcell hB1
  clear hF hr hx
  have hq : ∀ a w, (binOp .eql 51 (.func (.func 85) #[] #[.pointer a]) .nilFunc).run Tryz.prog w = .ok (.bool false) w := fun _ _ => by kernel_rfl
  go_wp2_with fail
  refine (H.out _ b1 ?_ ?_).mono ?_
  · exact ((Below.refl _ _).alloc (Nat.le_refl _) _).trans ((hB1.mono (by simp)).alloc (by omega) _)
  · rw [Below.heap_alloc _ _ _ (Array.getElem?_eq_some_iff.1 Hx.out).1]; exact Hx.out
  rintro e1 w2 ⟨rfl, hB2⟩
  have hBB := (hB1.trans ((Below.refl _ _).alloc hB1.size (.cells #[.int .i64 2, .int .i64 2, .bool false, .func (.func 85) #[] #[.pointer (some ⟨b1, 0, none⟩)]] 53))).trans (hB2.mono (by simp; omega))
  clear hc1 hf1
  have hs2 := hBB.size
  simp at hs2
  obtain ⟨hc2, hf2⟩ := bcell hBB
  clear hl hq
  go_wp2_with fail
  refine bodyPost_ret (v := ansV k nv s t e) (by simp [results, Tryz.results10, go_sem, hc2]) rfl ⟨rfl, ?_⟩
  exact below_set6 (((Below.refl _ _).alloc (Nat.le_refl _) _).trans (hBB.mono (by simp))) (by omega) _ _ _ _ _ _
set_option maxHeartbeats 1600000 in
set_option maxRecDepth 20000 in
theorem call_translate (b c : Nat) (k nv : Int) (s : ByteArray) (t : Bool) (e : Int) (w : World)
    (hC : ∀ w' bx, Below w.heap.size w w' → w'.heap[bx]? = some (.cells #[.func (.func 64) #[] #[]] 80 (0, 0)) → Calls Tryz.prog 85 #[argsV b 3 c, .pointer (some ⟨bx, 0, none⟩)] w' (RetPost (ansV k nv s t e) w')) :
    Calls Tryz.prog 10 #[.pointer none, .string ⟨#[116, 114, 97, 110, 115, 108, 97, 116, 101]⟩, .slice (some ⟨b, 0, none⟩) 3 c] w (RetPost (ansV k nv s t e) w) := by
  have H := Lib.hid hC
  clear hC
  go_enter Tryz.func10, Tryz.ntmps10
  go_wp2_with fail
  refine (functions_any _).mono ?_
  rintro e0 w1 ⟨r, rfl, hF, hB1, hr⟩
  obtain ⟨v, hl, b1, rfl, hx⟩ := run_lookup (P := Tryz.prog) (s := ⟨#[116, 114, 97, 110, 115, 108, 97, 116, 101]⟩) Tryz.underlying54 Tryz.underlying9 hF (fk := .wrap 3 3 85 (.func (.func 64) #[] #[]) 80) (by kernel_rfl)
  have Hx := Lib.hid hx
  have hs1 := hB1.size
  simp at hs1
  obtain ⟨hc1, hf1⟩ := bcell hB1
  clear hF hr hx
  have hq : ∀ a w, (binOp .eql 51 (.func (.func 85) #[] #[.pointer a]) .nilFunc).run Tryz.prog w = .ok (.bool false) w := fun _ _ => by kernel_rfl
  go_wp2_with fail
  refine (H.out _ b1 ?_ ?_).mono ?_
  · exact ((Below.refl _ _).alloc (Nat.le_refl _) _).trans ((hB1.mono (by simp)).alloc (by omega) _)
  · rw [Below.heap_alloc _ _ _ (Array.getElem?_eq_some_iff.1 Hx.out).1]; exact Hx.out
  rintro e1 w2 ⟨rfl, hB2⟩
  have hBB := (hB1.trans ((Below.refl _ _).alloc hB1.size (.cells #[.int .i64 3, .int .i64 3, .bool false, .func (.func 85) #[] #[.pointer (some ⟨b1, 0, none⟩)]] 53))).trans (hB2.mono (by simp; omega))
  clear hc1 hf1
  have hs2 := hBB.size
  simp at hs2
  obtain ⟨hc2, hf2⟩ := bcell hBB
  clear hl hq
  go_wp2_with fail
  refine bodyPost_ret (v := ansV k nv s t e) (by simp [results, Tryz.results10, go_sem, hc2]) rfl ⟨rfl, ?_⟩
  exact below_set6 (((Below.refl _ _).alloc (Nat.le_refl _) _).trans (hBB.mono (by simp))) (by omega) _ _ _ _ _ _
set_option maxHeartbeats 1600000 in
set_option maxRecDepth 20000 in
theorem call_substring (b c : Nat) (k nv : Int) (s : ByteArray) (t : Bool) (e : Int) (w : World)
    (hC : ∀ w' bx, Below w.heap.size w w' → w'.heap[bx]? = some (.cells #[.func (.func 65) #[] #[]] 80 (0, 0)) → Calls Tryz.prog 85 #[argsV b 3 c, .pointer (some ⟨bx, 0, none⟩)] w' (RetPost (ansV k nv s t e) w')) :
    Calls Tryz.prog 10 #[.pointer none, .string ⟨#[115, 117, 98, 115, 116, 114, 105, 110, 103]⟩, .slice (some ⟨b, 0, none⟩) 3 c] w (RetPost (ansV k nv s t e) w) := by
  have H := Lib.hid hC
  clear hC
  go_enter Tryz.func10, Tryz.ntmps10
  go_wp2_with fail
  refine (functions_any _).mono ?_
  rintro e0 w1 ⟨r, rfl, hF, hB1, hr⟩
  obtain ⟨v, hl, b1, rfl, hx⟩ := run_lookup (P := Tryz.prog) (s := ⟨#[115, 117, 98, 115, 116, 114, 105, 110, 103]⟩) Tryz.underlying54 Tryz.underlying9 hF (fk := .wrap 2 3 85 (.func (.func 65) #[] #[]) 80) (by kernel_rfl)
  have Hx := Lib.hid hx
  have hs1 := hB1.size
  simp at hs1
  obtain ⟨hc1, hf1⟩ := bcell hB1
  clear hF hr hx
  have hq : ∀ a w, (binOp .eql 51 (.func (.func 85) #[] #[.pointer a]) .nilFunc).run Tryz.prog w = .ok (.bool false) w := fun _ _ => by kernel_rfl
  go_wp2_with fail
  refine (H.out _ b1 ?_ ?_).mono ?_
  · exact ((Below.refl _ _).alloc (Nat.le_refl _) _).trans ((hB1.mono (by simp)).alloc (by omega) _)
  · rw [Below.heap_alloc _ _ _ (Array.getElem?_eq_some_iff.1 Hx.out).1]; exact Hx.out
  rintro e1 w2 ⟨rfl, hB2⟩
  have hBB := (hB1.trans ((Below.refl _ _).alloc hB1.size (.cells #[.int .i64 2, .int .i64 3, .bool false, .func (.func 85) #[] #[.pointer (some ⟨b1, 0, none⟩)]] 53))).trans (hB2.mono (by simp; omega))
  clear hc1 hf1
  have hs2 := hBB.size
  simp at hs2
  obtain ⟨hc2, hf2⟩ := bcell hBB
  clear hl hq
  go_wp2_with fail
  refine bodyPost_ret (v := ansV k nv s t e) (by simp [results, Tryz.results10, go_sem, hc2]) rfl ⟨rfl, ?_⟩
  exact below_set6 (((Below.refl _ _).alloc (Nat.le_refl _) _).trans (hBB.mono (by simp))) (by omega) _ _ _ _ _ _
set_option maxHeartbeats 1600000 in
set_option maxRecDepth 20000 in
theorem call_starts (b c : Nat) (k nv : Int) (s : ByteArray) (t : Bool) (e : Int) (w : World)
    (hC : ∀ w' bx, Below w.heap.size w w' → w'.heap[bx]? = some (.cells #[.func (.func 57) #[] #[]] 67 (0, 0)) → Calls Tryz.prog 74 #[argsV b 2 c, .pointer (some ⟨bx, 0, none⟩)] w' (RetPost (ansV k nv s t e) w')) :
    Calls Tryz.prog 10 #[.pointer none, .string ⟨#[115, 116, 97, 114, 116, 115, 45, 119, 105, 116, 104]⟩, .slice (some ⟨b, 0, none⟩) 2 c] w (RetPost (ansV k nv s t e) w) := by
  have H := Lib.hid hC
  clear hC
  go_enter Tryz.func10, Tryz.ntmps10
  go_wp2_with fail
  refine (functions_any _).mono ?_
  rintro e0 w1 ⟨r, rfl, hF, hB1, hr⟩
  obtain ⟨v, hl, b1, rfl, hx⟩ := run_lookup (P := Tryz.prog) (s := ⟨#[115, 116, 97, 114, 116, 115, 45, 119, 105, 116, 104]⟩) Tryz.underlying54 Tryz.underlying9 hF (fk := .wrap 2 2 74 (.func (.func 57) #[] #[]) 67) (by kernel_rfl)
  have Hx := Lib.hid hx
  have hs1 := hB1.size
  simp at hs1
  obtain ⟨hc1, hf1⟩ := bcell hB1
  clear hF hr hx
  have hq : ∀ a w, (binOp .eql 51 (.func (.func 74) #[] #[.pointer a]) .nilFunc).run Tryz.prog w = .ok (.bool false) w := fun _ _ => by kernel_rfl
  go_wp2_with fail
  refine (H.out _ b1 ?_ ?_).mono ?_
  · exact ((Below.refl _ _).alloc (Nat.le_refl _) _).trans ((hB1.mono (by simp)).alloc (by omega) _)
  · rw [Below.heap_alloc _ _ _ (Array.getElem?_eq_some_iff.1 Hx.out).1]; exact Hx.out
  rintro e1 w2 ⟨rfl, hB2⟩
  have hBB := (hB1.trans ((Below.refl _ _).alloc hB1.size (.cells #[.int .i64 2, .int .i64 2, .bool false, .func (.func 74) #[] #[.pointer (some ⟨b1, 0, none⟩)]] 53))).trans (hB2.mono (by simp; omega))
  clear hc1 hf1
  have hs2 := hBB.size
  simp at hs2
  obtain ⟨hc2, hf2⟩ := bcell hBB
  clear hl hq
  go_wp2_with fail
  refine bodyPost_ret (v := ansV k nv s t e) (by simp [results, Tryz.results10, go_sem, hc2]) rfl ⟨rfl, ?_⟩
  exact below_set6 (((Below.refl _ _).alloc (Nat.le_refl _) _).trans (hBB.mono (by simp))) (by omega) _ _ _ _ _ _
set_option maxHeartbeats 1600000 in
set_option maxRecDepth 20000 in
theorem call_contains (b c : Nat) (k nv : Int) (s : ByteArray) (t : Bool) (e : Int) (w : World)
    (hC : ∀ w' bx, Below w.heap.size w w' → w'.heap[bx]? = some (.cells #[.func (.func 59) #[] #[]] 67 (0, 0)) → Calls Tryz.prog 74 #[argsV b 2 c, .pointer (some ⟨bx, 0, none⟩)] w' (RetPost (ansV k nv s t e) w')) :
    Calls Tryz.prog 10 #[.pointer none, .string ⟨#[99, 111, 110, 116, 97, 105, 110, 115]⟩, .slice (some ⟨b, 0, none⟩) 2 c] w (RetPost (ansV k nv s t e) w) := by
  have H := Lib.hid hC
  clear hC
  go_enter Tryz.func10, Tryz.ntmps10
  go_wp2_with fail
  refine (functions_any _).mono ?_
  rintro e0 w1 ⟨r, rfl, hF, hB1, hr⟩
  obtain ⟨v, hl, b1, rfl, hx⟩ := run_lookup (P := Tryz.prog) (s := ⟨#[99, 111, 110, 116, 97, 105, 110, 115]⟩) Tryz.underlying54 Tryz.underlying9 hF (fk := .wrap 2 2 74 (.func (.func 59) #[] #[]) 67) (by kernel_rfl)
  have Hx := Lib.hid hx
  have hs1 := hB1.size
  simp at hs1
  obtain ⟨hc1, hf1⟩ := bcell hB1
  clear hF hr hx
  have hq : ∀ a w, (binOp .eql 51 (.func (.func 74) #[] #[.pointer a]) .nilFunc).run Tryz.prog w = .ok (.bool false) w := fun _ _ => by kernel_rfl
  go_wp2_with fail
  refine (H.out _ b1 ?_ ?_).mono ?_
  · exact ((Below.refl _ _).alloc (Nat.le_refl _) _).trans ((hB1.mono (by simp)).alloc (by omega) _)
  · rw [Below.heap_alloc _ _ _ (Array.getElem?_eq_some_iff.1 Hx.out).1]; exact Hx.out
  rintro e1 w2 ⟨rfl, hB2⟩
  have hBB := (hB1.trans ((Below.refl _ _).alloc hB1.size (.cells #[.int .i64 2, .int .i64 2, .bool false, .func (.func 74) #[] #[.pointer (some ⟨b1, 0, none⟩)]] 53))).trans (hB2.mono (by simp; omega))
  clear hc1 hf1
  have hs2 := hBB.size
  simp at hs2
  obtain ⟨hc2, hf2⟩ := bcell hBB
  clear hl hq
  go_wp2_with fail
  refine bodyPost_ret (v := ansV k nv s t e) (by simp [results, Tryz.results10, go_sem, hc2]) rfl ⟨rfl, ?_⟩
  exact below_set6 (((Below.refl _ _).alloc (Nat.le_refl _) _).trans (hBB.mono (by simp))) (by omega) _ _ _ _ _ _
set_option maxHeartbeats 1600000 in
set_option maxRecDepth 20000 in
theorem call_length (b c : Nat) (k nv : Int) (s : ByteArray) (t : Bool) (e : Int) (w : World)
    (hC : ∀ w' bx, Below w.heap.size w w' → w'.heap[bx]? = some (.cells #[.func (.func 55) #[] #[]] 71 (0, 0)) → Calls Tryz.prog 76 #[argsV b 1 c, .pointer (some ⟨bx, 0, none⟩)] w' (RetPost (ansV k nv s t e) w')) :
    Calls Tryz.prog 10 #[.pointer none, .string ⟨#[115, 116, 114, 105, 110, 103, 45, 108, 101, 110, 103, 116, 104]⟩, .slice (some ⟨b, 0, none⟩) 1 c] w (RetPost (ansV k nv s t e) w) := by
  have H := Lib.hid hC
  clear hC
  go_enter Tryz.func10, Tryz.ntmps10
  go_wp2_with fail
  refine (functions_any _).mono ?_
  rintro e0 w1 ⟨r, rfl, hF, hB1, hr⟩
  obtain ⟨v, hl, b1, rfl, hx⟩ := run_lookup (P := Tryz.prog) (s := ⟨#[115, 116, 114, 105, 110, 103, 45, 108, 101, 110, 103, 116, 104]⟩) Tryz.underlying54 Tryz.underlying9 hF (fk := .wrap 0 1 76 (.func (.func 55) #[] #[]) 71) (by kernel_rfl)
  have Hx := Lib.hid hx
  have hs1 := hB1.size
  simp at hs1
  obtain ⟨hc1, hf1⟩ := bcell hB1
  clear hF hr hx
  have hq : ∀ a w, (binOp .eql 51 (.func (.func 76) #[] #[.pointer a]) .nilFunc).run Tryz.prog w = .ok (.bool false) w := fun _ _ => by kernel_rfl
  go_wp2_with fail
  refine (H.out _ b1 ?_ ?_).mono ?_
  · exact ((Below.refl _ _).alloc (Nat.le_refl _) _).trans ((hB1.mono (by simp)).alloc (by omega) _)
  · rw [Below.heap_alloc _ _ _ (Array.getElem?_eq_some_iff.1 Hx.out).1]; exact Hx.out
  rintro e1 w2 ⟨rfl, hB2⟩
  have hBB := (hB1.trans ((Below.refl _ _).alloc hB1.size (.cells #[.int .i64 0, .int .i64 1, .bool false, .func (.func 76) #[] #[.pointer (some ⟨b1, 0, none⟩)]] 53))).trans (hB2.mono (by simp; omega))
  clear hc1 hf1
  have hs2 := hBB.size
  simp at hs2
  obtain ⟨hc2, hf2⟩ := bcell hBB
  clear hl hq
  go_wp2_with fail
  refine bodyPost_ret (v := ansV k nv s t e) (by simp [results, Tryz.results10, go_sem, hc2]) rfl ⟨rfl, ?_⟩
  exact below_set6 (((Below.refl _ _).alloc (Nat.le_refl _) _).trans (hBB.mono (by simp))) (by omega) _ _ _ _ _ _
end Go.Proofs.YtkikeacnbgjjlaaGreatDoor
