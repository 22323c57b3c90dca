/-
  The functions of texts as Call runs them: string-length, concat (of two), and the closures that text, truth and number make.
-/
import Derived.Test.YtkikeacnbgjjlaaGreatDoorVc
namespace Go.Proofs.YtkikeacnbgjjlaaGreatDoor
open Go.RowKit Go.ChangeMaps
set_option linter.unusedSimpArgs false
theorem empty_append (s : ByteArray) : (⟨#[]⟩ : ByteArray) ++ s = s := by
  ext1
  simp [ByteArray.data_append]
set_option maxHeartbeats 800000 in
theorem concat_two (b n c : Nat) (s u : ByteArray) (w : World) (hn : n = 2) (hA : ArgsIn w b [.text s, .text u]) (hs : s.size ≤ 1099511627776) (hu : u.size ≤ 1099511627776) :
    Calls Tryz.prog 56 #[argsV b n c] w (RetPost (.string (s ++ u)) w) := by
  subst hn
  have HA := Lib.hid hA
  clear hA
  go_enter Tryz.func56, Tryz.ntmps56
  go_wp2_with fail
  refine wp_loop_rounds 3 ?_
  rw [rounds_succ]
  go_wp2_with fail
  refine (str_any b 2 c 0 [.text s, .text u] s _ (by omega) (HA.out.alloc _) rfl).mono ?_
  rintro e w1 ⟨rfl, hb1⟩
  have hA1 := Lib.hid ((HA.out.alloc _).below hb1)
  have hs1 := hb1.size
  simp at hs1
  obtain ⟨hc1, _⟩ := bcell hb1
  go_wp2_with fail
  rw [rounds_succ]
  go_wp2_with fail
  refine (str_any b 2 c 1 [.text s, .text u] u _ (by omega) hA1.out rfl).mono ?_
  rintro e w2 ⟨rfl, hb2⟩
  go_wp2_with fail
  rw [rounds_succ]
  go_wp2_with fail
  go_ret
  exact ⟨by rw [empty_append]; rfl, ((Below.refl _ _).alloc (Nat.le_refl _) _).trans ((hb1.trans (hb2.mono hb1.size)).mono (by simp))⟩
theorem below_iter (w : World) (s : ByteArray) (pos : Nat) : Below w.heap.size w (w.iter s pos) := by
  first
    | exact (Below.refl _ _).alloc (Nat.le_refl _) _
    | (unfold World.iter; exact (Below.refl _ _).alloc (Nat.le_refl _) _)
set_option maxHeartbeats 800000 in
theorem count_any (s : ByteArray) (w : World) (hs : s.size ≤ 1000000000) : Calls Tryz.prog 13 #[.string s] w (RetPost (.int .i64 (Lib.runeCount s)) w) := by
  go_enter Tryz.func13, Tryz.ntmps13
  go_wp2_with fail
  refine (Tryz.utf8_RuneCountInString s _ (by omega)).mono ?_
  rintro e w1 ⟨rfl, pos, rfl⟩
  go_wp2_with fail
  go_ret
  exact ⟨rfl, below_iter _ _ _⟩
set_option maxHeartbeats 800000 in
theorem length_any (b n c : Nat) (s : ByteArray) (w : World) (hn : 1 ≤ n) (hA : ArgsIn w b [.text s]) (hs : s.size ≤ 1000000000) :
    Calls Tryz.prog 55 #[argsV b n c] w (RetPost (finV (Lib.runeCount s * 1000000)) w) := by
  have HA := Lib.hid hA
  have hcnt : Lib.runeCount s ≤ s.size := Lib.runeCountFrom_le s s.size 0
  have hc0 : (0 : Int) ≤ (Lib.runeCount s : Int) := by omega
  have hc1 : (Lib.runeCount s : Int) ≤ 1000000000 := by omega
  clear hA hcnt
  go_enter Tryz.func55, Tryz.ntmps55
  go_wp2_with fail
  refine (str_any b n c 0 [.text s] s _ (by omega) ((HA.out.alloc _).alloc _) rfl).mono ?_
  rintro e w1 ⟨rfl, hb1⟩
  go_wp2_with fail
  refine (count_any s _ hs).mono ?_
  rintro e w2 ⟨rfl, hb2⟩
  go_wp2_with fail
  refine (int_any _ _ hc0 (by omega)).mono ?_
  rintro e w3 ⟨rfl, hb3⟩
  have hb := (hb1.trans (hb2.mono hb1.size)).trans (hb3.mono (Nat.le_trans hb1.size hb2.size))
  clear hb1 hb2 hb3
  have hs1 := hb.size
  simp at hs1
  obtain ⟨hc, _⟩ := bcell hb
  obtain ⟨_, hf⟩ := bcell hb
  go_wp2_with fail
  refine bodyPost_ret (v := finV (Lib.runeCount s * 1000000)) (by simp [results, Tryz.results55, go_sem, hc]) rfl ⟨rfl, ?_⟩
  refine Below.setCell (Below.setCell ?_ (by dsimp only; omega) _) (by dsimp only; omega) _
  exact ((((Below.refl _ _).alloc (Nat.le_refl _) _).alloc (by simp) _).trans (hb.mono (by simp; omega)))
/-- A result of text, truth or number: a value and an error. -/
abbrev ansV (k nv : Int) (s : ByteArray) (t : Bool) (e : Int) : Value := .tuple #[valV k nv s t, .int .i64 e]
theorem below_set6 {B k : Nat} {w w1 : World} (h : Below B w w1) (hk : B ≤ k) (a b c d e f : Value) :
    Below B w ((((((w1.setCell ⟨k, 0, none⟩ a).setCell ⟨k, 1, none⟩ b).setCell ⟨k, 2, none⟩ c).setCell ⟨k, 3, none⟩ d).setCell ⟨k, 4, none⟩ e).setCell ⟨k, 5, none⟩ f) :=
  (((((h.setCell hk _).setCell hk _).setCell hk _).setCell hk _).setCell hk _).setCell hk _
set_option maxHeartbeats 800000 in
theorem textC_56 (b n c : Nat) (r : ByteArray) (bx : Nat) (w : World) (hx : w.heap[bx]? = some (.cells #[.func (.func 56) #[] #[]] 80 (0, 0))) (hr : r.size ≤ 32768)
    (hH : ∀ w', Below w.heap.size w w' → Calls Tryz.prog 56 #[argsV b n c] w' (RetPost (.string r) w')) :
    Calls Tryz.prog 85 #[argsV b n c, .pointer (some ⟨bx, 0, none⟩)] w (RetPost (ansV 2 0 r false 0) w) := by
  have H := Lib.hid hH
  clear hH
  have hbx : bx < w.heap.size := (Array.getElem?_eq_some_iff.1 hx).1
  have q : w.cell? ⟨bx, 0, none⟩ = some (.func (.func 56) #[] #[]) := by simp [World.cell?, hx]
  clear hx
  go_enter Tryz.func85, Tryz.ntmps85
  go_wp2_with fail
  refine (H.out _ (((Below.refl _ _).alloc (Nat.le_refl _) _).alloc (by simp) _)).mono ?_
  rintro e w1 ⟨rfl, hb⟩
  have hs1 := hb.size
  simp at hs1
  obtain ⟨hc, hf⟩ := bcell hb
  clear q
  go_wp2_with fail
  refine bodyPost_ret (v := ansV 2 0 r false 0) (by simp [results, Tryz.results85, go_sem, hc]) rfl ⟨rfl, ?_⟩
  exact below_set6 ((((Below.refl _ _).alloc (Nat.le_refl _) _).alloc (by simp) _).trans (hb.mono (by simp; omega))) (by omega) _ _ _ _ _ _
set_option maxHeartbeats 800000 in
theorem textC_61 (b n c : Nat) (r : ByteArray) (bx : Nat) (w : World) (hx : w.heap[bx]? = some (.cells #[.func (.func 61) #[] #[]] 80 (0, 0))) (hr : r.size ≤ 32768)
    (hH : ∀ w', Below w.heap.size w w' → Calls Tryz.prog 61 #[argsV b n c] w' (RetPost (.string r) w')) :
    Calls Tryz.prog 85 #[argsV b n c, .pointer (some ⟨bx, 0, none⟩)] w (RetPost (ansV 2 0 r false 0) w) := by
  have H := Lib.hid hH
  clear hH
  have hbx : bx < w.heap.size := (Array.getElem?_eq_some_iff.1 hx).1
  have q : w.cell? ⟨bx, 0, none⟩ = some (.func (.func 61) #[] #[]) := by simp [World.cell?, hx]
  clear hx
  go_enter Tryz.func85, Tryz.ntmps85
  go_wp2_with fail
  refine (H.out _ (((Below.refl _ _).alloc (Nat.le_refl _) _).alloc (by simp) _)).mono ?_
  rintro e w1 ⟨rfl, hb⟩
  have hs1 := hb.size
  simp at hs1
  obtain ⟨hc, hf⟩ := bcell hb
  clear q
  go_wp2_with fail
  refine bodyPost_ret (v := ansV 2 0 r false 0) (by simp [results, Tryz.results85, go_sem, hc]) rfl ⟨rfl, ?_⟩
  exact below_set6 ((((Below.refl _ _).alloc (Nat.le_refl _) _).alloc (by simp) _).trans (hb.mono (by simp; omega))) (by omega) _ _ _ _ _ _
set_option maxHeartbeats 800000 in
theorem textC_63 (b n c : Nat) (r : ByteArray) (bx : Nat) (w : World) (hx : w.heap[bx]? = some (.cells #[.func (.func 63) #[] #[]] 80 (0, 0))) (hr : r.size ≤ 32768)
    (hH : ∀ w', Below w.heap.size w w' → Calls Tryz.prog 63 #[argsV b n c] w' (RetPost (.string r) w')) :
    Calls Tryz.prog 85 #[argsV b n c, .pointer (some ⟨bx, 0, none⟩)] w (RetPost (ansV 2 0 r false 0) w) := by
  have H := Lib.hid hH
  clear hH
  have hbx : bx < w.heap.size := (Array.getElem?_eq_some_iff.1 hx).1
  have q : w.cell? ⟨bx, 0, none⟩ = some (.func (.func 63) #[] #[]) := by simp [World.cell?, hx]
  clear hx
  go_enter Tryz.func85, Tryz.ntmps85
  go_wp2_with fail
  refine (H.out _ (((Below.refl _ _).alloc (Nat.le_refl _) _).alloc (by simp) _)).mono ?_
  rintro e w1 ⟨rfl, hb⟩
  have hs1 := hb.size
  simp at hs1
  obtain ⟨hc, hf⟩ := bcell hb
  clear q
  go_wp2_with fail
  refine bodyPost_ret (v := ansV 2 0 r false 0) (by simp [results, Tryz.results85, go_sem, hc]) rfl ⟨rfl, ?_⟩
  exact below_set6 ((((Below.refl _ _).alloc (Nat.le_refl _) _).alloc (by simp) _).trans (hb.mono (by simp; omega))) (by omega) _ _ _ _ _ _
set_option maxHeartbeats 800000 in
theorem textC_64 (b n c : Nat) (r : ByteArray) (bx : Nat) (w : World) (hx : w.heap[bx]? = some (.cells #[.func (.func 64) #[] #[]] 80 (0, 0))) (hr : r.size ≤ 32768)
    (hH : ∀ w', Below w.heap.size w w' → Calls Tryz.prog 64 #[argsV b n c] w' (RetPost (.string r) w')) :
    Calls Tryz.prog 85 #[argsV b n c, .pointer (some ⟨bx, 0, none⟩)] w (RetPost (ansV 2 0 r false 0) w) := by
  have H := Lib.hid hH
  clear hH
  have hbx : bx < w.heap.size := (Array.getElem?_eq_some_iff.1 hx).1
  have q : w.cell? ⟨bx, 0, none⟩ = some (.func (.func 64) #[] #[]) := by simp [World.cell?, hx]
  clear hx
  go_enter Tryz.func85, Tryz.ntmps85
  go_wp2_with fail
  refine (H.out _ (((Below.refl _ _).alloc (Nat.le_refl _) _).alloc (by simp) _)).mono ?_
  rintro e w1 ⟨rfl, hb⟩
  have hs1 := hb.size
  simp at hs1
  obtain ⟨hc, hf⟩ := bcell hb
  clear q
  go_wp2_with fail
  refine bodyPost_ret (v := ansV 2 0 r false 0) (by simp [results, Tryz.results85, go_sem, hc]) rfl ⟨rfl, ?_⟩
  exact below_set6 ((((Below.refl _ _).alloc (Nat.le_refl _) _).alloc (by simp) _).trans (hb.mono (by simp; omega))) (by omega) _ _ _ _ _ _
set_option maxHeartbeats 800000 in
theorem textC_65 (b n c : Nat) (r : ByteArray) (bx : Nat) (w : World) (hx : w.heap[bx]? = some (.cells #[.func (.func 65) #[] #[]] 80 (0, 0))) (hr : r.size ≤ 32768)
    (hH : ∀ w', Below w.heap.size w w' → Calls Tryz.prog 65 #[argsV b n c] w' (RetPost (.string r) w')) :
    Calls Tryz.prog 85 #[argsV b n c, .pointer (some ⟨bx, 0, none⟩)] w (RetPost (ansV 2 0 r false 0) w) := by
  have H := Lib.hid hH
  clear hH
  have hbx : bx < w.heap.size := (Array.getElem?_eq_some_iff.1 hx).1
  have q : w.cell? ⟨bx, 0, none⟩ = some (.func (.func 65) #[] #[]) := by simp [World.cell?, hx]
  clear hx
  go_enter Tryz.func85, Tryz.ntmps85
  go_wp2_with fail
  refine (H.out _ (((Below.refl _ _).alloc (Nat.le_refl _) _).alloc (by simp) _)).mono ?_
  rintro e w1 ⟨rfl, hb⟩
  have hs1 := hb.size
  simp at hs1
  obtain ⟨hc, hf⟩ := bcell hb
  clear q
  go_wp2_with fail
  refine bodyPost_ret (v := ansV 2 0 r false 0) (by simp [results, Tryz.results85, go_sem, hc]) rfl ⟨rfl, ?_⟩
  exact below_set6 ((((Below.refl _ _).alloc (Nat.le_refl _) _).alloc (by simp) _).trans (hb.mono (by simp; omega))) (by omega) _ _ _ _ _ _
set_option maxHeartbeats 800000 in
theorem textL_56 (b n c : Nat) (r : ByteArray) (bx : Nat) (w : World) (hx : w.heap[bx]? = some (.cells #[.func (.func 56) #[] #[]] 80 (0, 0))) (hr : 32768 < r.size)
    (hH : ∀ w', Below w.heap.size w w' → Calls Tryz.prog 56 #[argsV b n c] w' (RetPost (.string r) w')) :
    Calls Tryz.prog 85 #[argsV b n c, .pointer (some ⟨bx, 0, none⟩)] w (RetPost (ansV 0 0 ⟨#[]⟩ false 6) w) := by
  have H := Lib.hid hH
  clear hH
  have hbx : bx < w.heap.size := (Array.getElem?_eq_some_iff.1 hx).1
  have q : w.cell? ⟨bx, 0, none⟩ = some (.func (.func 56) #[] #[]) := by simp [World.cell?, hx]
  clear hx
  go_enter Tryz.func85, Tryz.ntmps85
  go_wp2_with fail
  refine (H.out _ (((Below.refl _ _).alloc (Nat.le_refl _) _).alloc (by simp) _)).mono ?_
  rintro e w1 ⟨rfl, hb⟩
  have hs1 := hb.size
  simp at hs1
  obtain ⟨hc, hf⟩ := bcell hb
  clear q
  go_wp2_with fail
  refine bodyPost_ret (v := ansV 0 0 ⟨#[]⟩ false 6) (by simp [results, Tryz.results85, go_sem, hc]) rfl ⟨rfl, ?_⟩
  exact below_set6 ((((Below.refl _ _).alloc (Nat.le_refl _) _).alloc (by simp) _).trans (hb.mono (by simp; omega))) (by omega) _ _ _ _ _ _
set_option maxHeartbeats 800000 in
theorem truthC_57 (b n c : Nat) (r : Bool) (bx : Nat) (w : World) (hx : w.heap[bx]? = some (.cells #[.func (.func 57) #[] #[]] 67 (0, 0)))
    (hH : ∀ w', Below w.heap.size w w' → Calls Tryz.prog 57 #[argsV b n c] w' (RetPost (.bool r) w')) :
    Calls Tryz.prog 74 #[argsV b n c, .pointer (some ⟨bx, 0, none⟩)] w (RetPost (ansV 3 0 ⟨#[]⟩ r 0) w) := by
  have H := Lib.hid hH
  clear hH
  have hbx : bx < w.heap.size := (Array.getElem?_eq_some_iff.1 hx).1
  have q : w.cell? ⟨bx, 0, none⟩ = some (.func (.func 57) #[] #[]) := by simp [World.cell?, hx]
  clear hx
  go_enter Tryz.func74, Tryz.ntmps74
  go_wp2_with fail
  refine (H.out _ (((Below.refl _ _).alloc (Nat.le_refl _) _).alloc (by simp) _)).mono ?_
  rintro e w1 ⟨rfl, hb⟩
  have hs1 := hb.size
  simp at hs1
  obtain ⟨hc, hf⟩ := bcell hb
  clear q
  go_wp2_with fail
  refine bodyPost_ret (v := ansV 3 0 ⟨#[]⟩ r 0) (by simp [results, Tryz.results74, go_sem, hc]) rfl ⟨rfl, ?_⟩
  exact below_set6 ((((Below.refl _ _).alloc (Nat.le_refl _) _).alloc (by simp) _).trans (hb.mono (by simp; omega))) (by omega) _ _ _ _ _ _
set_option maxHeartbeats 800000 in
theorem truthC_59 (b n c : Nat) (r : Bool) (bx : Nat) (w : World) (hx : w.heap[bx]? = some (.cells #[.func (.func 59) #[] #[]] 67 (0, 0)))
    (hH : ∀ w', Below w.heap.size w w' → Calls Tryz.prog 59 #[argsV b n c] w' (RetPost (.bool r) w')) :
    Calls Tryz.prog 74 #[argsV b n c, .pointer (some ⟨bx, 0, none⟩)] w (RetPost (ansV 3 0 ⟨#[]⟩ r 0) w) := by
  have H := Lib.hid hH
  clear hH
  have hbx : bx < w.heap.size := (Array.getElem?_eq_some_iff.1 hx).1
  have q : w.cell? ⟨bx, 0, none⟩ = some (.func (.func 59) #[] #[]) := by simp [World.cell?, hx]
  clear hx
  go_enter Tryz.func74, Tryz.ntmps74
  go_wp2_with fail
  refine (H.out _ (((Below.refl _ _).alloc (Nat.le_refl _) _).alloc (by simp) _)).mono ?_
  rintro e w1 ⟨rfl, hb⟩
  have hs1 := hb.size
  simp at hs1
  obtain ⟨hc, hf⟩ := bcell hb
  clear q
  go_wp2_with fail
  refine bodyPost_ret (v := ansV 3 0 ⟨#[]⟩ r 0) (by simp [results, Tryz.results74, go_sem, hc]) rfl ⟨rfl, ?_⟩
  exact below_set6 ((((Below.refl _ _).alloc (Nat.le_refl _) _).alloc (by simp) _).trans (hb.mono (by simp; omega))) (by omega) _ _ _ _ _ _
set_option maxHeartbeats 800000 in
theorem numberC_55 (b n c : Nat) (r : Int) (bx : Nat) (w : World) (hx : w.heap[bx]? = some (.cells #[.func (.func 55) #[] #[]] 71 (0, 0)))
    (hH : ∀ w', Below w.heap.size w w' → Calls Tryz.prog 55 #[argsV b n c] w' (RetPost (finV r) w')) :
    Calls Tryz.prog 76 #[argsV b n c, .pointer (some ⟨bx, 0, none⟩)] w (RetPost (ansV 1 r ⟨#[]⟩ false 0) w) := by
  have H := Lib.hid hH
  clear hH
  have hbx : bx < w.heap.size := (Array.getElem?_eq_some_iff.1 hx).1
  have q : w.cell? ⟨bx, 0, none⟩ = some (.func (.func 55) #[] #[]) := by simp [World.cell?, hx]
  clear hx
  go_enter Tryz.func76, Tryz.ntmps76
  go_wp2_with fail
  refine (H.out _ (((Below.refl _ _).alloc (Nat.le_refl _) _).alloc (by simp) _)).mono ?_
  rintro e w1 ⟨rfl, hb⟩
  have hs1 := hb.size
  simp at hs1
  obtain ⟨hc, hf⟩ := bcell hb
  clear q
  go_wp2_with fail
  refine bodyPost_ret (v := ansV 1 r ⟨#[]⟩ false 0) (by simp [results, Tryz.results76, go_sem, hc]) rfl ⟨rfl, ?_⟩
  exact below_set6 ((((Below.refl _ _).alloc (Nat.le_refl _) _).alloc (by simp) _).trans (hb.mono (by simp; omega))) (by omega) _ _ _ _ _ _
end Go.Proofs.YtkikeacnbgjjlaaGreatDoor
