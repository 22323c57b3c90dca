/-
  The functions of texts: str, concat, starts-with, contains, string-length, substring-before, substring-after, each by its contract.
-/
import Derived.Test.YtkikeacnbgjjlaaGreatDoorVb
import Derived.Test.YtkikeacnbgjjlaaGreatDoorVs
import Derived.StillTailTactics
import Derived.BigQuiet
import Derived.Lib.Strings
import Derived.Shelf.Strings.Prefix
import Derived.Deep.RegionHeld3
namespace Go.Proofs.YtkikeacnbgjjlaaGreatDoor
open Go.RowKit Go.ChangeMaps
set_option linter.unusedSimpArgs false
/-- A value without nodes: its kind, millionths, text, truth. -/
structure VV where
  k : Int
  nv : Int
  s : ByteArray
  t : Bool
abbrev VV.text (s : ByteArray) : VV := ⟨2, 0, s, false⟩
abbrev VV.num (n : Int) : VV := ⟨1, n, ⟨#[]⟩, false⟩
/-- The values of block b are l. -/
def ArgsIn (w : World) (b : Nat) (l : List VV) : Prop := b < w.heap.size ∧ ∀ (i : Nat) (x : VV), l[i]? = some x → ValAt w b i x.k x.nv x.s x.t
theorem ArgsIn.below {w w' : World} {b : Nat} {l : List VV} (h : ArgsIn w b l) (hb : Below w.heap.size w w') : ArgsIn w' b l :=
  ⟨Nat.lt_of_lt_of_le h.1 hb.size, fun i x hx => (h.2 i x hx).below hb⟩
theorem ArgsIn.alloc {w : World} {b : Nat} {l : List VV} (h : ArgsIn w b l) (o : Obj) : ArgsIn (w.alloc o) b l := h.below ((Below.refl _ _).alloc (Nat.le_refl _) o)
theorem ArgsIn.drew {w : World} {b : Nat} {l : List VV} (h : ArgsIn w b l) : ArgsIn w.drew b l := h
set_option maxHeartbeats 800000 in
theorem str_any (b n c i : Nat) (l : List VV) (s : ByteArray) (w : World) (hi : i < n) (hA : ArgsIn w b l) (hx : l[i]? = some (VV.text s)) : Calls Tryz.prog 52 #[argsV b n c, .int .i64 i] w (RetPost (.string s) w) := by
  have hlt := hA.1
  obtain ⟨h0, h1, h2, h3, h4, h5⟩ := hA.2 i _ hx
  clear hA hx
  have hi' : (i : Int) < (n : Int) := by omega
  go_enter Tryz.func52, Tryz.ntmps52
  go_wp2
  go_region_held3 (fun w' => w'.cell? ⟨w.heap.size, 0, none⟩ = some (.pointer none) ∧ w'.cell? ⟨w.heap.size, 1, none⟩ = some (.slice (some ⟨b, 0, none⟩) n c) ∧ w'.cell? ⟨b, i * 6, none⟩ = some (.int .i64 2) ∧ w'.cell? ⟨b, i * 6 + 1, none⟩ = some (.slice none 0 0) ∧ w'.cell? ⟨b, i * 6 + 2, none⟩ = some (.int .i64 0) ∧ w'.cell? ⟨b, i * 6 + 3, none⟩ = some (.int .i64 0) ∧ w'.cell? ⟨b, i * 6 + 4, none⟩ = some (.string s) ∧ w'.cell? ⟨b, i * 6 + 5, none⟩ = some (.bool false)) (go_keep) (first | (go_at_call 86; refine (string_text _ _).mono ?_; rintro e w1 ⟨rfl, hb⟩; have hs := hb.size; simp at hs; obtain ⟨hc, _⟩ := bcell hb; have hlt2 : b < w.heap.size + 1 := by omega))
  go_wp2
  go_ret
  exact ⟨rfl, ((Below.refl _ _).alloc (Nat.le_refl _) _).drew.trans (hb.mono (by simp))⟩
/-- The package variables that the road reads: unicode/utf8's two tables, bytealg's MaxLen. -/
def GV (w : World) : Prop := 8 ≤ w.heap.size ∧ Lib.Utf8Tabs 0 1 w ∧ ∃ m, w.cell? ⟨2, 0, none⟩ = some (.int .i64 m)
theorem GV.below {B : Nat} {w w' : World} (h : GV w) (hb : Below B w w') (hB : 8 ≤ B) : GV w' := by
  obtain ⟨h0, ⟨h1, h2⟩, m, h3⟩ := h
  refine ⟨Nat.le_trans h0 hb.size, ⟨fun c hc => ?_, fun i hi => ⟨?_, ?_⟩⟩, m, ?_⟩
  · rw [hb.cell (p := ⟨0, c, none⟩) (by dsimp only; omega)]; exact h1 c hc
  · rw [hb.cell (p := ⟨1, 2 * i, none⟩) (by dsimp only; omega)]; exact (h2 i hi).1
  · rw [hb.cell (p := ⟨1, 2 * i + 1, none⟩) (by dsimp only; omega)]; exact (h2 i hi).2
  · rw [hb.cell (p := ⟨2, 0, none⟩) (by dsimp only; omega)]; exact h3
theorem GV.grown {w w' : World} (h : GV w) (hb : Below w.heap.size w w') : GV w' := h.below hb h.1
/-- What a text's place among the arguments is good for, in a world that has only grown. -/
theorem str_quiet {B b n c i : Nat} {l : List VV} {s : ByteArray} {W : World} (hi : i < n) (hA : ArgsIn W b l) (hx : l[i]? = some (VV.text s)) (hB : B ≤ W.heap.size) (w' : World) (hw : Below B W w') (hbB : b < B) :
    Calls Tryz.prog 52 #[argsV b n c, .int .i64 i] w' (fun e w'' => e = .returned (.string s) ∧ Below B W w'') := by
  have hA' : ArgsIn w' b l := ⟨Nat.lt_of_lt_of_le hA.1 hw.size, fun j x hj => by
    obtain ⟨h0, h1, h2, h3, h4, h5⟩ := hA.2 j x hj
    exact ⟨by rw [hw.cell hbB]; exact h0, by rw [hw.cell hbB]; exact h1, by rw [hw.cell hbB]; exact h2, by rw [hw.cell hbB]; exact h3, by rw [hw.cell hbB]; exact h4, by rw [hw.cell hbB]; exact h5⟩⟩
  exact (str_any b n c i l s w' hi hA' hx).mono fun e w'' ⟨he, hb⟩ => ⟨he, hw.trans (hb.mono (Nat.le_trans hB hw.size))⟩
set_option maxHeartbeats 800000 in
theorem starts_any (b n c : Nat) (s u : ByteArray) (w : World) (hi : 2 ≤ n) (hA : ArgsIn w b [.text s, .text u]) (r : Bool) (hH : ∀ w, Calls Tryz.prog 58 #[.string s, .string u] w fun e w' => e = .returned (.bool r) ∧ w' = w) :
    Calls Tryz.prog 57 #[argsV b n c] w (RetPost (.bool r) w) := by
  go_enter Tryz.func57, Tryz.ntmps57
  go_wp2
  have hA1 := hA.alloc (.cells #[.pointer none, .slice (some ⟨b, 0, none⟩) n c] 59)
  have hlt := hA.1
  have q0 : (w.alloc (.cells #[.pointer none, .slice (some ⟨b, 0, none⟩) n c] 59)).cell? ⟨w.heap.size, 0, none⟩ = some (.pointer none) := by simp
  have q1 : (w.alloc (.cells #[.pointer none, .slice (some ⟨b, 0, none⟩) n c] 59)).cell? ⟨w.heap.size, 1, none⟩ = some (.slice (some ⟨b, 0, none⟩) n c) := by simp
  have hz : w.heap.size < (w.alloc (.cells #[.pointer none, .slice (some ⟨b, 0, none⟩) n c] 59)).heap.size := by simp
  have hB0 : Below w.heap.size w (w.alloc (.cells #[.pointer none, .slice (some ⟨b, 0, none⟩) n c] 59)) := (Below.refl _ _).alloc (Nat.le_refl _) _
  generalize w.alloc (.cells #[.pointer none, .slice (some ⟨b, 0, none⟩) n c] 59) = W at *
  refine wp_region_quiet (C := fun w' => Below (w.heap.size + 1) W w') (by kernel_rfl) (by kernel_rfl) (Below.refl _ W).drew ?_
  refine BigFrame.wpQuiet_want rfl (fun K hK => ⟨argsV b n c, fun w' hw' => ?_, hK _ ?_⟩)
  · have p0 := (hw'.cell (p := ⟨w.heap.size, 0, none⟩) (by simp)).trans q0
    have p1 := (hw'.cell (p := ⟨w.heap.size, 1, none⟩) (by simp)).trans q1
    clear q0 q1
    go_simp
  refine BigFrame.wpQuiet_want rfl (fun K hK => ⟨.string s, fun w' hw' => ?_, hK _ ?_⟩)
  · go_simp
    exact str_quiet (i := 0) (by omega) hA1 rfl hz w' hw' (by omega)
  refine BigFrame.wpQuiet_want rfl (fun K hK => ⟨argsV b n c, fun w' hw' => ?_, hK _ ?_⟩)
  · have p0 := (hw'.cell (p := ⟨w.heap.size, 0, none⟩) (by simp)).trans q0
    have p1 := (hw'.cell (p := ⟨w.heap.size, 1, none⟩) (by simp)).trans q1
    clear q0 q1
    go_simp
  refine BigFrame.wpQuiet_want rfl (fun K hK => ⟨.string u, fun w' hw' => ?_, hK _ ?_⟩)
  · go_simp
    exact str_quiet (i := 1) (by omega) hA1 rfl hz w' hw' (by omega)
  refine BigFrame.wpQuiet_want rfl (fun K hK => ⟨.bool r, fun w' hw' => ?_, hK _ ?_⟩)
  · go_simp
    exact (hH w').mono fun e w'' ⟨he, hw''⟩ => ⟨he, by rw [hw'']; exact hw'⟩
  refine BigFrame.wpQuiet_want rfl (fun K hK => BigFrame.quiet_assign _ rfl (hK _ ?_))
  refine wpQuiet_nil ?_
  intro w' hw'
  go_wp2
  go_ret
  exact ⟨rfl, hB0.trans (hw'.mono (by omega))⟩
set_option maxHeartbeats 800000 in
theorem contains_any (b n c : Nat) (s u : ByteArray) (w : World) (hi : 2 ≤ n) (hA : ArgsIn w b [.text s, .text u]) (r : Bool) (hG : GV w) (hH : ∀ w, GV w → Calls Tryz.prog 60 #[.string s, .string u] w fun e w' => e = .returned (.bool r) ∧ w' = w) :
    Calls Tryz.prog 59 #[argsV b n c] w (RetPost (.bool r) w) := by
  go_enter Tryz.func59, Tryz.ntmps59
  go_wp2
  have hA1 := hA.alloc (.cells #[.pointer none, .slice (some ⟨b, 0, none⟩) n c] 59)
  have hlt := hA.1
  have q0 : (w.alloc (.cells #[.pointer none, .slice (some ⟨b, 0, none⟩) n c] 59)).cell? ⟨w.heap.size, 0, none⟩ = some (.pointer none) := by simp
  have q1 : (w.alloc (.cells #[.pointer none, .slice (some ⟨b, 0, none⟩) n c] 59)).cell? ⟨w.heap.size, 1, none⟩ = some (.slice (some ⟨b, 0, none⟩) n c) := by simp
  have hz : w.heap.size < (w.alloc (.cells #[.pointer none, .slice (some ⟨b, 0, none⟩) n c] 59)).heap.size := by simp
  have hB0 : Below w.heap.size w (w.alloc (.cells #[.pointer none, .slice (some ⟨b, 0, none⟩) n c] 59)) := (Below.refl _ _).alloc (Nat.le_refl _) _
  generalize w.alloc (.cells #[.pointer none, .slice (some ⟨b, 0, none⟩) n c] 59) = W at *
  refine wp_region_quiet (C := fun w' => Below (w.heap.size + 1) W w') (by kernel_rfl) (by kernel_rfl) (Below.refl _ W).drew ?_
  refine BigFrame.wpQuiet_want rfl (fun K hK => ⟨argsV b n c, fun w' hw' => ?_, hK _ ?_⟩)
  · have p0 := (hw'.cell (p := ⟨w.heap.size, 0, none⟩) (by simp)).trans q0
    have p1 := (hw'.cell (p := ⟨w.heap.size, 1, none⟩) (by simp)).trans q1
    clear q0 q1
    go_simp
  refine BigFrame.wpQuiet_want rfl (fun K hK => ⟨.string s, fun w' hw' => ?_, hK _ ?_⟩)
  · go_simp
    exact str_quiet (i := 0) (by omega) hA1 rfl hz w' hw' (by omega)
  refine BigFrame.wpQuiet_want rfl (fun K hK => ⟨argsV b n c, fun w' hw' => ?_, hK _ ?_⟩)
  · have p0 := (hw'.cell (p := ⟨w.heap.size, 0, none⟩) (by simp)).trans q0
    have p1 := (hw'.cell (p := ⟨w.heap.size, 1, none⟩) (by simp)).trans q1
    clear q0 q1
    go_simp
  refine BigFrame.wpQuiet_want rfl (fun K hK => ⟨.string u, fun w' hw' => ?_, hK _ ?_⟩)
  · go_simp
    exact str_quiet (i := 1) (by omega) hA1 rfl hz w' hw' (by omega)
  refine BigFrame.wpQuiet_want rfl (fun K hK => ⟨.bool r, fun w' hw' => ?_, hK _ ?_⟩)
  · go_simp
    exact (hH w' ((hG.grown hB0).below hw' (by have := hG.1; omega))).mono fun e w'' ⟨he, hw''⟩ => ⟨he, by rw [hw'']; exact hw'⟩
  refine BigFrame.wpQuiet_want rfl (fun K hK => BigFrame.quiet_assign _ rfl (hK _ ?_))
  refine wpQuiet_nil ?_
  intro w' hw'
  go_wp2
  go_ret
  exact ⟨rfl, hB0.trans (hw'.mono (by omega))⟩
def CutPost (W : World) (x y : ByteArray) (ok : Bool) (e : Ending) (w' : World) : Prop := e = .returned (.tuple #[.string x, .string y, .bool ok]) ∧ Below W.heap.size W w'
set_option maxHeartbeats 800000 in
theorem cut_true_true (b n c : Nat) (s u x y : ByteArray) (w : World) (hi : 2 ≤ n) (hA : ArgsIn w b [.text s, .text u]) (hG : GV w) (hH : ∀ w, GV w → Calls Tryz.prog 93 #[.string s, .string u] w (CutPost w x y true)) :
    Calls Tryz.prog 62 #[argsV b n c, .bool true] w (RetPost (.string y) w) := by
  have H := Lib.hid hH
  clear hH
  go_enter Tryz.func62, Tryz.ntmps62
  go_wp2
  have hA1 := hA.alloc (.cells #[.pointer none, .slice (some ⟨b, 0, none⟩) n c] 59)
  have hlt := hA.1
  have q0 : (w.alloc (.cells #[.pointer none, .slice (some ⟨b, 0, none⟩) n c] 59)).cell? ⟨w.heap.size, 0, none⟩ = some (.pointer none) := by simp
  have q1 : (w.alloc (.cells #[.pointer none, .slice (some ⟨b, 0, none⟩) n c] 59)).cell? ⟨w.heap.size, 1, none⟩ = some (.slice (some ⟨b, 0, none⟩) n c) := by simp
  have hz : w.heap.size < (w.alloc (.cells #[.pointer none, .slice (some ⟨b, 0, none⟩) n c] 59)).heap.size := by simp
  have hB0 : Below w.heap.size w (w.alloc (.cells #[.pointer none, .slice (some ⟨b, 0, none⟩) n c] 59)) := (Below.refl _ _).alloc (Nat.le_refl _) _
  generalize w.alloc (.cells #[.pointer none, .slice (some ⟨b, 0, none⟩) n c] 59) = W at *
  refine wp_region_quiet (C := fun w' => Below (w.heap.size + 1) W w') (by kernel_rfl) (by kernel_rfl) (Below.refl _ W).drew ?_
  refine BigFrame.wpQuiet_want rfl (fun K hK => ⟨argsV b n c, fun w' hw' => ?_, hK _ ?_⟩)
  · have p0 := (hw'.cell (p := ⟨w.heap.size, 0, none⟩) (by simp)).trans q0
    have p1 := (hw'.cell (p := ⟨w.heap.size, 1, none⟩) (by simp)).trans q1
    clear q0 q1
    go_simp
  refine BigFrame.wpQuiet_want rfl (fun K hK => ⟨.string s, fun w' hw' => ?_, hK _ ?_⟩)
  · go_simp
    exact str_quiet (i := 0) (by omega) hA1 rfl hz w' hw' (by omega)
  refine BigFrame.wpQuiet_want rfl (fun K hK => ⟨argsV b n c, fun w' hw' => ?_, hK _ ?_⟩)
  · have p0 := (hw'.cell (p := ⟨w.heap.size, 0, none⟩) (by simp)).trans q0
    have p1 := (hw'.cell (p := ⟨w.heap.size, 1, none⟩) (by simp)).trans q1
    clear q0 q1
    go_simp
  refine BigFrame.wpQuiet_want rfl (fun K hK => ⟨.string u, fun w' hw' => ?_, hK _ ?_⟩)
  · go_simp
    exact str_quiet (i := 1) (by omega) hA1 rfl hz w' hw' (by omega)
  refine BigFrame.wpQuiet_want rfl (fun K hK => ⟨.tuple #[.string x, .string y, .bool true], fun w' hw' => ?_, hK _ ?_⟩)
  · go_simp
    exact (H.out w' ((hG.grown hB0).below hw' (by have := hG.1; omega))).mono fun e w'' ⟨he, hw''⟩ => ⟨he, by exact hw'.trans (hw''.mono (by have := hw'.size; omega))⟩
  refine BigFrame.wpQuiet_want rfl (fun K hK => BigFrame.quiet_move _ rfl (hK _ ?_))
  refine BigFrame.wpQuiet_want rfl (fun K hK => ⟨.string x, fun w' hw' => ?_, hK _ ?_⟩)
  · go_simp
  refine BigFrame.wpQuiet_want rfl (fun K hK => ⟨.string y, fun w' hw' => ?_, hK _ ?_⟩)
  · go_simp
  refine BigFrame.wpQuiet_want rfl (fun K hK => ⟨.bool true, fun w' hw' => ?_, hK _ ?_⟩)
  · go_simp
  refine BigFrame.wpQuiet_want rfl (fun K hK => BigFrame.quiet_assign _ rfl (hK _ ?_))
  refine BigFrame.wpQuiet_want rfl (fun K hK => BigFrame.quiet_assign _ rfl (hK _ ?_))
  refine BigFrame.wpQuiet_want rfl (fun K hK => BigFrame.quiet_assign _ rfl (hK _ ?_))
  refine wpQuiet_nil ?_
  intro w' hw'
  go_wp2
  go_ret
  exact ⟨rfl, hB0.trans (hw'.mono (by omega))⟩
set_option maxHeartbeats 800000 in
theorem cut_true_false (b n c : Nat) (s u x y : ByteArray) (w : World) (hi : 2 ≤ n) (hA : ArgsIn w b [.text s, .text u]) (hG : GV w) (hH : ∀ w, GV w → Calls Tryz.prog 93 #[.string s, .string u] w (CutPost w x y true)) :
    Calls Tryz.prog 62 #[argsV b n c, .bool false] w (RetPost (.string x) w) := by
  have H := Lib.hid hH
  clear hH
  go_enter Tryz.func62, Tryz.ntmps62
  go_wp2
  have hA1 := hA.alloc (.cells #[.pointer none, .slice (some ⟨b, 0, none⟩) n c] 59)
  have hlt := hA.1
  have q0 : (w.alloc (.cells #[.pointer none, .slice (some ⟨b, 0, none⟩) n c] 59)).cell? ⟨w.heap.size, 0, none⟩ = some (.pointer none) := by simp
  have q1 : (w.alloc (.cells #[.pointer none, .slice (some ⟨b, 0, none⟩) n c] 59)).cell? ⟨w.heap.size, 1, none⟩ = some (.slice (some ⟨b, 0, none⟩) n c) := by simp
  have hz : w.heap.size < (w.alloc (.cells #[.pointer none, .slice (some ⟨b, 0, none⟩) n c] 59)).heap.size := by simp
  have hB0 : Below w.heap.size w (w.alloc (.cells #[.pointer none, .slice (some ⟨b, 0, none⟩) n c] 59)) := (Below.refl _ _).alloc (Nat.le_refl _) _
  generalize w.alloc (.cells #[.pointer none, .slice (some ⟨b, 0, none⟩) n c] 59) = W at *
  refine wp_region_quiet (C := fun w' => Below (w.heap.size + 1) W w') (by kernel_rfl) (by kernel_rfl) (Below.refl _ W).drew ?_
  refine BigFrame.wpQuiet_want rfl (fun K hK => ⟨argsV b n c, fun w' hw' => ?_, hK _ ?_⟩)
  · have p0 := (hw'.cell (p := ⟨w.heap.size, 0, none⟩) (by simp)).trans q0
    have p1 := (hw'.cell (p := ⟨w.heap.size, 1, none⟩) (by simp)).trans q1
    clear q0 q1
    go_simp
  refine BigFrame.wpQuiet_want rfl (fun K hK => ⟨.string s, fun w' hw' => ?_, hK _ ?_⟩)
  · go_simp
    exact str_quiet (i := 0) (by omega) hA1 rfl hz w' hw' (by omega)
  refine BigFrame.wpQuiet_want rfl (fun K hK => ⟨argsV b n c, fun w' hw' => ?_, hK _ ?_⟩)
  · have p0 := (hw'.cell (p := ⟨w.heap.size, 0, none⟩) (by simp)).trans q0
    have p1 := (hw'.cell (p := ⟨w.heap.size, 1, none⟩) (by simp)).trans q1
    clear q0 q1
    go_simp
  refine BigFrame.wpQuiet_want rfl (fun K hK => ⟨.string u, fun w' hw' => ?_, hK _ ?_⟩)
  · go_simp
    exact str_quiet (i := 1) (by omega) hA1 rfl hz w' hw' (by omega)
  refine BigFrame.wpQuiet_want rfl (fun K hK => ⟨.tuple #[.string x, .string y, .bool true], fun w' hw' => ?_, hK _ ?_⟩)
  · go_simp
    exact (H.out w' ((hG.grown hB0).below hw' (by have := hG.1; omega))).mono fun e w'' ⟨he, hw''⟩ => ⟨he, by exact hw'.trans (hw''.mono (by have := hw'.size; omega))⟩
  refine BigFrame.wpQuiet_want rfl (fun K hK => BigFrame.quiet_move _ rfl (hK _ ?_))
  refine BigFrame.wpQuiet_want rfl (fun K hK => ⟨.string x, fun w' hw' => ?_, hK _ ?_⟩)
  · go_simp
  refine BigFrame.wpQuiet_want rfl (fun K hK => ⟨.string y, fun w' hw' => ?_, hK _ ?_⟩)
  · go_simp
  refine BigFrame.wpQuiet_want rfl (fun K hK => ⟨.bool true, fun w' hw' => ?_, hK _ ?_⟩)
  · go_simp
  refine BigFrame.wpQuiet_want rfl (fun K hK => BigFrame.quiet_assign _ rfl (hK _ ?_))
  refine BigFrame.wpQuiet_want rfl (fun K hK => BigFrame.quiet_assign _ rfl (hK _ ?_))
  refine BigFrame.wpQuiet_want rfl (fun K hK => BigFrame.quiet_assign _ rfl (hK _ ?_))
  refine wpQuiet_nil ?_
  intro w' hw'
  go_wp2
  go_ret
  exact ⟨rfl, hB0.trans (hw'.mono (by omega))⟩
set_option maxHeartbeats 800000 in
theorem cut_false_true (b n c : Nat) (s u x y : ByteArray) (w : World) (hi : 2 ≤ n) (hA : ArgsIn w b [.text s, .text u]) (hG : GV w) (hH : ∀ w, GV w → Calls Tryz.prog 93 #[.string s, .string u] w (CutPost w x y false)) :
    Calls Tryz.prog 62 #[argsV b n c, .bool true] w (RetPost (.string ⟨#[]⟩) w) := by
  have H := Lib.hid hH
  clear hH
  go_enter Tryz.func62, Tryz.ntmps62
  go_wp2
  have hA1 := hA.alloc (.cells #[.pointer none, .slice (some ⟨b, 0, none⟩) n c] 59)
  have hlt := hA.1
  have q0 : (w.alloc (.cells #[.pointer none, .slice (some ⟨b, 0, none⟩) n c] 59)).cell? ⟨w.heap.size, 0, none⟩ = some (.pointer none) := by simp
  have q1 : (w.alloc (.cells #[.pointer none, .slice (some ⟨b, 0, none⟩) n c] 59)).cell? ⟨w.heap.size, 1, none⟩ = some (.slice (some ⟨b, 0, none⟩) n c) := by simp
  have hz : w.heap.size < (w.alloc (.cells #[.pointer none, .slice (some ⟨b, 0, none⟩) n c] 59)).heap.size := by simp
  have hB0 : Below w.heap.size w (w.alloc (.cells #[.pointer none, .slice (some ⟨b, 0, none⟩) n c] 59)) := (Below.refl _ _).alloc (Nat.le_refl _) _
  generalize w.alloc (.cells #[.pointer none, .slice (some ⟨b, 0, none⟩) n c] 59) = W at *
  refine wp_region_quiet (C := fun w' => Below (w.heap.size + 1) W w') (by kernel_rfl) (by kernel_rfl) (Below.refl _ W).drew ?_
  refine BigFrame.wpQuiet_want rfl (fun K hK => ⟨argsV b n c, fun w' hw' => ?_, hK _ ?_⟩)
  · have p0 := (hw'.cell (p := ⟨w.heap.size, 0, none⟩) (by simp)).trans q0
    have p1 := (hw'.cell (p := ⟨w.heap.size, 1, none⟩) (by simp)).trans q1
    clear q0 q1
    go_simp
  refine BigFrame.wpQuiet_want rfl (fun K hK => ⟨.string s, fun w' hw' => ?_, hK _ ?_⟩)
  · go_simp
    exact str_quiet (i := 0) (by omega) hA1 rfl hz w' hw' (by omega)
  refine BigFrame.wpQuiet_want rfl (fun K hK => ⟨argsV b n c, fun w' hw' => ?_, hK _ ?_⟩)
  · have p0 := (hw'.cell (p := ⟨w.heap.size, 0, none⟩) (by simp)).trans q0
    have p1 := (hw'.cell (p := ⟨w.heap.size, 1, none⟩) (by simp)).trans q1
    clear q0 q1
    go_simp
  refine BigFrame.wpQuiet_want rfl (fun K hK => ⟨.string u, fun w' hw' => ?_, hK _ ?_⟩)
  · go_simp
    exact str_quiet (i := 1) (by omega) hA1 rfl hz w' hw' (by omega)
  refine BigFrame.wpQuiet_want rfl (fun K hK => ⟨.tuple #[.string x, .string y, .bool false], fun w' hw' => ?_, hK _ ?_⟩)
  · go_simp
    exact (H.out w' ((hG.grown hB0).below hw' (by have := hG.1; omega))).mono fun e w'' ⟨he, hw''⟩ => ⟨he, by exact hw'.trans (hw''.mono (by have := hw'.size; omega))⟩
  refine BigFrame.wpQuiet_want rfl (fun K hK => BigFrame.quiet_move _ rfl (hK _ ?_))
  refine BigFrame.wpQuiet_want rfl (fun K hK => ⟨.string x, fun w' hw' => ?_, hK _ ?_⟩)
  · go_simp
  refine BigFrame.wpQuiet_want rfl (fun K hK => ⟨.string y, fun w' hw' => ?_, hK _ ?_⟩)
  · go_simp
  refine BigFrame.wpQuiet_want rfl (fun K hK => ⟨.bool false, fun w' hw' => ?_, hK _ ?_⟩)
  · go_simp
  refine BigFrame.wpQuiet_want rfl (fun K hK => BigFrame.quiet_assign _ rfl (hK _ ?_))
  refine BigFrame.wpQuiet_want rfl (fun K hK => BigFrame.quiet_assign _ rfl (hK _ ?_))
  refine BigFrame.wpQuiet_want rfl (fun K hK => BigFrame.quiet_assign _ rfl (hK _ ?_))
  refine wpQuiet_nil ?_
  intro w' hw'
  go_wp2
  go_ret
  exact ⟨rfl, hB0.trans (hw'.mono (by omega))⟩
set_option maxHeartbeats 800000 in
theorem cut_false_false (b n c : Nat) (s u x y : ByteArray) (w : World) (hi : 2 ≤ n) (hA : ArgsIn w b [.text s, .text u]) (hG : GV w) (hH : ∀ w, GV w → Calls Tryz.prog 93 #[.string s, .string u] w (CutPost w x y false)) :
    Calls Tryz.prog 62 #[argsV b n c, .bool false] w (RetPost (.string ⟨#[]⟩) w) := by
  have H := Lib.hid hH
  clear hH
  go_enter Tryz.func62, Tryz.ntmps62
  go_wp2
  have hA1 := hA.alloc (.cells #[.pointer none, .slice (some ⟨b, 0, none⟩) n c] 59)
  have hlt := hA.1
  have q0 : (w.alloc (.cells #[.pointer none, .slice (some ⟨b, 0, none⟩) n c] 59)).cell? ⟨w.heap.size, 0, none⟩ = some (.pointer none) := by simp
  have q1 : (w.alloc (.cells #[.pointer none, .slice (some ⟨b, 0, none⟩) n c] 59)).cell? ⟨w.heap.size, 1, none⟩ = some (.slice (some ⟨b, 0, none⟩) n c) := by simp
  have hz : w.heap.size < (w.alloc (.cells #[.pointer none, .slice (some ⟨b, 0, none⟩) n c] 59)).heap.size := by simp
  have hB0 : Below w.heap.size w (w.alloc (.cells #[.pointer none, .slice (some ⟨b, 0, none⟩) n c] 59)) := (Below.refl _ _).alloc (Nat.le_refl _) _
  generalize w.alloc (.cells #[.pointer none, .slice (some ⟨b, 0, none⟩) n c] 59) = W at *
  refine wp_region_quiet (C := fun w' => Below (w.heap.size + 1) W w') (by kernel_rfl) (by kernel_rfl) (Below.refl _ W).drew ?_
  refine BigFrame.wpQuiet_want rfl (fun K hK => ⟨argsV b n c, fun w' hw' => ?_, hK _ ?_⟩)
  · have p0 := (hw'.cell (p := ⟨w.heap.size, 0, none⟩) (by simp)).trans q0
    have p1 := (hw'.cell (p := ⟨w.heap.size, 1, none⟩) (by simp)).trans q1
    clear q0 q1
    go_simp
  refine BigFrame.wpQuiet_want rfl (fun K hK => ⟨.string s, fun w' hw' => ?_, hK _ ?_⟩)
  · go_simp
    exact str_quiet (i := 0) (by omega) hA1 rfl hz w' hw' (by omega)
  refine BigFrame.wpQuiet_want rfl (fun K hK => ⟨argsV b n c, fun w' hw' => ?_, hK _ ?_⟩)
  · have p0 := (hw'.cell (p := ⟨w.heap.size, 0, none⟩) (by simp)).trans q0
    have p1 := (hw'.cell (p := ⟨w.heap.size, 1, none⟩) (by simp)).trans q1
    clear q0 q1
    go_simp
  refine BigFrame.wpQuiet_want rfl (fun K hK => ⟨.string u, fun w' hw' => ?_, hK _ ?_⟩)
  · go_simp
    exact str_quiet (i := 1) (by omega) hA1 rfl hz w' hw' (by omega)
  refine BigFrame.wpQuiet_want rfl (fun K hK => ⟨.tuple #[.string x, .string y, .bool false], fun w' hw' => ?_, hK _ ?_⟩)
  · go_simp
    exact (H.out w' ((hG.grown hB0).below hw' (by have := hG.1; omega))).mono fun e w'' ⟨he, hw''⟩ => ⟨he, by exact hw'.trans (hw''.mono (by have := hw'.size; omega))⟩
  refine BigFrame.wpQuiet_want rfl (fun K hK => BigFrame.quiet_move _ rfl (hK _ ?_))
  refine BigFrame.wpQuiet_want rfl (fun K hK => ⟨.string x, fun w' hw' => ?_, hK _ ?_⟩)
  · go_simp
  refine BigFrame.wpQuiet_want rfl (fun K hK => ⟨.string y, fun w' hw' => ?_, hK _ ?_⟩)
  · go_simp
  refine BigFrame.wpQuiet_want rfl (fun K hK => ⟨.bool false, fun w' hw' => ?_, hK _ ?_⟩)
  · go_simp
  refine BigFrame.wpQuiet_want rfl (fun K hK => BigFrame.quiet_assign _ rfl (hK _ ?_))
  refine BigFrame.wpQuiet_want rfl (fun K hK => BigFrame.quiet_assign _ rfl (hK _ ?_))
  refine BigFrame.wpQuiet_want rfl (fun K hK => BigFrame.quiet_assign _ rfl (hK _ ?_))
  refine wpQuiet_nil ?_
  intro w' hw'
  go_wp2
  go_ret
  exact ⟨rfl, hB0.trans (hw'.mono (by omega))⟩
theorem cut_any (b n c : Nat) (s u x y : ByteArray) (ok behind : Bool) (w : World) (hi : 2 ≤ n) (hA : ArgsIn w b [.text s, .text u]) (hG : GV w) (hH : ∀ w, GV w → Calls Tryz.prog 93 #[.string s, .string u] w (CutPost w x y ok)) :
    Calls Tryz.prog 62 #[argsV b n c, .bool behind] w (RetPost (.string (if ok then (if behind then y else x) else ⟨#[]⟩)) w) := by
  cases ok <;> cases behind
  · exact cut_false_false b n c s u x y w hi hA hG hH
  · exact cut_false_true b n c s u x y w hi hA hG hH
  · exact cut_true_false b n c s u x y w hi hA hG hH
  · exact cut_true_true b n c s u x y w hi hA hG hH
set_option maxHeartbeats 800000 in
theorem before_any (b n c : Nat) (s u x y : ByteArray) (ok : Bool) (w : World) (hi : 2 ≤ n) (hA : ArgsIn w b [.text s, .text u]) (hG : GV w) (hH : ∀ w, GV w → Calls Tryz.prog 93 #[.string s, .string u] w (CutPost w x y ok)) :
    Calls Tryz.prog 61 #[argsV b n c] w (RetPost (.string (if ok then x else ⟨#[]⟩)) w) := by
  obtain ⟨r, hr⟩ : ∃ r, r = (if ok then x else (⟨#[]⟩ : ByteArray)) := ⟨_, rfl⟩
  rw [← hr]
  have Hr := Lib.hid hr
  clear hr
  have HA := Lib.hid hA
  have H := Lib.hid hH
  have HG := Lib.hid hG
  clear hA hH hG
  go_enter Tryz.func61, Tryz.ntmps61
  go_wp2_with fail
  refine (cut_any b n c s u x y ok false _ hi (HA.out.alloc _) (HG.out.grown ((Below.refl _ _).alloc (Nat.le_refl _) _)) H.out).mono ?_
  rintro e w1 ⟨he, hb⟩
  simp only [Bool.false_eq_true, if_false, if_true] at he
  rw [← Hr.out] at he
  subst he
  go_wp2_with fail
  go_ret
  exact ⟨rfl, ((Below.refl _ _).alloc (Nat.le_refl _) _).trans (hb.mono (by simp))⟩
set_option maxHeartbeats 800000 in
theorem after_any (b n c : Nat) (s u x y : ByteArray) (ok : Bool) (w : World) (hi : 2 ≤ n) (hA : ArgsIn w b [.text s, .text u]) (hG : GV w) (hH : ∀ w, GV w → Calls Tryz.prog 93 #[.string s, .string u] w (CutPost w x y ok)) :
    Calls Tryz.prog 63 #[argsV b n c] w (RetPost (.string (if ok then y else ⟨#[]⟩)) w) := by
  obtain ⟨r, hr⟩ : ∃ r, r = (if ok then y else (⟨#[]⟩ : ByteArray)) := ⟨_, rfl⟩
  rw [← hr]
  have Hr := Lib.hid hr
  clear hr
  have HA := Lib.hid hA
  have H := Lib.hid hH
  have HG := Lib.hid hG
  clear hA hH hG
  go_enter Tryz.func63, Tryz.ntmps63
  go_wp2_with fail
  refine (cut_any b n c s u x y ok true _ hi (HA.out.alloc _) (HG.out.grown ((Below.refl _ _).alloc (Nat.le_refl _) _)) H.out).mono ?_
  rintro e w1 ⟨he, hb⟩
  simp only [Bool.false_eq_true, if_false, if_true] at he
  rw [← Hr.out] at he
  subst he
  go_wp2_with fail
  go_ret
  exact ⟨rfl, ((Below.refl _ _).alloc (Nat.le_refl _) _).trans (hb.mono (by simp))⟩
end Go.Proofs.YtkikeacnbgjjlaaGreatDoor
