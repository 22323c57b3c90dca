/-
  translate, whole: its drawn region by facts, then strings.Map.
-/
import Derived.Test.YtkikeacnbgjjlaaGreatDoorVf
namespace Go.Proofs.YtkikeacnbgjjlaaGreatDoor
open Go.RowKit Go.ChangeMaps
set_option linter.unusedSimpArgs false
theorem TrC.step {w0 W : World} {bx b n c : Nat} {a : Act} {w w' : World} (h : TrC w0 W bx b n c a w) (hb : Below w.heap.size w w') (d : Nat) (x : Value) (hd : d ∈ [5, 6, 7, 8, 9, 10]) : TrC w0 W bx b n c (a.put (some d) x) w' := by
  obtain ⟨h1, h2, h3, h4, h5, h6, h7, h8, h9, h10, h11, h12, h13⟩ := h
  have ne : ∀ t, t ∈ [0, 1, 2, 3, 4, 11, 12, 13, 14] → d ≠ t := by
    intro t ht e
    subst e
    simp at hd ht
    omega
  have hz := hb.size
  refine ⟨by rw [put_size]; exact h1, by rw [put_defers]; exact h2, h3.put (ne 0 (by simp)), h4.put (ne 1 (by simp)), h5.put (ne 2 (by simp)), h6.put (ne 11 (by simp)), h7.put (ne 12 (by simp)), h8.put (ne 13 (by simp)), h9.put (ne 14 (by simp)),
    h10.trans (hb.mono h10.size), fun p hp => ?_, fun q hq => ?_, h13⟩
  · obtain ⟨k1, k2, k3⟩ := h11 p ((Slot.put_iff (ne 3 (by simp))).1 hp)
    exact ⟨k1, by omega, fun q hq => k3 q ((Slot.put_iff (ne 4 (by simp))).1 hq)⟩
  · obtain ⟨k1, k2⟩ := h12 q ((Slot.put_iff (ne 4 (by simp))).1 hq)
    exact ⟨k1, by omega⟩
theorem set_block {w : World} {p T : Nat} {z : Value} (h : w.heap[p]? = some (.cells #[z] T (0, 0))) (v : Value) :
    (w.setCell ⟨p, 0, none⟩ v).heap[p]? = some (.cells #[v] T (0, 0)) ∧ w.cell? ⟨p, 0, none⟩ = some z ∧ w.frozen? ⟨p, 0, none⟩ = false := by
  refine ⟨?_, by simp [World.cell?, h], by simp [World.frozen?, h]⟩
  simp [World.setCell, Array.getElem?_modify, h]
theorem RunesAt.set {w : World} {b p : Nat} {l : List Int} {z v : Value} (h : RunesAt w b l) (hp : w.heap[p]? = some (.cells #[z] 105 (0, 0))) : RunesAt (w.setCell ⟨p, 0, none⟩ v) b l := by
  obtain ⟨cs, h1, h2⟩ := h
  have hne : b ≠ p := by
    rintro rfl
    rw [h1] at hp
    injection hp with hp
    injection hp with _ hp
    cases hp
  exact ⟨cs, (Below.heap_setCell w ⟨p, 0, none⟩ v b hne).trans h1, h2⟩
theorem TrF.set {b n c : Nat} {u v : ByteArray} {fu fv : List Int} {a : Act} {w : World} {p : Nat} {z x : Value} (hp : w.heap[p]? = some (.cells #[z] 105 (0, 0))) (t : Nat) (ht : t = 3 ∨ t = 4) (hs : Slot a t (.pointer (some ⟨p, 0, none⟩)))
    (hne : ∀ q t', t' = 3 ∨ t' = 4 → t' ≠ t → Slot a t' (.pointer (some ⟨q, 0, none⟩)) → q ≠ p) (j : Nat) (hj8 : ¬ (j = 8 ∧ t = 3)) (hj9 : ¬ (j = 9 ∧ t = 4)) (h : TrF b n c u v fu fv j a w) : TrF b n c u v fu fv j a (w.setCell ⟨p, 0, none⟩ x) := by
  have other : ∀ q t', t' = 3 ∨ t' = 4 → t' ≠ t → Slot a t' (.pointer (some ⟨q, 0, none⟩)) → (w.setCell ⟨p, 0, none⟩ x).heap[q]? = w.heap[q]? := fun q t' h1 h2 h3 => Below.heap_setCell w ⟨p, 0, none⟩ x q (hne q t' h1 h2 h3)
  have one : ∀ q t' z', t' = 3 ∨ t' = 4 → Slot a t' (.pointer (some ⟨q, 0, none⟩)) → w.heap[q]? = some (.cells #[z'] 105 (0, 0)) → ∃ z'', (w.setCell ⟨p, 0, none⟩ x).heap[q]? = some (.cells #[z''] 105 (0, 0)) := by
    intro q t' z' h1 h2 h3
    by_cases ht' : t' = t
    · subst ht'
      have := Slot.inj hs h2
      injection this with this
      injection this with this
      injection this with this
      subst this
      exact ⟨_, (set_block hp x).1⟩
    · exact ⟨z', (other q t' h1 ht' h2).trans h3⟩
  match j with
  | 0 => exact h
  | 1 => exact h
  | 2 => obtain ⟨y, k, h1, h2⟩ := h; exact ⟨y, k, h1, h2.set hp⟩
  | 3 => exact h
  | 4 => exact h
  | 5 => obtain ⟨y, k, h1, h2⟩ := h; exact ⟨y, k, h1, h2.set hp⟩
  | 6 => obtain ⟨q, z', h1, h2⟩ := h; obtain ⟨z'', h3⟩ := one q 3 z' (.inl rfl) h1 h2; exact ⟨q, z'', h1, h3⟩
  | 7 => obtain ⟨q, z', h1, h2⟩ := h; obtain ⟨z'', h3⟩ := one q 4 z' (.inr rfl) h1 h2; exact ⟨q, z'', h1, h3⟩
  | 8 => obtain ⟨q, y, k, h1, h2, h3⟩ := h; exact ⟨q, y, k, h1, (other q 3 (.inl rfl) (fun e => hj8 ⟨rfl, e.symm⟩) h1).trans h2, h3.set hp⟩
  | 9 => obtain ⟨q, y, k, h1, h2, h3⟩ := h; exact ⟨q, y, k, h1, (other q 4 (.inr rfl) (fun e => hj9 ⟨rfl, e.symm⟩) h1).trans h2, h3.set hp⟩
  | _ + 10 => trivial
theorem TrC.set {w0 W : World} {bx b n c : Nat} {a : Act} {w : World} {p : Nat} {x : Value} (h : TrC w0 W bx b n c a w) (hp : W.heap.size ≤ p) : TrC w0 W bx b n c a (w.setCell ⟨p, 0, none⟩ x) := by
  obtain ⟨h1, h2, h3, h4, h5, h6, h7, h8, h9, h10, h11, h12, h13⟩ := h
  have hz : (w.setCell ⟨p, 0, none⟩ x).heap.size = w.heap.size := by simp [World.setCell]
  exact ⟨h1, h2, h3, h4, h5, h6, h7, h8, h9, h10.setCell hp _, fun q hq => by rw [hz]; exact h11 q hq, fun q hq => by rw [hz]; exact h12 q hq, h13⟩
theorem TrC.new3 {w0 W : World} {bx b n c : Nat} {a : Act} {w w' : World} (h : TrC w0 W bx b n c a w) (hb : Below w.heap.size w w') (hz : w.heap.size < w'.heap.size) : TrC w0 W bx b n c (a.put (some 3) (.pointer (some ⟨w.heap.size, 0, none⟩))) w' := by
  obtain ⟨h1, h2, h3, h4, h5, h6, h7, h8, h9, h10, h11, h12, h13⟩ := h
  refine ⟨by rw [put_size]; exact h1, by rw [put_defers]; exact h2, h3.put (by decide), h4.put (by decide), h5.put (by decide), h6.put (by decide), h7.put (by decide), h8.put (by decide), h9.put (by decide), h10.trans (hb.mono h10.size), fun p hp => ?_, fun q hq => ?_, h13⟩
  · have := Slot.inj hp (Slot.new (by rw [h1]; omega))
    injection this with this
    injection this with this
    injection this with this
    subst this
    refine ⟨h10.size, hz, fun q hq e => ?_⟩
    have := (h12 q ((Slot.put_iff (by decide)).1 hq)).2
    omega
  · obtain ⟨k1, k2⟩ := h12 q ((Slot.put_iff (by decide)).1 hq)
    exact ⟨k1, by omega⟩
theorem TrC.new4 {w0 W : World} {bx b n c : Nat} {a : Act} {w w' : World} (h : TrC w0 W bx b n c a w) (hb : Below w.heap.size w w') (hz : w.heap.size < w'.heap.size) : TrC w0 W bx b n c (a.put (some 4) (.pointer (some ⟨w.heap.size, 0, none⟩))) w' := by
  obtain ⟨h1, h2, h3, h4, h5, h6, h7, h8, h9, h10, h11, h12, h13⟩ := h
  refine ⟨by rw [put_size]; exact h1, by rw [put_defers]; exact h2, h3.put (by decide), h4.put (by decide), h5.put (by decide), h6.put (by decide), h7.put (by decide), h8.put (by decide), h9.put (by decide), h10.trans (hb.mono h10.size), fun p hp => ?_, fun q hq => ?_, h13⟩
  · obtain ⟨k1, k2, k3⟩ := h11 p ((Slot.put_iff (by decide)).1 hp)
    refine ⟨k1, by omega, fun q hq e => ?_⟩
    have := Slot.inj hq (Slot.new (by rw [h1]; omega))
    injection this with this
    injection this with this
    injection this with this
    omega
  · have := Slot.inj hq (Slot.new (by rw [h1]; omega))
    injection this with this
    injection this with this
    injection this with this
    subst this
    exact ⟨h10.size, hz⟩
set_option maxHeartbeats 3200000 in
set_option maxRecDepth 20000 in
theorem translate_any (b n c : Nat) (s u v : ByteArray) (fu fv : List Int) (w : World) (hn : 3 ≤ n) (hA : ArgsIn w b [.text s, .text u, .text v]) (hu : RunesOf u fu) (hv : RunesOf v fv) (hus : u.size ≤ 1000) (hvs : v.size ≤ 1000) (hG : GV w) (hs : s.size ≤ 1000000)
    (hf : ∀ x : Nat, x ≤ 1114111 → -2147483648 ≤ trI fu fv x ∧ trI fu fv x ≤ 2147483647) :
    Calls Tryz.prog 64 #[argsV b n c] w (RetPost (.string ⟨(Lib.mapD (trI fu fv) s.data.toList).toArray⟩) w) := by
  have HG := Lib.hid hG
  have HA := Lib.hid hA
  have Hu := Lib.hid hu
  have Hv := Lib.hid hv
  have Hf := Lib.hid hf
  have hlt := hA.1
  clear hG hA hu hv hf
  go_enter Tryz.func64, Tryz.ntmps64
  go_wp2
  have hA1 := HA.out.alloc (.cells #[.pointer none, .slice (some ⟨b, 0, none⟩) n c] 59)
  have q0 : (w.alloc (.cells #[.pointer none, .slice (some ⟨b, 0, none⟩) n c] 59)).cell? ⟨w.heap.size, 0, none⟩ = some (.pointer none) := by simp
  have q1 : (w.alloc (.cells #[.pointer none, .slice (some ⟨b, 0, none⟩) n c] 59)).cell? ⟨w.heap.size, 1, none⟩ = some (.slice (some ⟨b, 0, none⟩) n c) := by simp
  have hz : w.heap.size < (w.alloc (.cells #[.pointer none, .slice (some ⟨b, 0, none⟩) n c] 59)).heap.size := by simp
  have hB0 : Below w.heap.size w (w.alloc (.cells #[.pointer none, .slice (some ⟨b, 0, none⟩) n c] 59)) := (Below.refl _ _).alloc (Nat.le_refl _) _
  generalize w.alloc (.cells #[.pointer none, .slice (some ⟨b, 0, none⟩) n c] 59) = W at *
  refine wp_region_rg (by kernel_rfl) (back_of (by kernel_rfl)) (TrC w W w.heap.size b n c) (TrF b n c u v fu fv) ?_ ?_ ?_
  · exact ⟨rfl, rfl, rfl, rfl, rfl, rfl, rfl, rfl, rfl, (Below.refl _ _).drew, (fun p hp => by cases hp), (fun q hq => by cases hq), Nat.le_of_lt hz⟩
  · intro i o ho a w1 hC hF
    have hi : i < 10 := by simpa using (Array.getElem?_eq_some_iff.1 ho).1
    have hs1 := hC.2.2.2.1
    have hbW := hC.2.2.2.2.2.2.2.2.2.1
    match i, hi with
    | 0, _ =>
      simp at ho
      subst ho
      refine wpOp_plain rfl rfl ?_
      have p0 := (hbW.cell (p := ⟨w.heap.size, 0, none⟩) hz).trans q0
      have p1 := (hbW.cell (p := ⟨w.heap.size, 1, none⟩) hz).trans q1
      refine wp_val (v := argsV b n c) (w' := w1) ?_ ⟨hC.step (Below.refl _ _) 5 _ (by simp), Slot.new (by rw [hC.1]; omega), fun j hd hj => ?_⟩
      · clear q0 q1
        unfold Slot at hs1
        simp [execOp, go_sem, hs1, p0, p1]
      · by_cases hj0 : j = 0
        · subst hj0; exact Slot.new (by rw [hC.1]; omega)
        · exact TrF.keep (Below.refl _ _) 5 _ j (by simp) (by simp; omega) hj
    | 1, _ =>
      simp at ho
      subst ho
      refine wpOp_plain rfl rfl ?_
      have f0 : Slot a 5 (argsV b n c) := hF ⟨0, .data⟩ (by simp) rfl
      unfold Slot at f0
      have hcl : Calls Tryz.prog 52 #[argsV b n c, .int .i64 1] w1 (RetPost (.string u) w1) := str_any b n c 1 [.text s, .text u, .text v] u w1 (by omega) (hA1.below hbW) rfl
      refine wp_ent (f := 52) (args := #[argsV b n c, .int .i64 1]) (w' := w1) ?_ hcl ?_
      · clear q0 q1
        simp [execOp, go_sem, f0]
      rintro e w2 ⟨rfl, hb2⟩
      refine ⟨_, rfl, hC.step hb2 6 _ (by simp), Slot.new (by rw [hC.1]; omega), fun j hd hj => ?_⟩
      · by_cases hj0 : j = 1
        · subst hj0; exact Slot.new (by rw [hC.1]; omega)
        · exact TrF.keep hb2 6 _ j (by simp) (by simp; omega) hj
    | 2, _ =>
      simp at ho
      subst ho
      refine wpOp_plain rfl rfl ?_
      have f0 : Slot a 6 (.string u) := hF ⟨1, .data⟩ (by simp) rfl
      unfold Slot at f0
      obtain ⟨y, w2, hrun, hb2, hr2, _⟩ := conv_runes w1 u fu Hu.out (by omega)
      have hnew : TrF b n c u v fu fv 2 (a.put (some 7) (.slice (some ⟨w1.heap.size, 0, none⟩) fu.length y)) w2 := ⟨_, _, Slot.new (by rw [hC.1]; omega), hr2⟩
      refine wp_val (v := .slice (some ⟨w1.heap.size, 0, none⟩) fu.length y) (w' := w2) ?_ ⟨hC.step hb2 7 _ (by simp), hnew, fun j hd hj => ?_⟩
      · clear q0 q1
        simp [execOp, go_sem, f0, hrun]
      · by_cases hj0 : j = 2
        · subst hj0; exact hnew
        · exact TrF.keep hb2 7 _ j (by simp) (by simp; omega) hj
    | 3, _ =>
      simp at ho
      subst ho
      refine wpOp_plain rfl rfl ?_
      have p0 := (hbW.cell (p := ⟨w.heap.size, 0, none⟩) hz).trans q0
      have p1 := (hbW.cell (p := ⟨w.heap.size, 1, none⟩) hz).trans q1
      refine wp_val (v := argsV b n c) (w' := w1) ?_ ⟨hC.step (Below.refl _ _) 8 _ (by simp), Slot.new (by rw [hC.1]; omega), fun j hd hj => ?_⟩
      · clear q0 q1
        unfold Slot at hs1
        simp [execOp, go_sem, hs1, p0, p1]
      · by_cases hj0 : j = 3
        · subst hj0; exact Slot.new (by rw [hC.1]; omega)
        · exact TrF.keep (Below.refl _ _) 8 _ j (by simp) (by simp; omega) hj
    | 4, _ =>
      simp at ho
      subst ho
      refine wpOp_plain rfl rfl ?_
      have f0 : Slot a 8 (argsV b n c) := hF ⟨3, .data⟩ (by simp) rfl
      unfold Slot at f0
      have hcl : Calls Tryz.prog 52 #[argsV b n c, .int .i64 2] w1 (RetPost (.string v) w1) := str_any b n c 2 [.text s, .text u, .text v] v w1 (by omega) (hA1.below hbW) rfl
      refine wp_ent (f := 52) (args := #[argsV b n c, .int .i64 2]) (w' := w1) ?_ hcl ?_
      · clear q0 q1
        simp [execOp, go_sem, f0]
      rintro e w2 ⟨rfl, hb2⟩
      refine ⟨_, rfl, hC.step hb2 9 _ (by simp), Slot.new (by rw [hC.1]; omega), fun j hd hj => ?_⟩
      · by_cases hj0 : j = 4
        · subst hj0; exact Slot.new (by rw [hC.1]; omega)
        · exact TrF.keep hb2 9 _ j (by simp) (by simp; omega) hj
    | 5, _ =>
      simp at ho
      subst ho
      refine wpOp_plain rfl rfl ?_
      have f0 : Slot a 9 (.string v) := hF ⟨4, .data⟩ (by simp) rfl
      unfold Slot at f0
      obtain ⟨y, w2, hrun, hb2, hr2, _⟩ := conv_runes w1 v fv Hv.out (by omega)
      have hnew : TrF b n c u v fu fv 5 (a.put (some 10) (.slice (some ⟨w1.heap.size, 0, none⟩) fv.length y)) w2 := ⟨_, _, Slot.new (by rw [hC.1]; omega), hr2⟩
      refine wp_val (v := .slice (some ⟨w1.heap.size, 0, none⟩) fv.length y) (w' := w2) ?_ ⟨hC.step hb2 10 _ (by simp), hnew, fun j hd hj => ?_⟩
      · clear q0 q1
        simp [execOp, go_sem, f0, hrun]
      · by_cases hj0 : j = 5
        · subst hj0; exact hnew
        · exact TrF.keep hb2 10 _ j (by simp) (by simp; omega) hj
    | 6, _ =>
      simp at ho
      subst ho
      refine wpOp_plain rfl rfl ?_
      have hb2 : Below w1.heap.size w1 (w1.alloc (.cells #[.slice none 0 0] 105)) := (Below.refl _ _).alloc (Nat.le_refl _) _
      have hnew : TrF b n c u v fu fv 6 (a.put (some 3) (.pointer (some ⟨w1.heap.size, 0, none⟩))) (w1.alloc (.cells #[.slice none 0 0] 105)) := ⟨_, _, Slot.new (by rw [hC.1]; omega), heap_alloc_at _ _ _ rfl⟩
      refine wp_val (v := .pointer (some ⟨w1.heap.size, 0, none⟩)) (w' := w1.alloc (.cells #[.slice none 0 0] 105)) ?_ ⟨hC.new3 hb2 (by simp), hnew, fun j hd hj => ?_⟩
      · clear q0 q1
        simp [execOp, go_sem]
      · by_cases hj0 : j = 6
        · subst hj0; exact hnew
        · by_cases hj1 : j = 8
          · subst hj1
            exact absurd rfl (hd _ rfl ⟨6, .data⟩ (by simp) rfl)
          · exact TrF.keep hb2 3 _ j (by simp) (by simp; omega) hj
    | 7, _ =>
      simp at ho
      subst ho
      refine wpOp_plain rfl rfl ?_
      have hb2 : Below w1.heap.size w1 (w1.alloc (.cells #[.slice none 0 0] 105)) := (Below.refl _ _).alloc (Nat.le_refl _) _
      have hnew : TrF b n c u v fu fv 7 (a.put (some 4) (.pointer (some ⟨w1.heap.size, 0, none⟩))) (w1.alloc (.cells #[.slice none 0 0] 105)) := ⟨_, _, Slot.new (by rw [hC.1]; omega), heap_alloc_at _ _ _ rfl⟩
      refine wp_val (v := .pointer (some ⟨w1.heap.size, 0, none⟩)) (w' := w1.alloc (.cells #[.slice none 0 0] 105)) ?_ ⟨hC.new4 hb2 (by simp), hnew, fun j hd hj => ?_⟩
      · clear q0 q1
        simp [execOp, go_sem]
      · by_cases hj0 : j = 7
        · subst hj0; exact hnew
        · by_cases hj1 : j = 9
          · subst hj1
            exact absurd rfl (hd _ rfl ⟨7, .data⟩ (by simp) rfl)
          · exact TrF.keep hb2 4 _ j (by simp) (by simp; omega) hj
    | 8, _ =>
      simp at ho
      subst ho
      refine wpOp_plain rfl rfl ?_
      obtain ⟨p, z, f0, hp⟩ := hF ⟨6, .data⟩ (by simp) rfl
      obtain ⟨x, y, f1, hx⟩ := hF ⟨2, .data⟩ (by simp) rfl
      obtain ⟨k1, k2, k3⟩ := set_block hp (.slice (some ⟨x, 0, none⟩) fu.length y)
      have hnew : TrF b n c u v fu fv 8 a (w1.setCell ⟨p, 0, none⟩ (.slice (some ⟨x, 0, none⟩) fu.length y)) := ⟨p, x, y, f0, k1, hx.set hp⟩
      have hpW : W.heap.size ≤ p := (hC.2.2.2.2.2.2.2.2.2.2.1 p f0).1
      refine wp_skp (w' := w1.setCell ⟨p, 0, none⟩ (.slice (some ⟨x, 0, none⟩) fu.length y)) ?_ ⟨hC.set hpW, hnew, fun j hd hj => ?_⟩
      · clear q0 q1
        unfold Slot at f0 f1
        simp [execOp, go_sem, f0, f1, k2, k3]
      · by_cases hj0 : j = 8
        · subst hj0; exact hnew
        · exact TrF.set hp 3 (by omega) f0 (fun q t' h1 h2 h3 => by
            obtain rfl : t' = 4 := by omega
            exact fun e => (hC.2.2.2.2.2.2.2.2.2.2.1 p f0).2.2 q h3 e.symm) j (by omega) (by omega) hj
    | 9, _ =>
      simp at ho
      subst ho
      refine wpOp_plain rfl rfl ?_
      obtain ⟨p, z, f0, hp⟩ := hF ⟨7, .data⟩ (by simp) rfl
      obtain ⟨x, y, f1, hx⟩ := hF ⟨5, .data⟩ (by simp) rfl
      obtain ⟨k1, k2, k3⟩ := set_block hp (.slice (some ⟨x, 0, none⟩) fv.length y)
      have hnew : TrF b n c u v fu fv 9 a (w1.setCell ⟨p, 0, none⟩ (.slice (some ⟨x, 0, none⟩) fv.length y)) := ⟨p, x, y, f0, k1, hx.set hp⟩
      have hpW : W.heap.size ≤ p := (hC.2.2.2.2.2.2.2.2.2.2.2.1 p f0).1
      refine wp_skp (w' := w1.setCell ⟨p, 0, none⟩ (.slice (some ⟨x, 0, none⟩) fv.length y)) ?_ ⟨hC.set hpW, hnew, fun j hd hj => ?_⟩
      · clear q0 q1
        unfold Slot at f0 f1
        simp [execOp, go_sem, f0, f1, k2, k3]
      · by_cases hj0 : j = 9
        · subst hj0; exact hnew
        · exact TrF.set hp 4 (by omega) f0 (fun q t' h1 h2 h3 => by
            obtain rfl : t' = 3 := by omega
            exact (hC.2.2.2.2.2.2.2.2.2.2.1 q h3).2.2 p f0) j (by omega) (by omega) hj
    | k + 10, hk => exact absurd hk (by omega)
  · intro a w1 hC hF
    obtain ⟨p, x8, y8, s3, hp, hx8⟩ := hF 8 (by simp)
    obtain ⟨q, x9, y9, s4, hq, hx9⟩ := hF 9 (by simp)
    obtain ⟨x2, y2, s7, _⟩ := hF 2 (by simp)
    obtain ⟨x5, y5, s10, _⟩ := hF 5 (by simp)
    have s5 := hF 0 (by simp)
    have s6 := hF 1 (by simp)
    have s8 := hF 3 (by simp)
    have s9 := hF 4 (by simp)
    obtain ⟨c1, c2, c3, c4, c5, c6, c7, c8, c9, hbW, _⟩ := hC
    have ha := act_of (l := [argsV b n c, .pointer (some ⟨w.heap.size, 0, none⟩), .string ⟨#[]⟩, .pointer (some ⟨p, 0, none⟩), .pointer (some ⟨q, 0, none⟩), argsV b n c, .string u, .slice (some ⟨x2, 0, none⟩) fu.length y2, argsV b n c, .string v, .slice (some ⟨x5, 0, none⟩) fv.length y5, undef, undef, undef, undef])
      c1 c2 ⟨c3, c4, c5, s3, s4, s5, s6, s7, s8, s9, s10, c6, c7, c8, c9, trivial⟩
    subst ha
    have HT : Hid (TrAt w1 p q fu fv) := Lib.hid ⟨x8, y8, x9, y9, hp, hq, hx8, hx9⟩
    have HB := Lib.hid hbW
    have HA1 := Lib.hid hA1
    have HB0 := Lib.hid hB0
    have p0 := (hbW.cell (p := ⟨w.heap.size, 0, none⟩) hz).trans q0
    have p1 := (hbW.cell (p := ⟨w.heap.size, 1, none⟩) hz).trans q1
    clear hF hp hq hx8 hx9 s3 s4 s5 s6 s7 s8 s9 s10 c1 c2 c3 c4 c5 c6 c7 c8 c9 hbW hA1 hB0 q0 q1
    go_wp2_with fail
    refine (str_any b n c 0 [.text s, .text u, .text v] s w1 (by omega) (HA1.out.below HB.out) rfl).mono ?_
    rintro e w2 ⟨rfl, hb2⟩
    go_wp2_with fail
    have hG2 : GV w2 := ((HG.out.grown HB0.out).below (HB.out.trans (hb2.mono HB.out.size)) (by have := HG.out.1; omega))
    have hlu := runesOf_le Hu.out
    refine (Tryz.strings_Map_grows 95 #[.pointer (some ⟨p, 0, none⟩), .pointer (some ⟨q, 0, none⟩)] (enters_of Tryz.func95 (by kernel_rfl) rfl) (trI fu fv) s w2 (by omega) (fun W2 x hx hbx => ?_) Hf.out hG2.2.1).mono ?_
    · exact (tr1_any p q fu fv x W2 (by omega) ((HT.out.below hb2).below hbx)).mono fun e w' ⟨he, hw⟩ => ⟨he, hw ▸ Below.refl _ _⟩
    rintro e w3 ⟨rfl, hb3⟩
    go_wp2_with fail
    go_ret
    exact ⟨rfl, HB0.out.trans ((HB.out.trans ((hb2.trans (hb3.mono hb2.size)).mono HB.out.size)).mono (by omega))⟩
end Go.Proofs.YtkikeacnbgjjlaaGreatDoor
