/-
  translate: of a list of characters to another one: slices.Index, the closure, the two lists in memory, strings.Map over it.
-/
import Derived.Test.YtkikeacnbgjjlaaGreatDoorVe
import Derived.Test.YtkikeacnbgjjlaaGreatDoorRg
import Derived.Laws.IdiomStrings
namespace Go.Proofs.YtkikeacnbgjjlaaGreatDoor
open Go.RowKit Go.ChangeMaps
set_option linter.unusedSimpArgs false
/-- Block b of w begins with the characters l. -/
def RunesAt (w : World) (b : Nat) (l : List Int) : Prop := ∃ cs : Array Value, w.heap[b]? = some (.cells cs 21 (0, 0)) ∧ ∀ (k : Nat) (x : Int), l[k]? = some x → cs[k]? = some (.int .i32 x)
theorem RunesAt.cell {w : World} {b : Nat} {l : List Int} (h : RunesAt w b l) (k : Nat) (x : Int) (hk : l[k]? = some x) : w.cell? ⟨b, k, none⟩ = some (.int .i32 x) := by
  obtain ⟨cs, h1, h2⟩ := h
  simp [World.cell?, h1, h2 k x hk]
theorem RunesAt.below {w w' : World} {b : Nat} {l : List Int} (h : RunesAt w b l) (hb : Below w.heap.size w w') : RunesAt w' b l := by
  obtain ⟨cs, h1, h2⟩ := h
  exact ⟨cs, (hb.block b (Array.getElem?_eq_some_iff.1 h1).1).trans h1, h2⟩
/-- The first place of x in l; -1: there is none. -/
def idxI (l : List Int) (x : Int) : Int := match l.findIdx? (· == x) with | some k => (k : Int) | none => -1
theorem idxI_none {l : List Int} {x : Int} (h : ∀ (j : Nat), j < l.length → l.getD j 0 ≠ x) : idxI l x = -1 := by
  have : l.findIdx? (· == x) = none := by
    rw [List.findIdx?_eq_none_iff]
    intro y hy
    obtain ⟨j, hj, rfl⟩ := List.getElem_of_mem hy
    have := h j hj
    simp [List.getD, hj] at this
    simpa using this
  simp [idxI, this]
theorem idxI_some {l : List Int} {x : Int} {k : Nat} (hk : k < l.length) (hx : l.getD k 0 = x) (h : ∀ (j : Nat), j < k → l.getD j 0 ≠ x) : idxI l x = k := by
  have : l.findIdx? (· == x) = some k := by
    rw [List.findIdx?_eq_some_iff_getElem]
    refine ⟨hk, ?_, fun j hj => ?_⟩
    · simp [List.getD, hk] at hx; simpa using hx
    · have := h j hj
      have hjl : j < l.length := by omega
      simp [List.getD, hjl] at this
      simpa using this
  simp [idxI, this]
set_option maxHeartbeats 800000 in
theorem index_any (b n c : Nat) (l : List Int) (x : Int) (w : World) (hn : n = l.length) (hl : l.length ≤ 1000000) (hR : RunesAt w b l) :
    Calls Tryz.prog 96 #[.slice (some ⟨b, 0, none⟩) n c, .int .i32 x] w fun e w' => e = .returned (.int .i64 (idxI l x)) ∧ w' = w := by
  subst hn
  have hcell : ∀ k, k < l.length → w.cell? ⟨b, k, none⟩ = some (.int .i32 (l.getD k 0)) := fun k hk => hR.cell k _ (by simp [List.getD, hk])
  have Hc := Lib.hid hcell
  clear hcell hR
  go_enter Tryz.func96, Tryz.ntmps96
  go_wp2
  go_loop [5, 8] (fun _ i => ∃ k : Nat, k ≤ l.length ∧ i = .int .i64 k ∧ Hid (∀ (j : Nat), j < k → l.getD j 0 ≠ x)) (fun _ i => l.length - (intOf i).toNat)
  case atStart => exact ⟨0, Nat.zero_le _, rfl, fun j hj => by omega⟩
  case round =>
    obtain ⟨k, hk, rfl, hno⟩ := hrel
    by_cases hlt : k < l.length
    · have hq := Hc.out k hlt
      generalize hy : l.getD k 0 = y at *
      have Hy := Lib.hid hy
      clear hy
      have hi1 : (k : Int) < (l.length : Int) := by omega
      by_cases hxy : (x == y) = true
      · have Hxy := Lib.hid (by simpa using hxy : x = y)
        go_wp2
        go_ret
        exact ⟨by rw [idxI_some hlt (by rw [Hy.out, Hxy.out]) hno.out]; rfl, rfl⟩
      · have hxy' : (x == y) = false := by simpa using hxy
        have Hxy := Lib.hid (by simpa using hxy : ¬ x = y)
        clear hxy
        go_wp2
        go_round
        case rel => exact ⟨k + 1, by omega, by go_num, fun j hj => by
          rcases Nat.lt_succ_iff_lt_or_eq.1 hj with h | h
          · exact hno.out j h
          · subst h; rw [Hy.out]; exact fun e => Hxy.out e.symm⟩
        case measure => simp [intOf]; omega
    · have hkl : k = l.length := by omega
      subst hkl
      go_wp2
      go_ret
      exact ⟨by rw [idxI_none hno.out]; rfl, rfl⟩
/-- What translate makes of one character. -/
def trI (fu fv : List Int) (x : Int) : Int := if idxI fu x < 0 then x else if idxI fu x < fv.length then fv.getD (idxI fu x).toNat 0 else -1
theorem idxI_bounds (l : List Int) (x : Int) : -1 ≤ idxI l x ∧ idxI l x < l.length := by
  unfold idxI
  split
  · rename_i k h
    rw [List.findIdx?_eq_some_iff_getElem] at h
    obtain ⟨h, _⟩ := h
    omega
  · omega
/-- Blocks p and q of w are the variables 'from' and 'to'. -/
def TrAt (w : World) (p q : Nat) (fu fv : List Int) : Prop := ∃ b c b' c', w.heap[p]? = some (.cells #[.slice (some ⟨b, 0, none⟩) fu.length c] 105 (0, 0)) ∧ w.heap[q]? = some (.cells #[.slice (some ⟨b', 0, none⟩) fv.length c'] 105 (0, 0)) ∧ RunesAt w b fu ∧ RunesAt w b' fv
theorem TrAt.below {w w' : World} {p q : Nat} {fu fv : List Int} (h : TrAt w p q fu fv) (hb : Below w.heap.size w w') : TrAt w' p q fu fv := by
  obtain ⟨b, c, b', c', h1, h2, h3, h4⟩ := h
  exact ⟨b, c, b', c', (hb.block p (Array.getElem?_eq_some_iff.1 h1).1).trans h1, (hb.block q (Array.getElem?_eq_some_iff.1 h2).1).trans h2, h3.below hb, h4.below hb⟩
set_option maxHeartbeats 800000 in
theorem tr1_any (p q : Nat) (fu fv : List Int) (x : Int) (w : World) (hu : fu.length ≤ 1000000) (hT : TrAt w p q fu fv) :
    Calls Tryz.prog 95 #[.int .i32 x, .pointer (some ⟨p, 0, none⟩), .pointer (some ⟨q, 0, none⟩)] w fun e w' => e = .returned (.int .i32 (trI fu fv x)) ∧ w' = w := by
  obtain ⟨b, c, b', c', h1, h2, h3, h4⟩ := hT
  have q1 : w.cell? ⟨p, 0, none⟩ = some (.slice (some ⟨b, 0, none⟩) fu.length c) := by simp [World.cell?, h1]
  have q2 : w.cell? ⟨q, 0, none⟩ = some (.slice (some ⟨b', 0, none⟩) fv.length c') := by simp [World.cell?, h2]
  have hbd := idxI_bounds fu x
  have H3 := Lib.hid h3
  have H4 := Lib.hid h4
  clear h1 h2 h3 h4
  go_enter Tryz.func95, Tryz.ntmps95
  go_wp2_with fail
  refine (index_any b _ c fu x w rfl hu H3.out).mono ?_
  rintro e w' ⟨rfl, rfl⟩
  have HT : Hid (trI fu fv x = if idxI fu x < 0 then x else if idxI fu x < fv.length then fv.getD (idxI fu x).toNat 0 else -1) := Lib.hid rfl
  generalize idxI fu x = k at *
  obtain ⟨hk1, hk2⟩ := hbd
  by_cases hk0 : k < 0
  · go_wp2
    go_ret
    exact ⟨by rw [HT.out, if_pos hk0]; rfl, rfl⟩
  · by_cases hk3 : k < fv.length
    · obtain ⟨m, rfl⟩ : ∃ m : Nat, k = (m : Int) := ⟨k.toNat, by omega⟩
      have hm : m < fv.length := by omega
      have hq := H4.out.cell m (fv.getD m 0) (by simp [List.getD, hm])
      generalize hy : fv.getD m 0 = y at *
      have Hy := Lib.hid hy
      clear hy
      go_wp2
      go_ret
      exact ⟨by rw [HT.out, if_neg (by omega), if_pos hk3]; simp only [Int.toNat_natCast]; rw [Hy.out]; rfl, rfl⟩
    · go_wp2
      go_ret
      exact ⟨by rw [HT.out, if_neg (by omega), if_neg (by omega)]; rfl, rfl⟩
/-- The characters of a text, as the conversion to []rune gives them. -/
def RunesOf (s : ByteArray) (l : List Int) : Prop := Conv.runesFrom s s.size 0 #[] = (l.map (Value.int .i32)).toArray
theorem runesOf_le {s : ByteArray} {l : List Int} (h : RunesOf s l) : l.length ≤ s.size := by
  have h1 := size_runesFrom s s.size 0 #[]
  rw [h] at h1
  simpa using h1
theorem conv_runes (w : World) (s : ByteArray) (l : List Int) (hl : RunesOf s l) (hs : s.size ≤ 1000000) :
    ∃ c w', (convert 9 105 (.string s)).run Tryz.prog w = .ok (.slice (some ⟨w.heap.size, 0, none⟩) l.length c) w' ∧ Below w.heap.size w w' ∧ RunesAt w' w.heap.size l ∧ w.heap.size < w'.heap.size := by
  have h1 := size_runesFrom s s.size 0 #[]
  have h2 := run_runes_of_string (P := Tryz.prog) w 9 105 21 s Tryz.underlying9 Tryz.underlying105 Tryz.underlying21 (by simp at h1; omega)
  rw [hl] at h2
  refine ⟨_, _, by simpa using h2, ((Below.refl _ w).drew.alloc (Nat.le_refl _) _), ⟨_, heap_alloc_at _ _ _ rfl, fun k x hk => ?_⟩, by simp⟩
  rw [List.getElem?_eq_some_iff] at hk
  obtain ⟨hk, rfl⟩ := hk
  rw [Array.getElem?_append_left (by simpa using hk)]
  simp [hk]
/-- What may be said of the memory while translate makes its two variables. -/
def TrC (w0 W : World) (bx b n c : Nat) (a : Act) (w : World) : Prop :=
  a.tmps.size = 15 ∧ a.defers = [] ∧ Slot a 0 (argsV b n c) ∧ Slot a 1 (.pointer (some ⟨bx, 0, none⟩)) ∧ Slot a 2 (.string ⟨#[]⟩) ∧ Slot a 11 undef ∧ Slot a 12 undef ∧ Slot a 13 undef ∧ Slot a 14 undef ∧
  Below W.heap.size W w ∧ (∀ p, Slot a 3 (.pointer (some ⟨p, 0, none⟩)) → W.heap.size ≤ p ∧ p < w.heap.size ∧ ∀ q, Slot a 4 (.pointer (some ⟨q, 0, none⟩)) → p ≠ q) ∧ (∀ q, Slot a 4 (.pointer (some ⟨q, 0, none⟩)) → W.heap.size ≤ q ∧ q < w.heap.size) ∧ w0.heap.size ≤ W.heap.size
def TrF (b n c : Nat) (u v : ByteArray) (fu fv : List Int) : Nat → Act → World → Prop
  | 0, a, _ => Slot a 5 (argsV b n c)
  | 1, a, _ => Slot a 6 (.string u)
  | 2, a, w => ∃ x y, Slot a 7 (.slice (some ⟨x, 0, none⟩) fu.length y) ∧ RunesAt w x fu
  | 3, a, _ => Slot a 8 (argsV b n c)
  | 4, a, _ => Slot a 9 (.string v)
  | 5, a, w => ∃ x y, Slot a 10 (.slice (some ⟨x, 0, none⟩) fv.length y) ∧ RunesAt w x fv
  | 6, a, w => ∃ p z, Slot a 3 (.pointer (some ⟨p, 0, none⟩)) ∧ w.heap[p]? = some (.cells #[z] 105 (0, 0))
  | 7, a, w => ∃ q z, Slot a 4 (.pointer (some ⟨q, 0, none⟩)) ∧ w.heap[q]? = some (.cells #[z] 105 (0, 0))
  | 8, a, w => ∃ p x y, Slot a 3 (.pointer (some ⟨p, 0, none⟩)) ∧ w.heap[p]? = some (.cells #[.slice (some ⟨x, 0, none⟩) fu.length y] 105 (0, 0)) ∧ RunesAt w x fu
  | 9, a, w => ∃ q x y, Slot a 4 (.pointer (some ⟨q, 0, none⟩)) ∧ w.heap[q]? = some (.cells #[.slice (some ⟨x, 0, none⟩) fv.length y] 105 (0, 0)) ∧ RunesAt w x fv
  | _, _, _ => True
theorem keep_block {w w' : World} (hb : Below w.heap.size w w') {k : Nat} {o : Obj} (h : w.heap[k]? = some o) : w'.heap[k]? = some o := (hb.block k (Array.getElem?_eq_some_iff.1 h).1).trans h
/-- A step that only adds memory, and writes one slot d, keeps every fact that does not speak of d. -/
theorem TrF.keep {b n c : Nat} {u v : ByteArray} {fu fv : List Int} {a : Act} {w w' : World} (hb : Below w.heap.size w w') (d : Nat) (x : Value) (j : Nat)
    (hd : d ∈ [5, 6, 7, 8, 9, 10, 3, 4]) (hj : (j, d) ∉ [(0, 5), (1, 6), (2, 7), (3, 8), (4, 9), (5, 10), (6, 3), (7, 4), (8, 3), (9, 4)]) (h : TrF b n c u v fu fv j a w) : TrF b n c u v fu fv j (a.put (some d) x) w' := by
  match j with
  | 0 => exact Slot.put h (by rintro rfl; simp at hj)
  | 1 => exact Slot.put h (by rintro rfl; simp at hj)
  | 2 => obtain ⟨p, y, h1, h2⟩ := h; exact ⟨p, y, h1.put (by rintro rfl; simp at hj), h2.below hb⟩
  | 3 => exact Slot.put h (by rintro rfl; simp at hj)
  | 4 => exact Slot.put h (by rintro rfl; simp at hj)
  | 5 => obtain ⟨p, y, h1, h2⟩ := h; exact ⟨p, y, h1.put (by rintro rfl; simp at hj), h2.below hb⟩
  | 6 => obtain ⟨p, z, h1, h2⟩ := h; exact ⟨p, z, h1.put (by rintro rfl; simp at hj), keep_block hb h2⟩
  | 7 => obtain ⟨p, z, h1, h2⟩ := h; exact ⟨p, z, h1.put (by rintro rfl; simp at hj), keep_block hb h2⟩
  | 8 => obtain ⟨p, y, z, h1, h2, h3⟩ := h; exact ⟨p, y, z, h1.put (by rintro rfl; simp at hj), keep_block hb h2, h3.below hb⟩
  | 9 => obtain ⟨p, y, z, h1, h2, h3⟩ := h; exact ⟨p, y, z, h1.put (by rintro rfl; simp at hj), keep_block hb h2, h3.below hb⟩
  | _ + 10 => trivial
end Go.Proofs.YtkikeacnbgjjlaaGreatDoor
