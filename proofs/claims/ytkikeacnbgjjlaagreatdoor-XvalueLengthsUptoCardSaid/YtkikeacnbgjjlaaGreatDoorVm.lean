/-
  XvalueLengths walked.
-/
import Derived.Test.YtkikeacnbgjjlaaGreatDoorVl
import Derived.Lib.TrimUEq
import Derived.Lib.RuneCount
namespace Go.Proofs.YtkikeacnbgjjlaaGreatDoor
open Go.RowKit Go.ChangeMaps
set_option linter.unusedSimpArgs false
theorem decodeN_local (n m b0 b1 b2 b3 c1 c2 c3 : Nat) (h : n ≤ m) (h1 : 1 < n → c1 = b1) (h2 : 2 < n → c2 = b2) (h3 : 3 < n → c3 = b3)
    (hok : ¬ ((Lib.decodeN n b0 b1 b2 b3).1 = 65533 ∧ (Lib.decodeN n b0 b1 b2 b3).2 = 1)) : Lib.decodeN m b0 c1 c2 c3 = Lib.decodeN n b0 b1 b2 b3 := by
  revert hok
  unfold Lib.decodeN
  by_cases e0 : b0 < 128
  · simp only [e0, if_true]
    exact fun _ => trivial
  rw [if_neg e0, if_neg e0]
  by_cases e1 : b0 / 32 = 6 ∧ (1 < n ∧ b1 / 64 = 2)
  · obtain ⟨x, y, z⟩ := id e1
    have f1 : b0 / 32 = 6 ∧ (1 < m ∧ c1 / 64 = 2) := ⟨x, by omega, by rw [h1 y]; exact z⟩
    rw [if_pos f1, if_pos e1, h1 y]
    exact fun _ => rfl
  rw [if_neg e1]
  by_cases e2 : b0 / 16 = 14 ∧ (1 < n ∧ b1 / 64 = 2) ∧ (2 < n ∧ b2 / 64 = 2)
  · obtain ⟨x, ⟨y, z⟩, u, v⟩ := id e2
    have g1 : ¬ (b0 / 32 = 6 ∧ (1 < m ∧ c1 / 64 = 2)) := fun h => by have := h.1; omega
    have f1 : b0 / 16 = 14 ∧ (1 < m ∧ c1 / 64 = 2) ∧ (2 < m ∧ c2 / 64 = 2) := ⟨x, ⟨by omega, by rw [h1 y]; exact z⟩, by omega, by rw [h2 u]; exact v⟩
    rw [if_neg g1, if_pos f1, if_pos e2, h1 y, h2 u]
    exact fun _ => rfl
  rw [if_neg e2]
  by_cases e3 : b0 / 8 = 30 ∧ (1 < n ∧ b1 / 64 = 2) ∧ (2 < n ∧ b2 / 64 = 2) ∧ (3 < n ∧ b3 / 64 = 2)
  · obtain ⟨x, ⟨y, z⟩, ⟨u, v⟩, p, q⟩ := id e3
    have g1 : ¬ (b0 / 32 = 6 ∧ (1 < m ∧ c1 / 64 = 2)) := fun h => by have := h.1; omega
    have g2 : ¬ (b0 / 16 = 14 ∧ (1 < m ∧ c1 / 64 = 2) ∧ (2 < m ∧ c2 / 64 = 2)) := fun h => by have := h.1; omega
    have f1 : b0 / 8 = 30 ∧ (1 < m ∧ c1 / 64 = 2) ∧ (2 < m ∧ c2 / 64 = 2) ∧ (3 < m ∧ c3 / 64 = 2) := ⟨x, ⟨by omega, by rw [h1 y]; exact z⟩, ⟨by omega, by rw [h2 u]; exact v⟩, by omega, by rw [h3 p]; exact q⟩
    rw [if_neg g1, if_neg g2, if_pos f1, if_pos e3, h1 y, h2 u, h3 p]
    exact fun _ => rfl
  rw [if_neg e3]
  intro hok
  exact absurd ⟨rfl, rfl⟩ hok
/-- A character that decodes whole decodes the same whatever stands behind. -/
theorem decodeL_local (l u : List UInt8) (hl : l ≠ []) (hok : ¬ ((Lib.decodeL l).1 = 65533 ∧ (Lib.decodeL l).2 = 1)) : Lib.decodeL (l ++ u) = Lib.decodeL l := by
  rw [Lib.decodeL_N, Lib.decodeL_N] at *
  have hp : 0 < l.length := List.length_pos_iff.2 hl
  have e0 : (l ++ u).getD 0 0 = l.getD 0 0 := by simp [List.getD, List.getElem?_append_left hp]
  rw [e0]
  refine decodeN_local _ _ _ _ _ _ _ _ _ (by simp) (fun h => ?_) (fun h => ?_) (fun h => ?_) hok
  · simp [List.getD, List.getElem?_append_left h]
  · simp [List.getD, List.getElem?_append_left h]
  · simp [List.getD, List.getElem?_append_left h]
def isCharI (r : Int) : Bool := decide (r = 9 ∨ r = 10 ∨ r = 13 ∨ (32 ≤ r ∧ r ≤ 55295) ∨ (57344 ≤ r ∧ r ≤ 65533) ∨ (65536 ≤ r ∧ r ≤ 1114111))
/-- Is it a text: each character decodes whole and is a character of XML? -/
def goodL : Nat → List UInt8 → Bool
  | 0, l => l.isEmpty
  | f + 1, l => if l.isEmpty then true else !((Lib.decodeL l).1 == 65533 && (Lib.decodeL l).2 == 1) && (isCharI (Lib.decodeL l).1 && goodL f (l.drop (Lib.decodeL l).2))
def cntL : Nat → List UInt8 → Nat
  | 0, _ => 0
  | f + 1, l => if l.isEmpty then 0 else 1 + cntL f (l.drop (Lib.decodeL l).2)
theorem cnt_fuel : ∀ (f g : Nat) (l : List UInt8), l.length ≤ f → l.length ≤ g → cntL f l = cntL g l
  | 0, 0, _, _, _ => rfl
  | 0, g + 1, l, h, _ => by
    have : l = [] := List.length_eq_zero_iff.1 (by omega)
    subst this
    rfl
  | f + 1, 0, l, _, h => by
    have : l = [] := List.length_eq_zero_iff.1 (by omega)
    subst this
    rfl
  | f + 1, g + 1, l, h1, h2 => by
    unfold cntL
    by_cases hl : l = []
    · subst hl
      rfl
    · have hw := Lib.decodeL_width l
      have hp : 0 < l.length := List.length_pos_iff.2 hl
      rw [cnt_fuel f g (l.drop (Lib.decodeL l).2) (by rw [List.length_drop]; omega) (by rw [List.length_drop]; omega)]
theorem cnt_append (u : List UInt8) : ∀ (f : Nat) (s : List UInt8), s.length ≤ f → goodL f s = true → ∀ g, (s ++ u).length ≤ g → cntL g (s ++ u) = cntL f s + cntL u.length u
  | 0, s, h, _, g, hg => by
    have : s = [] := List.length_eq_zero_iff.1 (by omega)
    subst this
    show cntL g u = 0 + _
    rw [Nat.zero_add]
    exact cnt_fuel _ _ _ (by simpa using hg) (Nat.le_refl _)
  | f + 1, s, h, hgood, g, hg => by
    by_cases hs : s = []
    · subst hs
      show cntL g u = 0 + _
      rw [Nat.zero_add]
      exact cnt_fuel _ _ _ (by simpa using hg) (Nat.le_refl _)
    · have hp : 0 < s.length := List.length_pos_iff.2 hs
      have he : s.isEmpty = false := by simpa using hs
      have he2 : (s ++ u).isEmpty = false := by simp [hs]
      rw [goodL, he] at hgood
      simp only [Bool.false_eq_true, if_false, Bool.and_eq_true, Bool.not_eq_true', Bool.and_eq_false_iff, beq_eq_false_iff_ne, ne_eq] at hgood
      obtain ⟨h1, _, h3⟩ := hgood
      have hloc := decodeL_local s u hs (by rcases h1 with h1 | h1 <;> simp [h1])
      have hle := Lib.decodeL_le s hs
      have hw := Lib.decodeL_width s
      obtain ⟨g', rfl⟩ : ∃ g', g = g' + 1 := ⟨g - 1, by simp at hg; omega⟩
      rw [cntL, cntL, he, he2, hloc]
      simp only [Bool.false_eq_true, if_false]
      rw [List.drop_append_of_le_length hle, cnt_append u f _ (by rw [List.length_drop]; omega) h3 g' (by rw [List.length_append, List.length_drop]; rw [List.length_append] at hg; omega)]
      omega
theorem runeCountFrom_cnt (s : ByteArray) : ∀ (f pos : Nat), Lib.runeCountFrom s f pos = cntL f (s.data.toList.drop pos)
  | 0, _ => rfl
  | f + 1, pos => by
    rw [Lib.runeCountFrom, cntL]
    have es := Lib.size_eq s
    by_cases h : pos < s.size
    · have hne : (s.data.toList.drop pos).isEmpty = false := by
        rw [List.isEmpty_eq_false_iff]
        intro h0
        have := congrArg List.length h0
        rw [List.length_drop] at this
        simp at this
        omega
      rw [if_pos h, hne, runeCountFrom_cnt s f, Lib.decodeL_drop, List.drop_drop]
      rfl
    · have he : (s.data.toList.drop pos).isEmpty = true := by
        rw [List.isEmpty_iff, List.drop_eq_nil_iff]
        omega
      rw [if_neg h, he]
      rfl
def goodB (s : ByteArray) : Bool := goodL s.size s.data.toList
theorem count_append (s u : ByteArray) (h : goodB s = true) : Lib.runeCount (s ++ u) = Lib.runeCount s + Lib.runeCount u := by
  unfold Lib.runeCount
  rw [runeCountFrom_cnt, runeCountFrom_cnt, runeCountFrom_cnt, List.drop_zero, List.drop_zero, List.drop_zero]
  have e1 : (s ++ u).data.toList = s.data.toList ++ u.data.toList := by simp
  have e2 := Lib.size_eq (s ++ u)
  rw [e1] at e2
  rw [e1, cnt_append u.data.toList s.size s.data.toList (by rw [Lib.size_eq s]; exact Nat.le_refl _) h (s ++ u).size (by rw [e2]; exact Nat.le_refl _), Lib.size_eq u]
theorem hasPrefix_append (s u : ByteArray) : Lib.hasPrefix (s ++ u).data.toList s.data.toList = true := by
  have e1 : (s ++ u).data.toList = s.data.toList ++ u.data.toList := by simp
  rw [e1]
  exact List.isPrefixOf_iff_prefix.2 ⟨_, rfl⟩
set_option maxHeartbeats 1600000 in
theorem isChar_any (r : Int) (w : World) (h0 : 0 ≤ r) (h1 : r ≤ 1114111) : Calls Tryz.prog 70 #[.int .i32 r] w fun e w' => e = .returned (.bool (isCharI r)) ∧ w' = w := by
  by_cases a1 : r = 9
  · subst a1
    go_enter Tryz.func70, Tryz.ntmps70
    go_wp2
    go_ret
    exact ⟨by rfl, rfl⟩
  by_cases a2 : r = 10
  · subst a2
    go_enter Tryz.func70, Tryz.ntmps70
    go_wp2
    go_ret
    exact ⟨by rfl, rfl⟩
  by_cases a3 : r = 13
  · subst a3
    go_enter Tryz.func70, Tryz.ntmps70
    go_wp2
    go_ret
    exact ⟨rfl, rfl⟩
  have c1 : (r == 9) = false := by simpa using a1
  have c2 : (r == 10) = false := by simpa using a2
  have c3 : (r == 13) = false := by simpa using a3
  by_cases b1 : 32 ≤ r
  all_goals by_cases b2 : r ≤ 55295
  all_goals by_cases b3 : 57344 ≤ r
  all_goals by_cases b4 : r ≤ 65533
  all_goals by_cases b5 : 65536 ≤ r
  all_goals first
    | (exfalso; omega)
    | (go_enter Tryz.func70, Tryz.ntmps70
       go_wp2
       go_ret
       first
         | (rw [show isCharI r = true from decide_eq_true (by omega)]; exact ⟨rfl, rfl⟩)
         | (rw [show isCharI r = false from decide_eq_false (by omega)]; exact ⟨rfl, rfl⟩))
def BadPost (s : ByteArray) (w : World) (e : Ending) (w' : World) : Prop := (∃ (a : Int) (b : Bool), e = .returned (.tuple #[.int .i64 a, .bool b]) ∧ decide (a < 0) = goodB s) ∧ Below w.heap.size w w'
set_option maxHeartbeats 1600000 in
set_option maxRecDepth 20000 in
theorem bad_any (s : ByteArray) (w : World) (hG : GV w) (hs : s.size ≤ 1000000000) :
    Calls Tryz.prog 21 #[.string s] w (BadPost s w) := by
  go_enter Tryz.func21, Tryz.ntmps21
  go_wp2
  go_loopg [4] s.size (fun gk p wx => ∃ k : Nat, p = .int .i64 k ∧ k ≤ s.size ∧ s.size ≤ k + gk ∧ Hid (goodL gk (s.data.toList.drop k) = goodB s) ∧ Below w.heap.size w wx)
  case atStart => exact ⟨0, rfl, by omega, by omega, (by rw [List.drop_zero]; rfl : goodL s.size (s.data.toList.drop 0) = goodB s), Below.refl _ _⟩
  case round =>
    obtain ⟨k, rfl, hk, hgk, hgood, hbw⟩ := hrel
    by_cases hlt : k < s.size
    · have hltz : (k : Int) < (s.size : Int) := by omega
      obtain ⟨g', rfl⟩ : ∃ g', gk = g' + 1 := ⟨gk - 1, by omega⟩
      have hdg := Lib.decodeGo_extract s k hlt
      have hstep : goodL (g' + 1) (s.data.toList.drop k) = (!((Utf8.decode s k).1 == 65533 && (Utf8.decode s k).2 == 1) && (isCharI (Utf8.decode s k).1 && goodL g' (s.data.toList.drop (k + (Utf8.decode s k).2)))) := by
        have es := Lib.size_eq s
        have hne : (s.data.toList.drop k).isEmpty = false := by
          rw [List.isEmpty_eq_false_iff]
          intro h0
          have := congrArg List.length h0
          rw [List.length_drop] at this
          simp at this
          omega
        rw [goodL, hne, Lib.decodeL_drop, List.drop_drop]
        rfl
      have hwn : k + (Utf8.decode s k).2 ≤ s.size := by
        have es := Lib.size_eq s
        have hne : s.data.toList.drop k ≠ [] := by
          intro h0
          have := congrArg List.length h0
          rw [List.length_drop] at this
          simp at this
          omega
        have := Lib.decodeL_le _ hne
        rw [Lib.decodeL_drop, List.length_drop] at this
        omega
      have hwd := Lib.width_pos s k
      have hrl := Lib.rune_le s k
      obtain ⟨R, hR⟩ : ∃ R, (Utf8.decode s k).1 = R := ⟨_, rfl⟩
      obtain ⟨K, hK⟩ : ∃ K, (Utf8.decode s k).2 = K := ⟨_, rfl⟩
      rw [hK] at hwn hwd
      rw [hR] at hrl
      have hG1 := hG.grown hbw
      have cD := Tryz.utf8_DecodeRuneInString (s.extract k s.size) wr hG1.2.1
      rw [hdg, hR, hK] at cD
      rw [hR, hK] at hstep
      have HS : Hid (goodL (g' + 1) (s.data.toList.drop k) = _) := hstep
      clear hstep hdg hR hK
      go_wp2_with fail
      refine cD.mono ?_
      rintro e w1 ⟨rfl, h1⟩
      have hbw1 := hbw.trans (h1.mono hbw.size)
      clear h1 hbw cD
      by_cases hbad : R = 65533 ∧ K = 1
      · obtain ⟨rfl, rfl⟩ := hbad
        go_wp2
        go_ret2
        refine ⟨⟨_, _, rfl, ?_⟩, hbw1⟩
        have h2 : goodL (g' + 1) (s.data.toList.drop k) = goodB s := hgood
        have h3 : goodL (g' + 1) (s.data.toList.drop k) = _ := HS
        rw [← h2, h3]
        exact decide_eq_false (by omega)
      · have hnb : (!((R == 65533) && (K == 1))) = true := by
          by_cases h1 : R = 65533
          · have h2 : K ≠ 1 := fun h => hbad ⟨h1, h⟩
            simp [h2]
          · simp [h1]
        have hci := isChar_any (R : Int) w1 (by omega) (by omega)
        rcases Bool.eq_false_or_eq_true (isCharI (R : Int)) with hc | hc
        · rw [hc] at hci
          by_cases hR5 : R = 65533
          · have hK1 : K ≠ 1 := fun h => hbad ⟨hR5, h⟩
            have hK1' : ((K : Int) == 1) = false := by simp; omega
            subst hR5
            go_wp2_with fail
            refine hci.mono ?_
            rintro e w2 ⟨rfl, rfl⟩
            go_wp2_with fail
            go_roundg g'
            case measure => omega
            case rel =>
              refine ⟨k + K, by go_num, hwn, by omega, ?_, hbw1⟩
              have h2 : goodL (g' + 1) (s.data.toList.drop k) = goodB s := hgood
              have h3 : goodL (g' + 1) (s.data.toList.drop k) = _ := HS
              rw [h3, hnb, hc] at h2
              exact h2
          · have hR5' : ((R : Int) == 65533) = false := by simp; omega
            go_wp2_with fail
            refine hci.mono ?_
            rintro e w2 ⟨rfl, rfl⟩
            go_wp2_with fail
            go_roundg g'
            case measure => omega
            case rel =>
              refine ⟨k + K, by go_num, hwn, by omega, ?_, hbw1⟩
              have h2 : goodL (g' + 1) (s.data.toList.drop k) = goodB s := hgood
              have h3 : goodL (g' + 1) (s.data.toList.drop k) = _ := HS
              rw [h3, hnb, hc] at h2
              exact h2
        · rw [hc] at hci
          have hfin : decide ((k : Int) < 0) = goodB s := by
            have h2 : goodL (g' + 1) (s.data.toList.drop k) = goodB s := hgood
            have h3 : goodL (g' + 1) (s.data.toList.drop k) = _ := HS
            rw [← h2, h3, hnb, hc]
            exact decide_eq_false (by omega)
          have HF := Lib.hid hfin
          clear hfin
          by_cases hR5 : R = 65533
          · have hK1 : K ≠ 1 := fun h => hbad ⟨hR5, h⟩
            have hK1' : ((K : Int) == 1) = false := by simp; omega
            subst hR5
            go_wp2_with fail
            refine hci.mono ?_
            rintro e w2 ⟨rfl, rfl⟩
            go_wp2
            go_ret2
            exact ⟨⟨_, _, rfl, HF⟩, hbw1⟩
          · have hR5' : ((R : Int) == 65533) = false := by simp; omega
            go_wp2_with fail
            refine hci.mono ?_
            rintro e w2 ⟨rfl, rfl⟩
            go_wp2
            go_ret2
            exact ⟨⟨_, _, rfl, HF⟩, hbw1⟩
    · have hks : k = s.size := by omega
      subst hks
      have hltz : ¬ ((s.size : Int) < (s.size : Int)) := by omega
      have hfin : goodB s = true := by
        have h2 : goodL gk (s.data.toList.drop s.size) = goodB s := hgood
        rw [← h2, List.drop_of_length_le (by rw [← Lib.size_eq]; exact Nat.le_refl _)]
        cases gk <;> rfl
      have HF := Lib.hid hfin
      clear hfin
      go_wp2
      go_ret2
      exact ⟨⟨_, _, rfl, by rw [HF]; rfl⟩, hbw⟩

set_option maxHeartbeats 400000 in
theorem isText_any (s : ByteArray) (w : World) (hG : GV w) (hs : s.size ≤ 1000000000) : Calls Tryz.prog 12 #[.string s] w (RetPost (.bool (goodB s)) w) := by
  go_enter Tryz.func12, Tryz.ntmps12
  go_wp2_with fail
  refine (bad_any s w hG hs).mono ?_
  rintro e w1 ⟨⟨a, b, rfl, hab⟩, hb⟩
  have HB := Lib.hid hab
  clear hab
  go_wp2
  go_ret
  have hab : decide (a < 0) = goodB s := HB
  exact ⟨by rw [← hab]; rfl, hb⟩
theorem do_length (b c : Nat) (s : ByteArray) (w : World) (hA : ArgsIn w b [.text s]) (hs : s.size ≤ 1000000000) :
    Calls Tryz.prog 10 #[.pointer none, .string ⟨#[115, 116, 114, 105, 110, 103, 45, 108, 101, 110, 103, 116, 104]⟩, .slice (some ⟨b, 0, none⟩) 1 c] w (RetPost (ansV 1 (Lib.runeCount s * 1000000) ⟨#[]⟩ false 0) w) :=
  call_length b c 1 (Lib.runeCount s * 1000000) ⟨#[]⟩ false 0 w (fun w' bx hb hx => numberC_55 b 1 c (Lib.runeCount s * 1000000) bx w' hx (fun w'' hb' => length_any b 1 c s w'' (Nat.le_refl _) ((hA.below hb).below hb') hs))
theorem do_starts (b c : Nat) (s u : ByteArray) (w : World) (hA : ArgsIn w b [.text s, .text u]) :
    Calls Tryz.prog 10 #[.pointer none, .string ⟨#[115, 116, 97, 114, 116, 115, 45, 119, 105, 116, 104]⟩, .slice (some ⟨b, 0, none⟩) 2 c] w (RetPost (ansV 3 0 ⟨#[]⟩ (Lib.hasPrefix s.data.toList u.data.toList) 0) w) :=
  call_starts b c 3 0 ⟨#[]⟩ (Lib.hasPrefix s.data.toList u.data.toList) 0 w (fun w' bx hb hx => truthC_57 b 2 c (Lib.hasPrefix s.data.toList u.data.toList) bx w' hx (fun w'' hb' => starts_any b 2 c s u w'' (Nat.le_refl _) ((hA.below hb).below hb') _ (fun w => Tryz.strings_HasPrefix s u w)))
set_option maxHeartbeats 8000000 in
set_option maxRecDepth 20000 in
theorem lengths_any (s u : ByteArray) (w : World) (hG : GV w) (hs : s.size ≤ 10000000) (hu : u.size ≤ 10000000) : Calls Tryz.prog 4 #[.string s, .string u] w (RetPost (.bool true) w) := by
  have fin_live : ∀ w1, Below w.heap.size w w1 → Calls Tryz.prog 8 #[] w1 (fun e w' => e = .returned (.bool true) ∧ Below w.heap.size w w') := fun w1 h => (live_any w1 (hG.grown h)).mono fun e w' ⟨he, hb⟩ => ⟨he, h.trans (hb.mono h.size)⟩
  by_cases hsz : s.size + u.size > 32768
  · have hsz' : (32768 : Int) < (s.size : Int) + (u.size : Int) := by omega
    go_enter Tryz.func4, Tryz.ntmps4
    go_wp2_with fail
    refine (fin_live w (Below.refl _ _)).mono ?_
    rintro e w1 ⟨rfl, h1⟩
    go_wp2
    go_ret
    exact ⟨rfl, h1⟩
  · have hsz' : ¬ ((32768 : Int) < (s.size : Int) + (u.size : Int)) := by omega
    rcases Bool.eq_false_or_eq_true (goodB s) with hgs | hgs
    · rcases Bool.eq_false_or_eq_true (goodB u) with hgu | hgu
      · have hG0 := hG.1
        have hcnt := count_append s u hgs
        have hpre := hasPrefix_append s u
        have hle := Lib.runeCount_le s
        have hle2 := Lib.runeCount_le u
        have hz : (s ++ u).size = s.size + u.size := ByteArray.size_append
        have hd1 := isText_any s w hG (by omega)
        rw [hgs] at hd1
        go_enter Tryz.func4, Tryz.ntmps4
        go_wp2_with fail
        refine hd1.mono ?_
        rintro e w1 ⟨rfl, h1⟩
        go_wp2_with fail
        have hd2 := isText_any u w1 (hG.grown h1) (by omega)
        rw [hgu] at hd2
        refine hd2.mono ?_
        rintro e w2 ⟨rfl, h2⟩
        have hb2 := h1.trans (h2.mono h1.size)
        have hs2 := hb2.size
        clear h1 h2 hd1 hd2
        go_wp2_with fail
        refine (text_two ⟨#[99, 111, 110, 99, 97, 116]⟩ s u (s ++ u) w2 (fun b c w' h hA => do_concat b c s u w' hA (by omega))).mono ?_
        rintro e w3 ⟨rfl, h3⟩
        have hb3 := hb2.trans (h3.mono hs2)
        have hs3 := hb3.size
        clear hb2 h3
        go_wp2_with fail
        refine (ofText_any (s ++ u) _).mono ?_
        rintro e w4 ⟨rfl, h4⟩
        have hb4 := hb3.trans (h4.mono hs3)
        have hs4 := hb4.size
        clear hb3 h4
        go_wp2_with fail
        have hb5 : Below w.heap.size w (w4.alloc (.cells #[.int .i64 2, .slice none 0 0, .int .i64 0, .int .i64 0, .string (s ++ u), .bool false] 31)) := hb4.alloc (by omega) _
        refine (do_length w4.heap.size 1 (s ++ u) _ (argsIn_new w4 [.text (s ++ u)] _ _ rfl) (by omega)).mono ?_
        rintro e w6 ⟨rfl, h6⟩
        have hb6 := hb5.trans (h6.mono (by simp; omega))
        have hs6 := hb6.size
        clear hb4 hb5 h6
        go_wp2_with fail
        have hb7 : Below w.heap.size w (w6.alloc (.cells #[.int .i64 1, .slice none 0 0, .int .i64 0, .int .i64 (((Lib.runeCount s : Int) + (Lib.runeCount u : Int)) * 1000000), .string ⟨#[]⟩, .bool false] 31)) := hb6.alloc (by omega) _
        have n3 : (w6.alloc (.cells #[.int .i64 1, .slice none 0 0, .int .i64 0, .int .i64 (((Lib.runeCount s : Int) + (Lib.runeCount u : Int)) * 1000000), .string ⟨#[]⟩, .bool false] 31)).cell? ⟨w6.heap.size, 3, none⟩ = some (.int .i64 (((Lib.runeCount s : Int) + (Lib.runeCount u : Int)) * 1000000)) := by simp
        have nz : w6.heap.size + 1 ≤ (w6.alloc (.cells #[.int .i64 1, .slice none 0 0, .int .i64 0, .int .i64 (((Lib.runeCount s : Int) + (Lib.runeCount u : Int)) * 1000000), .string ⟨#[]⟩, .bool false] 31)).heap.size := by simp
        generalize w6.alloc (.cells #[.int .i64 1, .slice none 0 0, .int .i64 0, .int .i64 (((Lib.runeCount s : Int) + (Lib.runeCount u : Int)) * 1000000), .string ⟨#[]⟩, .bool false] 31) = W6 at *
        refine (ofText_any (s ++ u) W6).mono ?_
        rintro e w7 ⟨rfl, h7⟩
        have m3 := (h7.cell (p := ⟨w6.heap.size, 3, none⟩) (by dsimp only; omega)).trans n3
        have hb8 := hb7.trans (h7.mono hb7.size)
        have hs7 := h7.size
        clear h7 n3 hb7
        go_wp2_with fail
        refine (ofText_any s w7).mono ?_
        rintro e w8 ⟨rfl, h8⟩
        have k3 := (h8.cell (p := ⟨w6.heap.size, 3, none⟩) (by dsimp only; omega)).trans m3
        have hb9 := hb8.trans (h8.mono hb8.size)
        have hs8 := h8.size
        have hs9 := hb9.size
        clear h8 m3 hb8
        go_wp2_with fail
        have hb10 : Below w.heap.size w (w8.alloc (.cells #[.int .i64 2, .slice none 0 0, .int .i64 0, .int .i64 0, .string (s ++ u), .bool false, .int .i64 2, .slice none 0 0, .int .i64 0, .int .i64 0, .string s, .bool false] 31)) := hb9.alloc hs9 _
        have k4 : (w8.alloc (.cells #[.int .i64 2, .slice none 0 0, .int .i64 0, .int .i64 0, .string (s ++ u), .bool false, .int .i64 2, .slice none 0 0, .int .i64 0, .int .i64 0, .string s, .bool false] 31)).cell? ⟨w6.heap.size, 3, none⟩ = some (.int .i64 (((Lib.runeCount s : Int) + (Lib.runeCount u : Int)) * 1000000)) := by rw [World.cell?_alloc_lt _ _ _ (by dsimp only; omega)]; exact k3
        refine (do_starts w8.heap.size 2 (s ++ u) s _ (argsIn_new w8 [.text (s ++ u), .text s] _ _ rfl)).mono ?_
        rintro e w9 ⟨rfl, h9⟩
        rw [hpre]
        have l3 := (h9.cell (p := ⟨w6.heap.size, 3, none⟩) (by simp; omega)).trans k4
        have hb11 := hb10.trans (h9.mono (by simp; omega))
        have hs10 := hb11.size
        have hs11 := h9.size
        simp only [World.size_alloc] at hs11
        clear h9 k3 k4 hb9 hb10
        go_upto_region 6 with fail
        generalize hW : World.alloc w9 _ = W
        have c5 : W.cell? ⟨w9.heap.size, 5, none⟩ = some (.bool true) := by rw [← hW]; simp
        have c3 : W.cell? ⟨w6.heap.size, 3, none⟩ = some (.int .i64 (((Lib.runeCount s : Int) + (Lib.runeCount u : Int)) * 1000000)) := by rw [← hW, World.cell?_alloc_lt _ _ _ (by dsimp only; omega)]; exact l3
        have hbW : Below w.heap.size w W := by rw [← hW]; exact hb11.alloc hs10 _
        have hzW : w9.heap.size + 1 ≤ W.heap.size := by rw [← hW]; simp
        clear hW hb11 l3
        have rd : ∀ w', Below W.heap.size W w' → w'.cell? ⟨w6.heap.size, 3, none⟩ = some (.int .i64 (((Lib.runeCount s : Int) + (Lib.runeCount u : Int)) * 1000000)) ∧ w'.cell? ⟨w9.heap.size, 5, none⟩ = some (.bool true) := fun w' h => ⟨(h.cell (by dsimp only; omega)).trans c3, (h.cell (by dsimp only; omega)).trans c5⟩
        refine wp_region_quiet (C := fun w' => Below W.heap.size W w') (by kernel_rfl) (by kernel_rfl) (Below.refl _ W).drew (WQ.out ?_)
        try simp only [Act.put, List.setIfInBounds_toArray, List.set_cons_zero, List.set_cons_succ]
        refine WQ.val (by kernel_rfl) (.bool true) (fun w' hw' => ?_) ?_
        · go_simp
          exact (live_any w' (hG.grown (hbW.trans (hw'.mono hbW.size)))).mono fun e w'' ⟨he, hb⟩ => ⟨he, hw'.trans (hb.mono hw'.size)⟩
        try simp only [Act.put, List.setIfInBounds_toArray, List.set_cons_zero, List.set_cons_succ]
        refine WQ.val (by kernel_rfl) (.bool true) (fun w' hw' => ?_) ?_
        · go_simp
        try simp only [Act.put, List.setIfInBounds_toArray, List.set_cons_zero, List.set_cons_succ]
        refine WQ.val (by kernel_rfl) (.bool true) (fun w' hw' => ?_) ?_
        · go_simp
        try simp only [Act.put, List.setIfInBounds_toArray, List.set_cons_zero, List.set_cons_succ]
        refine WQ.val (by kernel_rfl) (.bool true) (fun w' hw' => ?_) ?_
        · go_simp
        try simp only [Act.put, List.setIfInBounds_toArray, List.set_cons_zero, List.set_cons_succ]
        refine WQ.val (by kernel_rfl) (.bool true) (fun w' hw' => ?_) ?_
        · go_simp
        try simp only [Act.put, List.setIfInBounds_toArray, List.set_cons_zero, List.set_cons_succ]
        refine WQ.val (by kernel_rfl) (.string (s ++ u)) (fun w' hw' => ?_) ?_
        · go_simp
          try (rw [if_neg (by omega)]; exact ⟨rfl, rfl⟩)
        try simp only [Act.put, List.setIfInBounds_toArray, List.set_cons_zero, List.set_cons_succ]
        refine WQ.val (by kernel_rfl) (.string s) (fun w' hw' => ?_) ?_
        · go_simp
        try simp only [Act.put, List.setIfInBounds_toArray, List.set_cons_zero, List.set_cons_succ]
        refine WQ.val (by kernel_rfl) (.string u) (fun w' hw' => ?_) ?_
        · go_simp
        try simp only [Act.put, List.setIfInBounds_toArray, List.set_cons_zero, List.set_cons_succ]
        refine WQ.val (by kernel_rfl) (.string (s ++ u)) (fun w' hw' => ?_) ?_
        · go_simp
          try (rw [if_neg (by omega)]; exact ⟨rfl, rfl⟩)
        try simp only [Act.put, List.setIfInBounds_toArray, List.set_cons_zero, List.set_cons_succ]
        refine WQ.val (by kernel_rfl) (.bool true) (fun w' hw' => ?_) ?_
        · go_simp
        try simp only [Act.put, List.setIfInBounds_toArray, List.set_cons_zero, List.set_cons_succ]
        refine WQ.val (by kernel_rfl) (.bool true) (fun w' hw' => ?_) ?_
        · go_simp
        try simp only [Act.put, List.setIfInBounds_toArray, List.set_cons_zero, List.set_cons_succ]
        refine WQ.val (by kernel_rfl) (.bool true) (fun w' hw' => ?_) ?_
        · go_simp
        try simp only [Act.put, List.setIfInBounds_toArray, List.set_cons_zero, List.set_cons_succ]
        refine WQ.val (by kernel_rfl) (.int .i64 0) (fun w' hw' => ?_) ?_
        · go_simp
        try simp only [Act.put, List.setIfInBounds_toArray, List.set_cons_zero, List.set_cons_succ]
        refine WQ.val (by kernel_rfl) (.bool true) (fun w' hw' => ?_) ?_
        · go_simp
        try simp only [Act.put, List.setIfInBounds_toArray, List.set_cons_zero, List.set_cons_succ]
        refine WQ.val (by kernel_rfl) (.bool true) (fun w' hw' => ?_) ?_
        · go_simp
        try simp only [Act.put, List.setIfInBounds_toArray, List.set_cons_zero, List.set_cons_succ]
        refine WQ.val (by kernel_rfl) (.bool true) (fun w' hw' => ?_) ?_
        · go_simp
        try simp only [Act.put, List.setIfInBounds_toArray, List.set_cons_zero, List.set_cons_succ]
        refine WQ.val (by kernel_rfl) (.pointer (some ⟨w6.heap.size, 2, none⟩)) (fun w' hw' => ?_) ?_
        · go_simp
        try simp only [Act.put, List.setIfInBounds_toArray, List.set_cons_zero, List.set_cons_succ]
        refine WQ.val (by kernel_rfl) (.pointer (some ⟨w6.heap.size, 3, none⟩)) (fun w' hw' => ?_) ?_
        · go_simp
        try simp only [Act.put, List.setIfInBounds_toArray, List.set_cons_zero, List.set_cons_succ]
        refine WQ.val (by kernel_rfl) (.int .i64 (((Lib.runeCount s : Int) + (Lib.runeCount u : Int)) * 1000000)) (fun w' hw' => ?_) ?_
        · obtain ⟨t0, t1⟩ := rd w' hw'
          go_simp
        try simp only [Act.put, List.setIfInBounds_toArray, List.set_cons_zero, List.set_cons_succ]
        refine WQ.val (by kernel_rfl) (.string s) (fun w' hw' => ?_) ?_
        · go_simp
        try simp only [Act.put, List.setIfInBounds_toArray, List.set_cons_zero, List.set_cons_succ]
        refine WQ.val (by kernel_rfl) (.int .i64 (Lib.runeCount s)) (fun w' hw' => ?_) ?_
        · go_simp
          exact (count_any s w' (by omega)).mono fun e w'' ⟨he, hb⟩ => ⟨he, hw'.trans (hb.mono hw'.size)⟩
        try simp only [Act.put, List.setIfInBounds_toArray, List.set_cons_zero, List.set_cons_succ]
        refine WQ.val (by kernel_rfl) (.string u) (fun w' hw' => ?_) ?_
        · go_simp
        try simp only [Act.put, List.setIfInBounds_toArray, List.set_cons_zero, List.set_cons_succ]
        refine WQ.val (by kernel_rfl) (.int .i64 (Lib.runeCount u)) (fun w' hw' => ?_) ?_
        · go_simp
          exact (count_any u w' (by omega)).mono fun e w'' ⟨he, hb⟩ => ⟨he, hw'.trans (hb.mono hw'.size)⟩
        try simp only [Act.put, List.setIfInBounds_toArray, List.set_cons_zero, List.set_cons_succ]
        refine WQ.val (by kernel_rfl) (.int .i64 ((Lib.runeCount s : Int) + (Lib.runeCount u : Int))) (fun w' hw' => ?_) ?_
        · go_simp
          try (rw [IntKind.wrap_i64]; omega)
        try simp only [Act.put, List.setIfInBounds_toArray, List.set_cons_zero, List.set_cons_succ]
        refine WQ.val (by kernel_rfl) (.int .i64 (((Lib.runeCount s : Int) + (Lib.runeCount u : Int)) * 1000000)) (fun w' hw' => ?_) ?_
        · go_simp
          try (rw [IntKind.wrap_i64]; omega)
        try simp only [Act.put, List.setIfInBounds_toArray, List.set_cons_zero, List.set_cons_succ]
        refine WQ.val (by kernel_rfl) (.bool true) (fun w' hw' => ?_) ?_
        · go_simp
        try simp only [Act.put, List.setIfInBounds_toArray, List.set_cons_zero, List.set_cons_succ]
        refine WQ.val (by kernel_rfl) (.bool true) (fun w' hw' => ?_) ?_
        · go_simp
        try simp only [Act.put, List.setIfInBounds_toArray, List.set_cons_zero, List.set_cons_succ]
        refine WQ.val (by kernel_rfl) (.bool true) (fun w' hw' => ?_) ?_
        · go_simp
        try simp only [Act.put, List.setIfInBounds_toArray, List.set_cons_zero, List.set_cons_succ]
        refine WQ.val (by kernel_rfl) (.int .i64 0) (fun w' hw' => ?_) ?_
        · go_simp
        try simp only [Act.put, List.setIfInBounds_toArray, List.set_cons_zero, List.set_cons_succ]
        refine WQ.val (by kernel_rfl) (.bool true) (fun w' hw' => ?_) ?_
        · go_simp
        try simp only [Act.put, List.setIfInBounds_toArray, List.set_cons_zero, List.set_cons_succ]
        refine WQ.val (by kernel_rfl) (.bool true) (fun w' hw' => ?_) ?_
        · go_simp
        try simp only [Act.put, List.setIfInBounds_toArray, List.set_cons_zero, List.set_cons_succ]
        refine WQ.val (by kernel_rfl) (.bool true) (fun w' hw' => ?_) ?_
        · go_simp
        try simp only [Act.put, List.setIfInBounds_toArray, List.set_cons_zero, List.set_cons_succ]
        refine WQ.val (by kernel_rfl) (.pointer (some ⟨w9.heap.size, 5, none⟩)) (fun w' hw' => ?_) ?_
        · go_simp
        try simp only [Act.put, List.setIfInBounds_toArray, List.set_cons_zero, List.set_cons_succ]
        refine WQ.val (by kernel_rfl) (.bool true) (fun w' hw' => ?_) ?_
        · obtain ⟨t0, t1⟩ := rd w' hw'
          go_simp
        try simp only [Act.put, List.setIfInBounds_toArray, List.set_cons_zero, List.set_cons_succ]
        refine WQ.val (by kernel_rfl) (.bool true) (fun w' hw' => ?_) ?_
        · go_simp
        try simp only [Act.put, List.setIfInBounds_toArray, List.set_cons_zero, List.set_cons_succ]
        refine WQ.val (by kernel_rfl) (.bool true) (fun w' hw' => ?_) ?_
        · go_simp
        try simp only [Act.put, List.setIfInBounds_toArray, List.set_cons_zero, List.set_cons_succ]
        refine WQ.nil ?_
        intro W8 hb8
        go_wp2
        go_ret
        exact ⟨rfl, hbW.trans (hb8.mono hbW.size)⟩
      · have hd1 := isText_any s w hG (by omega)
        rw [hgs] at hd1
        go_enter Tryz.func4, Tryz.ntmps4
        go_wp2_with fail
        refine hd1.mono ?_
        rintro e w1 ⟨rfl, h1⟩
        go_wp2_with fail
        have hd2 := isText_any u w1 (hG.grown h1) (by omega)
        rw [hgu] at hd2
        refine hd2.mono ?_
        rintro e w2 ⟨rfl, h2⟩
        have hb2 := h1.trans (h2.mono h1.size)
        clear h1 h2 hd1 hd2
        go_wp2_with fail
        refine (fin_live w2 hb2).mono ?_
        rintro e w3 ⟨rfl, h3⟩
        go_wp2
        go_ret
        exact ⟨rfl, h3⟩
    · have hd1 := isText_any s w hG (by omega)
      rw [hgs] at hd1
      go_enter Tryz.func4, Tryz.ntmps4
      go_wp2_with fail
      refine hd1.mono ?_
      rintro e w1 ⟨rfl, h1⟩
      clear hd1
      go_wp2_with fail
      refine (fin_live w1 h1).mono ?_
      rintro e w3 ⟨rfl, h3⟩
      go_wp2
      go_ret
      exact ⟨rfl, h3⟩
end Go.Proofs.YtkikeacnbgjjlaaGreatDoor
