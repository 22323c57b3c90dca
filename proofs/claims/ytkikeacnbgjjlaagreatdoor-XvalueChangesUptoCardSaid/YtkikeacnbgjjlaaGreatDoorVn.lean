/-
  XvalueChanges walked.
-/
import Derived.Test.YtkikeacnbgjjlaaGreatDoorVl
import Derived.Lib.TrimAscii
import Derived.Lib.MapLaws
namespace Go.Proofs.YtkikeacnbgjjlaaGreatDoor
open Go.RowKit Go.ChangeMaps
set_option linter.unusedSimpArgs false
/-- The text of a list of truths: x where true, y where false. -/
def chS (x y : UInt8) (l : List Bool) : ByteArray := ⟨(l.map fun b => if b then x else y).toArray⟩
theorem chS_data (x y : UInt8) (l : List Bool) : (chS x y l).data.toList = l.map fun b => if b then x else y := by simp [chS]
theorem chS_size (x y : UInt8) (l : List Bool) : (chS x y l).size = l.length := by rw [Lib.size_eq, chS_data, List.length_map]
theorem chS_push (x y : UInt8) (l : List Bool) (k : Nat) (b : Bool) (h : l[k]? = some b) : chS x y (l.take (k + 1)) = chS x y (l.take k) ++ ⟨#[if b then x else y]⟩ := by
  apply ByteArray.ext
  apply Array.toList_inj.1
  rw [ByteArray.data_append, Array.toList_append, chS_data, chS_data, List.take_add_one, h]
  simp
theorem mapD_ascii (f : Int → Int) (g : UInt8 → List UInt8) : ∀ (l : List UInt8), (∀ b ∈ l, b.toNat < 128 ∧ (if 0 ≤ f b.toNat then Lib.encodeRune (f b.toNat) else []) = g b) → Lib.mapD f l = l.flatMap g
  | [], _ => rfl
  | b :: t, h => by
    obtain ⟨h1, h2⟩ := h b (List.mem_cons_self ..)
    rw [Lib.mapD_step f (b :: t) (by simp), Lib.decodeL_ascii b t h1, List.flatMap_cons]
    simp only [List.drop_succ_cons, List.drop_zero]
    rw [h2, mapD_ascii f g t fun c hc => h c (List.mem_cons_of_mem _ hc)]
theorem flatMap_sing (l : List Bool) (x y p q : UInt8) (g : UInt8 → List UInt8) (hx : g x = [p]) (hy : g y = [q]) : (l.map fun b => if b then x else y).flatMap g = l.map fun b => if b then p else q := by
  induction l with
  | nil => rfl
  | cons b l ih =>
    rw [List.map_cons, List.flatMap_cons, ih, List.map_cons]
    cases b <;> simp [hx, hy]
theorem change_map (l : List Bool) (x y p q : UInt8) (f : Int → Int) (hx : x.toNat < 128) (hy : y.toNat < 128) (hfx : (if 0 ≤ f x.toNat then Lib.encodeRune (f x.toNat) else []) = [p]) (hfy : (if 0 ≤ f y.toNat then Lib.encodeRune (f y.toNat) else []) = [q]) :
    (⟨(Lib.mapD f (chS x y l).data.toList).toArray⟩ : ByteArray) = chS p q l := by
  rw [chS_data, mapD_ascii f (fun b => if 0 ≤ f b.toNat then Lib.encodeRune (f b.toNat) else []) _ (fun b hb => ⟨?_, rfl⟩), flatMap_sing l x y p q _ hfx hfy]
  · rfl
  · obtain ⟨c, _, hc⟩ := List.mem_map.1 hb
    cases c <;> simp at hc <;> subst hc <;> assumption
/-- How many are true. -/
def trues : List Bool → Nat
  | [] => 0
  | b :: l => (if b then 1 else 0) + trues l
theorem trues_take (l : List Bool) (k : Nat) (b : Bool) (h : l[k]? = some b) : trues (l.take (k + 1)) = trues (l.take k) + (if b then 1 else 0) := by
  induction l generalizing k with
  | nil => simp at h
  | cons c l ih =>
    cases k with
    | zero =>
      simp at h
      subst h
      simp [trues]
    | succ k =>
      simp at h
      rw [List.take_succ_cons, List.take_succ_cons, trues, trues, ih k h]
      omega
theorem trues_le : ∀ (l : List Bool), trues l ≤ l.length
  | [] => Nat.le_refl _
  | b :: l => by
    have := trues_le l
    rw [trues, List.length_cons]
    split <;> omega
def allA (n : Nat) : ByteArray := ⟨(List.replicate n (97 : UInt8)).toArray⟩
theorem allA_size (n : Nat) : (allA n).size = n := by rw [Lib.size_eq]; simp [allA]
theorem gone_map (l : List Bool) (f : Int → Int) (hx : (if 0 ≤ f 97 then Lib.encodeRune (f 97) else []) = [97]) (hy : (if 0 ≤ f 98 then Lib.encodeRune (f 98) else []) = []) :
    (⟨(Lib.mapD f (chS 97 98 l).data.toList).toArray⟩ : ByteArray) = allA (trues l) := by
  rw [chS_data, mapD_ascii f (fun b => if b = 97 then [97] else []) _ (fun b hb => ?_)]
  · unfold allA
    congr 2
    induction l with
    | nil => rfl
    | cons b l ih =>
      rw [List.map_cons, List.flatMap_cons, ih, trues]
      cases b
      · simp
      · rw [Nat.add_comm]
        rfl
  · obtain ⟨c, _, hc⟩ := List.mem_map.1 hb
    cases c
    · simp at hc
      subst hc
      exact ⟨by decide, hy⟩
    · simp at hc
      subst hc
      exact ⟨by decide, hx⟩
theorem trI_bound (fu fv : List Int) (h : ∀ y ∈ fv, 0 ≤ y ∧ y ≤ 1114111) (x : Nat) (hx : x ≤ 1114111) : -2147483648 ≤ trI fu fv x ∧ trI fu fv x ≤ 2147483647 := by
  unfold trI
  split
  · omega
  · split
    · rename_i h1 h2
      have hl : (idxI fu (x : Int)).toNat < fv.length := by omega
      have := h (fv[(idxI fu (x : Int)).toNat]) (List.getElem_mem _)
      rw [List.getD_eq_getElem?_getD, List.getElem?_eq_getElem hl]
      simp only [Option.getD_some]
      omega
    · omega
theorem text_three (nm s u v r : ByteArray) (w : World)
    (hC : ∀ b c w', Below w.heap.size w w' → ArgsIn w' b [.text s, .text u, .text v] → Calls Tryz.prog 10 #[.pointer none, .string nm, .slice (some ⟨b, 0, none⟩) 3 c] w' (RetPost (ansV 2 0 r false 0) w')) :
    Calls Tryz.prog 9 #[.string nm, .slice (some ⟨w.heap.size, 0, none⟩) 3 3] (w.alloc (.cells #[.string s, .string u, .string v] 9)) fun e w' => e = .returned (.tuple #[.string r, .bool true]) ∧ Below w.heap.size w w' := by
  have hb : Below w.heap.size w (w.alloc (.cells #[.string s, .string u, .string v] 9)) := (Below.refl _ _).alloc (Nat.le_refl _) _
  have hcell : ∀ i x, [s, u, v][i]? = some x → (w.alloc (.cells #[.string s, .string u, .string v] 9)).cell? ⟨w.heap.size, i, none⟩ = some (.string x) := by
    intro i x hi
    rw [World.cell?_alloc_new]
    match i with
    | 0 => simp at hi; subst hi; rfl
    | 1 => simp at hi; subst hi; rfl
    | 2 => simp at hi; subst hi; rfl
    | i + 3 => simp at hi
  exact (textfn_any nm w.heap.size 3 [s, u, v] r _ (by show 3 ≤ 100; omega) (by simp) (by simp) hcell (fun b c w' h hA => hC b c w' (hb.trans (h.mono (by simp))) hA)).mono fun e w' ⟨he, h⟩ => ⟨he, hb.trans (h.mono (by simp))⟩
theorem do_tr1 (L : List Bool) (hL : L.length ≤ 2000) (b c : Nat) (w : World) (hA : ArgsIn w b [.text (chS 97 98 L), .text ⟨#[97, 98]⟩, .text ⟨#[120, 121]⟩]) (hG : GV w) :
    Calls Tryz.prog 10 #[.pointer none, .string ⟨#[116, 114, 97, 110, 115, 108, 97, 116, 101]⟩, .slice (some ⟨b, 0, none⟩) 3 c] w (RetPost (ansV 2 0 (chS 120 121 L) false 0) w) :=
  have h1 : RunesOf ⟨#[97, 98]⟩ [97, 98] := by unfold RunesOf; kernel_rfl
  have h2 : RunesOf ⟨#[120, 121]⟩ [120, 121] := by unfold RunesOf; kernel_rfl
  have h3 : ∀ y ∈ ([120, 121] : List Int), 0 ≤ y ∧ y ≤ 1114111 := by simp
  have h4 : (⟨(Lib.mapD (trI [97, 98] [120, 121]) (chS 97 98 L).data.toList).toArray⟩ : ByteArray) = chS 120 121 L := change_map L 97 98 120 121 _ (by decide) (by decide) (by kernel_rfl) (by kernel_rfl)
  have h5 : (chS 97 98 L).size ≤ 1000000 := by rw [chS_size]; omega
  have h6 : (chS 120 121 L).size ≤ 32768 := by
    have := trues_le L
    first | (rw [chS_size]; omega) | (rw [allA_size]; omega)
  do_translate b c (chS 97 98 L) ⟨#[97, 98]⟩ ⟨#[120, 121]⟩ (chS 120 121 L) [97, 98] [120, 121] w hA h1 h2 (by decide) (by decide) hG h5 (trI_bound _ _ h3) h4 h6
theorem do_tr2 (L : List Bool) (hL : L.length ≤ 2000) (b c : Nat) (w : World) (hA : ArgsIn w b [.text (chS 120 121 L), .text ⟨#[120, 121]⟩, .text ⟨#[97, 98]⟩]) (hG : GV w) :
    Calls Tryz.prog 10 #[.pointer none, .string ⟨#[116, 114, 97, 110, 115, 108, 97, 116, 101]⟩, .slice (some ⟨b, 0, none⟩) 3 c] w (RetPost (ansV 2 0 (chS 97 98 L) false 0) w) :=
  have h1 : RunesOf ⟨#[120, 121]⟩ [120, 121] := by unfold RunesOf; kernel_rfl
  have h2 : RunesOf ⟨#[97, 98]⟩ [97, 98] := by unfold RunesOf; kernel_rfl
  have h3 : ∀ y ∈ ([97, 98] : List Int), 0 ≤ y ∧ y ≤ 1114111 := by simp
  have h4 : (⟨(Lib.mapD (trI [120, 121] [97, 98]) (chS 120 121 L).data.toList).toArray⟩ : ByteArray) = chS 97 98 L := change_map L 120 121 97 98 _ (by decide) (by decide) (by kernel_rfl) (by kernel_rfl)
  have h5 : (chS 120 121 L).size ≤ 1000000 := by rw [chS_size]; omega
  have h6 : (chS 97 98 L).size ≤ 32768 := by
    have := trues_le L
    first | (rw [chS_size]; omega) | (rw [allA_size]; omega)
  do_translate b c (chS 120 121 L) ⟨#[120, 121]⟩ ⟨#[97, 98]⟩ (chS 97 98 L) [120, 121] [97, 98] w hA h1 h2 (by decide) (by decide) hG h5 (trI_bound _ _ h3) h4 h6
theorem do_tr3 (L : List Bool) (hL : L.length ≤ 2000) (b c : Nat) (w : World) (hA : ArgsIn w b [.text (chS 97 98 L), .text ⟨#[97, 98]⟩, .text ⟨#[97]⟩]) (hG : GV w) :
    Calls Tryz.prog 10 #[.pointer none, .string ⟨#[116, 114, 97, 110, 115, 108, 97, 116, 101]⟩, .slice (some ⟨b, 0, none⟩) 3 c] w (RetPost (ansV 2 0 (allA (trues L)) false 0) w) :=
  have h1 : RunesOf ⟨#[97, 98]⟩ [97, 98] := by unfold RunesOf; kernel_rfl
  have h2 : RunesOf ⟨#[97]⟩ [97] := by unfold RunesOf; kernel_rfl
  have h3 : ∀ y ∈ ([97] : List Int), 0 ≤ y ∧ y ≤ 1114111 := by simp
  have h4 : (⟨(Lib.mapD (trI [97, 98] [97]) (chS 97 98 L).data.toList).toArray⟩ : ByteArray) = allA (trues L) := gone_map L _ (by kernel_rfl) (by kernel_rfl)
  have h5 : (chS 97 98 L).size ≤ 1000000 := by rw [chS_size]; omega
  have h6 : (allA (trues L)).size ≤ 32768 := by
    have := trues_le L
    first | (rw [chS_size]; omega) | (rw [allA_size]; omega)
  do_translate b c (chS 97 98 L) ⟨#[97, 98]⟩ ⟨#[97]⟩ (allA (trues L)) [97, 98] [97] w hA h1 h2 (by decide) (by decide) hG h5 (trI_bound _ _ h3) h4 h6
/-- The cells of a list of truths behind a slice, nil too. -/
def BoolsAt (w : World) (ao : Option Addr) (l : List Bool) : Prop := ∀ (k : Nat) (b : Bool), l[k]? = some b → ∃ a, ao = some a ∧ w.cell? (a.add k) = some (.bool b) ∧ a.block < w.heap.size
theorem allA_get (n m : Nat) (h : m < (allA n).size) : ((allA n)[m]'h).toNat = 97 := by
  have : (allA n)[m]'h = 97 := by
    show (allA n).data[m]'h = 97
    simp [allA]
  rw [this]
  rfl
set_option maxHeartbeats 8000000 in
set_option maxRecDepth 20000 in
theorem changes_any (ao : Option Addr) (c : Nat) (l : List Bool) (w : World) (hG : GV w) (hl : l.length ≤ 100000000) (hB : BoolsAt w ao l) : Calls Tryz.prog 5 #[.slice ao l.length c] w (RetPost (.bool true) w) := by
  have HB := Lib.hid hB
  clear hB
  go_enter Tryz.func5, Tryz.ntmps5
  go_wp2
  go_loopg [3, 4, 5] l.length (fun gk s t i wx => ∃ k : Nat, k + gk = l.length ∧ k ≤ 2000 ∧ i = .int .i64 k ∧ s = .string (chS 97 98 (l.take k)) ∧ t = .string (chS 120 121 (l.take k)) ∧ wx = w)
  case atStart => exact ⟨0, by omega, by omega, rfl, rfl, rfl, rfl⟩
  case round =>
    obtain ⟨k, hk, hk2, rfl, rfl, rfl, rfl⟩ := hrel
    by_cases hlt : k < l.length ∧ k < 2000
    · obtain ⟨h1, h2⟩ := hlt
      have h1z : (k : Int) < (l.length : Int) := by omega
      have h2z : (k : Int) < 2000 := by omega
      obtain ⟨b, hb⟩ : ∃ b, l[k]? = some b := ⟨_, List.getElem?_eq_getElem h1⟩
      obtain ⟨a, rfl, hcell, hbl⟩ := HB k b hb
      have hz1 : (chS 97 98 (l.take k)).size = k := by rw [chS_size, List.length_take]; omega
      have hz2 : (chS 120 121 (l.take k)).size = k := by rw [chS_size, List.length_take]; omega
      have e1 := chS_push 97 98 l k b hb
      have e2 := chS_push 120 121 l k b hb
      have E1 := Lib.hid e1
      have E2 := Lib.hid e2
      clear e1 e2
      cases b
      all_goals (
        go_wp2_with fail
        go_roundg (gk - 1)
        case measure => omega
        case rel => exact ⟨k + 1, by omega, by omega, by go_num, congrArg Value.string E1.symm, congrArg Value.string E2.symm, rfl⟩)
    · have hkl : k ≤ l.length := by omega
      have hend : k = l.length ∨ k = 2000 := by omega
      have hLz : (l.take k).length = k := by rw [List.length_take]; omega
      have hz1 : (chS 97 98 (l.take k)).size = k := by rw [chS_size, hLz]
      have hz2 : (chS 120 121 (l.take k)).size = k := by rw [chS_size, hLz]
      have hn := trues_le (l.take k)
      rw [hLz] at hn
      have hL2 : (l.take k).length ≤ 2000 := by omega
      have hG0 := hG.1
      have c1 : (k : Int) < (l.length : Int) ∨ ¬ ((k : Int) < (l.length : Int)) := Classical.em _
      have c2 : ¬ ((k : Int) < (l.length : Int) ∧ (k : Int) < 2000) := by omega
      rcases c1 with c1 | c1
      all_goals (
        have c3 : ¬ ((k : Int) < 2000) ∨ ¬ ((k : Int) < (l.length : Int)) := by omega
        first
          | (have c4 : ¬ ((k : Int) < 2000) := by omega
             clear c2 c3
             go_wp2_with fail)
          | (clear c2 c3
             go_wp2_with fail)
        refine (text_three ⟨#[116, 114, 97, 110, 115, 108, 97, 116, 101]⟩ (chS 97 98 (l.take k)) ⟨#[97, 98]⟩ ⟨#[120, 121]⟩ (chS 120 121 (l.take k)) wr (fun b c w' h hA => do_tr1 (l.take k) hL2 b c w' hA (hG.grown h))).mono ?_
        rintro e w1 ⟨rfl, h1⟩
        have hs1 := h1.size
        go_wp2_with fail
        refine (text_three ⟨#[116, 114, 97, 110, 115, 108, 97, 116, 101]⟩ (chS 120 121 (l.take k)) ⟨#[120, 121]⟩ ⟨#[97, 98]⟩ (chS 97 98 (l.take k)) w1 (fun b c w' h hA => do_tr2 (l.take k) hL2 b c w' hA ((hG.grown h1).grown h))).mono ?_
        rintro e w2 ⟨rfl, h2⟩
        have hs2 := h2.size
        go_wp2_with fail
        refine (text_three ⟨#[116, 114, 97, 110, 115, 108, 97, 116, 101]⟩ (chS 97 98 (l.take k)) ⟨#[97, 98]⟩ ⟨#[97]⟩ (allA (trues (l.take k))) w2 (fun b c w' h hA => do_tr3 (l.take k) hL2 b c w' hA (((hG.grown h1).grown h2).grown h))).mono ?_
        rintro e w3 ⟨rfl, h3⟩
        have hb3 : Below wr.heap.size wr w3 := (h1.trans (h2.mono h1.size)).trans (h3.mono (by omega))
        clear h1 h2 h3
        have hG3 : GV w3 := hG.grown hb3
        have hfin : ∀ W', Below w3.heap.size w3 W' → RetPost (.bool true) wr (.returned (.bool true)) W' := fun W' h => ⟨rfl, hb3.trans (h.mono hb3.size)⟩
        have HB3 : Hid (∀ (k : Nat) (b : Bool), l[k]? = some b → ∃ a, ao = some a ∧ w3.cell? (a.add k) = some (.bool b)) := by
          intro k b hkb
          obtain ⟨a, h1, h2, h3⟩ := HB k b hkb
          refine ⟨a, h1, (hb3.cell ?_).trans h2⟩
          unfold Addr.add
          split <;> exact h3
        have HF := Lib.hid hfin
        obtain ⟨N, hN⟩ : ∃ N, trues (l.take k) = N := ⟨_, rfl⟩
        have HN := Lib.hid hN
        rw [hN] at hn ⊢
        clear hfin hb3 hN
        go_wp2_with fail
        go_loopg [12, 13] N (fun gk n j wx => ∃ m : Nat, m + gk = N ∧ n = .int .i64 m ∧ j = .int .i64 m ∧ wx = w3)
        case atStart => exact ⟨0, by omega, rfl, rfl, rfl⟩
        case round =>
          obtain ⟨m, hm, rfl, rfl, hwr⟩ := hrel
          have hNz : (allA N).size = N := allA_size N
          by_cases hmN : m < N
          · have hmz : (m : Int) < (N : Int) := by omega
            have hget := allA_get N m (by rw [hNz]; exact hmN)
            go_wp2_with fail
            go_roundg (gk - 1)
            case measure => omega
            case rel => exact ⟨m + 1, by omega, by go_num, by go_num, rfl⟩
          · have hmN2 : m = N := by omega
            subst hmN2
            subst hwr
            have hmz : ¬ ((m : Int) < (m : Int)) := by omega
            go_wp2_with fail
            go_loopg [14, 15] l.length (fun gk n j wx => ∃ q : Nat, q + gk = l.length ∧ q ≤ 2000 ∧ j = .int .i64 q ∧ n = .int .i64 (trues (l.take q)) ∧ wx = wr)
            case atStart => exact ⟨0, by omega, by omega, rfl, rfl, rfl⟩
            case round =>
              obtain ⟨q, hq, hq2, rfl, rfl, hwr2⟩ := hrel
              subst hwr2
              have htq := trues_le (l.take q)
              have hlq : (l.take q).length ≤ q := by rw [List.length_take]; omega
              by_cases hlt3 : q < l.length ∧ q < 2000
              · obtain ⟨h1, h2⟩ := hlt3
                have h1z : (q : Int) < (l.length : Int) := by omega
                have h2z : (q : Int) < 2000 := by omega
                obtain ⟨b, hb⟩ : ∃ b, l[q]? = some b := ⟨_, List.getElem?_eq_getElem h1⟩
                obtain ⟨a, ha, hcell⟩ := HB3 q b hb
                have e1 := trues_take l q b hb
                have E1 := Lib.hid e1
                clear e1
                subst ha
                cases b
                all_goals (
                  go_wp2_with fail
                  go_roundg (gk - 1)
                  case measure => omega
                  case rel => exact ⟨q + 1, by omega, by omega, by go_num, by rw [(E1 : trues (l.take (q + 1)) = _)]; simp, rfl⟩)
              · have hqk : q = k := by omega
                subst hqk
                have hN2 : trues (l.take q) = m := HN
                go_wp2_with fail
                refine (live_any wr hG3).mono ?_
                rintro e w4 ⟨rfl, h4⟩
                go_wp2
                go_ret
                exact HF _ h4)
end Go.Proofs.YtkikeacnbgjjlaaGreatDoor
