/-
  The reference's add: one more number where it belongs.
-/
import Derived.Test.YtkikeacnbgjjlaaGreatDoorVr
namespace Go.Proofs.YtkikeacnbgjjlaaGreatDoor
open Go.RowKit Go.ChangeMaps
set_option linter.unusedSimpArgs false
/-- What add's first loop knows at place k: all from k on are greater. -/
def Above (l : List Int) (n : Int) (k : Nat) : Prop := ∀ j x, k ≤ j → l[j]? = some x → n < x
theorem intsAt_row {w : World} {g o : Nat} (c : Nat) {l : List Int} (hg : g < w.heap.size) (h : ∀ (k : Nat) (x : Int), l[k]? = some x → w.cell? ⟨g, o + k, none⟩ = some (.int .i64 x)) : IntsAt w (some ⟨g, o, none⟩) c l :=
  by
  refine ⟨fun e => by (cases e), fun k x hx => ⟨_, rfl, ?_, hg⟩⟩
  have e1 : ({ block := g, off := o } : Addr).add k = ⟨g, o + k, none⟩ := by simp [Addr.add]
  rw [e1]
  exact h k x hx
theorem intsAt_new (w : World) (n : Int) (t : TypeId) : IntsAt (w.alloc (.cells #[.int .i64 n] t)) (some ⟨w.heap.size, 0, none⟩) 1 [n] := by
  refine intsAt_row 1 (by simp) fun k x hx => ?_
  rw [Nat.zero_add, World.cell?_alloc_new]
  match k, hx with
  | 0, hx => simp at hx; subst hx; rfl
  | k + 1, hx => simp at hx
theorem row_ints {w : World} {base m : Nat} {v : Value} {A B : List Int} {n : Int} (h : w.ownsRow base 3 1 v m ([] ++ A.map (Value.int .i64) ++ [n].map (Value.int .i64) ++ B.map (Value.int .i64))) : Ints w v (A ++ n :: B) := by
  refine ints_of_row (base := base) (n := m) ?_
  simpa using h
theorem append_nil_ints (w : World) (base : Nat) : w.ownsRow base 3 1 (.slice none 0 0) 0 [] := World.ownsRow_nil _ _ _ _
theorem wpl_append_ints' {w : World} {ops : Array Oper} {rest : List Oper} {o : Oper} {a : Act} {Q : Exit → Act → World → Prop} (hgd : o.guard = none) (s x : Operand)
    (ho : o.op = .call { callee := .builtin .append, args := #[s, x], argTypes := #[26, 26] })
    (base : Nat) (v : Value) (n : Nat) (us : List Value) (hs : a.eval s = v) (hown : w.ownsRow base 3 1 v n us)
    (ao : Option Addr) (m c : Nat) (l : List Int) (hx : a.eval x = .slice ao m c) (hm : m = l.length) (hl : IntsAt w ao c l) (h63 : n + l.length ≤ 100000000) (hbase : base ≤ w.heap.size)
    (h : ∀ v' w', w'.ownsRow base 3 1 v' (n + l.length) (us ++ l.map (Value.int .i64)) → w.grownBy w' v.ownBlock → wpList Tryz.prog ops Q rest (a.put o.dst v') w') : wpList Tryz.prog ops Q (o :: rest) a w := by
  subst hm
  exact wpl_append_ints hgd s x ho base v n us hs hown ao c l hx hl h63 hbase h
set_option maxRecDepth 20000 in
set_option maxHeartbeats 4000000 in
theorem add_nil (n : Int) (w : World) : Calls Tryz.prog 26 #[.slice none 0 0, .int .i64 n] w (IntsPost w [n]) := by
  have hnil : ∀ w : World, IntsAt w none 0 [] := fun w => ⟨fun _ => ⟨rfl, rfl⟩, fun k x h => by simp at h⟩
  have HN := Lib.hid hnil
  clear hnil
  go_enter Tryz.func26, Tryz.ntmps26
  go_wp2_with fail
  refine wp_loop_rounds 1 ?_
  rw [rounds_succ]
  go_wp2_with (at_builtin; refine wpl_append_ints rfl _ _ rfl w.heap.size _ 0 [] rfl (append_nil_ints _ _) none 0 [] rfl (HN.out _) (by simp) (Nat.le_refl _) ?_)
  intro v2 w2 hown2 hg2
  have hb2 : Below w.heap.size w w2 := grown_below (Below.refl _ _) hg2 (fun j hj => by cases hj) (Nat.le_refl _)
  have hs2 := hb2.size
  clear hg2
  go_wp2_with (at_builtin; refine wpl_append_ints rfl _ _ rfl w.heap.size _ 0 ([] ++ ([] : List Int).map (Value.int .i64)) rfl ?h1 (some ⟨w2.heap.size, 0, none⟩) 1 [n] rfl ?h2 ?h3 ?h4 ?_)
  case h1 => exact World.ownsRow.alloc hown2 _
  case h2 => exact intsAt_new w2 n 3
  case h3 => simp
  case h4 => exact Nat.le_trans hs2 (by simp)
  intro v3 w3 hown3 hg3
  have hb3 : Below w.heap.size w w3 := grown_below (hb2.alloc hs2 _) hg3 (fun j hj => (World.ownsRow.lt hown2 j hj).1) (by simp; omega)
  have hs3 := hb3.size
  clear hg3 hown2
  go_wp2_with (at_builtin; refine wpl_append_ints rfl _ _ rfl w.heap.size _ 1 [.int .i64 n] rfl ?g1 none 0 [] rfl ?g2 ?g3 ?g4 ?_)
  case g1 => exact hown3
  case g2 => exact HN.out _
  case g3 => simp
  case g4 => exact hs3
  intro v4 w4 hown4 hg4
  have hb4 : Below w.heap.size w w4 := grown_below hb3 hg4 (fun j hj => (World.ownsRow.lt hown3 j hj).1) hs3
  clear hg4 hown3
  go_wp2
  go_ret
  exact ⟨_, rfl, ints_of_row (base := w.heap.size) (l := [n]) hown4, hb4⟩
set_option maxRecDepth 20000 in
set_option maxHeartbeats 8000000 in
/-- add at a row: the number's place is found from behind. -/
theorem add_row (g c : Nat) (l r : List Int) (n : Int) (w : World) (hlc : l.length ≤ c) (hcm : c ≤ maxLen) (hlen : l.length ≤ 10000000) (hg : g < w.heap.size) (hc : ∀ (k : Nat) (x : Int), l[k]? = some x → w.cell? ⟨g, k, none⟩ = some (.int .i64 x))
    (hold : ∀ k, Above l n (k + 1) → l[k]? = some n → r = l)
    (hnew : ∀ A B : List Int, l = A ++ B → Above l n A.length → (∀ x, 0 < A.length → l[A.length - 1]? = some x → x < n) → r = A ++ n :: B) :
    Calls Tryz.prog 26 #[.slice (some ⟨g, 0, none⟩) l.length c, .int .i64 n] w (IntsPost w r) := by
  unfold maxLen at hcm
  have HC := Lib.hid hc
  have HO := Lib.hid hold
  have HN := Lib.hid hnew
  clear hc hold hnew
  go_enter Tryz.func26, Tryz.ntmps26
  go_wp2_with fail
  go_loopg [5] l.length (fun gk i wx => gk ≤ l.length ∧ i = .int .i64 gk ∧ wx = w ∧ Hid (Above l n gk))
  case atStart => exact ⟨Nat.le_refl _, rfl, rfl, fun j x hj hx => by rw [List.getElem?_eq_none hj] at hx; cases hx⟩
  case round =>
    obtain ⟨hk, rfl, hwr, hab⟩ := hrel
    subst hwr
    by_cases hgo : 0 < gk ∧ ∃ x, l[gk - 1]? = some x ∧ n < x
    · obtain ⟨h0, x, hx, hnx⟩ := hgo
      obtain ⟨k, rfl⟩ : ∃ k, gk = k + 1 := ⟨gk - 1, by omega⟩
      rw [Nat.add_sub_cancel] at hx
      have hcell := HC.out k x hx
      have hab2 : Hid (Above l n k) := fun j y hj hy => by
        by_cases e : j = k
        · subst e
          rw [hx] at hy
          cases hy
          exact hnx
        · exact hab.out j y (by omega) hy
      have hz : (0 : Int) < (k : Int) + 1 := by omega
      clear hx hab
      go_wp2_with fail
      go_roundg k
      case measure => omega
      case rel => exact ⟨by omega, by go_num, rfl, hab2⟩
    · have hend : gk = 0 ∨ ∃ k x, gk = k + 1 ∧ l[k]? = some x ∧ x ≤ n := by
        by_cases h0 : gk = 0
        · exact .inl h0
        · refine .inr ⟨gk - 1, l[gk - 1]'(by omega), by omega, List.getElem?_eq_getElem (by omega), ?_⟩
          apply Classical.byContradiction
          intro hlt
          exact hgo ⟨by omega, _, List.getElem?_eq_getElem (by omega), by omega⟩
      clear hgo
      by_cases heq : ∃ k, gk = k + 1 ∧ l[k]? = some n
      · obtain ⟨k, rfl, hx⟩ := heq
        have hcell := HC.out k n hx
        have hres := HO.out k hab.out hx
        have HR := Lib.hid hres
        have hne : (n == n) = true := by simp
        have hz : (0 : Int) < (k : Int) + 1 := by omega
        have hfin : Ints wr (.slice (some ⟨g, 0, none⟩) l.length c) l := .inr ⟨g, c, rfl, hlc, by unfold maxLen; exact hcm, hg, HC.out⟩
        have HF := Lib.hid hfin
        clear hx hres hend hab hfin
        go_wp2_with fail
        go_ret
        exact ⟨_, rfl, by rw [HR.out]; exact HF.out, Below.refl _ _⟩
      · obtain ⟨A, B, hAB, hA⟩ : ∃ A B, l = A ++ B ∧ A.length = gk := ⟨l.take gk, l.drop gk, (List.take_append_drop _ _).symm, by rw [List.length_take]; omega⟩
        have hres := HN.out A B hAB (by rw [hA]; exact hab.out) (fun x h0 hx => by
          rcases hend with h | ⟨k, y, h1, h2, h3⟩
          · omega
          · rw [hA, h1, Nat.add_sub_cancel, h2] at hx
            have hxy : y = x := Option.some.inj hx
            by_cases e : y = n
            · exact absurd ⟨k, h1, e ▸ h2⟩ heq
            · omega)
        have HR := Lib.hid hres
        have hL : l.length = A.length + B.length := by rw [hAB, List.length_append]
        have hcA : Hid (∀ (k : Nat) (x : Int), A[k]? = some x → wr.cell? ⟨g, 0 + k, none⟩ = some (.int .i64 x)) := fun k x hx => by
          rw [Nat.zero_add]
          refine HC.out k x ?_
          rw [hAB, List.getElem?_append_left (List.getElem?_eq_some_iff.1 hx).1]
          exact hx
        have hcB : Hid (∀ (k : Nat) (x : Int), B[k]? = some x → wr.cell? ⟨g, gk + k, none⟩ = some (.int .i64 x)) := fun k x hx => by
          refine HC.out _ x ?_
          rw [hAB, List.getElem?_append_right (by omega), ← hA, Nat.add_sub_cancel_left]
          exact hx
        have tests : gk = 0 ∨ ∃ k x, gk = k + 1 ∧ wr.cell? ⟨g, k, none⟩ = some (.int .i64 x) ∧ x < n ∧ (x == n) = false := by
          rcases hend with h | ⟨k, y, h1, h2, h3⟩
          · exact .inl h
          · have hyn : y ≠ n := by
              intro e
              exact heq ⟨k, h1, e ▸ h2⟩
            exact .inr ⟨k, y, h1, HC.out k y h2, by omega, by simpa using hyn⟩
        clear heq hend hres hab HO HN
        have hAz : Hid (gk = A.length ∧ l.length = A.length + B.length) := ⟨hA.symm, hL⟩
        have hcut : gk < c ∨ (gk = c ∧ B = []) := by
          by_cases h : gk < c
          · exact .inl h
          · exact .inr ⟨by omega, List.length_eq_zero_iff.1 (by omega)⟩
        clear hA hL hAB
        have hlcA : (gk : Int) ≤ (c : Int) := by omega
        have hlcz : (gk : Int) ≤ (l.length : Int) := by omega
        have fin : ∀ v4 w4 m, w4.ownsRow wr.heap.size 3 1 v4 m ([] ++ A.map (Value.int .i64) ++ [n].map (Value.int .i64) ++ B.map (Value.int .i64)) → Ints w4 v4 r := fun v4 w4 m h => by
          rw [HR.out]
          exact row_ints h
        have HF := Lib.hid fin
        clear fin HR
        rcases tests with rfl | ⟨k, x, rfl, hcell, hxn, hxe⟩
        all_goals rcases hcut with hcut | ⟨hcut, hB0⟩
        all_goals try (have HB0 := Lib.hid hB0; clear hB0)
        all_goals
          try have hz1 : (0 : Int) < (k : Int) + 1 := by omega
          try have hz2 : ((k : Int) + 1) < (c : Int) := by omega
          try have hz3 : ¬ (n < x) := by omega
          try subst hcut
          have h63a : 0 + A.length ≤ 100000000 := by have := hAz.out; omega
          have h63b : 0 + A.length + [n].length ≤ 100000000 := by have := hAz.out; simp; omega
          have h63c : 0 + A.length + 1 + B.length ≤ 100000000 := by have := hAz.out; omega
          have H63 := Lib.hid (And.intro h63a (And.intro h63b h63c))
          clear h63a h63b h63c
          go_wp2_with (at_builtin; refine wpl_append_ints' rfl _ _ rfl wr.heap.size _ 0 [] rfl (append_nil_ints _ _) _ _ _ A rfl hAz.out.1 (intsAt_row _ hg hcA.out) H63.out.1 (Nat.le_refl _) ?_)
          intro v2 w2 hown2 hg2
          have hb2 : Below wr.heap.size wr w2 := grown_below (Below.refl _ _) hg2 (fun j hj => by cases hj) (Nat.le_refl _)
          have hs2 := hb2.size
          have hown2' : Hid (w2.ownsRow wr.heap.size 3 1 v2 (0 + A.length) ([] ++ A.map (Value.int .i64))) := by
            have : w2.ownsRow wr.heap.size 3 1 v2 (0 + A.length) ([] ++ A.map (Value.int .i64)) := by simpa using hown2
            exact this
          clear hg2 hown2
          go_wp2_with (at_builtin; refine wpl_append_ints' rfl _ _ rfl wr.heap.size _ (0 + A.length) ([] ++ A.map (Value.int .i64)) rfl (World.ownsRow.alloc hown2'.out _) _ _ _ [n] rfl rfl (intsAt_new w2 n 3) H63.out.2.1 (Nat.le_trans hs2 (by simp)) ?_)
          intro v3 w3 hown3 hg3
          have hb3 : Below wr.heap.size wr w3 := grown_below (hb2.alloc hs2 _) hg3 (fun j hj => (World.ownsRow.lt hown2'.out j hj).1) (by simp; omega)
          have hs3 := hb3.size
          have hown3' : Hid (w3.ownsRow wr.heap.size 3 1 v3 (0 + A.length + 1) ([] ++ A.map (Value.int .i64) ++ [n].map (Value.int .i64))) := by
            have : w3.ownsRow wr.heap.size 3 1 v3 (0 + A.length + 1) ([] ++ A.map (Value.int .i64) ++ [n].map (Value.int .i64)) := by simpa using hown3
            exact this
          clear hg3 hown2' hown3
          go_wp2_with (at_builtin; refine wpl_append_ints' rfl _ _ rfl wr.heap.size _ (0 + A.length + 1) ([] ++ A.map (Value.int .i64) ++ [n].map (Value.int .i64)) rfl hown3'.out _ _ _ B rfl ?_ ?_ H63.out.2.2 hs3 ?_)
          · have := hAz.out; omega
          · first
              | exact intsAt_row _ (Nat.lt_of_lt_of_le hg hs3) fun k x hx => (hb3.cell hg).trans (by simpa using hcB.out k x hx)
              | exact ⟨(fun e => by cases e), (fun k x hx => by rw [HB0.out] at hx; simp at hx)⟩
          intro v4 w4 hown4 hg4
          have hb4 : Below wr.heap.size wr w4 := grown_below hb3 hg4 (fun j hj => (World.ownsRow.lt hown3'.out j hj).1) hs3
          have hfin := HF.out v4 w4 (0 + A.length + 1 + B.length) (by simpa using hown4)
          clear hg4 hown3' hown4
          go_wp2
          go_ret
          exact ⟨_, rfl, hfin, hb4⟩
/-- add at the reference's own list: the rising list with one number more. -/
theorem add_any (v : Value) (p : List Int) (n : Int) (w : World) (h : Ints w v (setL p)) (hlen : (setL p).length ≤ 10000000) : Calls Tryz.prog 26 #[v, .int .i64 n] w (IntsPost w (setL (p ++ [n]))) := by
  rcases h with ⟨rfl, h0⟩ | ⟨g, c, rfl, h1, h2, h3, h4⟩
  · have e := set_add_new p n 0 (fun j x _ hx => by rw [h0] at hx; simp at hx) (fun x h => by omega) (Nat.zero_le _)
    rw [h0] at e
    rw [e]
    exact add_nil n w
  · refine add_row g c (setL p) _ n w h1 h2 hlen h3 h4 (fun k _ hk => set_add_old p n k hk) fun A B hAB hab hlt => ?_
    have hA : A = (setL p).take A.length := by rw [hAB]; simp
    have hB : B = (setL p).drop A.length := by rw [hAB]; simp
    rw [set_add_new p n A.length (fun j x hj hx => hab j x hj hx) hlt (by rw [hAB, List.length_append]; omega), ← hA, ← hB]
end Go.Proofs.YtkikeacnbgjjlaaGreatDoor
