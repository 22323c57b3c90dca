/-
  slices.Concat of two lists of whole numbers.
-/
import Derived.Test.YtkikeacnbgjjlaaGreatDoorVo
import Derived.Laws.AppendOwnNone
import Derived.Test.YtkikeacnbgjjlaaGreatDoorVj
namespace Go.Proofs.YtkikeacnbgjjlaaGreatDoor
open Go.RowKit Go.ChangeMaps
set_option linter.unusedSimpArgs false
/-- The cells of a list of whole numbers behind a slice, nil too. -/
def IntsAt (w : World) (ao : Option Addr) (c : Nat) (l : List Int) : Prop := (ao = none → c = 0 ∧ l = []) ∧ ∀ (k : Nat) (x : Int), l[k]? = some x → ∃ a, ao = some a ∧ w.cell? (a.add k) = some (.int .i64 x) ∧ a.block < w.heap.size
theorem IntsAt.below {w w' : World} {ao : Option Addr} {c : Nat} {l : List Int} (h : IntsAt w ao c l) (hb : Below w.heap.size w w') : IntsAt w' ao c l := ⟨h.1, fun k x hx => by
  obtain ⟨a, h1, h2, h3⟩ := h.2 k x hx
  refine ⟨a, h1, (hb.cell ?_).trans h2, Nat.lt_of_lt_of_le h3 hb.size⟩
  unfold Addr.add
  split <;> exact h3⟩
theorem info3 : ∃ i, Tryz.prog.info? 3 = some i ∧ i.zero = some (.int .i64 0) ∧ i.size = 1 ∧ i.bytes = 8 := info_parts (by kernel_rfl)
theorem wpl_append_ints {w : World} {ops : Array Oper} {rest : List Oper} {o : Oper} {a : Act} {Q : Exit → Act → World → Prop} (hgd : o.guard = none) (s x : Operand)
    (ho : o.op = .call { callee := .builtin .append, args := #[s, x], argTypes := #[26, 26] })
    (base : Nat) (v : Value) (n : Nat) (us : List Value) (hs : a.eval s = v) (hown : w.ownsRow base 3 1 v n us)
    (ao : Option Addr) (c : Nat) (l : List Int) (hx : a.eval x = .slice ao l.length c) (hl : IntsAt w ao c l) (h63 : n + l.length ≤ 100000000) (hbase : base ≤ w.heap.size)
    (h : ∀ v' w', w'.ownsRow base 3 1 v' (n + l.length) (us ++ l.map (Value.int .i64)) → w.grownBy w' v.ownBlock → wpList Tryz.prog ops Q rest (a.put o.dst v') w') : wpList Tryz.prog ops Q (o :: rest) a w := by
  obtain ⟨i, hi, hz, hsz, hb⟩ := info3
  cases ao with
  | none =>
    obtain ⟨rfl, rfl⟩ := hl.1 rfl
    refine wpList_append_own_none hgd s x 26 ho base 3 i 1 Tryz.underlying26 hi v n us hs hown hx (h v w ?_ ⟨rfl, rfl, rfl, Nat.le_refl _, fun _ _ _ => rfl⟩)
    simpa using hown
  | some ad =>
    refine wpList_append_own w hgd s x 26 ho base 3 i _ 1 8 Tryz.underlying26 hi hz hsz hb rfl (by decide) v n us hs hown ad l.length c (l.map (Value.int .i64)) hx (by simp) (fun j u hj => ?_) (fun u hu => ?_) (by unfold maxLen; omega) (by omega) hbase (fun v' w' h1 h2 _ => h v' w' h1 h2)
    · rw [List.getElem?_map] at hj
      obtain ⟨y, hy, rfl⟩ := Option.map_eq_some_iff.1 hj
      obtain ⟨a', h1, h2, _⟩ := hl.2 j y hy
      cases h1
      exact h2
    · obtain ⟨y, _, rfl⟩ := List.mem_map.1 hu
      rfl
set_option maxRecDepth 20000 in
set_option maxHeartbeats 1000000 in
/-- Grow(nil, 0). -/
theorem grow_zero (w : World) : Calls Tryz.prog 71 #[.slice none 0 0, .int .i64 0] w (RowPost w 0 []) := by
  go_enter Tryz.func71, Tryz.ntmps71
  go_wp2
  go_ret
  exact ⟨_, rfl, World.ownsRow_nil _ _ _ _, Below.refl _ _⟩
theorem grow_any (n : Nat) (w : World) (hn : n ≤ 1000000000) : Calls Tryz.prog 71 #[.slice none 0 0, .int .i64 (n : Int)] w (RowPost w 0 []) := by
  by_cases h : n = 0
  · subst h
    exact grow_zero w
  · exact grow_nil n w (by omega) hn
set_option maxRecDepth 20000 in
set_option maxHeartbeats 4000000 in
/-- slices.Concat of two lists: a row of the call's own that holds both, one behind the other. -/
theorem concat_ints (ao bo : Option Addr) (c d : Nat) (xs ys : List Int) (w : World) (ha : IntsAt w ao c xs) (hb : IntsAt w bo d ys) (hx : xs.length ≤ 10000000) (hy : ys.length ≤ 10000000) (p cc : Nat)
    (h0 : w.cell? ⟨p, 0, none⟩ = some (.slice ao xs.length c)) (h1 : w.cell? ⟨p, 1, none⟩ = some (.slice bo ys.length d)) (hp : p < w.heap.size) :
    Calls Tryz.prog 23 #[.slice (some ⟨p, 0, none⟩) 2 cc] w (RowPost w (xs.length + ys.length) ((xs ++ ys).map (Value.int .i64))) := by
  have HA := Lib.hid ha
  have HB := Lib.hid hb
  clear ha hb
  have hg := grow_any (xs.length + ys.length) w (by omega)
  rw [Int.natCast_add] at hg
  go_enter Tryz.func23, Tryz.ntmps23
  go_wp2_with fail
  refine wp_loop_rounds 3 ?_
  rw [rounds_succ]
  go_wp2_with fail
  rw [rounds_succ]
  go_wp2_with fail
  rw [rounds_succ]
  go_wp2_with fail
  refine hg.mono ?_
  rintro e w1 ⟨v, rfl, hown, hb1⟩
  have q0 := (hb1.cell (p := ⟨p, 0, none⟩) hp).trans h0
  have q1 := (hb1.cell (p := ⟨p, 1, none⟩) hp).trans h1
  have hs1 := hb1.size
  clear h0 h1 hg
  go_wp2_with fail
  refine wp_loop_rounds 3 ?_
  rw [rounds_succ]
  go_wp2_with (at_builtin; refine wpl_append_ints rfl _ _ rfl w.heap.size _ 0 [] rfl hown _ _ _ rfl (IntsAt.below HA hb1) (by omega) (by omega) ?_)
  intro v2 w2 hown2 hg2
  have hb2 : Below w.heap.size w w2 := grown_below hb1 hg2 (fun j hj => (World.ownsRow.lt hown j hj).1) hs1
  have r1 := (hb2.cell (p := ⟨p, 1, none⟩) hp).trans ((hb1.cell (p := ⟨p, 1, none⟩) hp).symm.trans q1)
  have hs2 := hb2.size
  clear q0 q1 hown hb1 hg2
  go_wp2_with fail
  rw [rounds_succ]
  go_wp2_with (at_builtin; refine wpl_append_ints rfl _ _ rfl w.heap.size _ xs.length (xs.map (Value.int .i64)) rfl hown2 _ _ _ rfl (IntsAt.below HB hb2) (by omega) (by omega) ?_)
  intro v3 w3 hown3 hg3
  have hb3 : Below w.heap.size w w3 := grown_below hb2 hg3 (fun j hj => (World.ownsRow.lt hown2 j hj).1) hs2
  clear r1 hown2 hb2 hg3
  go_wp2_with fail
  rw [rounds_succ]
  go_wp2
  go_ret
  refine ⟨v3, rfl, ?_, hb3⟩
  rw [← List.map_append] at hown3
  exact hown3
end Go.Proofs.YtkikeacnbgjjlaaGreatDoor
