/-
  Lists of whole numbers: append of made zeros, Grow, Concat.
-/
import Derived.Test.YtkikeacnbgjjlaaGreatDoorVh
import Derived.Laws.AppendOwn
import Derived.OwnWalk
namespace Go.Proofs.YtkikeacnbgjjlaaGreatDoor
open Go.RowKit Go.ChangeMaps
set_option linter.unusedSimpArgs false
theorem run_append_made_nil {P : Program} (w : World) (t x ty e : TypeId) (i : TypeInfo) (z : Value) (ht : P.underlying t = some (.slice e)) (hx : P.underlying x = some (.int .i64)) (hi : P.info? e = some i) (hz : i.zero = some z) (hs : i.size = 1) (n : Nat) (h0 : 0 < n) (h63 : n ≤ 9223372036854775807)
    (h48 : n * i.bytes ≤ 281474976710656) :
    (Builtin.append_ #[t, x] ty #[.slice none 0 0, .int .i64 (n : Int)]).run P w =
      .ok (.slice (some ⟨w.heap.size, 0, none⟩) n (grownCap w n 0 e)) (w.drew.alloc (.cells (Builtin.zeroCells z.cells n ++ Builtin.zeroCells z.cells (grownCap w n 0 e - n)) e)) := by
  have hn : n ≠ 0 := by omega
  have h63' : ¬ (9223372036854775807 < (n : Int)) := by omega
  have h48' : ¬ (281474976710656 < Builtin.nextslicecap n 0 * i.bytes) := by rw [nextslicecap_zero h0]; omega
  have h48z : ¬ (281474976710656 < (n : Int) * (i.bytes : Int)) := by
    have : ((n * i.bytes : Nat) : Int) ≤ 281474976710656 := by omega
    rw [Int.natCast_mul] at this
    omega
  have hw : IntKind.i64.wrap (n : Int) = n := by rw [IntKind.wrap_i64]; omega
  have hneg : ¬ ((n : Int) < 0) := by omega
  simp [Builtin.append_, run_underlying ht, run_underlying hx, sizeOf, typeInfo, zeroValue, hi, hz, hs, hn, h63', h48', h48z, hw, hneg, asInt, asIntOf, Question.forced, run_firstCells_none, newRow, grownCap]
theorem wpl_append_made {P : Program} (w : World) {ops : Array Oper} {rest : List Oper} {o : Oper} {a : Act} {Q : Exit → Act → World → Prop} (hgd : o.guard = none) (s x : Operand) (t xt : TypeId)
    (ho : o.op = .call { callee := .builtin .append, args := #[s, x], argTypes := #[t, xt] }) (sv xv v : Value) (w' : World) (hs : a.eval s = sv) (hx : a.eval x = xv)
    (hr : ∀ ty, (Builtin.append_ #[t, xt] ty #[sv, xv]).run P w = .ok v w') (h : wpList P ops Q rest (a.put o.dst v) w') : wpList P ops Q (o :: rest) a w := by
  refine wpList_plain hgd fun K hK => ?_
  unfold Oper.wp execOp
  simp only [ho, resolve, invoke, builtin, Sem.run_bind, Sem.run_pure, Result.andThen_ok, List.map_toArray, List.map_cons, List.map_nil, hs, hx, hr]
  exact hK _ _ h
/-- It returns a row of whole numbers of the call's own. -/
def RowPost (w : World) (n : Nat) (xs : List Value) (e : Ending) (w' : World) : Prop := ∃ v, e = .returned v ∧ w'.ownsRow w.heap.size 3 1 v n xs ∧ Below w.heap.size w w'
set_option maxRecDepth 20000 in
set_option maxHeartbeats 1000000 in
/-- The row that Grow makes: n and more cells, none of them in use. -/
theorem grow_nil (n : Nat) (w : World) (h0 : 0 < n) (hn : n ≤ 1000000000) :
    Calls Tryz.prog 71 #[.slice none 0 0, .int .i64 (n : Int)] w (RowPost w 0 []) := by
  obtain ⟨i3, hi3, hz3, hs3, hb3⟩ := info_parts (P := Tryz.prog) (e := 3) (z := .int .i64 0) (size := 1) (bytes := 8) (by kernel_rfl)
  have hap : ∀ ty, (Builtin.append_ #[26, 3] ty #[.slice none 0 0, .int .i64 (n : Int)]).run Tryz.prog w = _ := fun ty => run_append_made_nil (P := Tryz.prog) w 26 3 ty 3 i3 (.int .i64 0) Tryz.underlying26 Tryz.underlying3 hi3 hz3 hs3 n h0 (by omega) (by rw [hb3]; omega)
  have hz : (0 : Int) < (n : Int) := by omega
  have hge := grownCap_ge w n 0 3
  have hmx := grownCap_le_maxLen w n 0 3 (by unfold maxLen; omega)
  obtain ⟨C, hC⟩ : ∃ C, grownCap w n 0 3 = C := ⟨_, rfl⟩
  rw [hC] at hge hmx
  simp only [hC] at hap
  obtain ⟨D, hD⟩ : ∃ D, Builtin.zeroCells (Value.int .i64 0).cells n ++ Builtin.zeroCells (Value.int .i64 0).cells (C - n) = D := ⟨_, rfl⟩
  simp only [hD] at hap
  have hDz : D.size = C * 1 := by
    rw [← hD, Array.size_append, size_zeroCells, size_zeroCells]
    show n * 1 + (C - n) * 1 = _
    omega
  have HG := Lib.hid hge
  have HM := Lib.hid hmx
  have HD := Lib.hid hDz
  have HA := Lib.hid hap
  clear hge hmx hDz hD hC hi3 hz3 hs3 hb3 hap
  go_enter Tryz.func71, Tryz.ntmps71
  go_wp2_with (at_builtin; refine wpl_append_made _ rfl _ _ 26 3 rfl _ _ _ _ rfl rfl HA ?_)
  go_ret
  exact ⟨_, rfl, World.ownsRow_made w D C (Nat.le_refl _) HM HD, ((Below.refl _ _).alloc (Nat.le_refl _) _).drew⟩
end Go.Proofs.YtkikeacnbgjjlaaGreatDoor
