/-
  The numbers that live() reckons with: Int, Floor, Round, Add, Compare, holds of whole millionths that are finite. Conditions: as each theorem names them (0 <= v <= 10^15).
-/
import Derived.Test.YtkikeacnbgjjlaaGreatDoorVa
import Derived.Deep.QuietTactic
import Derived.BigQuiet
import Derived.Lib.Hide
import Derived.Deep.RegionHeld3
namespace Go.Proofs.YtkikeacnbgjjlaaGreatDoor
open Go.RowKit Go.ChangeMaps
/-- A finite number. -/
abbrev finV (v : Int) : Value := .agg #[.int .i64 0, .int .i64 v]
def RetPost (v : Value) (w : World) (e : Ending) (w' : World) : Prop := e = .returned v ∧ Below w.heap.size w w'
theorem below_drewN {B : Nat} {a w : World} (h : Below B a w) (n : Nat) : Below B a (w.drewN n) := ⟨h.os, h.tape, h.output, h.size, h.block⟩
set_option maxHeartbeats 400000 in
theorem int_any (n : Int) (w : World) (h0 : 0 ≤ n) (h1 : n ≤ 1000000000000) : Calls Tryz.prog 45 #[.int .i64 n] w (RetPost (finV (n * 1000000)) w) := by
  go_enter Tryz.func45, Tryz.ntmps45
  go_wp2
  refine bodyPost_ret (v := finV (n * 1000000)) (by simp [results, Tryz.results45, go_sem]) rfl ⟨rfl, ?_⟩
  exact (Below.refl _ _).alloc (Nat.le_refl _) _
set_option maxHeartbeats 400000 in
theorem floor_any (v : Int) (w : World) (h0 : 0 ≤ v) (h1 : v ≤ 1000000000000000) : Calls Tryz.prog 37 #[finV v] w (RetPost (finV (v - v % 1000000)) w) := by
  go_enter Tryz.func37, Tryz.ntmps37
  go_wp2
  refine bodyPost_ret (v := finV (v - v % 1000000)) (by simp [results, Tryz.results37, go_sem]) rfl ⟨rfl, ?_⟩
  exact ((Below.refl _ _).alloc (Nat.le_refl _) _).alloc (by simp) _
set_option maxHeartbeats 400000 in
theorem round_any (v : Int) (w : World) (h0 : 0 ≤ v) (h1 : v ≤ 900000000000000) : Calls Tryz.prog 41 #[finV v] w (RetPost (finV (v + 500000 - (v + 500000) % 1000000)) w) := by
  go_enter Tryz.func41, Tryz.ntmps41
  go_wp2_with fail
  refine (floor_any _ _ (by omega) (by omega)).mono ?_
  rintro e w1 ⟨rfl, hb⟩
  have hs1 := hb.size
  simp at hs1
  obtain ⟨hc, hf⟩ := bcell hb
  go_wp2_with fail
  refine bodyPost_ret (v := finV (v + 500000 - (v + 500000) % 1000000)) (by simp [results, Tryz.results41, go_sem, hc]) rfl ⟨rfl, ?_⟩
  exact (((((Below.refl _ _).alloc (Nat.le_refl _) _).alloc (by simp) _).trans (hb.mono (by simp; omega))).setCell (by simp) _).setCell (by simp) _
set_option maxHeartbeats 400000 in
theorem place_fin (v : Int) (w : World) : Calls Tryz.prog 161 #[finV v] w (RetPost (.tuple #[.int .i64 2, .int .i64 v]) w) := by
  have i0 : ∀ w, (Instr.index 220 (.agg #[.int .i64 2, .int .i64 0, .int .i64 3, .int .i64 1]) (.int .i64 0)).run Tryz.prog w = .ok (.int .i64 2) w := fun _ => by kernel_rfl
  go_enter Tryz.func161, Tryz.ntmps161
  go_wp2
  go_quiet (fail)
  go_wp2
  go_ret2
  exact ⟨rfl, below_drewN ((Below.refl _ _).alloc (Nat.le_refl _) _) _⟩
/-- What cmp.Compare answers. -/
def cmpI (a b : Int) : Int := if a < b then -1 else if b < a then 1 else 0
set_option maxHeartbeats 400000 in
theorem cmp64 (a b : Int) (w : World) : Calls Tryz.prog 147 #[.int .i64 a, .int .i64 b] w (RetPost (.int .i64 (cmpI a b)) w) := by
  by_cases h1 : a < b
  · go_enter Tryz.func147, Tryz.ntmps147
    go_wp2
    go_ret
    exact ⟨by simp [cmpI, h1], Below.refl _ _⟩
  · by_cases h2 : b < a
    · go_enter Tryz.func147, Tryz.ntmps147
      go_wp2
      go_ret
      exact ⟨by simp [cmpI, h1, h2], Below.refl _ _⟩
    · have H3 : Hid (cmpI a b = 0) := Lib.hid (by simp [cmpI, h1, h2])
      go_enter Tryz.func147, Tryz.ntmps147
      go_wp2
      go_ret
      exact ⟨by rw [H3.out]; rfl, Below.refl _ _⟩
set_option maxHeartbeats 400000 in
theorem cmpInt (a b : Int) (w : World) : Calls Tryz.prog 163 #[.int .i64 a, .int .i64 b] w (RetPost (.int .i64 (cmpI a b)) w) := by
  by_cases h1 : a < b
  · go_enter Tryz.func163, Tryz.ntmps163
    go_wp2
    go_ret
    exact ⟨by simp [cmpI, h1], Below.refl _ _⟩
  · by_cases h2 : b < a
    · go_enter Tryz.func163, Tryz.ntmps163
      go_wp2
      go_ret
      exact ⟨by simp [cmpI, h1, h2], Below.refl _ _⟩
    · have H3 : Hid (cmpI a b = 0) := Lib.hid (by simp [cmpI, h1, h2])
      go_enter Tryz.func163, Tryz.ntmps163
      go_wp2
      go_ret
      exact ⟨by rw [H3.out]; rfl, Below.refl _ _⟩
set_option maxHeartbeats 800000 in
theorem or_two (b : Nat) (y : Int) (w : World) (h0 : w.cell? ⟨b, 0, none⟩ = some (.int .i64 0)) (h1 : w.cell? ⟨b, 1, none⟩ = some (.int .i64 y)) :
    Calls Tryz.prog 162 #[.slice (some ⟨b, 0, none⟩) 2 2] w (RetPost (.int .i64 y) w) := by
  by_cases hy : y = 0
  · subst hy
    go_enter Tryz.func162, Tryz.ntmps162
    go_wp2
    refine wp_loop_rounds 3 ?_
    rw [rounds_succ]
    go_wp2
    rw [rounds_succ]
    go_wp2
    rw [rounds_succ]
    go_wp2
    go_ret
    exact ⟨rfl, Below.refl _ _⟩
  · have hy2 : (y != 0) = true := by simpa using hy
    go_enter Tryz.func162, Tryz.ntmps162
    go_wp2
    refine wp_loop_rounds 3 ?_
    rw [rounds_succ]
    go_wp2
    rw [rounds_succ]
    go_wp2
    go_ret
    exact ⟨rfl, Below.refl _ _⟩
set_option maxHeartbeats 800000 in
theorem order_fin (a b : Int) (w : World) : Calls Tryz.prog 118 #[finV a, finV b] w (RetPost (.int .i64 (cmpI a b)) w) := by
  have H0 : Hid (cmpI 2 2 = 0) := rfl
  go_enter Tryz.func118, Tryz.ntmps118
  go_wp2_with fail
  refine (place_fin _ _).mono ?_
  rintro e w1 ⟨rfl, hb1⟩
  have hs1 := hb1.size
  simp at hs1
  obtain ⟨hc1, hf1⟩ := bcell hb1
  go_wp2_with fail
  refine (place_fin _ _).mono ?_
  rintro e w2 ⟨rfl, hb2⟩
  go_wp2_with fail
  refine (cmpInt _ _ _).mono ?_
  rintro e w3 ⟨rfl, hb3⟩
  rw [H0.out]
  go_wp2_with fail
  refine (cmp64 _ _ _).mono ?_
  rintro e w4 ⟨rfl, hb4⟩
  go_wp2_with fail
  refine (or_two _ (cmpI a b) _ ?_ ?_).mono ?_
  · simp
  · simp
  rintro e w5 ⟨rfl, hb5⟩
  go_wp2_with fail
  go_ret
  refine ⟨rfl, ?_⟩
  have hs2 := hb2.size
  have hs3 := hb3.size
  have hs4 := hb4.size
  exact ((((((((Below.refl _ _).alloc (Nat.le_refl _) _).alloc (by simp) _).trans (hb1.mono (by simp; omega))).trans (hb2.mono (by omega))).trans (hb3.mono (by omega))).trans (hb4.mono (by omega))).alloc (by omega) _).trans (hb5.mono (by simp; omega))
set_option maxHeartbeats 800000 in
theorem compare_fin (a b : Int) (w : World) : Calls Tryz.prog 75 #[finV a, finV b] w (RetPost (.tuple #[.int .i64 (cmpI a b), .bool true]) w) := by
  go_enter Tryz.func75, Tryz.ntmps75
  go_wp2_with fail
  refine (order_fin _ _ _).mono ?_
  rintro e w1 ⟨rfl, hb1⟩
  go_wp2_with fail
  go_ret2
  refine ⟨rfl, ?_⟩
  exact ((((Below.refl _ _).alloc (Nat.le_refl _) _).alloc (by simp) _).trans (hb1.mono (by simp; omega)))
/-- A store of a new key of an integer type into a map that is known whole. -/
theorem run_insert_int {P : Program} {w : World} {T K E r c : Nat} {es : Array MapEntry} {q : IntKind} {n : Int} {v : Value} (ht : P.underlying T = some (.map K E)) (hk : P.underlying K = some (.int q))
    (hr : w.heap[r]? = some (.map es c)) (hf : Instr.findNow (.int q) (.int q n) es.toList 0 = some none) :
    (Instr.mapUpdate T (.map (some r)) (.int q n) v).run P w = .ok () (setBlock w r (.map (es.push { key := .int q n, val := v, born := c }) (c + 1))) := by
  have hkey : MapKept.IsKey (.int q) (.int q n) := rfl
  simp [Instr.mapUpdate, run_underlying ht, MapKept.run_getObj_map hr, MapKept.run_checkKey hk hkey, run_underlying hk, Instr.findKey, hf, MapKept.run_setObj_map _ hr, Result.andThen, setBlock]
theorem wpl_insert_int {P : Program} (w : World) {ops : Array Oper} {rest : List Oper} {o : Oper} {a : Act} {Q : Exit → Act → World → Prop}
    (hg : o.guard = none) (m x v : Operand) (t : TypeId) (hop : o.op = Op.insert t m x v)
    (k e : TypeId) (q : IntKind) (ht : P.underlying t = some (.map k e)) (hk : P.underlying k = some (.int q)) (r : Nat) (es : Array MapEntry) (c : Nat)
    (hm : a.eval m = .map (some r)) (hr : w.heap[r]? = some (.map es c)) (B : Nat) (hB : B ≤ r) (n : Int) (val : Value) (hx : a.eval x = .int q n) (hv : a.eval v = val)
    (hf : Instr.findNow (.int q) (.int q n) es.toList 0 = some none)
    (hK : ∀ w', w'.heap[r]? = some (.map (es.push { key := .int q n, val := val, born := c }) (c + 1)) → Below B w w' → wpList P ops Q rest (a.put o.dst undef) w') :
    wpList P ops Q (o :: rest) a w := by
  refine wpList_plain hg fun K' hK' => ?_
  have hrun := run_insert_int (v := val) ht hk hr hf
  unfold Oper.wp
  simp [execOp, hop, hm, hx, hv, hrun, Result.andThen]
  exact hK' _ _ (hK _ (heap_setBlock_same hr _) (below_setBlock hB _))
theorem run_lookup_int {P : Program} {w : World} {T K E r c : Nat} {es : Array MapEntry} {q : IntKind} {n : Int} {i : Nat} {v : Value} (ht : P.underlying T = some (.map K E)) (hk : P.underlying K = some (.int q))
    (hr : w.heap[r]? = some (.map es c)) (hf : Instr.findNow (.int q) (.int q n) es.toList 0 = some (some (i, v))) :
    (Instr.lookup T (.map (some r)) (.int q n) false).run P w = .ok v w := by
  have hkey : MapKept.IsKey (.int q) (.int q n) := rfl
  simp [Instr.lookup, run_underlying ht, MapKept.run_getObj_map hr, MapKept.run_checkKey hk hkey, run_underlying hk, Instr.findKey, hf, Result.andThen]
theorem cmpI_lss (a b : Int) : decide (cmpI a b < 0) = decide (a < b) := by
  unfold cmpI
  by_cases h1 : a < b
  · simp [h1]
  · by_cases h2 : b < a <;> simp [h1, h2]
theorem cmpI_geq (a b : Int) : decide (0 ≤ cmpI a b) = decide (b ≤ a) := by
  unfold cmpI
  by_cases h1 : a < b
  · simp [h1]
  · by_cases h2 : b < a <;> simp [h1, h2] <;> omega
set_option maxHeartbeats 1600000 in
theorem holds_lt (a b : Int) (w : World) : Calls Tryz.prog 97 #[.int .i64 5, finV a, finV b] w (RetPost (.bool (decide (a < b))) w) := by
  have hmm := @run_makeMap Tryz.prog
  go_enter Tryz.func97, Tryz.ntmps97
  go_wp2_with fail
  refine (compare_fin _ _ _).mono ?_
  rintro e w1 ⟨rfl, hb1⟩
  have hm0 : (w1.alloc (.map #[] 0)).heap[w1.heap.size]? = some (.map #[] 0) := heap_alloc_at _ _ _ rfl
  have hB := (Below.refl w1.heap.size w1).alloc (Nat.le_refl _) (.map #[] 0)
  have Hn : Hid (decide (cmpI a b < 0) = decide (a < b)) := Lib.hid (cmpI_lss a b)
  generalize cmpI a b = n at *
  go_wp2_with (refine wpl_insert_int _ rfl _ _ _ _ rfl 113 4 .i64 Tryz.underlying167 Tryz.underlying113 _ _ _ rfl hm0 w1.heap.size (Nat.le_refl _) _ _ rfl rfl rfl ?_)
  intro wi hm' hB'
  replace hB := hB.trans hB'
  replace hm0 := hm'
  clear hm' hB'
  go_wp2_with (refine wpl_insert_int _ rfl _ _ _ _ rfl 113 4 .i64 Tryz.underlying167 Tryz.underlying113 _ _ _ rfl hm0 w1.heap.size (Nat.le_refl _) _ _ rfl rfl rfl ?_)
  intro wi hm' hB'
  replace hB := hB.trans hB'
  replace hm0 := hm'
  clear hm' hB'
  go_wp2_with (refine wpl_insert_int _ rfl _ _ _ _ rfl 113 4 .i64 Tryz.underlying167 Tryz.underlying113 _ _ _ rfl hm0 w1.heap.size (Nat.le_refl _) _ _ rfl rfl rfl ?_)
  intro wi hm' hB'
  replace hB := hB.trans hB'
  replace hm0 := hm'
  clear hm' hB'
  go_wp2_with (refine wpl_insert_int _ rfl _ _ _ _ rfl 113 4 .i64 Tryz.underlying167 Tryz.underlying113 _ _ _ rfl hm0 w1.heap.size (Nat.le_refl _) _ _ rfl rfl rfl ?_)
  intro wi hm' hB'
  replace hB := hB.trans hB'
  replace hm0 := hm'
  clear hm' hB'
  go_wp2_with (refine wpl_insert_int _ rfl _ _ _ _ rfl 113 4 .i64 Tryz.underlying167 Tryz.underlying113 _ _ _ rfl hm0 w1.heap.size (Nat.le_refl _) _ _ rfl rfl rfl ?_)
  intro wi hm' hB'
  replace hB := hB.trans hB'
  replace hm0 := hm'
  clear hm' hB'
  go_wp2_with (refine wpl_insert_int _ rfl _ _ _ _ rfl 113 4 .i64 Tryz.underlying167 Tryz.underlying113 _ _ _ rfl hm0 w1.heap.size (Nat.le_refl _) _ _ rfl rfl rfl ?_)
  intro wi hm' hB'
  replace hB := hB.trans hB'
  replace hm0 := hm'
  clear hm' hB'
  have hl := run_lookup_int (P := Tryz.prog) (n := 5) Tryz.underlying167 Tryz.underlying113 hm0 rfl
  go_wp2_with fail
  go_ret
  refine ⟨by rw [← Hn.out]; rfl, ?_⟩
  exact (((Below.refl _ _).alloc (Nat.le_refl _) _).alloc (by simp) _).trans ((hb1.trans (hB.mono hb1.size)).mono (by simp; omega))
set_option maxHeartbeats 1600000 in
theorem holds_ge (a b : Int) (w : World) : Calls Tryz.prog 97 #[.int .i64 8, finV a, finV b] w (RetPost (.bool (decide (b ≤ a))) w) := by
  have hmm := @run_makeMap Tryz.prog
  go_enter Tryz.func97, Tryz.ntmps97
  go_wp2_with fail
  refine (compare_fin _ _ _).mono ?_
  rintro e w1 ⟨rfl, hb1⟩
  have hm0 : (w1.alloc (.map #[] 0)).heap[w1.heap.size]? = some (.map #[] 0) := heap_alloc_at _ _ _ rfl
  have hB := (Below.refl w1.heap.size w1).alloc (Nat.le_refl _) (.map #[] 0)
  have Hn : Hid (decide (0 ≤ cmpI a b) = decide (b ≤ a)) := Lib.hid (cmpI_geq a b)
  generalize cmpI a b = n at *
  go_wp2_with (refine wpl_insert_int _ rfl _ _ _ _ rfl 113 4 .i64 Tryz.underlying167 Tryz.underlying113 _ _ _ rfl hm0 w1.heap.size (Nat.le_refl _) _ _ rfl rfl rfl ?_)
  intro wi hm' hB'
  replace hB := hB.trans hB'
  replace hm0 := hm'
  clear hm' hB'
  go_wp2_with (refine wpl_insert_int _ rfl _ _ _ _ rfl 113 4 .i64 Tryz.underlying167 Tryz.underlying113 _ _ _ rfl hm0 w1.heap.size (Nat.le_refl _) _ _ rfl rfl rfl ?_)
  intro wi hm' hB'
  replace hB := hB.trans hB'
  replace hm0 := hm'
  clear hm' hB'
  go_wp2_with (refine wpl_insert_int _ rfl _ _ _ _ rfl 113 4 .i64 Tryz.underlying167 Tryz.underlying113 _ _ _ rfl hm0 w1.heap.size (Nat.le_refl _) _ _ rfl rfl rfl ?_)
  intro wi hm' hB'
  replace hB := hB.trans hB'
  replace hm0 := hm'
  clear hm' hB'
  go_wp2_with (refine wpl_insert_int _ rfl _ _ _ _ rfl 113 4 .i64 Tryz.underlying167 Tryz.underlying113 _ _ _ rfl hm0 w1.heap.size (Nat.le_refl _) _ _ rfl rfl rfl ?_)
  intro wi hm' hB'
  replace hB := hB.trans hB'
  replace hm0 := hm'
  clear hm' hB'
  go_wp2_with (refine wpl_insert_int _ rfl _ _ _ _ rfl 113 4 .i64 Tryz.underlying167 Tryz.underlying113 _ _ _ rfl hm0 w1.heap.size (Nat.le_refl _) _ _ rfl rfl rfl ?_)
  intro wi hm' hB'
  replace hB := hB.trans hB'
  replace hm0 := hm'
  clear hm' hB'
  go_wp2_with (refine wpl_insert_int _ rfl _ _ _ _ rfl 113 4 .i64 Tryz.underlying167 Tryz.underlying113 _ _ _ rfl hm0 w1.heap.size (Nat.le_refl _) _ _ rfl rfl rfl ?_)
  intro wi hm' hB'
  replace hB := hB.trans hB'
  replace hm0 := hm'
  clear hm' hB'
  have hl := run_lookup_int (P := Tryz.prog) (n := 8) Tryz.underlying167 Tryz.underlying113 hm0 rfl
  go_wp2_with fail
  go_ret
  refine ⟨by rw [← Hn.out]; rfl, ?_⟩
  exact (((Below.refl _ _).alloc (Nat.le_refl _) _).alloc (by simp) _).trans ((hb1.trans (hB.mono hb1.size)).mono (by simp; omega))
set_option maxHeartbeats 400000 in
theorem parts_pos (v : Int) (w : World) (h0 : 0 ≤ v) (h1 : v ≤ 1000000000000000) : Calls Tryz.prog 104 #[finV v] w (RetPost (.tuple #[.int .u64 v, .bool false]) w) := by
  go_enter Tryz.func104, Tryz.ntmps104
  go_wp2
  go_ret2
  exact ⟨rfl, (Below.refl _ _).alloc (Nat.le_refl _) _⟩
set_option maxHeartbeats 400000 in
theorem fin_pos (v : Int) (w : World) (h0 : 0 ≤ v) (h1 : v ≤ 1000000000000000) : Calls Tryz.prog 120 #[.int .u64 v, .bool false] w (RetPost (finV v) w) := by
  go_enter Tryz.func120, Tryz.ntmps120
  go_wp2
  refine bodyPost_ret (v := finV v) (by simp [results, Tryz.results120, go_sem]) rfl ⟨rfl, ?_⟩
  exact ((Below.refl _ _).alloc (Nat.le_refl _) _)
set_option maxHeartbeats 400000 in
theorem add_pos (a b : Int) (w : World) (h0 : 0 ≤ a) (h1 : a ≤ 400000000000000) (h2 : 0 ≤ b) (h3 : b ≤ 400000000000000) : Calls Tryz.prog 79 #[finV a, finV b] w (RetPost (finV (a + b)) w) := by
  go_enter Tryz.func79, Tryz.ntmps79
  go_wp2_with fail
  refine (parts_pos _ _ (by omega) (by omega)).mono ?_
  rintro e w1 ⟨rfl, hb1⟩
  go_wp2_with fail
  refine (fin_pos _ _ (by omega) (by omega)).mono ?_
  rintro e w2 ⟨rfl, hb2⟩
  have hb := hb1.trans (hb2.mono hb1.size)
  have hs1 := hb.size
  simp at hs1
  obtain ⟨hc, hf⟩ := bcell hb
  go_wp2_with fail
  refine bodyPost_ret (v := finV (a + b)) (by simp [results, Tryz.results79, go_sem, hc]) rfl ⟨rfl, ?_⟩
  refine Below.setCell (Below.setCell ?_ (by dsimp only; omega) _) (by dsimp only; omega) _
  exact ((((((Below.refl _ _).alloc (Nat.le_refl _) _).alloc (by simp) _).alloc (by simp; omega) _).alloc (by simp; omega) _).trans (hb.mono (by simp; omega)))
/-- A value of no nodes. -/
abbrev valV (k nv : Int) (s : ByteArray) (b : Bool) : Value := .agg #[.int .i64 k, .slice none 0 0, .int .i64 0, .int .i64 nv, .string s, .bool b]
set_option maxHeartbeats 400000 in
theorem string_text (s : ByteArray) (w : World) : Calls Tryz.prog 86 #[.pointer none, valV 2 0 s false] w (RetPost (.string s) w) := by
  go_enter Tryz.func86, Tryz.ntmps86
  go_wp2
  go_ret
  exact ⟨rfl, (Below.refl _ _).alloc (Nat.le_refl _) _⟩
set_option maxHeartbeats 400000 in
theorem number_num (n : Int) (w : World) : Calls Tryz.prog 77 #[.pointer none, valV 1 n ⟨#[]⟩ false] w (RetPost (finV n) w) := by
  go_enter Tryz.func77, Tryz.ntmps77
  go_wp2
  refine bodyPost_ret (v := finV n) (by simp [results, Tryz.results77, go_sem]) rfl ⟨rfl, ?_⟩
  exact ((Below.refl _ _).alloc (Nat.le_refl _) _).alloc (by simp) _
/-- The arguments: a slice of c values at block b. -/
abbrev argsV (b n c : Nat) : Value := .agg #[.pointer none, .slice (some ⟨b, 0, none⟩) n c]
/-- The i-th value of block b is v. -/
def ValAt (w : World) (b i : Nat) (k nv : Int) (s : ByteArray) (t : Bool) : Prop :=
  w.cell? ⟨b, i * 6, none⟩ = some (.int .i64 k) ∧ w.cell? ⟨b, i * 6 + 1, none⟩ = some (.slice none 0 0) ∧ w.cell? ⟨b, i * 6 + 2, none⟩ = some (.int .i64 0) ∧ w.cell? ⟨b, i * 6 + 3, none⟩ = some (.int .i64 nv) ∧ w.cell? ⟨b, i * 6 + 4, none⟩ = some (.string s) ∧ w.cell? ⟨b, i * 6 + 5, none⟩ = some (.bool t)
theorem lt_of_cell {w : World} {p : Addr} {v : Value} (h : w.cell? p = some v) : p.block < w.heap.size := by
  unfold World.cell? at h
  split at h
  · rename_i h1; exact (Array.getElem?_eq_some_iff.1 h1).1
  · cases h
theorem ValAt.lt {w : World} {b i : Nat} {k nv : Int} {s : ByteArray} {t : Bool} (h : ValAt w b i k nv s t) : b < w.heap.size := lt_of_cell h.1
theorem ValAt.below {w w' : World} {b i : Nat} {k nv : Int} {s : ByteArray} {t : Bool} (h : ValAt w b i k nv s t) (hb : Below w.heap.size w w') : ValAt w' b i k nv s t := by
  have hlt := h.lt
  obtain ⟨h0, h1, h2, h3, h4, h5⟩ := h
  exact ⟨by rw [hb.cell hlt]; exact h0, by rw [hb.cell hlt]; exact h1, by rw [hb.cell hlt]; exact h2, by rw [hb.cell hlt]; exact h3, by rw [hb.cell hlt]; exact h4, by rw [hb.cell hlt]; exact h5⟩
end Go.Proofs.YtkikeacnbgjjlaaGreatDoor
