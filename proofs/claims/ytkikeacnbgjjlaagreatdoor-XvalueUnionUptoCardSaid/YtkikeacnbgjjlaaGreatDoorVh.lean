/-
  substring at "12345" from 1.5 for 2.6 (what live() asks): the call of WriteRune, args.num, the loop.
-/
import Derived.Test.YtkikeacnbgjjlaaGreatDoorVc
import Derived.Test.YtkikeacnbgjjlaaGreatDoorRg
import Derived.Shelf.Strings.MapGrows
import Derived.Laws.RangeAny
import Derived.Deep.Cut
import Derived.Deep.LoopGhost
namespace Go.Proofs.YtkikeacnbgjjlaaGreatDoor
open Go.RowKit Go.ChangeMaps
set_option linter.unusedSimpArgs false
/-- The quiet walk, shut (Lean's elaborator else reckons the guards at each step). -/
structure WQ (P : Program) (ops : Array Oper) (C : World → Prop) (Q : Act → Prop) (l : List Oper) (a : Act) : Prop where
  out : wpQuiet P ops C Q l a
theorem WQ.nil {P : Program} {ops : Array Oper} {C : World → Prop} {Q : Act → Prop} {a : Act} (h : Q a) : WQ P ops C Q [] a := ⟨h⟩
theorem WQ.val {P : Program} {ops : Array Oper} {C : World → Prop} {Q : Act → Prop} {a : Act} {o : Oper} {rest : List Oper} (hw : Region.wanted o (yielded ops a.tmps) = true) (v : Value)
    (hv : ∀ w, C w → o.quietAt P a C w v) (h : WQ P ops C Q rest (a.put o.dst v)) : WQ P ops C Q (o :: rest) a :=
  ⟨wpQuiet_step fun K hK => by rw [if_pos hw]; exact ⟨v, hv, hK _ h.out⟩⟩
theorem WQ.skip {P : Program} {ops : Array Oper} {C : World → Prop} {Q : Act → Prop} {a : Act} {o : Oper} {rest : List Oper} (hw : Region.wanted o (yielded ops a.tmps) = false)
    (h : WQ P ops C Q rest (a.put o.dst undef)) : WQ P ops C Q (o :: rest) a :=
  ⟨wpQuiet_step fun K hK => by rw [if_neg (by rw [hw]; exact Bool.false_ne_true)]; exact hK _ h.out⟩
theorem writeRune_k (B b : Nat) (bs : List Value) (r : Int) (hr0 : -2147483648 ≤ r) (hr1 : r ≤ 2147483647) (w : World) (h : Lib.IsBuilderF 111 5 B b bs w) (hlen : bs.length + 4 ≤ 140737488355328) (hBw : B ≤ w.heap.size) :
    Calls Tryz.prog 98 #[.pointer (some ⟨b, 0, none⟩), .int .i32 r] w fun e w' => e = .returned (.tuple #[.int .i64 (Lib.runeCells r).length, .nilIface]) ∧ (Lib.BuilderAtF 111 5 B b (.pointer (some ⟨b, 0, none⟩)) (bs ++ Lib.runeCells r) w' ∧ Below B w w' ∧ Lib.OthersKept 5 (some b) w w') :=
  Any.Builder_WriteRune_k { Tryz.lays230 with } Tryz.Builder_Extra_230 B b bs r hr0 hr1 w h hlen hBw
set_option maxHeartbeats 800000 in
theorem num_any (b n c i : Nat) (l : List VV) (v : Int) (w : World) (hi : i < n) (hA : ArgsIn w b l) (hx : l[i]? = some (VV.num v)) : Calls Tryz.prog 35 #[argsV b n c, .int .i64 i] w (RetPost (finV v) w) := by
  have hlt := hA.1
  obtain ⟨h0, h1, h2, h3, h4, h5⟩ := hA.2 i _ hx
  clear hA hx
  have hi' : (i : Int) < (n : Int) := by omega
  have nb : b ≠ w.heap.size := by omega
  have nb' : b ≠ w.heap.size + 1 := by omega
  have nb2 : ¬ (w.heap.size + 1 = b) := by omega
  have nb3 : ¬ (w.heap.size = b) := by omega
  go_enter Tryz.func35, Tryz.ntmps35
  go_wp2
  go_region_held3 (fun w' => w'.cell? ⟨w.heap.size, 0, none⟩ = some (.pointer none) ∧ w'.cell? ⟨w.heap.size, 1, none⟩ = some (.slice (some ⟨b, 0, none⟩) n c) ∧ w'.cell? ⟨b, i * 6, none⟩ = some (.int .i64 1) ∧ w'.cell? ⟨b, i * 6 + 1, none⟩ = some (.slice none 0 0) ∧ w'.cell? ⟨b, i * 6 + 2, none⟩ = some (.int .i64 0) ∧ w'.cell? ⟨b, i * 6 + 3, none⟩ = some (.int .i64 v) ∧ w'.cell? ⟨b, i * 6 + 4, none⟩ = some (.string ⟨#[]⟩) ∧ w'.cell? ⟨b, i * 6 + 5, none⟩ = some (.bool false)) (first | go_keep | (have hHH := ‹_ ∧ _ ∧ _ ∧ _ ∧ _ ∧ _ ∧ _ ∧ _›; obtain ⟨q0, q1, q2, q3, q4, q5, q6, q7⟩ := hHH; exact ⟨(hb.cell (by simp <;> omega)).trans q0, (hb.cell (by simp <;> omega)).trans q1, (hb.cell (by simp <;> omega)).trans q2, (hb.cell (by simp <;> omega)).trans q3, (hb.cell (by simp <;> omega)).trans q4, (hb.cell (by simp <;> omega)).trans q5, (hb.cell (by simp <;> omega)).trans q6, (hb.cell (by simp <;> omega)).trans q7⟩)) (first | (go_at_call 77; refine (number_num _ _).mono ?_; rintro e w1 ⟨rfl, hb⟩; have hs := hb.size; simp at hs; obtain ⟨hc, hf⟩ := bcell hb; have hlt2 : b < w.heap.size + 1 := by omega))
  refine ‹∀ (a : Act) (w_1 : World), Code.wp Tryz.prog Code.ret _ a w_1 → _› _ _ ?_
  go_wp2_with fail
  refine bodyPost_ret (v := finV v) (by simp [results, Tryz.results35, go_sem, hc]) rfl ⟨rfl, ?_⟩
  exact (((((Below.refl _ _).alloc (Nat.le_refl _) _).alloc (by simp) _).drew.trans (hb.mono (by simp; omega))).setCell (by simp) _).setCell (by simp) _
abbrev s5 : ByteArray := ⟨#[49, 50, 51, 52, 53]⟩
/-- What has been written when k characters have been read. -/
def outK (k : Nat) : List UInt8 := [50, 51, 52].take (k - 1)
theorem dec5 (k : Nat) (h : k < 5) : Utf8.decode s5 k = (49 + k, 1) := by
  have : k = 0 ∨ k = 1 ∨ k = 2 ∨ k = 3 ∨ k = 4 := by omega
  rcases this with h | h | h | h | h <;> subst h <;> rfl
set_option maxHeartbeats 4000000 in
set_option maxRecDepth 20000 in
theorem substring_live (b c : Nat) (w : World) (hA : ArgsIn w b [.text s5, .num 1500000, .num 2600000]) :
    Calls Tryz.prog 65 #[argsV b 3 c] w (RetPost (.string ⟨#[50, 51, 52]⟩) w) := by
  go_enter Tryz.func65, Tryz.ntmps65
  go_wp2_with fail
  have hlt := hA.1
  refine (num_any b 3 c 1 _ 1500000 _ (by omega) (hA.alloc _) rfl).mono ?_
  rintro e w1 ⟨rfl, hb1⟩
  have hs1 := hb1.size
  simp at hs1
  obtain ⟨hc1, hf1⟩ := bcell hb1
  go_wp2_with fail
  refine (round_any 1500000 _ (by omega) (by omega)).mono ?_
  rintro e w2 ⟨rfl, hb2⟩
  have hs2 := hb2.size
  obtain ⟨hc2, hf2⟩ := bcell hb2
  have g0 : w2.cell? ⟨w.heap.size, 0, none⟩ = some (.pointer none) := by rw [hc2 _ _ (by omega), hc1 _ _ (by simp)]; simp
  have g1 : w2.cell? ⟨w.heap.size, 1, none⟩ = some (.slice (some ⟨b, 0, none⟩) 3 c) := by rw [hc2 _ _ (by omega), hc1 _ _ (by simp)]; simp
  have n0 : w.heap.size < w2.heap.size := by omega
  have n1 : w.heap.size < w2.heap.size + 1 := by omega
  clear hc1 hc2 hf1 hf2
  go_wp2_with fail
  generalize hW : (World.alloc (w2.alloc _) (Obj.cells #[.pointer none, .slice none 0 0] 111)) = W
  have hz : W.heap.size = w2.heap.size + 2 := by rw [← hW]; simp
  have hbW : Below w.heap.size w W := by
    rw [← hW]
    exact ((((Below.refl _ _).alloc (Nat.le_refl _) _).trans (hb1.mono (by simp))).trans (hb2.mono (by omega))).alloc (by omega) _ |>.alloc (by simp; omega) _
  have hcW : ∀ (k o : Nat), k < w2.heap.size → W.cell? ⟨k, o, none⟩ = w2.cell? ⟨k, o, none⟩ := by
    intro k o hk
    rw [← hW]
    exact (((Below.refl _ _).alloc (Nat.le_refl _) _).alloc (by simp) _).cell (p := ⟨k, o, none⟩) hk
  have q0 : W.cell? ⟨w.heap.size, 0, none⟩ = some (.pointer none) := by rw [hcW _ _ (by omega), g0]
  have q1 : W.cell? ⟨w.heap.size, 1, none⟩ = some (.slice (some ⟨b, 0, none⟩) 3 c) := by rw [hcW _ _ (by omega), g1]
  have f0 : W.cell? ⟨w2.heap.size, 0, none⟩ = some (.int .i64 0) := by rw [← hW]; simp
  have f1 : W.cell? ⟨w2.heap.size, 1, none⟩ = some (.int .i64 2000000) := by rw [← hW]; simp
  have o0 : W.heap[w2.heap.size + 1]? = some (.cells #[.pointer none, .slice none 0 0] 111 (0, 0)) := by rw [← hW]; exact heap_alloc_at _ _ _ (by simp)
  have hAW : ArgsIn W b [VV.text s5, VV.num 1500000, VV.num 2600000] := hA.below hbW
  clear hW hb1 hb2 hcW
  refine (str_any b 3 c 0 _ s5 _ (by omega) hAW rfl).mono ?_
  rintro e w3 ⟨rfl, hb3⟩
  have hs3 := hb3.size
  go_wp2_with fail
  have hit3 : (w3.alloc (.stringIter s5 0)).heap[w3.heap.size]? = some (.stringIter s5 0) := heap_alloc_at _ _ _ rfl
  have hB3 : Below W.heap.size W (w3.alloc (.stringIter s5 0)) := hb3.alloc hs3 _
  go_loopg [5] 5 (fun gk p wx => ∃ k : Nat, k + gk = 5 ∧ p = .int .i64 k ∧ Lib.IsBuilderF 111 5 (w2.heap.size + 1) (w2.heap.size + 1) (Lib.byteCells (outK k)) wx ∧ wx.heap[w3.heap.size]? = some (.stringIter s5 k) ∧ Below (w2.heap.size + 1) W wx)
  case atStart =>
    refine ⟨0, rfl, rfl, .inl ⟨Nat.le_refl _, _, (hB3.block _ (by omega)).trans o0, World.ownsRowF_nil _ _ _ _, by simp [Value.ownBlock]⟩, hit3, hB3.mono (by omega)⟩
  case round =>
    obtain ⟨k, hk, rfl, hbu, hit, hbw⟩ := hrel
    by_cases hlt5 : k < 5
    · have hnx : ∀ ty, (Instr.next (.pointer (some ⟨w3.heap.size, 0, none⟩)) true ty).run Tryz.prog wr = _ := fun ty => Lib.run_next_any_at wr w3.heap.size s5 k ty hit (by show k < 5; exact hlt5)
      rw [dec5 k hlt5] at hnx
      have hit5 := Lib.iterAt_heap wr w3.heap.size s5 k (k + 1) hit
      have hbu5 := hbu.iterAt hit (k + 1)
      have hbw5 := Lib.below_iterAt hbw (k := w3.heap.size) (by omega) s5 (k + 1)
      have hp : k = 0 ∨ k = 1 ∨ k = 2 ∨ k = 3 ∨ k = 4 := by omega
      have hint := fun (p : Int) (h0 : 0 ≤ p) (h1 : p ≤ 1000) (x : World) => int_any p x h0 (by omega)
      rcases hp with rfl | rfl | rfl | rfl | rfl
      · try simp only [Nat.reduceAdd] at hnx hit5 hbu5 hbw5
        generalize wr.iterAt w3.heap.size s5 _ = W5 at *
        clear hbu hit hbw
        go_wp2_with fail
        refine (hint 1 (by omega) (by omega) W5).mono ?_
        rintro e W6 ⟨rfl, hb6⟩
        have hs6 := hb6.size
        have hzW5 := hbw5.size
        have hit6 := (hb6.block _ (Array.getElem?_eq_some_iff.1 hit5).1).trans hit5
        have hbu6 := hbu5.below hb6
        have hbw6 := hbw5.trans (hb6.mono (by omega))
        clear hit5 hbu5 hbw5 hb6
        go_upto_region 9 with fail
        generalize hW7 : World.alloc W6 _ = W7
        have hz7 : W6.heap.size + 1 ≤ W7.heap.size := by rw [← hW7]; simp
        have p0 : W7.cell? ⟨W6.heap.size, 0, none⟩ = some (.int .i64 0) := by rw [← hW7]; simp
        have p1 : W7.cell? ⟨W6.heap.size, 1, none⟩ = some (.int .i64 1000000) := by rw [← hW7]; simp
        have hit7 : W7.heap[w3.heap.size]? = some (.stringIter s5 1) := by rw [← hW7]; exact (((Below.refl W6.heap.size W6).alloc (Nat.le_refl _) _).block _ (Array.getElem?_eq_some_iff.1 hit6).1).trans hit6
        have hbu7 : Lib.IsBuilderF 111 5 (w2.heap.size + 1) (w2.heap.size + 1) (Lib.byteCells (outK 0)) W7 := by rw [← hW7]; exact hbu6.alloc _
        have hbw7 : Below (w2.heap.size + 1) W W7 := by rw [← hW7]; exact hbw6.alloc (by omega) _
        clear hW7 hit6 hbu6 hbw6
        have rd : ∀ w', Below W7.heap.size W7 w' → w'.cell? ⟨W6.heap.size, 0, none⟩ = some (.int .i64 0) ∧ w'.cell? ⟨W6.heap.size, 1, none⟩ = some (.int .i64 1000000) ∧ w'.cell? ⟨w.heap.size, 0, none⟩ = some (.pointer none) ∧ w'.cell? ⟨w.heap.size, 1, none⟩ = some (.slice (some ⟨b, 0, none⟩) 3 c) ∧ w'.cell? ⟨w2.heap.size, 0, none⟩ = some (.int .i64 0) ∧ w'.cell? ⟨w2.heap.size, 1, none⟩ = some (.int .i64 2000000) := fun w' h => by
          have h2 := hbw7.trans (h.mono (by omega))
          exact ⟨(h.cell (by dsimp only; omega)).trans p0, (h.cell (by dsimp only; omega)).trans p1, (h2.cell (by dsimp only; omega)).trans q0, (h2.cell (by dsimp only; omega)).trans q1, (h2.cell (by dsimp only; omega)).trans f0, (h2.cell (by dsimp only; omega)).trans f1⟩
        have hA7 : ∀ w', Below W7.heap.size W7 w' → ArgsIn w' b [VV.text s5, VV.num 1500000, VV.num 2600000] := fun w' h => hA.below ((hbW.trans (hbw7.mono (by omega))).trans (h.mono (by omega)))
        refine wp_region_quiet (C := fun w' => Below W7.heap.size W7 w') (by kernel_rfl) (by kernel_rfl) (Below.refl _ W7).drew (WQ.out ?_)
        try simp only [Act.put, List.setIfInBounds_toArray, List.set_cons_zero, List.set_cons_succ]
        refine WQ.val (by kernel_rfl) (finV 1000000) (fun w' hw' => ?_) ?_
        · obtain ⟨t0, t1, t2, t3, t4, t5⟩ := rd w' hw'
          go_simp
        try simp only [Act.put, List.setIfInBounds_toArray, List.set_cons_zero, List.set_cons_succ]
        refine WQ.val (by kernel_rfl) (finV 2000000) (fun w' hw' => ?_) ?_
        · obtain ⟨t0, t1, t2, t3, t4, t5⟩ := rd w' hw'
          go_simp
        try simp only [Act.put, List.setIfInBounds_toArray, List.set_cons_zero, List.set_cons_succ]
        refine WQ.val (by kernel_rfl) (.bool false) (fun w' hw' => ?_) ?_
        · go_simp
          exact (holds_ge 1000000 2000000 w').mono fun e w'' ⟨he, hb⟩ => ⟨by simpa using he, hw'.trans (hb.mono hw'.size)⟩
        try simp only [Act.put, List.setIfInBounds_toArray, List.set_cons_zero, List.set_cons_succ]
        refine WQ.val (by kernel_rfl) (.bool false) (fun w' hw' => ?_) ?_
        · go_simp
        iterate 13 refine WQ.skip (by kernel_rfl) ?_
        try simp only [Act.put, List.setIfInBounds_toArray, List.set_cons_zero, List.set_cons_succ]
        refine WQ.val (by kernel_rfl) (.bool false) (fun w' hw' => ?_) ?_
        · go_simp
        try simp only [Act.put, List.setIfInBounds_toArray, List.set_cons_zero, List.set_cons_succ]
        refine WQ.nil ?_
        intro W8 hb8
        try simp only [Act.put, List.setIfInBounds_toArray, List.set_cons_zero, List.set_cons_succ]
        have hs8 := hb8.size
        have hit8 := (hb8.block _ (Array.getElem?_eq_some_iff.1 hit7).1).trans hit7
        have hbu8 := hbu7.below hb8
        have hbw8 := hbw7.trans (hb8.mono (by omega))
        clear hit7 hbu7 hbw7 hb8 rd hA7 p0 p1
        go_wp2_with fail
        go_roundg 4
        case measure => omega
        case rel => exact ⟨1, by omega, rfl, hbu8, hit8, hbw8⟩
      · try simp only [Nat.reduceAdd] at hnx hit5 hbu5 hbw5
        generalize wr.iterAt w3.heap.size s5 _ = W5 at *
        clear hbu hit hbw
        go_wp2_with fail
        refine (hint 2 (by omega) (by omega) W5).mono ?_
        rintro e W6 ⟨rfl, hb6⟩
        have hs6 := hb6.size
        have hzW5 := hbw5.size
        have hit6 := (hb6.block _ (Array.getElem?_eq_some_iff.1 hit5).1).trans hit5
        have hbu6 := hbu5.below hb6
        have hbw6 := hbw5.trans (hb6.mono (by omega))
        clear hit5 hbu5 hbw5 hb6
        go_upto_region 9 with fail
        generalize hW7 : World.alloc W6 _ = W7
        have hz7 : W6.heap.size + 1 ≤ W7.heap.size := by rw [← hW7]; simp
        have p0 : W7.cell? ⟨W6.heap.size, 0, none⟩ = some (.int .i64 0) := by rw [← hW7]; simp
        have p1 : W7.cell? ⟨W6.heap.size, 1, none⟩ = some (.int .i64 2000000) := by rw [← hW7]; simp
        have hit7 : W7.heap[w3.heap.size]? = some (.stringIter s5 2) := by rw [← hW7]; exact (((Below.refl W6.heap.size W6).alloc (Nat.le_refl _) _).block _ (Array.getElem?_eq_some_iff.1 hit6).1).trans hit6
        have hbu7 : Lib.IsBuilderF 111 5 (w2.heap.size + 1) (w2.heap.size + 1) (Lib.byteCells (outK 1)) W7 := by rw [← hW7]; exact hbu6.alloc _
        have hbw7 : Below (w2.heap.size + 1) W W7 := by rw [← hW7]; exact hbw6.alloc (by omega) _
        clear hW7 hit6 hbu6 hbw6
        have rd : ∀ w', Below W7.heap.size W7 w' → w'.cell? ⟨W6.heap.size, 0, none⟩ = some (.int .i64 0) ∧ w'.cell? ⟨W6.heap.size, 1, none⟩ = some (.int .i64 2000000) ∧ w'.cell? ⟨w.heap.size, 0, none⟩ = some (.pointer none) ∧ w'.cell? ⟨w.heap.size, 1, none⟩ = some (.slice (some ⟨b, 0, none⟩) 3 c) ∧ w'.cell? ⟨w2.heap.size, 0, none⟩ = some (.int .i64 0) ∧ w'.cell? ⟨w2.heap.size, 1, none⟩ = some (.int .i64 2000000) := fun w' h => by
          have h2 := hbw7.trans (h.mono (by omega))
          exact ⟨(h.cell (by dsimp only; omega)).trans p0, (h.cell (by dsimp only; omega)).trans p1, (h2.cell (by dsimp only; omega)).trans q0, (h2.cell (by dsimp only; omega)).trans q1, (h2.cell (by dsimp only; omega)).trans f0, (h2.cell (by dsimp only; omega)).trans f1⟩
        have hA7 : ∀ w', Below W7.heap.size W7 w' → ArgsIn w' b [VV.text s5, VV.num 1500000, VV.num 2600000] := fun w' h => hA.below ((hbW.trans (hbw7.mono (by omega))).trans (h.mono (by omega)))
        refine wp_region_quiet (C := fun w' => Below W7.heap.size W7 w') (by kernel_rfl) (by kernel_rfl) (Below.refl _ W7).drew (WQ.out ?_)
        try simp only [Act.put, List.setIfInBounds_toArray, List.set_cons_zero, List.set_cons_succ]
        refine WQ.val (by kernel_rfl) (finV 2000000) (fun w' hw' => ?_) ?_
        · obtain ⟨t0, t1, t2, t3, t4, t5⟩ := rd w' hw'
          go_simp
        try simp only [Act.put, List.setIfInBounds_toArray, List.set_cons_zero, List.set_cons_succ]
        refine WQ.val (by kernel_rfl) (finV 2000000) (fun w' hw' => ?_) ?_
        · obtain ⟨t0, t1, t2, t3, t4, t5⟩ := rd w' hw'
          go_simp
        try simp only [Act.put, List.setIfInBounds_toArray, List.set_cons_zero, List.set_cons_succ]
        refine WQ.val (by kernel_rfl) (.bool true) (fun w' hw' => ?_) ?_
        · go_simp
          exact (holds_ge 2000000 2000000 w').mono fun e w'' ⟨he, hb⟩ => ⟨by simpa using he, hw'.trans (hb.mono hw'.size)⟩
        try simp only [Act.put, List.setIfInBounds_toArray, List.set_cons_zero, List.set_cons_succ]
        refine WQ.val (by kernel_rfl) (.bool true) (fun w' hw' => ?_) ?_
        · go_simp
        try simp only [Act.put, List.setIfInBounds_toArray, List.set_cons_zero, List.set_cons_succ]
        refine WQ.val (by kernel_rfl) (.pointer (some ⟨w.heap.size, 1, none⟩)) (fun w' hw' => ?_) ?_
        · go_simp
        try simp only [Act.put, List.setIfInBounds_toArray, List.set_cons_zero, List.set_cons_succ]
        refine WQ.val (by kernel_rfl) (.slice (some ⟨b, 0, none⟩) 3 c) (fun w' hw' => ?_) ?_
        · obtain ⟨t0, t1, t2, t3, t4, t5⟩ := rd w' hw'
          go_simp
        try simp only [Act.put, List.setIfInBounds_toArray, List.set_cons_zero, List.set_cons_succ]
        refine WQ.val (by kernel_rfl) (.int .i64 3) (fun w' hw' => ?_) ?_
        · go_simp
        try simp only [Act.put, List.setIfInBounds_toArray, List.set_cons_zero, List.set_cons_succ]
        refine WQ.val (by kernel_rfl) (.bool false) (fun w' hw' => ?_) ?_
        · go_simp
        try simp only [Act.put, List.setIfInBounds_toArray, List.set_cons_zero, List.set_cons_succ]
        refine WQ.val (by kernel_rfl) (.bool false) (fun w' hw' => ?_) ?_
        · go_simp
        try simp only [Act.put, List.setIfInBounds_toArray, List.set_cons_zero, List.set_cons_succ]
        refine WQ.val (by kernel_rfl) (finV 2000000) (fun w' hw' => ?_) ?_
        · obtain ⟨t0, t1, t2, t3, t4, t5⟩ := rd w' hw'
          go_simp
        try simp only [Act.put, List.setIfInBounds_toArray, List.set_cons_zero, List.set_cons_succ]
        refine WQ.val (by kernel_rfl) (finV 2000000) (fun w' hw' => ?_) ?_
        · obtain ⟨t0, t1, t2, t3, t4, t5⟩ := rd w' hw'
          go_simp
        try simp only [Act.put, List.setIfInBounds_toArray, List.set_cons_zero, List.set_cons_succ]
        refine WQ.val (by kernel_rfl) (argsV b 3 c) (fun w' hw' => ?_) ?_
        · obtain ⟨t0, t1, t2, t3, t4, t5⟩ := rd w' hw'
          go_simp
        try simp only [Act.put, List.setIfInBounds_toArray, List.set_cons_zero, List.set_cons_succ]
        refine WQ.val (by kernel_rfl) (finV 2600000) (fun w' hw' => ?_) ?_
        · go_simp
          exact (num_any b 3 c 2 _ 2600000 w' (by omega) (hA7 w' hw') rfl).mono fun e w'' ⟨he, hb⟩ => ⟨he, hw'.trans (hb.mono hw'.size)⟩
        try simp only [Act.put, List.setIfInBounds_toArray, List.set_cons_zero, List.set_cons_succ]
        refine WQ.val (by kernel_rfl) (finV 3000000) (fun w' hw' => ?_) ?_
        · go_simp
          exact (round_any 2600000 w' (by omega) (by omega)).mono fun e w'' ⟨he, hb⟩ => ⟨by simpa using he, hw'.trans (hb.mono hw'.size)⟩
        try simp only [Act.put, List.setIfInBounds_toArray, List.set_cons_zero, List.set_cons_succ]
        refine WQ.val (by kernel_rfl) (finV 5000000) (fun w' hw' => ?_) ?_
        · go_simp
          exact (add_pos 2000000 3000000 w' (by omega) (by omega) (by omega) (by omega)).mono fun e w'' ⟨he, hb⟩ => ⟨by simpa using he, hw'.trans (hb.mono hw'.size)⟩
        try simp only [Act.put, List.setIfInBounds_toArray, List.set_cons_zero, List.set_cons_succ]
        refine WQ.val (by kernel_rfl) (.bool true) (fun w' hw' => ?_) ?_
        · go_simp
          exact (holds_lt 2000000 5000000 w').mono fun e w'' ⟨he, hb⟩ => ⟨by simpa using he, hw'.trans (hb.mono hw'.size)⟩
        try simp only [Act.put, List.setIfInBounds_toArray, List.set_cons_zero, List.set_cons_succ]
        refine WQ.val (by kernel_rfl) (.bool true) (fun w' hw' => ?_) ?_
        · go_simp
        try simp only [Act.put, List.setIfInBounds_toArray, List.set_cons_zero, List.set_cons_succ]
        refine WQ.val (by kernel_rfl) (.bool true) (fun w' hw' => ?_) ?_
        · go_simp
        try simp only [Act.put, List.setIfInBounds_toArray, List.set_cons_zero, List.set_cons_succ]
        refine WQ.nil ?_
        intro W8 hb8
        try simp only [Act.put, List.setIfInBounds_toArray, List.set_cons_zero, List.set_cons_succ]
        have hs8 := hb8.size
        have hit8 := (hb8.block _ (Array.getElem?_eq_some_iff.1 hit7).1).trans hit7
        have hbu8 := hbu7.below hb8
        have hbw8 := hbw7.trans (hb8.mono (by omega))
        clear hit7 hbu7 hbw7 hb8 rd hA7 p0 p1
        go_wp2_with fail
        refine (writeRune_k (w2.heap.size + 1) (w2.heap.size + 1) _ 50 (by omega) (by omega) W8 hbu8 (by decide) (by omega)).mono ?_
        rintro e W9 ⟨rfl, hbu9, hb9, hk9⟩
        have hit9 := hk9.iter hit8 (by omega)
        have hbw9 := hbw8.trans hb9
        clear hk9 hit8 hbu8 hbw8 hb9
        go_wp2_with fail
        go_roundg 3
        case measure => omega
        case rel => exact ⟨2, by omega, rfl, .inr hbu9, hit9, hbw9⟩
      · try simp only [Nat.reduceAdd] at hnx hit5 hbu5 hbw5
        generalize wr.iterAt w3.heap.size s5 _ = W5 at *
        clear hbu hit hbw
        go_wp2_with fail
        refine (hint 3 (by omega) (by omega) W5).mono ?_
        rintro e W6 ⟨rfl, hb6⟩
        have hs6 := hb6.size
        have hzW5 := hbw5.size
        have hit6 := (hb6.block _ (Array.getElem?_eq_some_iff.1 hit5).1).trans hit5
        have hbu6 := hbu5.below hb6
        have hbw6 := hbw5.trans (hb6.mono (by omega))
        clear hit5 hbu5 hbw5 hb6
        go_upto_region 9 with fail
        generalize hW7 : World.alloc W6 _ = W7
        have hz7 : W6.heap.size + 1 ≤ W7.heap.size := by rw [← hW7]; simp
        have p0 : W7.cell? ⟨W6.heap.size, 0, none⟩ = some (.int .i64 0) := by rw [← hW7]; simp
        have p1 : W7.cell? ⟨W6.heap.size, 1, none⟩ = some (.int .i64 3000000) := by rw [← hW7]; simp
        have hit7 : W7.heap[w3.heap.size]? = some (.stringIter s5 3) := by rw [← hW7]; exact (((Below.refl W6.heap.size W6).alloc (Nat.le_refl _) _).block _ (Array.getElem?_eq_some_iff.1 hit6).1).trans hit6
        have hbu7 : Lib.IsBuilderF 111 5 (w2.heap.size + 1) (w2.heap.size + 1) (Lib.byteCells (outK 2)) W7 := by rw [← hW7]; exact hbu6.alloc _
        have hbw7 : Below (w2.heap.size + 1) W W7 := by rw [← hW7]; exact hbw6.alloc (by omega) _
        clear hW7 hit6 hbu6 hbw6
        have rd : ∀ w', Below W7.heap.size W7 w' → w'.cell? ⟨W6.heap.size, 0, none⟩ = some (.int .i64 0) ∧ w'.cell? ⟨W6.heap.size, 1, none⟩ = some (.int .i64 3000000) ∧ w'.cell? ⟨w.heap.size, 0, none⟩ = some (.pointer none) ∧ w'.cell? ⟨w.heap.size, 1, none⟩ = some (.slice (some ⟨b, 0, none⟩) 3 c) ∧ w'.cell? ⟨w2.heap.size, 0, none⟩ = some (.int .i64 0) ∧ w'.cell? ⟨w2.heap.size, 1, none⟩ = some (.int .i64 2000000) := fun w' h => by
          have h2 := hbw7.trans (h.mono (by omega))
          exact ⟨(h.cell (by dsimp only; omega)).trans p0, (h.cell (by dsimp only; omega)).trans p1, (h2.cell (by dsimp only; omega)).trans q0, (h2.cell (by dsimp only; omega)).trans q1, (h2.cell (by dsimp only; omega)).trans f0, (h2.cell (by dsimp only; omega)).trans f1⟩
        have hA7 : ∀ w', Below W7.heap.size W7 w' → ArgsIn w' b [VV.text s5, VV.num 1500000, VV.num 2600000] := fun w' h => hA.below ((hbW.trans (hbw7.mono (by omega))).trans (h.mono (by omega)))
        refine wp_region_quiet (C := fun w' => Below W7.heap.size W7 w') (by kernel_rfl) (by kernel_rfl) (Below.refl _ W7).drew (WQ.out ?_)
        try simp only [Act.put, List.setIfInBounds_toArray, List.set_cons_zero, List.set_cons_succ]
        refine WQ.val (by kernel_rfl) (finV 3000000) (fun w' hw' => ?_) ?_
        · obtain ⟨t0, t1, t2, t3, t4, t5⟩ := rd w' hw'
          go_simp
        try simp only [Act.put, List.setIfInBounds_toArray, List.set_cons_zero, List.set_cons_succ]
        refine WQ.val (by kernel_rfl) (finV 2000000) (fun w' hw' => ?_) ?_
        · obtain ⟨t0, t1, t2, t3, t4, t5⟩ := rd w' hw'
          go_simp
        try simp only [Act.put, List.setIfInBounds_toArray, List.set_cons_zero, List.set_cons_succ]
        refine WQ.val (by kernel_rfl) (.bool true) (fun w' hw' => ?_) ?_
        · go_simp
          exact (holds_ge 3000000 2000000 w').mono fun e w'' ⟨he, hb⟩ => ⟨by simpa using he, hw'.trans (hb.mono hw'.size)⟩
        try simp only [Act.put, List.setIfInBounds_toArray, List.set_cons_zero, List.set_cons_succ]
        refine WQ.val (by kernel_rfl) (.bool true) (fun w' hw' => ?_) ?_
        · go_simp
        try simp only [Act.put, List.setIfInBounds_toArray, List.set_cons_zero, List.set_cons_succ]
        refine WQ.val (by kernel_rfl) (.pointer (some ⟨w.heap.size, 1, none⟩)) (fun w' hw' => ?_) ?_
        · go_simp
        try simp only [Act.put, List.setIfInBounds_toArray, List.set_cons_zero, List.set_cons_succ]
        refine WQ.val (by kernel_rfl) (.slice (some ⟨b, 0, none⟩) 3 c) (fun w' hw' => ?_) ?_
        · obtain ⟨t0, t1, t2, t3, t4, t5⟩ := rd w' hw'
          go_simp
        try simp only [Act.put, List.setIfInBounds_toArray, List.set_cons_zero, List.set_cons_succ]
        refine WQ.val (by kernel_rfl) (.int .i64 3) (fun w' hw' => ?_) ?_
        · go_simp
        try simp only [Act.put, List.setIfInBounds_toArray, List.set_cons_zero, List.set_cons_succ]
        refine WQ.val (by kernel_rfl) (.bool false) (fun w' hw' => ?_) ?_
        · go_simp
        try simp only [Act.put, List.setIfInBounds_toArray, List.set_cons_zero, List.set_cons_succ]
        refine WQ.val (by kernel_rfl) (.bool false) (fun w' hw' => ?_) ?_
        · go_simp
        try simp only [Act.put, List.setIfInBounds_toArray, List.set_cons_zero, List.set_cons_succ]
        refine WQ.val (by kernel_rfl) (finV 3000000) (fun w' hw' => ?_) ?_
        · obtain ⟨t0, t1, t2, t3, t4, t5⟩ := rd w' hw'
          go_simp
        try simp only [Act.put, List.setIfInBounds_toArray, List.set_cons_zero, List.set_cons_succ]
        refine WQ.val (by kernel_rfl) (finV 2000000) (fun w' hw' => ?_) ?_
        · obtain ⟨t0, t1, t2, t3, t4, t5⟩ := rd w' hw'
          go_simp
        try simp only [Act.put, List.setIfInBounds_toArray, List.set_cons_zero, List.set_cons_succ]
        refine WQ.val (by kernel_rfl) (argsV b 3 c) (fun w' hw' => ?_) ?_
        · obtain ⟨t0, t1, t2, t3, t4, t5⟩ := rd w' hw'
          go_simp
        try simp only [Act.put, List.setIfInBounds_toArray, List.set_cons_zero, List.set_cons_succ]
        refine WQ.val (by kernel_rfl) (finV 2600000) (fun w' hw' => ?_) ?_
        · go_simp
          exact (num_any b 3 c 2 _ 2600000 w' (by omega) (hA7 w' hw') rfl).mono fun e w'' ⟨he, hb⟩ => ⟨he, hw'.trans (hb.mono hw'.size)⟩
        try simp only [Act.put, List.setIfInBounds_toArray, List.set_cons_zero, List.set_cons_succ]
        refine WQ.val (by kernel_rfl) (finV 3000000) (fun w' hw' => ?_) ?_
        · go_simp
          exact (round_any 2600000 w' (by omega) (by omega)).mono fun e w'' ⟨he, hb⟩ => ⟨by simpa using he, hw'.trans (hb.mono hw'.size)⟩
        try simp only [Act.put, List.setIfInBounds_toArray, List.set_cons_zero, List.set_cons_succ]
        refine WQ.val (by kernel_rfl) (finV 5000000) (fun w' hw' => ?_) ?_
        · go_simp
          exact (add_pos 2000000 3000000 w' (by omega) (by omega) (by omega) (by omega)).mono fun e w'' ⟨he, hb⟩ => ⟨by simpa using he, hw'.trans (hb.mono hw'.size)⟩
        try simp only [Act.put, List.setIfInBounds_toArray, List.set_cons_zero, List.set_cons_succ]
        refine WQ.val (by kernel_rfl) (.bool true) (fun w' hw' => ?_) ?_
        · go_simp
          exact (holds_lt 3000000 5000000 w').mono fun e w'' ⟨he, hb⟩ => ⟨by simpa using he, hw'.trans (hb.mono hw'.size)⟩
        try simp only [Act.put, List.setIfInBounds_toArray, List.set_cons_zero, List.set_cons_succ]
        refine WQ.val (by kernel_rfl) (.bool true) (fun w' hw' => ?_) ?_
        · go_simp
        try simp only [Act.put, List.setIfInBounds_toArray, List.set_cons_zero, List.set_cons_succ]
        refine WQ.val (by kernel_rfl) (.bool true) (fun w' hw' => ?_) ?_
        · go_simp
        try simp only [Act.put, List.setIfInBounds_toArray, List.set_cons_zero, List.set_cons_succ]
        refine WQ.nil ?_
        intro W8 hb8
        try simp only [Act.put, List.setIfInBounds_toArray, List.set_cons_zero, List.set_cons_succ]
        have hs8 := hb8.size
        have hit8 := (hb8.block _ (Array.getElem?_eq_some_iff.1 hit7).1).trans hit7
        have hbu8 := hbu7.below hb8
        have hbw8 := hbw7.trans (hb8.mono (by omega))
        clear hit7 hbu7 hbw7 hb8 rd hA7 p0 p1
        go_wp2_with fail
        refine (writeRune_k (w2.heap.size + 1) (w2.heap.size + 1) _ 51 (by omega) (by omega) W8 hbu8 (by decide) (by omega)).mono ?_
        rintro e W9 ⟨rfl, hbu9, hb9, hk9⟩
        have hit9 := hk9.iter hit8 (by omega)
        have hbw9 := hbw8.trans hb9
        clear hk9 hit8 hbu8 hbw8 hb9
        go_wp2_with fail
        go_roundg 2
        case measure => omega
        case rel => exact ⟨3, by omega, rfl, .inr hbu9, hit9, hbw9⟩
      · try simp only [Nat.reduceAdd] at hnx hit5 hbu5 hbw5
        generalize wr.iterAt w3.heap.size s5 _ = W5 at *
        clear hbu hit hbw
        go_wp2_with fail
        refine (hint 4 (by omega) (by omega) W5).mono ?_
        rintro e W6 ⟨rfl, hb6⟩
        have hs6 := hb6.size
        have hzW5 := hbw5.size
        have hit6 := (hb6.block _ (Array.getElem?_eq_some_iff.1 hit5).1).trans hit5
        have hbu6 := hbu5.below hb6
        have hbw6 := hbw5.trans (hb6.mono (by omega))
        clear hit5 hbu5 hbw5 hb6
        go_upto_region 9 with fail
        generalize hW7 : World.alloc W6 _ = W7
        have hz7 : W6.heap.size + 1 ≤ W7.heap.size := by rw [← hW7]; simp
        have p0 : W7.cell? ⟨W6.heap.size, 0, none⟩ = some (.int .i64 0) := by rw [← hW7]; simp
        have p1 : W7.cell? ⟨W6.heap.size, 1, none⟩ = some (.int .i64 4000000) := by rw [← hW7]; simp
        have hit7 : W7.heap[w3.heap.size]? = some (.stringIter s5 4) := by rw [← hW7]; exact (((Below.refl W6.heap.size W6).alloc (Nat.le_refl _) _).block _ (Array.getElem?_eq_some_iff.1 hit6).1).trans hit6
        have hbu7 : Lib.IsBuilderF 111 5 (w2.heap.size + 1) (w2.heap.size + 1) (Lib.byteCells (outK 3)) W7 := by rw [← hW7]; exact hbu6.alloc _
        have hbw7 : Below (w2.heap.size + 1) W W7 := by rw [← hW7]; exact hbw6.alloc (by omega) _
        clear hW7 hit6 hbu6 hbw6
        have rd : ∀ w', Below W7.heap.size W7 w' → w'.cell? ⟨W6.heap.size, 0, none⟩ = some (.int .i64 0) ∧ w'.cell? ⟨W6.heap.size, 1, none⟩ = some (.int .i64 4000000) ∧ w'.cell? ⟨w.heap.size, 0, none⟩ = some (.pointer none) ∧ w'.cell? ⟨w.heap.size, 1, none⟩ = some (.slice (some ⟨b, 0, none⟩) 3 c) ∧ w'.cell? ⟨w2.heap.size, 0, none⟩ = some (.int .i64 0) ∧ w'.cell? ⟨w2.heap.size, 1, none⟩ = some (.int .i64 2000000) := fun w' h => by
          have h2 := hbw7.trans (h.mono (by omega))
          exact ⟨(h.cell (by dsimp only; omega)).trans p0, (h.cell (by dsimp only; omega)).trans p1, (h2.cell (by dsimp only; omega)).trans q0, (h2.cell (by dsimp only; omega)).trans q1, (h2.cell (by dsimp only; omega)).trans f0, (h2.cell (by dsimp only; omega)).trans f1⟩
        have hA7 : ∀ w', Below W7.heap.size W7 w' → ArgsIn w' b [VV.text s5, VV.num 1500000, VV.num 2600000] := fun w' h => hA.below ((hbW.trans (hbw7.mono (by omega))).trans (h.mono (by omega)))
        refine wp_region_quiet (C := fun w' => Below W7.heap.size W7 w') (by kernel_rfl) (by kernel_rfl) (Below.refl _ W7).drew (WQ.out ?_)
        try simp only [Act.put, List.setIfInBounds_toArray, List.set_cons_zero, List.set_cons_succ]
        refine WQ.val (by kernel_rfl) (finV 4000000) (fun w' hw' => ?_) ?_
        · obtain ⟨t0, t1, t2, t3, t4, t5⟩ := rd w' hw'
          go_simp
        try simp only [Act.put, List.setIfInBounds_toArray, List.set_cons_zero, List.set_cons_succ]
        refine WQ.val (by kernel_rfl) (finV 2000000) (fun w' hw' => ?_) ?_
        · obtain ⟨t0, t1, t2, t3, t4, t5⟩ := rd w' hw'
          go_simp
        try simp only [Act.put, List.setIfInBounds_toArray, List.set_cons_zero, List.set_cons_succ]
        refine WQ.val (by kernel_rfl) (.bool true) (fun w' hw' => ?_) ?_
        · go_simp
          exact (holds_ge 4000000 2000000 w').mono fun e w'' ⟨he, hb⟩ => ⟨by simpa using he, hw'.trans (hb.mono hw'.size)⟩
        try simp only [Act.put, List.setIfInBounds_toArray, List.set_cons_zero, List.set_cons_succ]
        refine WQ.val (by kernel_rfl) (.bool true) (fun w' hw' => ?_) ?_
        · go_simp
        try simp only [Act.put, List.setIfInBounds_toArray, List.set_cons_zero, List.set_cons_succ]
        refine WQ.val (by kernel_rfl) (.pointer (some ⟨w.heap.size, 1, none⟩)) (fun w' hw' => ?_) ?_
        · go_simp
        try simp only [Act.put, List.setIfInBounds_toArray, List.set_cons_zero, List.set_cons_succ]
        refine WQ.val (by kernel_rfl) (.slice (some ⟨b, 0, none⟩) 3 c) (fun w' hw' => ?_) ?_
        · obtain ⟨t0, t1, t2, t3, t4, t5⟩ := rd w' hw'
          go_simp
        try simp only [Act.put, List.setIfInBounds_toArray, List.set_cons_zero, List.set_cons_succ]
        refine WQ.val (by kernel_rfl) (.int .i64 3) (fun w' hw' => ?_) ?_
        · go_simp
        try simp only [Act.put, List.setIfInBounds_toArray, List.set_cons_zero, List.set_cons_succ]
        refine WQ.val (by kernel_rfl) (.bool false) (fun w' hw' => ?_) ?_
        · go_simp
        try simp only [Act.put, List.setIfInBounds_toArray, List.set_cons_zero, List.set_cons_succ]
        refine WQ.val (by kernel_rfl) (.bool false) (fun w' hw' => ?_) ?_
        · go_simp
        try simp only [Act.put, List.setIfInBounds_toArray, List.set_cons_zero, List.set_cons_succ]
        refine WQ.val (by kernel_rfl) (finV 4000000) (fun w' hw' => ?_) ?_
        · obtain ⟨t0, t1, t2, t3, t4, t5⟩ := rd w' hw'
          go_simp
        try simp only [Act.put, List.setIfInBounds_toArray, List.set_cons_zero, List.set_cons_succ]
        refine WQ.val (by kernel_rfl) (finV 2000000) (fun w' hw' => ?_) ?_
        · obtain ⟨t0, t1, t2, t3, t4, t5⟩ := rd w' hw'
          go_simp
        try simp only [Act.put, List.setIfInBounds_toArray, List.set_cons_zero, List.set_cons_succ]
        refine WQ.val (by kernel_rfl) (argsV b 3 c) (fun w' hw' => ?_) ?_
        · obtain ⟨t0, t1, t2, t3, t4, t5⟩ := rd w' hw'
          go_simp
        try simp only [Act.put, List.setIfInBounds_toArray, List.set_cons_zero, List.set_cons_succ]
        refine WQ.val (by kernel_rfl) (finV 2600000) (fun w' hw' => ?_) ?_
        · go_simp
          exact (num_any b 3 c 2 _ 2600000 w' (by omega) (hA7 w' hw') rfl).mono fun e w'' ⟨he, hb⟩ => ⟨he, hw'.trans (hb.mono hw'.size)⟩
        try simp only [Act.put, List.setIfInBounds_toArray, List.set_cons_zero, List.set_cons_succ]
        refine WQ.val (by kernel_rfl) (finV 3000000) (fun w' hw' => ?_) ?_
        · go_simp
          exact (round_any 2600000 w' (by omega) (by omega)).mono fun e w'' ⟨he, hb⟩ => ⟨by simpa using he, hw'.trans (hb.mono hw'.size)⟩
        try simp only [Act.put, List.setIfInBounds_toArray, List.set_cons_zero, List.set_cons_succ]
        refine WQ.val (by kernel_rfl) (finV 5000000) (fun w' hw' => ?_) ?_
        · go_simp
          exact (add_pos 2000000 3000000 w' (by omega) (by omega) (by omega) (by omega)).mono fun e w'' ⟨he, hb⟩ => ⟨by simpa using he, hw'.trans (hb.mono hw'.size)⟩
        try simp only [Act.put, List.setIfInBounds_toArray, List.set_cons_zero, List.set_cons_succ]
        refine WQ.val (by kernel_rfl) (.bool true) (fun w' hw' => ?_) ?_
        · go_simp
          exact (holds_lt 4000000 5000000 w').mono fun e w'' ⟨he, hb⟩ => ⟨by simpa using he, hw'.trans (hb.mono hw'.size)⟩
        try simp only [Act.put, List.setIfInBounds_toArray, List.set_cons_zero, List.set_cons_succ]
        refine WQ.val (by kernel_rfl) (.bool true) (fun w' hw' => ?_) ?_
        · go_simp
        try simp only [Act.put, List.setIfInBounds_toArray, List.set_cons_zero, List.set_cons_succ]
        refine WQ.val (by kernel_rfl) (.bool true) (fun w' hw' => ?_) ?_
        · go_simp
        try simp only [Act.put, List.setIfInBounds_toArray, List.set_cons_zero, List.set_cons_succ]
        refine WQ.nil ?_
        intro W8 hb8
        try simp only [Act.put, List.setIfInBounds_toArray, List.set_cons_zero, List.set_cons_succ]
        have hs8 := hb8.size
        have hit8 := (hb8.block _ (Array.getElem?_eq_some_iff.1 hit7).1).trans hit7
        have hbu8 := hbu7.below hb8
        have hbw8 := hbw7.trans (hb8.mono (by omega))
        clear hit7 hbu7 hbw7 hb8 rd hA7 p0 p1
        go_wp2_with fail
        refine (writeRune_k (w2.heap.size + 1) (w2.heap.size + 1) _ 52 (by omega) (by omega) W8 hbu8 (by decide) (by omega)).mono ?_
        rintro e W9 ⟨rfl, hbu9, hb9, hk9⟩
        have hit9 := hk9.iter hit8 (by omega)
        have hbw9 := hbw8.trans hb9
        clear hk9 hit8 hbu8 hbw8 hb9
        go_wp2_with fail
        go_roundg 1
        case measure => omega
        case rel => exact ⟨4, by omega, rfl, .inr hbu9, hit9, hbw9⟩
      · try simp only [Nat.reduceAdd] at hnx hit5 hbu5 hbw5
        generalize wr.iterAt w3.heap.size s5 _ = W5 at *
        clear hbu hit hbw
        go_wp2_with fail
        refine (hint 5 (by omega) (by omega) W5).mono ?_
        rintro e W6 ⟨rfl, hb6⟩
        have hs6 := hb6.size
        have hzW5 := hbw5.size
        have hit6 := (hb6.block _ (Array.getElem?_eq_some_iff.1 hit5).1).trans hit5
        have hbu6 := hbu5.below hb6
        have hbw6 := hbw5.trans (hb6.mono (by omega))
        clear hit5 hbu5 hbw5 hb6
        go_upto_region 9 with fail
        generalize hW7 : World.alloc W6 _ = W7
        have hz7 : W6.heap.size + 1 ≤ W7.heap.size := by rw [← hW7]; simp
        have p0 : W7.cell? ⟨W6.heap.size, 0, none⟩ = some (.int .i64 0) := by rw [← hW7]; simp
        have p1 : W7.cell? ⟨W6.heap.size, 1, none⟩ = some (.int .i64 5000000) := by rw [← hW7]; simp
        have hit7 : W7.heap[w3.heap.size]? = some (.stringIter s5 5) := by rw [← hW7]; exact (((Below.refl W6.heap.size W6).alloc (Nat.le_refl _) _).block _ (Array.getElem?_eq_some_iff.1 hit6).1).trans hit6
        have hbu7 : Lib.IsBuilderF 111 5 (w2.heap.size + 1) (w2.heap.size + 1) (Lib.byteCells (outK 4)) W7 := by rw [← hW7]; exact hbu6.alloc _
        have hbw7 : Below (w2.heap.size + 1) W W7 := by rw [← hW7]; exact hbw6.alloc (by omega) _
        clear hW7 hit6 hbu6 hbw6
        have rd : ∀ w', Below W7.heap.size W7 w' → w'.cell? ⟨W6.heap.size, 0, none⟩ = some (.int .i64 0) ∧ w'.cell? ⟨W6.heap.size, 1, none⟩ = some (.int .i64 5000000) ∧ w'.cell? ⟨w.heap.size, 0, none⟩ = some (.pointer none) ∧ w'.cell? ⟨w.heap.size, 1, none⟩ = some (.slice (some ⟨b, 0, none⟩) 3 c) ∧ w'.cell? ⟨w2.heap.size, 0, none⟩ = some (.int .i64 0) ∧ w'.cell? ⟨w2.heap.size, 1, none⟩ = some (.int .i64 2000000) := fun w' h => by
          have h2 := hbw7.trans (h.mono (by omega))
          exact ⟨(h.cell (by dsimp only; omega)).trans p0, (h.cell (by dsimp only; omega)).trans p1, (h2.cell (by dsimp only; omega)).trans q0, (h2.cell (by dsimp only; omega)).trans q1, (h2.cell (by dsimp only; omega)).trans f0, (h2.cell (by dsimp only; omega)).trans f1⟩
        have hA7 : ∀ w', Below W7.heap.size W7 w' → ArgsIn w' b [VV.text s5, VV.num 1500000, VV.num 2600000] := fun w' h => hA.below ((hbW.trans (hbw7.mono (by omega))).trans (h.mono (by omega)))
        refine wp_region_quiet (C := fun w' => Below W7.heap.size W7 w') (by kernel_rfl) (by kernel_rfl) (Below.refl _ W7).drew (WQ.out ?_)
        try simp only [Act.put, List.setIfInBounds_toArray, List.set_cons_zero, List.set_cons_succ]
        refine WQ.val (by kernel_rfl) (finV 5000000) (fun w' hw' => ?_) ?_
        · obtain ⟨t0, t1, t2, t3, t4, t5⟩ := rd w' hw'
          go_simp
        try simp only [Act.put, List.setIfInBounds_toArray, List.set_cons_zero, List.set_cons_succ]
        refine WQ.val (by kernel_rfl) (finV 2000000) (fun w' hw' => ?_) ?_
        · obtain ⟨t0, t1, t2, t3, t4, t5⟩ := rd w' hw'
          go_simp
        try simp only [Act.put, List.setIfInBounds_toArray, List.set_cons_zero, List.set_cons_succ]
        refine WQ.val (by kernel_rfl) (.bool true) (fun w' hw' => ?_) ?_
        · go_simp
          exact (holds_ge 5000000 2000000 w').mono fun e w'' ⟨he, hb⟩ => ⟨by simpa using he, hw'.trans (hb.mono hw'.size)⟩
        try simp only [Act.put, List.setIfInBounds_toArray, List.set_cons_zero, List.set_cons_succ]
        refine WQ.val (by kernel_rfl) (.bool true) (fun w' hw' => ?_) ?_
        · go_simp
        try simp only [Act.put, List.setIfInBounds_toArray, List.set_cons_zero, List.set_cons_succ]
        refine WQ.val (by kernel_rfl) (.pointer (some ⟨w.heap.size, 1, none⟩)) (fun w' hw' => ?_) ?_
        · go_simp
        try simp only [Act.put, List.setIfInBounds_toArray, List.set_cons_zero, List.set_cons_succ]
        refine WQ.val (by kernel_rfl) (.slice (some ⟨b, 0, none⟩) 3 c) (fun w' hw' => ?_) ?_
        · obtain ⟨t0, t1, t2, t3, t4, t5⟩ := rd w' hw'
          go_simp
        try simp only [Act.put, List.setIfInBounds_toArray, List.set_cons_zero, List.set_cons_succ]
        refine WQ.val (by kernel_rfl) (.int .i64 3) (fun w' hw' => ?_) ?_
        · go_simp
        try simp only [Act.put, List.setIfInBounds_toArray, List.set_cons_zero, List.set_cons_succ]
        refine WQ.val (by kernel_rfl) (.bool false) (fun w' hw' => ?_) ?_
        · go_simp
        try simp only [Act.put, List.setIfInBounds_toArray, List.set_cons_zero, List.set_cons_succ]
        refine WQ.val (by kernel_rfl) (.bool false) (fun w' hw' => ?_) ?_
        · go_simp
        try simp only [Act.put, List.setIfInBounds_toArray, List.set_cons_zero, List.set_cons_succ]
        refine WQ.val (by kernel_rfl) (finV 5000000) (fun w' hw' => ?_) ?_
        · obtain ⟨t0, t1, t2, t3, t4, t5⟩ := rd w' hw'
          go_simp
        try simp only [Act.put, List.setIfInBounds_toArray, List.set_cons_zero, List.set_cons_succ]
        refine WQ.val (by kernel_rfl) (finV 2000000) (fun w' hw' => ?_) ?_
        · obtain ⟨t0, t1, t2, t3, t4, t5⟩ := rd w' hw'
          go_simp
        try simp only [Act.put, List.setIfInBounds_toArray, List.set_cons_zero, List.set_cons_succ]
        refine WQ.val (by kernel_rfl) (argsV b 3 c) (fun w' hw' => ?_) ?_
        · obtain ⟨t0, t1, t2, t3, t4, t5⟩ := rd w' hw'
          go_simp
        try simp only [Act.put, List.setIfInBounds_toArray, List.set_cons_zero, List.set_cons_succ]
        refine WQ.val (by kernel_rfl) (finV 2600000) (fun w' hw' => ?_) ?_
        · go_simp
          exact (num_any b 3 c 2 _ 2600000 w' (by omega) (hA7 w' hw') rfl).mono fun e w'' ⟨he, hb⟩ => ⟨he, hw'.trans (hb.mono hw'.size)⟩
        try simp only [Act.put, List.setIfInBounds_toArray, List.set_cons_zero, List.set_cons_succ]
        refine WQ.val (by kernel_rfl) (finV 3000000) (fun w' hw' => ?_) ?_
        · go_simp
          exact (round_any 2600000 w' (by omega) (by omega)).mono fun e w'' ⟨he, hb⟩ => ⟨by simpa using he, hw'.trans (hb.mono hw'.size)⟩
        try simp only [Act.put, List.setIfInBounds_toArray, List.set_cons_zero, List.set_cons_succ]
        refine WQ.val (by kernel_rfl) (finV 5000000) (fun w' hw' => ?_) ?_
        · go_simp
          exact (add_pos 2000000 3000000 w' (by omega) (by omega) (by omega) (by omega)).mono fun e w'' ⟨he, hb⟩ => ⟨by simpa using he, hw'.trans (hb.mono hw'.size)⟩
        try simp only [Act.put, List.setIfInBounds_toArray, List.set_cons_zero, List.set_cons_succ]
        refine WQ.val (by kernel_rfl) (.bool false) (fun w' hw' => ?_) ?_
        · go_simp
          exact (holds_lt 5000000 5000000 w').mono fun e w'' ⟨he, hb⟩ => ⟨by simpa using he, hw'.trans (hb.mono hw'.size)⟩
        try simp only [Act.put, List.setIfInBounds_toArray, List.set_cons_zero, List.set_cons_succ]
        refine WQ.val (by kernel_rfl) (.bool false) (fun w' hw' => ?_) ?_
        · go_simp
        try simp only [Act.put, List.setIfInBounds_toArray, List.set_cons_zero, List.set_cons_succ]
        refine WQ.val (by kernel_rfl) (.bool false) (fun w' hw' => ?_) ?_
        · go_simp
        try simp only [Act.put, List.setIfInBounds_toArray, List.set_cons_zero, List.set_cons_succ]
        refine WQ.nil ?_
        intro W8 hb8
        try simp only [Act.put, List.setIfInBounds_toArray, List.set_cons_zero, List.set_cons_succ]
        have hs8 := hb8.size
        have hit8 := (hb8.block _ (Array.getElem?_eq_some_iff.1 hit7).1).trans hit7
        have hbu8 := hbu7.below hb8
        have hbw8 := hbw7.trans (hb8.mono (by omega))
        clear hit7 hbu7 hbw7 hb8 rd hA7 p0 p1
        go_wp2_with fail
        go_roundg 0
        case measure => omega
        case rel => exact ⟨5, by omega, rfl, hbu8, hit8, hbw8⟩
    · have hk5 : k = 5 := by omega
      subst hk5
      have hnx : ∀ ty, (Instr.next (.pointer (some ⟨w3.heap.size, 0, none⟩)) true ty).run Tryz.prog wr = _ := fun ty => Lib.run_next_end_at wr w3.heap.size s5 5 ty hit (by show ¬ 5 < 5; omega)
      go_wp2_with fail
      refine (Tryz.Builder_String_any_f (w2.heap.size + 1) (w2.heap.size + 1) (outK 5) wr hbu (by have := hbw.size; omega)).mono ?_
      rintro e W9 ⟨rfl, _, hb9⟩
      go_wp2
      go_ret
      exact ⟨rfl, (hbW.trans (hbw.mono (by omega))).trans (hb9.mono (by omega))⟩
end Go.Proofs.YtkikeacnbgjjlaaGreatDoor
