/-
  The table of functions that xvalue.functions makes: it is a map whose entries are known; its makers (text, truth, number, named, ofNodes), each by its contract. Conditions: none.
-/
import Derived.Test.YtkikeacnbgjjlaaGreatDoorProg
import Derived.WalkKit
import Derived.WalkSpells
import Derived.WalkLawsBesides
import Derived.Laws.EntriesVeiled
import Derived.ChangeMaps5
import Derived.MapKept
namespace Go.Proofs.YtkikeacnbgjjlaaGreatDoor
open Go.RowKit Go.ChangeMaps
/-- What is known of one function of the table. -/
inductive FK where
  | any
  | wrap (least most : Int) (g : Nat) (dv : Value) (t : Nat)
/-- The value v is of the kind k, in the world w. -/
def Wired (w : World) : FK → Value → Prop
  | .any, _ => True
  | .wrap least most g dv t, v => ∃ b : Nat, v = .agg #[.int .i64 least, .int .i64 most, .bool false, .func (.func g) #[] #[.pointer (some ⟨b, 0, none⟩)]] ∧ w.heap[b]? = some (.cells #[dv] t (0, 0))
/-- Block r of w is the table ds. -/
def FM (w : World) (r : Nat) (ds : List (ByteArray × FK)) : Prop :=
  ∃ es c, w.heap[r]? = some (.map es c) ∧ es.toList.map (·.key) = ds.map (fun d => Value.string d.1) ∧ ∀ (i : Nat) (d : ByteArray × FK) (e : MapEntry), ds[i]? = some d → es.toList[i]? = some e → Wired w d.2 e.val
def WrapPost (g t : Nat) (least most : Int) (dv : Value) (w : World) (e : Ending) (w' : World) : Prop :=
  ∃ v, e = .returned v ∧ Wired w' (.wrap least most g dv t) v ∧ Below w.heap.size w w'
theorem heap_alloc_at (w : World) (o : Obj) (k : Nat) (h : k = w.heap.size) : (w.alloc o).heap[k]? = some o := by
  subst h
  show (w.heap.push o)[w.heap.size]? = _
  simp
theorem Wired.below {w w' : World} {k : FK} {v : Value} (h : Wired w k v) (hb : Below w.heap.size w w') : Wired w' k v := by
  cases k with
  | any => trivial
  | wrap l m g dv t =>
    obtain ⟨b, hv, hh⟩ := h
    exact ⟨b, hv, (hb.block b (Array.getElem?_eq_some_iff.1 hh).1).trans hh⟩
theorem FM.lt {w : World} {r : Nat} {ds : List (ByteArray × FK)} (h : FM w r ds) : r < w.heap.size := by
  obtain ⟨es, c, hr, _⟩ := h
  exact (Array.getElem?_eq_some_iff.1 hr).1
theorem FM.below {w w' : World} {r : Nat} {ds : List (ByteArray × FK)} (h : FM w r ds) (hb : Below w.heap.size w w') : FM w' r ds := by
  have hlt := h.lt
  obtain ⟨es, c, hr, hk, hw⟩ := h
  exact ⟨es, c, (hb.block r hlt).trans hr, hk, fun i d e h1 h2 => (hw i d e h1 h2).below hb⟩
theorem FM.made (w : World) : FM (w.alloc (.map #[] 0)) w.heap.size [] :=
  ⟨#[], 0, heap_alloc_at _ _ _ rfl, rfl, fun i d e h => by simp at h⟩
/-- No name of the list is s. -/
def lacks (ds : List (ByteArray × FK)) (s : ByteArray) : Bool := ds.all fun d => !(s == d.1)
theorem findNow_lacks (s : ByteArray) : ∀ (es : List MapEntry) (ds : List (ByteArray × FK)) (i : Nat), es.map (·.key) = ds.map (fun d => Value.string d.1) → lacks ds s = true → Instr.findNow .string (.string s) es i = some none
  | [], _, _, _, _ => rfl
  | e :: es, [], _, h, _ => by simp at h
  | e :: es, d :: ds, i, h, hl => by
    simp only [List.map_cons, List.cons.injEq] at h
    simp only [lacks, List.all_cons, Bool.and_eq_true, Bool.not_eq_true'] at hl
    simp only [Instr.findNow, h.1, Instr.sameNow, hl.1]
    exact findNow_lacks s es ds (i + 1) h.2 (by simpa [lacks] using hl.2)
def findD : List (ByteArray × FK) → ByteArray → Option FK
  | [], _ => none
  | d :: ds, s => if s == d.1 then some d.2 else findD ds s
theorem findNow_has (s : ByteArray) (w : World) (k : FK) : ∀ (es : List MapEntry) (ds : List (ByteArray × FK)) (i : Nat), es.map (·.key) = ds.map (fun d => Value.string d.1) →
    (∀ (i : Nat) (d : ByteArray × FK) (e : MapEntry), ds[i]? = some d → es[i]? = some e → Wired w d.2 e.val) → findD ds s = some k → ∃ j v, Instr.findNow .string (.string s) es i = some (some (j, v)) ∧ Wired w k v
  | [], [], _, _, _, hf => by simp [findD] at hf
  | [], d :: ds, _, h, _, _ => by simp at h
  | e :: es, [], _, h, _, _ => by simp at h
  | e :: es, d :: ds, i, h, hw, hf => by
    simp only [List.map_cons, List.cons.injEq] at h
    simp only [findD] at hf
    by_cases hs : (s == d.1) = true
    · rw [if_pos hs] at hf
      cases hf
      exact ⟨i, e.val, by simp only [Instr.findNow, h.1, Instr.sameNow, hs], hw 0 d e rfl rfl⟩
    · rw [if_neg hs] at hf
      obtain ⟨j, v, h1, h2⟩ := findNow_has s w k es ds (i + 1) h.2 (fun i d e h1 h2 => hw (i + 1) d e (by simpa using h1) (by simpa using h2)) hf
      refine ⟨j, v, ?_, h2⟩
      simp only [Instr.findNow, h.1, Instr.sameNow]
      have hs' : (s == d.1) = false := by simpa using hs
      rw [hs']
      exact h1
theorem below_setBlock {B : Nat} {w : World} {r : Nat} (hB : B ≤ r) (o : Obj) : Below B w (setBlock w r o) :=
  ⟨rfl, rfl, rfl, by simp [setBlock], fun k hk => by
    have h : r ≠ k := by omega
    simp [setBlock, h]⟩
theorem run_insert {P : Program} {w : World} {T K E r c : Nat} {es : Array MapEntry} {s : ByteArray} {v : Value} (ht : P.underlying T = some (.map K E)) (hk : P.underlying K = some .string)
    (hr : w.heap[r]? = some (.map es c)) (hf : Instr.findNow .string (.string s) es.toList 0 = some none) :
    (Instr.mapUpdate T (.map (some r)) (.string s) v).run P w = .ok () (setBlock w r (.map (es.push { key := .string s, val := v, born := c }) (c + 1))) := by
  have hkey : MapKept.IsKey .string (.string s) := trivial
  simp [Instr.mapUpdate, run_underlying ht, MapKept.run_getObj_map hr, MapKept.run_checkKey hk hkey, run_underlying hk, Instr.findKey, hf, MapKept.run_setObj_map _ hr, Result.andThen, setBlock]
theorem wpl_insert {P : Program} (w : World) {ops : Array Oper} {rest : List Oper} {o : Oper} {a : Act} {Q : Exit → Act → World → Prop}
    (hg : o.guard = none) (m x v : Operand) (t : TypeId) (hop : o.op = Op.insert t m x v)
    (k e : TypeId) (ht : P.underlying t = some (.map k e)) (hk : P.underlying k = some .string) (r : Nat) (ds : List (ByteArray × FK))
    (hm : a.eval m = .map (some r)) (hF : FM w r ds) (B : Nat) (hB : B ≤ r) (key : ByteArray) (val : Value) (hx : a.eval x = .string key) (hv : a.eval v = val)
    (hl : lacks ds key = true) (fk : FK) (hW : Wired w fk val)
    (hK : ∀ w', FM w' r (ds ++ [(key, fk)]) → Below B w w' → wpList P ops Q rest (a.put o.dst undef) w') :
    wpList P ops Q (o :: rest) a w := by
  refine wpList_plain hg fun K' hK' => ?_
  have hlt := hF.lt
  obtain ⟨es, c, hr, hkeys, hw⟩ := hF
  have hrun := run_insert (v := val) ht hk hr (findNow_lacks key es.toList ds 0 hkeys hl)
  unfold Oper.wp
  simp [execOp, hop, hm, hx, hv, hrun, Result.andThen]
  refine hK' _ _ (hK _ ?_ (below_setBlock hB _))
  have hother : ∀ (fk : FK) (v : Value), Wired w fk v → Wired (setBlock w r (.map (es.push { key := .string key, val := val, born := c }) (c + 1))) fk v := by
    intro fk v h
    cases fk with
    | any => trivial
    | wrap l m g dv t =>
      obtain ⟨b, h1, h2⟩ := h
      refine ⟨b, h1, ?_⟩
      rw [heap_setBlock_other hr _ (fun e => by rw [e, hr] at h2; cases h2)]
      exact h2
  refine ⟨_, _, heap_setBlock_same hr _, by simp [hkeys], fun i d e h1 h2 => ?_⟩
  have hlen : es.toList.length = ds.length := by simpa using congrArg List.length hkeys
  simp only [Array.toList_push] at h2
  rw [List.getElem?_append] at h1 h2
  by_cases hi : i < ds.length
  · rw [if_pos hi] at h1
    rw [if_pos (by omega)] at h2
    exact hother _ _ (hw i d e h1 h2)
  · rw [if_neg hi] at h1
    rw [if_neg (by omega)] at h2
    rw [hlen] at h2
    cases hj : i - ds.length with
    | zero => rw [hj] at h1 h2; simp at h1 h2; subst h1; subst h2; exact hother _ _ hW
    | succ n => rw [hj] at h1; simp at h1
theorem run_lookup {P : Program} {w : World} {T K E r : Nat} {s : ByteArray} {ds : List (ByteArray × FK)} {fk : FK} (ht : P.underlying T = some (.map K E)) (hk : P.underlying K = some .string)
    (hF : FM w r ds) (hf : findD ds s = some fk) :
    ∃ v, (Instr.lookup T (.map (some r)) (.string s) false).run P w = .ok v w ∧ Wired w fk v := by
  obtain ⟨es, c, hr, hkeys, hw⟩ := hF
  obtain ⟨j, v, h1, h2⟩ := findNow_has s w fk es.toList ds 0 hkeys hw hf
  refine ⟨v, ?_, h2⟩
  have hkey : MapKept.IsKey .string (.string s) := trivial
  simp [Instr.lookup, run_underlying ht, MapKept.run_getObj_map hr, MapKept.run_checkKey hk hkey, run_underlying hk, Instr.findKey, h1, Result.andThen]
theorem bcell {W w1 : World} (hb : Below W.heap.size W w1) : (∀ b o, b < W.heap.size → w1.cell? ⟨b, o, none⟩ = W.cell? ⟨b, o, none⟩) ∧ (∀ b o, b < W.heap.size → w1.frozen? ⟨b, o, none⟩ = W.frozen? ⟨b, o, none⟩) :=
  ⟨fun b o h => hb.cell (p := ⟨b, o, none⟩) h, fun b o h => hb.frozen (p := ⟨b, o, none⟩) h⟩
set_option maxHeartbeats 400000 in
theorem text_any (a b : Int) (f : Fn) (x y : Array Value) (w : World) :
    Calls Tryz.prog 50 #[.int .i64 a, .int .i64 b, .func f x y] w (WrapPost 85 80 a b (.func f x y) w) := by
  go_enter Tryz.func50, Tryz.ntmps50
  go_wp2
  refine bodyPost_ret (v := .agg #[.int .i64 a, .int .i64 b, .bool false, .func (.func 85) #[] #[.pointer (some ⟨w.heap.size, 0, none⟩)]]) (by simp [results, Tryz.results50, go_sem]) rfl ⟨_, rfl, ⟨w.heap.size, rfl, ?_⟩, ?_⟩
  · rw [Below.heap_alloc _ _ _ (by simp)]; exact heap_alloc_at _ _ _ rfl
  · exact ((Below.refl _ _).alloc (Nat.le_refl _) _).alloc (by simp) _
set_option maxHeartbeats 400000 in
theorem truth_any (a : Int) (f : FuncId) (w : World) :
    Calls Tryz.prog 27 #[.int .i64 a, .func (.func f) #[] #[]] w (WrapPost 74 67 a a (.func (.func f) #[] #[]) w) := by
  go_enter Tryz.func27, Tryz.ntmps27
  go_wp2
  refine bodyPost_ret (v := .agg #[.int .i64 a, .int .i64 a, .bool false, .func (.func 74) #[] #[.pointer (some ⟨w.heap.size, 0, none⟩)]]) (by simp [results, Tryz.results27, go_sem]) rfl ⟨_, rfl, ⟨w.heap.size, rfl, ?_⟩, ?_⟩
  · rw [Below.heap_alloc _ _ _ (by simp)]; exact heap_alloc_at _ _ _ rfl
  · exact ((Below.refl _ _).alloc (Nat.le_refl _) _).alloc (by simp) _
set_option maxHeartbeats 400000 in
theorem number_any (a : Int) (f : FuncId) (w : World) :
    Calls Tryz.prog 33 #[.int .i64 a, .func (.func f) #[] #[]] w (WrapPost 76 71 a 1 (.func (.func f) #[] #[]) w) := by
  go_enter Tryz.func33, Tryz.ntmps33
  go_wp2
  refine bodyPost_ret (v := .agg #[.int .i64 a, .int .i64 1, .bool false, .func (.func 76) #[] #[.pointer (some ⟨w.heap.size, 0, none⟩)]]) (by simp [results, Tryz.results33, go_sem]) rfl ⟨_, rfl, ⟨w.heap.size, rfl, ?_⟩, ?_⟩
  · rw [Below.heap_alloc _ _ _ (by simp)]; exact heap_alloc_at _ _ _ rfl
  · exact ((Below.refl _ _).alloc (Nat.le_refl _) _).alloc (by simp) _

/-- named, ofNodes: only that they return a function of the table, in new memory. -/
def SomePost (w : World) (e : Ending) (w' : World) : Prop := ∃ a b c g x y, e = .returned (.agg #[.int .i64 a, .int .i64 b, .bool c, .func g x y]) ∧ Below w.heap.size w w'
set_option maxHeartbeats 400000 in
theorem ofNodes_any (a b : Int) (c : Bool) (v : Value) (w : World) (hv : ∃ g x y, v = .func g x y) :
    Calls Tryz.prog 42 #[.agg #[.int .i64 a, .int .i64 b, .bool c, v]] w (SomePost w) := by
  obtain ⟨g, x, y, rfl⟩ := hv
  go_enter Tryz.func42, Tryz.ntmps42
  go_wp2
  refine bodyPost_ret (v := .agg #[.int .i64 a, .int .i64 b, .bool true, .func g x y]) (by simp [results, Tryz.results42, go_sem]) rfl ⟨_, _, _, _, _, _, rfl, ?_⟩
  exact ((Below.refl _ _).alloc (Nat.le_refl _) _).alloc (by simp) _

set_option maxHeartbeats 400000 in
theorem named_any (f : FuncId) (w : World) :
    Calls Tryz.prog 46 #[.func (.func f) #[] #[]] w (SomePost w) := by
  go_enter Tryz.func46, Tryz.ntmps46
  go_wp2_with fail
  refine (text_any _ _ _ _ _ _).mono ?_
  rintro e w1 ⟨v1, rfl, ⟨b1, rfl, _⟩, hb1⟩
  go_wp2_with fail
  refine (ofNodes_any _ _ _ _ _ ⟨_, _, _, rfl⟩).mono ?_
  rintro e w2 ⟨a, b, c, g, x, y, rfl, hb2⟩
  have hb := hb1.trans (hb2.mono hb1.size)
  have hs1 := hb.size
  simp at hs1
  obtain ⟨hc, hf⟩ := bcell hb
  go_wp2_with fail
  refine bodyPost_ret (v := .agg #[.int .i64 a, .int .i64 b, .bool c, .func g x y]) (by simp [results, Tryz.results46, go_sem, hc]) rfl ⟨_, _, _, _, _, _, rfl, ?_⟩
  exact ((((((((Below.refl _ _).alloc (Nat.le_refl _) _).alloc (by simp) _).trans (hb.mono (by simp; omega))).setCell (by simp) _).setCell (by simp) _).setCell (by simp) _).setCell (by simp) _)
/-- The table of functions, in the order of the text. -/
def table : List (ByteArray × FK) := [
  (⟨#[108, 97, 115, 116]⟩, .any),
  (⟨#[112, 111, 115, 105, 116, 105, 111, 110]⟩, .any),
  (⟨#[108, 97, 110, 103]⟩, .any),
  (⟨#[116, 114, 117, 101]⟩, .wrap 0 0 74 (.func (.func 28) #[] #[]) 67),
  (⟨#[102, 97, 108, 115, 101]⟩, .wrap 0 0 74 (.func (.func 29) #[] #[]) 67),
  (⟨#[98, 111, 111, 108, 101, 97, 110]⟩, .wrap 1 1 74 (.func (.func 30) #[] #[]) 67),
  (⟨#[110, 111, 116]⟩, .wrap 1 1 74 (.func (.func 32) #[] #[]) 67),
  (⟨#[110, 117, 109, 98, 101, 114]⟩, .wrap 0 1 76 (.func (.func 34) #[] #[]) 71),
  (⟨#[102, 108, 111, 111, 114]⟩, .wrap 1 1 76 (.func (.func 36) #[] #[]) 71),
  (⟨#[99, 101, 105, 108, 105, 110, 103]⟩, .wrap 1 1 76 (.func (.func 38) #[] #[]) 71),
  (⟨#[114, 111, 117, 110, 100]⟩, .wrap 1 1 76 (.func (.func 40) #[] #[]) 71),
  (⟨#[115, 117, 109]⟩, .any),
  (⟨#[99, 111, 117, 110, 116]⟩, .any),
  (⟨#[110, 97, 109, 101]⟩, .any),
  (⟨#[108, 111, 99, 97, 108, 45, 110, 97, 109, 101]⟩, .any),
  (⟨#[110, 97, 109, 101, 115, 112, 97, 99, 101, 45, 117, 114, 105]⟩, .any),
  (⟨#[115, 116, 114, 105, 110, 103]⟩, .wrap 0 1 85 (.func (.func 51) #[] #[]) 80),
  (⟨#[110, 111, 114, 109, 97, 108, 105, 122, 101, 45, 115, 112, 97, 99, 101]⟩, .wrap 0 1 85 (.func (.func 53) #[] #[]) 80),
  (⟨#[115, 116, 114, 105, 110, 103, 45, 108, 101, 110, 103, 116, 104]⟩, .wrap 0 1 76 (.func (.func 55) #[] #[]) 71),
  (⟨#[99, 111, 110, 99, 97, 116]⟩, .wrap 2 8 85 (.func (.func 56) #[] #[]) 80),
  (⟨#[115, 116, 97, 114, 116, 115, 45, 119, 105, 116, 104]⟩, .wrap 2 2 74 (.func (.func 57) #[] #[]) 67),
  (⟨#[99, 111, 110, 116, 97, 105, 110, 115]⟩, .wrap 2 2 74 (.func (.func 59) #[] #[]) 67),
  (⟨#[115, 117, 98, 115, 116, 114, 105, 110, 103, 45, 98, 101, 102, 111, 114, 101]⟩, .wrap 2 2 85 (.func (.func 61) #[] #[]) 80),
  (⟨#[115, 117, 98, 115, 116, 114, 105, 110, 103, 45, 97, 102, 116, 101, 114]⟩, .wrap 2 2 85 (.func (.func 63) #[] #[]) 80),
  (⟨#[116, 114, 97, 110, 115, 108, 97, 116, 101]⟩, .wrap 3 3 85 (.func (.func 64) #[] #[]) 80),
  (⟨#[115, 117, 98, 115, 116, 114, 105, 110, 103]⟩, .wrap 2 3 85 (.func (.func 65) #[] #[]) 80),
  (⟨#[102, 111, 114, 109, 97, 116, 45, 110, 117, 109, 98, 101, 114]⟩, .any)]
def FunsPost (w : World) (e : Ending) (w' : World) : Prop := ∃ r, e = .returned (.map (some r)) ∧ FM w' r table ∧ Below w.heap.size w w' ∧ w.heap.size ≤ r
set_option maxHeartbeats 4000000 in
set_option maxRecDepth 100000 in
theorem functions_any (w : World) : Calls Tryz.prog 18 #[] w (FunsPost w) := by
  have hmm := @run_makeMap Tryz.prog
  have hF := FM.made w
  have hB := (Below.refl w.heap.size w).alloc (Nat.le_refl _) (.map #[] 0)
  go_enter Tryz.func18, Tryz.ntmps18
  go_wp2_with (refine wpl_insert _ rfl _ _ _ _ rfl 9 53 Tryz.underlying54 Tryz.underlying9 _ _ rfl hF w.heap.size (Nat.le_refl _) _ _ rfl rfl (by kernel_rfl) (.any) ?_ ?_)
  · trivial
  intro wi hF' hB'
  replace hB := hB.trans hB'
  replace hF := hF'
  clear hF' hB'
  go_wp2_with (refine wpl_insert _ rfl _ _ _ _ rfl 9 53 Tryz.underlying54 Tryz.underlying9 _ _ rfl hF w.heap.size (Nat.le_refl _) _ _ rfl rfl (by kernel_rfl) (.any) ?_ ?_)
  · trivial
  intro wi hF' hB'
  replace hB := hB.trans hB'
  replace hF := hF'
  clear hF' hB'
  go_wp2_with (refine wpl_insert _ rfl _ _ _ _ rfl 9 53 Tryz.underlying54 Tryz.underlying9 _ _ rfl hF w.heap.size (Nat.le_refl _) _ _ rfl rfl (by kernel_rfl) (.any) ?_ ?_)
  · trivial
  intro wi hF' hB'
  replace hB := hB.trans hB'
  replace hF := hF'
  clear hF' hB'
  go_wp2_with fail
  refine (truth_any _ _ _).mono ?_
  rintro e w1 ⟨v1, rfl, hW1, hb1⟩
  replace hB := hB.trans (hb1.mono hB.size)
  replace hF := hF.below hb1
  clear hb1
  go_wp2_with (refine wpl_insert _ rfl _ _ _ _ rfl 9 53 Tryz.underlying54 Tryz.underlying9 _ _ rfl hF w.heap.size (Nat.le_refl _) _ _ rfl rfl (by kernel_rfl) (.wrap 0 0 74 (.func (.func 28) #[] #[]) 67) ?_ ?_)
  · exact hW1
  intro wi hF' hB'
  replace hB := hB.trans hB'
  replace hF := hF'
  clear hF' hB'
  clear hW1
  go_wp2_with fail
  refine (truth_any _ _ _).mono ?_
  rintro e w2 ⟨v2, rfl, hW2, hb2⟩
  replace hB := hB.trans (hb2.mono hB.size)
  replace hF := hF.below hb2
  clear hb2
  go_wp2_with (refine wpl_insert _ rfl _ _ _ _ rfl 9 53 Tryz.underlying54 Tryz.underlying9 _ _ rfl hF w.heap.size (Nat.le_refl _) _ _ rfl rfl (by kernel_rfl) (.wrap 0 0 74 (.func (.func 29) #[] #[]) 67) ?_ ?_)
  · exact hW2
  intro wi hF' hB'
  replace hB := hB.trans hB'
  replace hF := hF'
  clear hF' hB'
  clear hW2
  go_wp2_with fail
  refine (truth_any _ _ _).mono ?_
  rintro e w3 ⟨v3, rfl, hW3, hb3⟩
  replace hB := hB.trans (hb3.mono hB.size)
  replace hF := hF.below hb3
  clear hb3
  go_wp2_with (refine wpl_insert _ rfl _ _ _ _ rfl 9 53 Tryz.underlying54 Tryz.underlying9 _ _ rfl hF w.heap.size (Nat.le_refl _) _ _ rfl rfl (by kernel_rfl) (.wrap 1 1 74 (.func (.func 30) #[] #[]) 67) ?_ ?_)
  · exact hW3
  intro wi hF' hB'
  replace hB := hB.trans hB'
  replace hF := hF'
  clear hF' hB'
  clear hW3
  go_wp2_with fail
  refine (truth_any _ _ _).mono ?_
  rintro e w4 ⟨v4, rfl, hW4, hb4⟩
  replace hB := hB.trans (hb4.mono hB.size)
  replace hF := hF.below hb4
  clear hb4
  go_wp2_with (refine wpl_insert _ rfl _ _ _ _ rfl 9 53 Tryz.underlying54 Tryz.underlying9 _ _ rfl hF w.heap.size (Nat.le_refl _) _ _ rfl rfl (by kernel_rfl) (.wrap 1 1 74 (.func (.func 32) #[] #[]) 67) ?_ ?_)
  · exact hW4
  intro wi hF' hB'
  replace hB := hB.trans hB'
  replace hF := hF'
  clear hF' hB'
  clear hW4
  go_wp2_with fail
  refine (number_any _ _ _).mono ?_
  rintro e w5 ⟨v5, rfl, hW5, hb5⟩
  replace hB := hB.trans (hb5.mono hB.size)
  replace hF := hF.below hb5
  clear hb5
  go_wp2_with (refine wpl_insert _ rfl _ _ _ _ rfl 9 53 Tryz.underlying54 Tryz.underlying9 _ _ rfl hF w.heap.size (Nat.le_refl _) _ _ rfl rfl (by kernel_rfl) (.wrap 0 1 76 (.func (.func 34) #[] #[]) 71) ?_ ?_)
  · exact hW5
  intro wi hF' hB'
  replace hB := hB.trans hB'
  replace hF := hF'
  clear hF' hB'
  clear hW5
  go_wp2_with fail
  refine (number_any _ _ _).mono ?_
  rintro e w6 ⟨v6, rfl, hW6, hb6⟩
  replace hB := hB.trans (hb6.mono hB.size)
  replace hF := hF.below hb6
  clear hb6
  go_wp2_with (refine wpl_insert _ rfl _ _ _ _ rfl 9 53 Tryz.underlying54 Tryz.underlying9 _ _ rfl hF w.heap.size (Nat.le_refl _) _ _ rfl rfl (by kernel_rfl) (.wrap 1 1 76 (.func (.func 36) #[] #[]) 71) ?_ ?_)
  · exact hW6
  intro wi hF' hB'
  replace hB := hB.trans hB'
  replace hF := hF'
  clear hF' hB'
  clear hW6
  go_wp2_with fail
  refine (number_any _ _ _).mono ?_
  rintro e w7 ⟨v7, rfl, hW7, hb7⟩
  replace hB := hB.trans (hb7.mono hB.size)
  replace hF := hF.below hb7
  clear hb7
  go_wp2_with (refine wpl_insert _ rfl _ _ _ _ rfl 9 53 Tryz.underlying54 Tryz.underlying9 _ _ rfl hF w.heap.size (Nat.le_refl _) _ _ rfl rfl (by kernel_rfl) (.wrap 1 1 76 (.func (.func 38) #[] #[]) 71) ?_ ?_)
  · exact hW7
  intro wi hF' hB'
  replace hB := hB.trans hB'
  replace hF := hF'
  clear hF' hB'
  clear hW7
  go_wp2_with fail
  refine (number_any _ _ _).mono ?_
  rintro e w8 ⟨v8, rfl, hW8, hb8⟩
  replace hB := hB.trans (hb8.mono hB.size)
  replace hF := hF.below hb8
  clear hb8
  go_wp2_with (refine wpl_insert _ rfl _ _ _ _ rfl 9 53 Tryz.underlying54 Tryz.underlying9 _ _ rfl hF w.heap.size (Nat.le_refl _) _ _ rfl rfl (by kernel_rfl) (.wrap 1 1 76 (.func (.func 40) #[] #[]) 71) ?_ ?_)
  · exact hW8
  intro wi hF' hB'
  replace hB := hB.trans hB'
  replace hF := hF'
  clear hF' hB'
  clear hW8
  go_wp2_with fail
  refine (number_any _ _ _).mono ?_
  rintro e w9 ⟨v9, rfl, hW9, hb9⟩
  replace hB := hB.trans (hb9.mono hB.size)
  replace hF := hF.below hb9
  clear hb9
  obtain ⟨c9, rfl, _⟩ := hW9
  go_wp2_with fail
  refine (ofNodes_any _ _ _ _ _ ⟨_, _, _, rfl⟩).mono ?_
  rintro e w10 ⟨xa, xb, xc, xg, xx, xy, rfl, hb10⟩
  replace hB := hB.trans (hb10.mono hB.size)
  replace hF := hF.below hb10
  clear hb10
  go_wp2_with (refine wpl_insert _ rfl _ _ _ _ rfl 9 53 Tryz.underlying54 Tryz.underlying9 _ _ rfl hF w.heap.size (Nat.le_refl _) _ _ rfl rfl (by kernel_rfl) (.any) ?_ ?_)
  · trivial
  intro wi hF' hB'
  replace hB := hB.trans hB'
  replace hF := hF'
  clear hF' hB'
  go_wp2_with fail
  refine (number_any _ _ _).mono ?_
  rintro e w11 ⟨v11, rfl, hW11, hb11⟩
  replace hB := hB.trans (hb11.mono hB.size)
  replace hF := hF.below hb11
  clear hb11
  obtain ⟨c11, rfl, _⟩ := hW11
  go_wp2_with fail
  refine (ofNodes_any _ _ _ _ _ ⟨_, _, _, rfl⟩).mono ?_
  rintro e w12 ⟨xa, xb, xc, xg, xx, xy, rfl, hb12⟩
  replace hB := hB.trans (hb12.mono hB.size)
  replace hF := hF.below hb12
  clear hb12
  go_wp2_with (refine wpl_insert _ rfl _ _ _ _ rfl 9 53 Tryz.underlying54 Tryz.underlying9 _ _ rfl hF w.heap.size (Nat.le_refl _) _ _ rfl rfl (by kernel_rfl) (.any) ?_ ?_)
  · trivial
  intro wi hF' hB'
  replace hB := hB.trans hB'
  replace hF := hF'
  clear hF' hB'
  go_wp2_with fail
  refine (named_any _ _).mono ?_
  rintro e w13 ⟨xa, xb, xc, xg, xx, xy, rfl, hb13⟩
  replace hB := hB.trans (hb13.mono hB.size)
  replace hF := hF.below hb13
  clear hb13
  go_wp2_with (refine wpl_insert _ rfl _ _ _ _ rfl 9 53 Tryz.underlying54 Tryz.underlying9 _ _ rfl hF w.heap.size (Nat.le_refl _) _ _ rfl rfl (by kernel_rfl) (.any) ?_ ?_)
  · trivial
  intro wi hF' hB'
  replace hB := hB.trans hB'
  replace hF := hF'
  clear hF' hB'
  go_wp2_with fail
  refine (named_any _ _).mono ?_
  rintro e w14 ⟨xa, xb, xc, xg, xx, xy, rfl, hb14⟩
  replace hB := hB.trans (hb14.mono hB.size)
  replace hF := hF.below hb14
  clear hb14
  go_wp2_with (refine wpl_insert _ rfl _ _ _ _ rfl 9 53 Tryz.underlying54 Tryz.underlying9 _ _ rfl hF w.heap.size (Nat.le_refl _) _ _ rfl rfl (by kernel_rfl) (.any) ?_ ?_)
  · trivial
  intro wi hF' hB'
  replace hB := hB.trans hB'
  replace hF := hF'
  clear hF' hB'
  go_wp2_with fail
  refine (named_any _ _).mono ?_
  rintro e w15 ⟨xa, xb, xc, xg, xx, xy, rfl, hb15⟩
  replace hB := hB.trans (hb15.mono hB.size)
  replace hF := hF.below hb15
  clear hb15
  go_wp2_with (refine wpl_insert _ rfl _ _ _ _ rfl 9 53 Tryz.underlying54 Tryz.underlying9 _ _ rfl hF w.heap.size (Nat.le_refl _) _ _ rfl rfl (by kernel_rfl) (.any) ?_ ?_)
  · trivial
  intro wi hF' hB'
  replace hB := hB.trans hB'
  replace hF := hF'
  clear hF' hB'
  go_wp2_with fail
  refine (text_any _ _ _ _ _ _).mono ?_
  rintro e w16 ⟨v16, rfl, hW16, hb16⟩
  replace hB := hB.trans (hb16.mono hB.size)
  replace hF := hF.below hb16
  clear hb16
  go_wp2_with (refine wpl_insert _ rfl _ _ _ _ rfl 9 53 Tryz.underlying54 Tryz.underlying9 _ _ rfl hF w.heap.size (Nat.le_refl _) _ _ rfl rfl (by kernel_rfl) (.wrap 0 1 85 (.func (.func 51) #[] #[]) 80) ?_ ?_)
  · exact hW16
  intro wi hF' hB'
  replace hB := hB.trans hB'
  replace hF := hF'
  clear hF' hB'
  clear hW16
  go_wp2_with fail
  refine (text_any _ _ _ _ _ _).mono ?_
  rintro e w17 ⟨v17, rfl, hW17, hb17⟩
  replace hB := hB.trans (hb17.mono hB.size)
  replace hF := hF.below hb17
  clear hb17
  go_wp2_with (refine wpl_insert _ rfl _ _ _ _ rfl 9 53 Tryz.underlying54 Tryz.underlying9 _ _ rfl hF w.heap.size (Nat.le_refl _) _ _ rfl rfl (by kernel_rfl) (.wrap 0 1 85 (.func (.func 53) #[] #[]) 80) ?_ ?_)
  · exact hW17
  intro wi hF' hB'
  replace hB := hB.trans hB'
  replace hF := hF'
  clear hF' hB'
  clear hW17
  go_wp2_with fail
  refine (number_any _ _ _).mono ?_
  rintro e w18 ⟨v18, rfl, hW18, hb18⟩
  replace hB := hB.trans (hb18.mono hB.size)
  replace hF := hF.below hb18
  clear hb18
  go_wp2_with (refine wpl_insert _ rfl _ _ _ _ rfl 9 53 Tryz.underlying54 Tryz.underlying9 _ _ rfl hF w.heap.size (Nat.le_refl _) _ _ rfl rfl (by kernel_rfl) (.wrap 0 1 76 (.func (.func 55) #[] #[]) 71) ?_ ?_)
  · exact hW18
  intro wi hF' hB'
  replace hB := hB.trans hB'
  replace hF := hF'
  clear hF' hB'
  clear hW18
  go_wp2_with fail
  refine (text_any _ _ _ _ _ _).mono ?_
  rintro e w19 ⟨v19, rfl, hW19, hb19⟩
  replace hB := hB.trans (hb19.mono hB.size)
  replace hF := hF.below hb19
  clear hb19
  go_wp2_with (refine wpl_insert _ rfl _ _ _ _ rfl 9 53 Tryz.underlying54 Tryz.underlying9 _ _ rfl hF w.heap.size (Nat.le_refl _) _ _ rfl rfl (by kernel_rfl) (.wrap 2 8 85 (.func (.func 56) #[] #[]) 80) ?_ ?_)
  · exact hW19
  intro wi hF' hB'
  replace hB := hB.trans hB'
  replace hF := hF'
  clear hF' hB'
  clear hW19
  go_wp2_with fail
  refine (truth_any _ _ _).mono ?_
  rintro e w20 ⟨v20, rfl, hW20, hb20⟩
  replace hB := hB.trans (hb20.mono hB.size)
  replace hF := hF.below hb20
  clear hb20
  go_wp2_with (refine wpl_insert _ rfl _ _ _ _ rfl 9 53 Tryz.underlying54 Tryz.underlying9 _ _ rfl hF w.heap.size (Nat.le_refl _) _ _ rfl rfl (by kernel_rfl) (.wrap 2 2 74 (.func (.func 57) #[] #[]) 67) ?_ ?_)
  · exact hW20
  intro wi hF' hB'
  replace hB := hB.trans hB'
  replace hF := hF'
  clear hF' hB'
  clear hW20
  go_wp2_with fail
  refine (truth_any _ _ _).mono ?_
  rintro e w21 ⟨v21, rfl, hW21, hb21⟩
  replace hB := hB.trans (hb21.mono hB.size)
  replace hF := hF.below hb21
  clear hb21
  go_wp2_with (refine wpl_insert _ rfl _ _ _ _ rfl 9 53 Tryz.underlying54 Tryz.underlying9 _ _ rfl hF w.heap.size (Nat.le_refl _) _ _ rfl rfl (by kernel_rfl) (.wrap 2 2 74 (.func (.func 59) #[] #[]) 67) ?_ ?_)
  · exact hW21
  intro wi hF' hB'
  replace hB := hB.trans hB'
  replace hF := hF'
  clear hF' hB'
  clear hW21
  go_wp2_with fail
  refine (text_any _ _ _ _ _ _).mono ?_
  rintro e w22 ⟨v22, rfl, hW22, hb22⟩
  replace hB := hB.trans (hb22.mono hB.size)
  replace hF := hF.below hb22
  clear hb22
  go_wp2_with (refine wpl_insert _ rfl _ _ _ _ rfl 9 53 Tryz.underlying54 Tryz.underlying9 _ _ rfl hF w.heap.size (Nat.le_refl _) _ _ rfl rfl (by kernel_rfl) (.wrap 2 2 85 (.func (.func 61) #[] #[]) 80) ?_ ?_)
  · exact hW22
  intro wi hF' hB'
  replace hB := hB.trans hB'
  replace hF := hF'
  clear hF' hB'
  clear hW22
  go_wp2_with fail
  refine (text_any _ _ _ _ _ _).mono ?_
  rintro e w23 ⟨v23, rfl, hW23, hb23⟩
  replace hB := hB.trans (hb23.mono hB.size)
  replace hF := hF.below hb23
  clear hb23
  go_wp2_with (refine wpl_insert _ rfl _ _ _ _ rfl 9 53 Tryz.underlying54 Tryz.underlying9 _ _ rfl hF w.heap.size (Nat.le_refl _) _ _ rfl rfl (by kernel_rfl) (.wrap 2 2 85 (.func (.func 63) #[] #[]) 80) ?_ ?_)
  · exact hW23
  intro wi hF' hB'
  replace hB := hB.trans hB'
  replace hF := hF'
  clear hF' hB'
  clear hW23
  go_wp2_with fail
  refine (text_any _ _ _ _ _ _).mono ?_
  rintro e w24 ⟨v24, rfl, hW24, hb24⟩
  replace hB := hB.trans (hb24.mono hB.size)
  replace hF := hF.below hb24
  clear hb24
  go_wp2_with (refine wpl_insert _ rfl _ _ _ _ rfl 9 53 Tryz.underlying54 Tryz.underlying9 _ _ rfl hF w.heap.size (Nat.le_refl _) _ _ rfl rfl (by kernel_rfl) (.wrap 3 3 85 (.func (.func 64) #[] #[]) 80) ?_ ?_)
  · exact hW24
  intro wi hF' hB'
  replace hB := hB.trans hB'
  replace hF := hF'
  clear hF' hB'
  clear hW24
  go_wp2_with fail
  refine (text_any _ _ _ _ _ _).mono ?_
  rintro e w25 ⟨v25, rfl, hW25, hb25⟩
  replace hB := hB.trans (hb25.mono hB.size)
  replace hF := hF.below hb25
  clear hb25
  go_wp2_with (refine wpl_insert _ rfl _ _ _ _ rfl 9 53 Tryz.underlying54 Tryz.underlying9 _ _ rfl hF w.heap.size (Nat.le_refl _) _ _ rfl rfl (by kernel_rfl) (.wrap 2 3 85 (.func (.func 65) #[] #[]) 80) ?_ ?_)
  · exact hW25
  intro wi hF' hB'
  replace hB := hB.trans hB'
  replace hF := hF'
  clear hF' hB'
  clear hW25
  go_wp2_with (refine wpl_insert _ rfl _ _ _ _ rfl 9 53 Tryz.underlying54 Tryz.underlying9 _ _ rfl hF w.heap.size (Nat.le_refl _) _ _ rfl rfl (by kernel_rfl) (.any) ?_ ?_)
  · trivial
  intro wi hF' hB'
  replace hB := hB.trans hB'
  replace hF := hF'
  clear hF' hB'
  go_wp2_with fail
  go_ret
  exact ⟨_, rfl, hF, hB, Nat.le_refl _⟩
end Go.Proofs.YtkikeacnbgjjlaaGreatDoor
