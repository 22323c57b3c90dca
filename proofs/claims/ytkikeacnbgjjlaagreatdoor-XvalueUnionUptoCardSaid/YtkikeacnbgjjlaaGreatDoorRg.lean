/-
  A region that draws its order, walked by facts: each operation, at any time at which it may come up, makes its own fact and keeps the facts of the others; then all facts hold behind the region, whatever order was drawn.
-/
import Derived.WalkKit
import Derived.Orders
namespace Go.Proofs.YtkikeacnbgjjlaaGreatDoor
open Go.RowKit
theorem wpOp_plain {P : Program} {ops : Array Oper} {Q : Exit → Act → World → Prop} {i : Nat} {K : Act → World → Prop} {a : Act} {w : World} {o : Oper} (ho : ops[i]? = some o) (hg : o.guard = none)
    (h : o.wp P a w K Q) : wpOp P ops Q i K a w := by
  unfold wpOp
  simp only [ho, Region.wanted, hg, if_true]
  exact Or.inl h
theorem ready_nil {ops : Array Oper} {listed : Array Bool} (hz : listed.size = ops.size) (hback : ∀ (i : Nat) (o : Oper), ops[i]? = some o → ∀ (e : Edge), e ∈ o.after.toList → Region.binds .any e = true → e.on < i) (h : Region.ready .any ops listed = []) :
    ∀ i, i < ops.size → listed.getD i false = true := by
  intro i
  induction i using Nat.strongRecOn with
  | ind i ih =>
    intro hi
    by_cases hl : listed.getD i false = true
    · exact hl
    · exfalso
      have hmem : i ∈ Region.ready .any ops listed := by
        unfold Region.ready
        rw [List.mem_filter]
        refine ⟨List.mem_range.2 hi, ?_⟩
        have hli : listed.getD i true = false := by
          have h1 : i < listed.size := by omega
          simp [Array.getD, h1] at hl ⊢
          exact hl
        have ho : ops[i]? = some ops[i] := Array.getElem?_eq_getElem hi
        rw [hli, ho]
        simp only [Bool.not_false, Bool.true_and, Option.map_some, Option.getD_some]
        rw [Array.all_eq_true]
        intro j hj
        cases hbi : Region.binds .any (ops[i]).after[j] with
        | false => rfl
        | true =>
          have hb := hback i ops[i] ho (ops[i]).after[j] (by simp) hbi
          have := ih _ hb (by omega)
          simp [this]
      rw [h] at hmem
      cases hmem
theorem wp_region_rg {P : Program} {id : Nat} {ops : Array Oper} {Q : Exit → Act → World → Prop} {a : Act} {w : World} (hm : P.follows .mixedOrders = true)
    (hback : ∀ (i : Nat) (o : Oper), ops[i]? = some o → ∀ (e : Edge), e ∈ o.after.toList → Region.binds .any e = true → e.on < i) (C : Act → World → Prop) (F : Nat → Act → World → Prop) (h0 : C a w.drew)
    (hstep : ∀ (i : Nat) (o : Oper), ops[i]? = some o → ∀ (a : Act) (w : World), C a w → (∀ (e : Edge), e ∈ o.after.toList → Region.binds .any e = true → F e.on a w) →
      wpOp P ops Q i (fun a' w' => C a' w' ∧ F i a' w' ∧ ∀ (j : Nat), (∀ (o' : Oper), ops[j]? = some o' → ∀ (e : Edge), e ∈ o'.after.toList → Region.binds .any e = true → e.on ≠ i) → F j a w → F j a' w') a w)
    (hend : ∀ a w, C a w → (∀ i, i < ops.size → F i a w) → Q .normal a w) : (Code.region id ops true).wp P Q a w := by
  refine wp_region_any hm ?_
  have key : ∀ (fuel : Nat) (listed : Array Bool) (a : Act) (w : World), listed.size = ops.size → (fuel = 0 → ∀ i, i < ops.size → listed.getD i false = true) →
      (listed.toList.filter (fun x => !x)).length ≤ fuel → C a w → (∀ i, listed.getD i false = true → F i a w) →
      (∀ (j : Nat) (o' : Oper), listed.getD j false = true → ops[j]? = some o' → ∀ (e : Edge), e ∈ o'.after.toList → Region.binds .any e = true → listed.getD e.on false = true) → wpAny P .any ops Q fuel listed a w := by
    intro fuel
    induction fuel with
    | zero =>
      intro listed a w hz hall _ hC hF _
      refine ⟨?_, hend a w hC fun i hi => hF i (hall rfl i hi)⟩
      unfold Region.ready
      rw [List.filter_eq_nil_iff]
      intro i hi
      have hlt := List.mem_range.1 hi
      have h1 := hall rfl i hlt
      have h2 : listed.getD i true = true := by
        have h3 : i < listed.size := by omega
        simp [Array.getD, h3] at h1 ⊢
        exact h1
      rw [h2]
      simp
    | succ fuel ih =>
      intro listed a w hz _ hcnt hC hF hcl
      refine ⟨fun hr => hend a w hC fun i hi => hF i (ready_nil hz hback hr i hi), fun i hi => ?_⟩
      unfold Region.ready at hi
      rw [List.mem_filter] at hi
      obtain ⟨hi1, hi2⟩ := hi
      have hlt := List.mem_range.1 hi1
      have ho : ops[i]? = some ops[i] := Array.getElem?_eq_getElem hlt
      rw [ho] at hi2
      simp only [Option.map_some, Option.getD_some, Bool.and_eq_true, Bool.not_eq_true'] at hi2
      obtain ⟨hi2, hi3⟩ := hi2
      rw [Array.all_eq_true] at hi3
      refine wpOp_mono (fun a' w' ⟨hC', hFi, hpre⟩ => ?_) (hstep i _ ho a w hC ?_)
      · intro e he hbi
        refine hF e.on ?_
        obtain ⟨k, hk, rfl⟩ := List.getElem_of_mem he
        have := hi3 k (by simpa using hk)
        have hbi' : Region.binds .any (ops[i].after[k]'(by simpa using hk)) = true := by simpa using hbi
        simp only [hbi', Bool.not_true, Bool.false_or] at this
        simpa using this
      · have hcnt' : ((listed.setIfInBounds i true).toList.filter (fun x => !x)).length ≤ fuel := by
          have h3 : i < listed.size := by omega
          have h4 : listed[i] = false := by simp [Array.getD, h3] at hi2; exact hi2
          have h5 : listed.toList[i]'(by simpa using h3) = false := by simpa using h4
          have : ∀ (l : List Bool) (k : Nat) (hk : k < l.length), l[k] = false → ((l.set k true).filter (fun x => !x)).length + 1 = (l.filter (fun x => !x)).length := by
            intro l
            induction l with
            | nil => intro k hk; simp at hk
            | cons x l ihl =>
              intro k hk hf
              cases k with
              | zero => simp at hf; subst hf; simp
              | succ k =>
                simp at hf hk
                have := ihl k hk hf
                rw [List.set_cons_succ, List.filter_cons, List.filter_cons]
                cases x
                · simp only [Bool.not_false, if_true, List.length_cons]; omega
                · simpa using this
          have := this listed.toList i (by simpa using h3) h5
          have e1 : (listed.setIfInBounds i true).toList = listed.toList.set i true := by simp
          rw [e1]
          omega
        refine ih (listed.setIfInBounds i true) a' w' (by simpa using hz) (fun hf0 => ?_) hcnt' hC' (fun j hj => ?_) (fun j o' hj ho' e he hbi => ?_)
        · intro j hj
          by_cases hl : (listed.setIfInBounds i true).getD j false = true
          · exact hl
          · exfalso
            have h3 : j < (listed.setIfInBounds i true).size := by simp; omega
            have h4 : (listed.setIfInBounds i true)[j] = false := by
              have hl' : (listed.setIfInBounds i true).getD j false = false := by simpa using hl
              rw [Array.getD_eq_getD_getElem?, Array.getElem?_eq_getElem h3] at hl'
              exact hl'
            have h5 : false ∈ (listed.setIfInBounds i true).toList := by
              have := Array.getElem_mem h3
              rw [h4] at this
              exact Array.mem_toList_iff.2 this
            have h6 : false ∈ (listed.setIfInBounds i true).toList.filter (fun x => !x) := List.mem_filter.2 ⟨h5, rfl⟩
            have := List.length_pos_of_mem h6
            omega
        · by_cases hji : j = i
          · subst hji; exact hFi
          · have hj' : listed.getD j false = true := by
              simp only [Array.getD_eq_getD_getElem?] at hj ⊢
              rwa [Array.getElem?_setIfInBounds_ne (Ne.symm hji)] at hj
            refine hpre j (fun o' ho' e he hbi hei => ?_) (hF j hj')
            have h7 := hcl j o' hj' ho' e he hbi
            rw [hei] at h7
            have h8 : i < listed.size := by omega
            simp [Array.getD, h8] at hi2 h7
            rw [h7] at hi2
            cases hi2
        · have up : ∀ k, listed.getD k false = true → (listed.setIfInBounds i true).getD k false = true := by
            intro k hk
            simp only [Array.getD_eq_getD_getElem?] at hk ⊢
            by_cases hki : k = i
            · subst hki
              have h8 : k < listed.size := by omega
              simp [h8]
            · rwa [Array.getElem?_setIfInBounds_ne (Ne.symm hki)]
          by_cases hji : j = i
          · subst hji
            rw [ho] at ho'
            cases ho'
            refine up _ ?_
            obtain ⟨k, hk, rfl⟩ := List.getElem_of_mem he
            have := hi3 k (by simpa using hk)
            have hbi' : Region.binds .any (ops[j].after[k]'(by simpa using hk)) = true := by simpa using hbi
            simp only [hbi', Bool.not_true, Bool.false_or] at this
            simpa using this
          · have hj' : listed.getD j false = true := by
              simp only [Array.getD_eq_getD_getElem?] at hj ⊢
              rwa [Array.getElem?_setIfInBounds_ne (Ne.symm hji)] at hj
            exact up _ (hcl j o' hj' ho' e he hbi)
  refine key ops.size _ a _ (by simp) (fun h0' i hi => by omega) ?_ h0 (fun i hi => ?_) (fun j o' hj => ?_)
  · simp
  · exfalso
    simp [Array.getD] at hi
  · exfalso
    simp [Array.getD] at hj
/-! ### one operation, in a state of which only some slots are known -/
theorem wp_val {P : Program} {o : Oper} {a : Act} {w w' : World} {K : Act → World → Prop} {Q : Exit → Act → World → Prop} {v : Value} (h : (execOp a.eval o).run P w = .ok (.value v) w') (hk : K (a.put o.dst v) w') : o.wp P a w K Q := by
  unfold Oper.wp
  rw [h]
  exact hk
theorem wp_skp {P : Program} {o : Oper} {a : Act} {w w' : World} {K : Act → World → Prop} {Q : Exit → Act → World → Prop} (h : (execOp a.eval o).run P w = .ok .skip w') (hk : K (a.put o.dst undef) w') : o.wp P a w K Q := by
  unfold Oper.wp
  rw [h]
  exact hk
theorem wp_ent {P : Program} {o : Oper} {a : Act} {w w' : World} {K : Act → World → Prop} {Q : Exit → Act → World → Prop} {f : FuncId} {args : Array Value} {R : Ending → World → Prop} (h : (execOp a.eval o).run P w = .ok (.enter f args) w')
    (hc : Calls P f args w' R) (hR : ∀ e w'', R e w'' → ∃ v, e = .returned v ∧ K (a.put o.dst v) w'') : o.wp P a w K Q := by
  unfold Oper.wp
  rw [h]
  exact hc.mono fun e w'' he => by
    obtain ⟨v, rfl, hk⟩ := hR e w'' he
    exact hk
/-- The slot t of a holds v. -/
def Slot (a : Act) (t : Nat) (v : Value) : Prop := a.tmps[t]? = some v
theorem Slot.eval {a : Act} {t : Nat} {v : Value} (h : Slot a t v) : a.eval (.tmp t) = v := by
  unfold Slot at h
  simp [Act.eval, h]
theorem Slot.put {a : Act} {t : Nat} {v : Value} (h : Slot a t v) {d : Nat} {u : Value} (hd : d ≠ t) : Slot (a.put (some d) u) t v := by
  unfold Slot at *
  simp [Act.put, Array.getElem?_setIfInBounds_ne hd, h]
theorem Slot.put_none {a : Act} {t : Nat} {v : Value} (h : Slot a t v) {u : Value} : Slot (a.put none u) t v := h
theorem Slot.new {a : Act} {d : Nat} {u : Value} (hd : d < a.tmps.size) : Slot (a.put (some d) u) d u := by
  unfold Slot
  simp [Act.put, hd]
theorem put_size (a : Act) (d : Option Nat) (u : Value) : (a.put d u).tmps.size = a.tmps.size := by
  cases d <;> simp [Act.put]
theorem put_defers (a : Act) (d : Option Nat) (u : Value) : (a.put d u).defers = a.defers := by
  cases d <;> rfl
/-- Every edge that binds leads back. -/
def backB (ops : Array Oper) : Bool := (List.range ops.size).all fun i => ((ops[i]?).map fun o => o.after.toList.all fun e => !Region.binds .any e || decide (e.on < i)).getD true
theorem back_of {ops : Array Oper} (h : backB ops = true) : ∀ (i : Nat) (o : Oper), ops[i]? = some o → ∀ (e : Edge), e ∈ o.after.toList → Region.binds .any e = true → e.on < i := by
  intro i o ho e he hb
  unfold backB at h
  rw [List.all_eq_true] at h
  have := h i (List.mem_range.2 (Array.getElem?_eq_some_iff.1 ho).1)
  simp only [ho, Option.map_some, Option.getD_some, List.all_eq_true, Bool.or_eq_true, Bool.not_eq_true', decide_eq_true_eq] at this
  rcases this e he with h1 | h1
  · rw [hb] at h1; cases h1
  · exact h1
theorem Slot.put_iff {a : Act} {t : Nat} {v : Value} {d : Nat} {u : Value} (hd : d ≠ t) : Slot (a.put (some d) u) t v ↔ Slot a t v := by
  unfold Slot
  simp [Act.put, Array.getElem?_setIfInBounds_ne hd]
theorem Slot.inj {a : Act} {t : Nat} {v u : Value} (h : Slot a t v) (k : Slot a t u) : v = u := by
  unfold Slot at *
  rw [h] at k
  exact Option.some.inj k
/-- The slots from k on hold l. -/
def AllSlots (a : Act) : Nat → List Value → Prop
  | _, [] => True
  | k, v :: l => Slot a k v ∧ AllSlots a (k + 1) l
theorem AllSlots.get {a : Act} : ∀ {l : List Value} {k : Nat}, AllSlots a k l → ∀ (i : Nat) (v : Value), l[i]? = some v → Slot a (k + i) v
  | [], _, _, i, v, h => by simp at h
  | x :: l, k, h, 0, v, hv => by simp at hv; subst hv; exact h.1
  | x :: l, k, h, i + 1, v, hv => by
    have := AllSlots.get h.2 i v (by simpa using hv)
    rwa [Nat.add_assoc, Nat.add_comm 1 i] at this
theorem act_of {a : Act} {l : List Value} (hz : a.tmps.size = l.length) (hd : a.defers = []) (h : AllSlots a 0 l) : a = { tmps := l.toArray, defers := [] } := by
  obtain ⟨t, d⟩ := a
  simp only at hz hd
  subst hd
  have : t = l.toArray := by
    apply Array.ext
    · simpa using hz
    · intro i h1 h2
      have h3 := h.get i (l[i]'(by simpa using h2)) (List.getElem?_eq_getElem _)
      unfold Slot at h3
      simp only [Nat.zero_add] at h3
      rw [Array.getElem?_eq_getElem h1] at h3
      simpa using Option.some.inj h3
  rw [this]
end Go.Proofs.YtkikeacnbgjjlaaGreatDoor
