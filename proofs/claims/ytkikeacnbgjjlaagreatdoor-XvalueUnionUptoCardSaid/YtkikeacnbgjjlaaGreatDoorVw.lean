/-
  The reference's Union; XvalueUnion walked.
-/
import Derived.Test.YtkikeacnbgjjlaaGreatDoorVu
namespace Go.Proofs.YtkikeacnbgjjlaaGreatDoor
open Go.RowKit Go.ChangeMaps
set_option linter.unusedSimpArgs false
theorem take_snoc_int (l : List Int) (k : Nat) (x : Int) (h : l[k]? = some x) : l.take (k + 1) = l.take k ++ [x] := by rw [List.take_add_one, h]; rfl
set_option maxRecDepth 20000 in
set_option maxHeartbeats 4000000 in
theorem refUnion_any (ao bo : Option Addr) (c d : Nat) (xs ys : List Int) (w : World) (ha : IntsAt w ao c xs) (hb : IntsAt w bo d ys) (hx : xs.length ≤ 2000000) (hy : ys.length ≤ 2000000) :
    Calls Tryz.prog 16 #[.slice ao xs.length c, .slice bo ys.length d] w (IntsPost w (setL (xs ++ ys))) := by
  have HA := Lib.hid ha
  have HB := Lib.hid hb
  clear ha hb
  go_enter Tryz.func16, Tryz.ntmps16
  go_wp2_with fail
  go_loopg [5, 6] xs.length (fun gk v i wx => ∃ k : Nat, k + gk = xs.length ∧ i = .int .i64 k ∧ Hid (Ints wx v (setL (xs.take k))) ∧ Below w.heap.size w wx)
  case atStart => exact ⟨0, by simp, rfl, .inl ⟨rfl, setL_nil⟩, Below.refl _ _⟩
  case round =>
    obtain ⟨k, hk, rfl, hI, hbw⟩ := hrel
    have hsw := hbw.size
    by_cases hlt : k < xs.length
    · obtain ⟨x, hxk⟩ : ∃ x, xs[k]? = some x := ⟨_, List.getElem?_eq_getElem hlt⟩
      obtain ⟨a, ha, hcell, _⟩ := (HA.out.below hbw).2 k x hxk
      have hltz : (k : Int) < (xs.length : Int) := by omega
      have hadd := fun v h => add_any v (xs.take k) x wr h (by have := setL_length (xs.take k); rw [List.length_take] at this; omega)
      rw [← take_snoc_int xs k x hxk] at hadd
      have HADD := Lib.hid hadd
      clear hadd hxk
      subst ha
      go_wp2_with fail
      refine (HADD.out _ hI.out).mono ?_
      rintro e w2 ⟨v2, rfl, hI2, hb2⟩
      have hI3 := Lib.hid hI2
      have hb3 := hbw.trans (hb2.mono hsw)
      clear hI hI2 hbw hb2
      go_wp2_with fail
      go_roundg (gk - 1)
      case measure => omega
      case rel => exact ⟨k + 1, by omega, by go_num, hI3, hb3⟩
    · have hkl : k = xs.length := by omega
      subst hkl
      have hI2 : Hid (Ints wr u5 (setL (xs ++ ys.take 0))) := by
        have := hI.out
        rw [List.take_length] at this
        have e : xs ++ ys.take 0 = xs := by simp
        rw [e]
        exact this
      clear hI
      go_wp2_with fail
      go_loopg [5, 7] ys.length (fun gk v i wx => ∃ k : Nat, k + gk = ys.length ∧ i = .int .i64 k ∧ Hid (Ints wx v (setL (xs ++ ys.take k))) ∧ Below w.heap.size w wx)
      case atStart => exact ⟨0, by simp, rfl, hI2, hbw⟩
      case round =>
        clear hbw hI2 hk hlt
        obtain ⟨k, hk, rfl, hI, hbw⟩ := hrel
        have hsw := hbw.size
        by_cases hlt : k < ys.length
        · obtain ⟨x, hxk⟩ : ∃ x, ys[k]? = some x := ⟨_, List.getElem?_eq_getElem hlt⟩
          obtain ⟨a, ha, hcell, _⟩ := (HB.out.below hbw).2 k x hxk
          have hltz : (k : Int) < (ys.length : Int) := by omega
          have hadd := fun v h => add_any v (xs ++ ys.take k) x wr h (by have := setL_length (xs ++ ys.take k); rw [List.length_append, List.length_take] at this; omega)
          rw [List.append_assoc, ← take_snoc_int ys k x hxk] at hadd
          have HADD := Lib.hid hadd
          clear hadd hxk
          subst ha
          go_wp2_with fail
          refine (HADD.out _ hI.out).mono ?_
          rintro e w2 ⟨v2, rfl, hI2, hb2⟩
          have hI3 := Lib.hid hI2
          have hb3 := hbw.trans (hb2.mono hsw)
          clear hI hI2 hbw hb2
          go_wp2_with fail
          go_roundg (gk - 1)
          case measure => omega
          case rel => exact ⟨k + 1, by omega, by go_num, hI3, hb3⟩
        · have hkl : k = ys.length := by omega
          subst hkl
          have hI2 : Hid (Ints wr u5 (setL (xs ++ ys))) := by
            have := hI.out
            rw [List.take_length] at this
            exact this
          clear hI
          go_wp2
          go_ret
          exact ⟨_, rfl, hI2.out, hbw⟩
theorem Ints.at' {w : World} {v : Value} {l : List Int} (h : Ints w v l) : ∃ ao c, v = .slice ao l.length c ∧ IntsAt w ao c l ∧ Hid (∀ a, ao = some a → ∃ g, a = ⟨g, 0, none⟩) := by
  rcases h with ⟨rfl, rfl⟩ | ⟨g, c, rfl, h2, h3, h4, h5⟩
  · exact ⟨none, 0, rfl, ⟨(fun _ => ⟨rfl, rfl⟩), (fun k x hx => by simp at hx)⟩, (fun a e => by cases e)⟩
  · refine ⟨_, c, rfl, ⟨(fun e => by cases e), (fun k x hx => ⟨_, rfl, ?_, h4⟩)⟩, (fun a e => ⟨g, (Option.some.inj e).symm⟩)⟩
    have e1 : ({ block := g, off := 0 } : Addr).add k = ⟨g, k, none⟩ := by simp [Addr.add] <;> omega
    rw [e1]
    exact h5 k x hx
theorem ints_eq (a b : List Int) (h : a = b) {w : World} {v : Value} (hI : Ints w v a) : Ints w v b := h ▸ hI
set_option maxRecDepth 20000 in
set_option maxHeartbeats 8000000 in
theorem union_law (ao bo co : Option Addr) (p q r : Nat) (xs ys zs : List Int) (w : World) (hG : GV w) (ha : IntsAt w ao p xs) (hb : IntsAt w bo q ys) (hc : IntsAt w co r zs) (hx : xs.length ≤ 2000000) (hy : ys.length ≤ 2000000) (hz : zs.length ≤ 2000000) :
    Calls Tryz.prog 7 #[.slice ao xs.length p, .slice bo ys.length q, .slice co zs.length r] w (RetPost (.bool true) w) := by
  have hU := setL_length (xs ++ ys)
  rw [List.length_append] at hU
  have hV := setL_length (ys ++ zs)
  rw [List.length_append] at hV
  have hW := setL_length (setL (xs ++ ys) ++ zs)
  rw [List.length_append] at hW
  have HA := Lib.hid ha
  have HB := Lib.hid hb
  have HC := Lib.hid hc
  have HS := Lib.hid (setL_strict (xs ++ ys))
  clear ha hb hc
  obtain ⟨U, hUd⟩ : ∃ U, setL (xs ++ ys) = U := ⟨_, rfl⟩
  have e1 : setL (ys ++ xs) = U := by rw [← hUd, union_comm]
  have e2 : setL (U ++ U) = U := by rw [← hUd, union_self]
  have e3 : setL (U ++ zs) = setL (xs ++ setL (ys ++ zs)) := by rw [← hUd, union_assoc]
  rw [hUd] at hU hW HS
  have HE := Lib.hid (And.intro hUd (And.intro e1 (And.intro e2 e3)))
  clear hUd e1 e2 e3
  have hg0 := hG.1
  go_enter Tryz.func7, Tryz.ntmps7
  go_wp2_with fail
  refine (union_any ao bo p q xs ys w HA HB (by omega) (by omega)).mono ?_
  rintro e w1 ⟨u, rfl, hI1, hb1⟩
  have hs1 := hb1.size
  obtain ⟨uo, uc, rfl, hu1, hau⟩ := (ints_eq _ _ HE.out.1 hI1).at'
  have HU1 := Lib.hid hu1
  clear hI1 hu1
  go_wp2_with fail
  refine (refUnion_any ao bo p q xs ys w1 (HA.out.below hb1) (HB.out.below hb1) hx hy).mono ?_
  rintro e w2 ⟨v2, rfl, hI2, hb2⟩
  have hs2 := hb2.size
  obtain ⟨vo, vc, rfl, hv2⟩ := (ints_eq _ _ HE.out.1 hI2).at
  have HV2 := Lib.hid hv2
  have hB2 := hb1.trans (hb2.mono hs1)
  clear hI2 hv2
  go_wp2_with fail
  refine (sameInts_eq uo vo uc vc U w2 (HU1.out.below hb2) HV2 (by omega)).mono ?_
  rintro e w3 ⟨rfl, hb3⟩
  have hs3 := hb3.size
  have hB3 := hB2.trans (hb3.mono (by omega))
  have HU3 := Lib.hid ((HU1.out.below hb2).below hb3)
  clear HU1 HV2 hb1 hb2 hb3 hB2
  go_wp2_with fail
  refine (union_any bo ao q p ys xs w3 (HB.out.below hB3) (HA.out.below hB3) (by omega) (by omega)).mono ?_
  rintro e w4 ⟨v4, rfl, hI4, hb4⟩
  have hs4 := hb4.size
  obtain ⟨vo4, vc4, rfl, hv4⟩ := (ints_eq _ _ HE.out.2.1 hI4).at
  have HV4 := Lib.hid hv4
  have HU4 := Lib.hid (HU3.out.below hb4)
  have hB4 := hB3.trans (hb4.mono (by omega))
  clear hI4 hv4 HU3 hB3 hb4
  go_wp2_with fail
  refine (sameInts_eq uo vo4 uc vc4 U w4 HU4 HV4 (by omega)).mono ?_
  rintro e w5 ⟨rfl, hb5⟩
  have hs5 := hb5.size
  have HU5 := Lib.hid (HU4.out.below hb5)
  have hB5 := hB4.trans (hb5.mono (by omega))
  clear HU4 HV4 hB4 hb5
  go_wp2_with fail
  refine (union_any uo uo uc uc U U w5 HU5 HU5 (by omega) (by omega)).mono ?_
  rintro e w6 ⟨v6, rfl, hI6, hb6⟩
  have hs6 := hb6.size
  obtain ⟨vo6, vc6, rfl, hv6⟩ := (ints_eq _ _ HE.out.2.2.1 hI6).at
  have HV6 := Lib.hid hv6
  have HU6 := Lib.hid (HU5.out.below hb6)
  have hB6 := hB5.trans (hb6.mono (by omega))
  clear hI6 hv6 HU5 hB5 hb6
  go_wp2_with fail
  refine (sameInts_eq vo6 uo vc6 uc U w6 HV6 HU6 (by omega)).mono ?_
  rintro e w7 ⟨rfl, hb7⟩
  have hs7 := hb7.size
  have HU7 := Lib.hid (HU6.out.below hb7)
  have hB7 := hB6.trans (hb7.mono (by omega))
  clear HU6 HV6 hB6 hb7
  go_wp2_with fail
  go_loopg [8] U.length (fun gk i wx => ∃ k : Nat, 1 ≤ k ∧ k + gk = U.length + 1 ∧ i = .int .i64 k ∧ Below w7.heap.size w7 wx)
  case atStart =>
    exact ⟨1, by omega, by omega, rfl, Below.refl _ _⟩
  case round =>
    obtain ⟨k, hk1, hk, rfl, hbw⟩ := hrel
    have hsw := hbw.size
    by_cases hlt : k < U.length
    · obtain ⟨x, hxk⟩ : ∃ x, U[k]? = some x := ⟨_, List.getElem?_eq_getElem hlt⟩
      obtain ⟨y, hyk⟩ : ∃ y, U[k - 1]? = some y := ⟨_, List.getElem?_eq_getElem (by omega)⟩
      have hxy : y < x := by
        obtain ⟨h1, h2⟩ := List.getElem?_eq_some_iff.1 hxk
        obtain ⟨h3, h4⟩ := List.getElem?_eq_some_iff.1 hyk
        rw [← h2, ← h4]
        exact List.pairwise_iff_getElem.1 HS.out (k - 1) k h3 h1 (by omega)
      obtain ⟨a1, ha1, c1, l1⟩ := (HU7.out.below hbw).2 k x hxk
      obtain ⟨a2, ha2, c2, l2⟩ := (HU7.out.below hbw).2 (k - 1) y hyk
      obtain rfl : a1 = a2 := Option.some.inj (ha1.symm.trans ha2)
      obtain ⟨g, rfl⟩ := hau.out a1 ha1
      subst ha1
      obtain ⟨j, rfl⟩ : ∃ j, k = j + 1 := ⟨k - 1, by omega⟩
      rw [Nat.add_sub_cancel] at c2
      have e1 : ({ block := g, off := 0 } : Addr).add (j + 1) = ⟨g, j + 1, none⟩ := by simp [Addr.add] <;> omega
      have e2 : ({ block := g, off := 0 } : Addr).add j = ⟨g, j, none⟩ := by simp [Addr.add] <;> omega
      rw [e1] at c1
      rw [e2] at c2
      clear e1 e2
      have hltz : (j : Int) + 1 < (U.length : Int) := by omega
      have hle : ¬ (x ≤ y) := by omega
      have hq1 : (0 : Int) ≤ (j : Int) + 1 := by omega
      have hq2 : ((j : Int) + 1).toNat = j + 1 := by omega
      have hq3 : IntKind.i64.wrap ((j : Int) + 1 - 1) = (j : Int) := by rw [IntKind.wrap_i64]; omega
      have hq4 : IntKind.i64.wrap (j : Int) = (j : Int) := by rw [IntKind.wrap_i64]; omega
      have hq5 : (j : Int) < (U.length : Int) := by omega
      clear hxk hyk ha2 hk1
      go_wp2_with fail
      go_quiet (fail)
      go_wp2_with fail
      go_roundg (gk - 1)
      case measure => omega
      case rel => exact ⟨j + 2, by omega, by omega, by go_num, below_drewN hbw _⟩
    · have hB8 := hB7.trans (hbw.mono (by omega))
      have HU8 := Lib.hid (HU7.out.below hbw)
      have hG8 := hG.grown hB8
      have hltz : ¬ ((k : Int) < (U.length : Int)) := by omega
      clear HU7 hB7 hbw
      go_wp2_with fail
      refine (live_any wr hG8).mono ?_
      rintro e w9 ⟨rfl, hb9⟩
      have hs9 := hb9.size
      have HU9 := Lib.hid (HU8.out.below hb9)
      have hB9 := hB8.trans (hb9.mono (by omega))
      clear HU8 hB8 hb9 hG8
      go_wp2_with fail
      refine (union_any uo co uc r U zs w9 HU9 (HC.out.below hB9) (by omega) (by omega)).mono ?_
      rintro e wa ⟨va, rfl, hIa, hba⟩
      have hsa := hba.size
      obtain ⟨voa, vca, rfl, hva⟩ := (ints_eq _ _ HE.out.2.2.2 hIa).at
      have HVA := Lib.hid hva
      have hBa := hB9.trans (hba.mono (by omega))
      clear hIa hva HU9 hB9 hba
      go_wp2_with fail
      refine (union_any bo co q r ys zs wa (HB.out.below hBa) (HC.out.below hBa) (by omega) (by omega)).mono ?_
      rintro e wb ⟨vb, rfl, hIb, hbb⟩
      have hsb := hbb.size
      obtain ⟨vob, vcb, rfl, hvb⟩ := hIb.at
      have HVB := Lib.hid hvb
      have HVA2 := Lib.hid (HVA.out.below hbb)
      have hBb := hBa.trans (hbb.mono (by omega))
      clear hIb hvb HVA hBa hbb
      go_wp2_with fail
      refine (union_any ao vob p vcb xs (setL (ys ++ zs)) wb (HA.out.below hBb) HVB (by omega) (by omega)).mono ?_
      rintro e wc ⟨vc', rfl, hIc, hbc⟩
      have hsc := hbc.size
      obtain ⟨voc, vcc, rfl, hvc⟩ := hIc.at
      have HVC := Lib.hid hvc
      have HVA3 := Lib.hid (HVA2.out.below hbc)
      have hBc := hBb.trans (hbc.mono (by omega))
      have hlen : (setL (xs ++ setL (ys ++ zs))).length ≤ 100000000 := by
        have := setL_length (xs ++ setL (ys ++ zs))
        rw [List.length_append] at this
        omega
      clear hIc hvc HVA2 hBb hbc HVB
      go_wp2_with fail
      refine (sameInts_eq voa voc vca vcc _ wc HVA3 HVC hlen).mono ?_
      rintro e wd ⟨rfl, hbd⟩
      go_wp2
      go_ret
      exact ⟨rfl, hBc.trans (hbd.mono (by omega))⟩
end Go.Proofs.YtkikeacnbgjjlaaGreatDoor
