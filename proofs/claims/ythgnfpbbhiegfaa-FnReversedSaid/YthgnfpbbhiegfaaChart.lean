/- The walks of the functions on charts of accounts (the reference's). -/
import Derived.Test.YthgnfpbbhiegfaaChartP
namespace Go.Proofs.Ythgnfpbbhiegfaa
open Go.RowKit

set_option maxHeartbeats 400000 in
theorem l4Deep_c {S : Nat → Prop} (A : Option Addr) (c : Nat) (l : List Ac) (k0 : Nat) (w : World) (hr : Sl cAc w S A l) (hk0 : k0 < l.length) (hd : Dec l (k0 + 1)) :
    Calls Try.prog 242 #[.slice A l.length c, .int .i64 k0] w fun e w' => e = .returned (.int .i64 (deep l k0)) ∧ w = w' := by
  have hl := hr.1
  have hdl := deep_le hd k0 k0 (by omega) (by omega)
  go_enter Try.func242, Try.ntmps242
  go_wp2
  go_loop [1, 5] (fun a n => ∃ k m : Nat, k ≤ k0 ∧ m ≤ k0 ∧ a = .int .i64 k ∧ n = .int .i64 m ∧ m + deep l k = deep l k0) (fun a _ => (intOf a).toNat + 1)
  case atStart => exact ⟨k0, 0, Nat.le_refl _, Nat.zero_le _, rfl, rfl, by omega⟩
  case round =>
    obtain ⟨k, m, hk, hm, rfl, rfl, he⟩ := hrel
    obtain ⟨ad, rfl, -, h1, -⟩ := at_Ac hr k (by omega)
    have hp := hd k (by omega)
    unfold par at hp
    by_cases h0 : 0 ≤ (el l k).parent
    · have hs := deep_step hd (show k < k0 + 1 by omega) h0
      obtain ⟨p, hpe⟩ : ∃ p : Nat, (el l k).parent = p := ⟨_, (Int.toNat_of_nonneg h0).symm⟩
      rw [hpe] at h1 hp h0
      unfold par at hs
      rw [hpe, Int.toNat_natCast] at hs
      have hmk : m < k0 := by omega
      have HE := Lib.hid he
      have HS := Lib.hid hs
      clear he hs hpe
      go_wp2
      go_round
      case rel =>
        have h2 := HE.out
        have h3 := HS.out
        exact ⟨p, m + 1, by omega, by omega, rfl, by go_num, by omega⟩
      case measure => simp [intOf]; omega
    · have hz := deep_zero (l := l) (k := k) h0
      have HE := Lib.hid he
      have HZ := Lib.hid hz
      clear he hz
      go_wp2
      go_ret
      have h2 := HE.out
      have h3 := HZ.out
      exact ⟨ret_i (by omega), rfl⟩

theorem acc_pre {l : List Ac} {k : Nat} (hd : Dec l k) (h : accB l k = true) : nameB (el l k).code = true ∧ inB (el l k).kind 1 5 = true ∧ inB (el l k).parent (-1) ((k : Int) - 1) = true := by
  have hp := acc_par h hd
  unfold accB at h
  simp only [Bool.and_eq_true] at h
  unfold par at hp
  exact ⟨h.1.1.1, h.1.1.2, inB_mk (by omega)⟩
set_option maxRecDepth 100000 in
set_option maxHeartbeats 1000000 in
theorem spec_ChartOk_c {S : Nat → Prop} (A : Option Addr) (c : Nat) (l : List Ac) (w : World) (hr : Sl cAc w S A l) :
    Calls Try.prog 240 #[.slice A l.length c] w fun e w' => e = .returned (.bool (chartB l)) ∧ Below w.heap.size w w' := by
  have hl := hr.1
  cases hb : inB l.length 1 120
  · have hno := Lib.hid (chartB_len hb)
    go_enter Try.func240, Try.ntmps240
    go_wp2_with (go_at_call 81; refine (l1In_c _ _ _ _).mono ?_; rintro e w' ⟨rfl, rfl⟩)
    go_ret
    exact ⟨ret_b hno.out.symm, Below.refl _ _⟩
  have hyes := Lib.hid (fun ha => chartB_yes hb ha)
  go_enter Try.func240, Try.ntmps240
  go_wp2_with (go_at_call 81; refine (l1In_c _ _ _ _).mono ?_; rintro e w' ⟨rfl, rfl⟩)
  go_loopw [3] (fun i wr => ∃ k : Nat, k ≤ l.length ∧ i = .int .i64 k ∧ (∀ j, j < k → accB l j = true) ∧ Below w.heap.size w wr) (fun i _ => l.length - (intOf i).toNat)
  case atStart => exact ⟨0, Nat.zero_le _, rfl, fun j hj => absurd hj (Nat.not_lt_zero j), Below.refl _ _⟩
  case round =>
    obtain ⟨wo, rfl⟩ : ∃ wo : World, wo = wr := ⟨_, rfl⟩
    obtain ⟨k, hk, rfl, hall, hB⟩ := hrel
    have HA := Lib.hid hall
    clear hall hb
    by_cases hlt : k < l.length
    · have hd := accs_dec k HA.out
      obtain ⟨ad, rfl, h0, h1, h2, hz⟩ := at_Ac (hr.below (by decide) hB) k hlt
      have hno : accB l k = false → Hid (chartB l = false) := fun h => Lib.hid (chartB_no hlt h)
      cases hn : nameB (el l k).code
      · have hno := hno (by unfold accB; simp [hn])
        go_wp2_with (go_at_call 183; refine (spec_NameOk_c _ _ hz).mono ?_; rintro e w' ⟨rfl, rfl⟩)
        go_ret
        exact ⟨ret_b hno.out.symm, hB.alloc hB.size _⟩
      cases hki : inB (el l k).kind 1 5
      · have hno := hno (by unfold accB; simp [hki])
        go_wp2_with (first | (go_at_call 183; refine (spec_NameOk_c _ _ hz).mono ?_; rintro e w' ⟨rfl, rfl⟩) | (go_at_call 81; refine (l1In_c _ _ _ _).mono ?_; rintro e w' ⟨rfl, rfl⟩))
        go_ret
        exact ⟨ret_b hno.out.symm, hB.alloc hB.size _⟩
      cases hpa : inB (el l k).parent (-1) ((k : Int) - 1)
      · have hno := hno (by
          cases h : accB l k
          · rfl
          · have := (acc_pre hd h).2.2
            rw [hpa] at this
            cases this)
        go_wp2_with (first | (go_at_call 183; refine (spec_NameOk_c _ _ hz).mono ?_; rintro e w' ⟨rfl, rfl⟩) | (go_at_call 81; refine (l1In_c _ _ _ _).mono ?_; rintro e w' ⟨rfl, rfl⟩))
        go_ret
        exact ⟨ret_b hno.out.symm, hB.alloc hB.size _⟩
      have HD := Lib.hid hd
      have HB2 := Lib.hid (hB.alloc hB.size (.cells #[.string (el l k).code, .int .i64 (el l k).parent, .int .i64 (el l k).kind] 115))
      clear hd
      go_wp2_with (first | (go_at_call 183; refine (spec_NameOk_c _ _ hz).mono ?_; rintro e w' ⟨rfl, rfl⟩) | (go_at_call 81; refine (l1In_c _ _ _ _).mono ?_; rintro e w' ⟨rfl, rfl⟩))
      go_loopw [5] (fun v wq => ∃ j : Nat, j ≤ k ∧ v = .int .i64 j ∧ (∀ i, i < j → sameT (el l i).code (el l k).code = false) ∧ Below w.heap.size w wq ∧ wq.heap[wo.heap.size]? = some (.cells #[.string (el l k).code, .int .i64 (el l k).parent, .int .i64 (el l k).kind] 115 (0, 0))) (fun v _ => k - (intOf v).toNat)
      case atStart => exact ⟨0, Nat.zero_le _, rfl, fun j hj => absurd hj (Nat.not_lt_zero j), HB2.out, heap_alloc_new _ _⟩
      case round =>
        obtain ⟨j, hj, rfl, hne, hB3, hx⟩ := hrel
        have HNE := Lib.hid hne
        have HX := Lib.hid hx
        clear hne hx
        by_cases hjk : j < k
        · obtain ⟨ad', he, j0, -⟩ := at_Ac (hr.below (by decide) hB3) j (by omega)
          cases he
          have i0 : (0 : Int) ≤ (j : Int) := Int.natCast_nonneg j
          have i1 : (j : Int) < (l.length : Int) := by omega
          have b0 := (box_cell HX.out 0).trans rfl
          cases hs : ((el l j).code.toList == (el l k).code.toList)
          all_goals
            go_wp2
            go_quiet (fail)
            go_wp2
          · go_roundw
            case rel =>
              refine ⟨j + 1, by omega, by go_num, fun i hi => ?_, below_drewN hB3 _, HX.out⟩
              by_cases e : i = j
              · subst e; exact hs
              · exact HNE.out i (by omega)
            case measure => simp [intOf]; omega
          · have hno := hno (by
              unfold accB
              rw [Bool.and_eq_false_iff, Bool.and_eq_false_iff]
              left; right
              rw [List.all_eq_false]
              exact ⟨j, List.mem_range.2 hjk, by simp [sameT, hs]⟩)
            go_ret
            exact ⟨ret_b hno.out.symm, below_drewN hB3 _⟩
        · have e : j = k := by omega
          subst e
          have b1 := (box_cell HX.out 1).trans rfl
          have b2 := (box_cell HX.out 2).trans rfl
          have hall : (List.range j).all (fun i => !sameT (el l i).code (el l j).code) = true := by
            rw [List.all_eq_true]
            exact fun i hi => by rw [HNE.out i (List.mem_range.1 hi)]; rfl
          have hrange := inB_t hpa
          have HAc : accB l j = (decide (par l j = -1) || (decide (0 ≤ path l (par l j) ((j : Int) - 1)) && decide ((el l (path l (par l j) ((j : Int) - 1)).toNat).kind = (el l j).kind) && decide (deep l j ≤ 8))) := by
            unfold accB
            rw [hn, hki, hall, Bool.true_and, Bool.true_and, Bool.true_and]
          have HAC := Lib.hid HAc
          clear HAc hall hn hki hpa hjk
          by_cases hneg : (el l j).parent < 0
          · have hm1 : par l j = -1 := by unfold par; omega
            have HM := Lib.hid hm1
            clear hm1
            go_wp2
            go_roundw
            case rel =>
              refine ⟨j + 1, by omega, by go_num, fun i hi => ?_, hB3⟩
              by_cases e : i = j
              · subst e
                rw [HAC.out, HM.out]
                simp
              · exact HA.out i (by omega)
            case measure => simp [intOf]; omega
          · go_wp2
            go_loopw [6] (fun v wq => ∃ on : Int, -1 ≤ on ∧ on < j ∧ v = .int .i64 on ∧ path l (par l j) on = path l (par l j) ((j : Int) - 1) ∧ Below w.heap.size w wq ∧ wq.heap[wo.heap.size]? = some (.cells #[.string (el l j).code, .int .i64 (el l j).parent, .int .i64 (el l j).kind] 115 (0, 0))) (fun v _ => (intOf v + 1).toNat)
            case atStart => exact ⟨(j : Int) - 1, by omega, by omega, rfl, rfl, hB3, HX.out⟩
            case round =>
              obtain ⟨on, on1, on2, rfl, hpath, hB4, hx⟩ := hrel
              have HX := Lib.hid hx
              have HPa := Lib.hid hpath
              clear hx hpath
              have b1 := (box_cell HX.out 1).trans rfl
              have b2 := (box_cell HX.out 2).trans rfl
              by_cases hgo : 0 ≤ on ∧ on ≠ (el l j).parent
              · obtain ⟨g0, g1⟩ := hgo
                obtain ⟨o, rfl⟩ := Int.eq_ofNat_of_zero_le g0
                obtain ⟨ad', he, -, j1, -⟩ := at_Ac (hr.below (by decide) hB4) o (by omega)
                cases he
                have i1 : ((o : Int) != (el l j).parent) = true := by rw [bne_iff_ne]; exact g1
                have i2 : ((o : Int) == (el l j).parent) = false := beq_eq_false_iff_ne.2 g1
                have hdo := accs_dec j HA.out o (by omega)
                have hacc := HA.out o (by omega)
                have hpo := acc_par hacc (HD.out.less (by omega))
                have hp2 : -1 ≤ (el l o).parent ∧ (el l o).parent < o := by unfold par at hpo hdo; omega
                clear hdo hacc hpo
                go_wp2
                go_roundw
                case rel =>
                  refine ⟨(el l o).parent, by omega, by omega, rfl, ?_, hB4, HX.out⟩
                  rw [← HPa.out]
                  exact (path_step (p := par l j) HD.out ⟨g0, g1⟩ on2).symm
                case measure => simp [intOf]; omega
              · by_cases hm : on < 0
                · have d0 : decide (on < 0) = true := decide_eq_true hm
                  have d1 : decide (0 ≤ on) = false := decide_eq_false (by omega)
                  have hno := hno (by
                    rw [HAC.out, ← HPa.out, path_stop (by omega)]
                    have h1 : ¬ par l j = -1 := by unfold par; omega
                    simp [h1]
                    omega)
                  go_wp2
                  go_quiet (fail)
                  go_wp2
                  go_ret
                  exact ⟨ret_b hno.out.symm, below_drewN hB4 _⟩
                · have he : on = (el l j).parent := by omega
                  have hpe : path l (par l j) ((j : Int) - 1) = par l j := by rw [← HPa.out, path_stop (by unfold par; omega)]; exact he
                  subst he
                  have hdj : Dec l (j + 1) := fun i hi => by
                    by_cases e : i = j
                    · subst e; unfold par; omega
                    · exact HD.out i (by omega)
                  have HDJ := Lib.hid hdj
                  have HPE := Lib.hid hpe
                  clear hpe hdj
                  obtain ⟨ad', he, -, -, j2, -⟩ := at_Ac (hr.below (by decide) hB4) (el l j).parent.toNat (by omega)
                  cases he
                  have i0 : decide ((el l j).parent < 0) = false := decide_eq_false hm
                  have i1 : (el l j).parent < (l.length : Int) := by omega
                  have i2 : 0 ≤ (el l j).parent := by omega
                  have hacc : accB l j = (decide ((el l (el l j).parent.toNat).kind = (el l j).kind) && decide (deep l j ≤ 8)) := by
                    rw [HAC.out, HPE.out, show decide (par l j = -1) = false from decide_eq_false (by unfold par; omega), Bool.false_or, show decide (0 ≤ par l j) = true from decide_eq_true i2, Bool.true_and]
                    rfl
                  have HACC := Lib.hid hacc
                  clear hacc
                  by_cases hkk : (el l (el l j).parent.toNat).kind = (el l j).kind
                  · have k1 : ((el l (el l j).parent.toNat).kind == (el l j).kind) = true := beq_iff_eq.2 hkk
                    have k2 : ((el l (el l j).parent.toNat).kind != (el l j).kind) = false := by rw [bne_eq_false_iff_eq]; exact hkk
                    have hac2 : accB l j = decide (deep l j ≤ 8) := by rw [HACC.out, hkk]; simp
                    have HAC2 := Lib.hid hac2
                    clear hkk hac2
                    by_cases h8 : 8 < deep l j
                    · have d8 : decide ((8 : Int) < (deep l j : Int)) = true := decide_eq_true (by omega)
                      have hno := hno (by rw [HAC2.out]; exact decide_eq_false (by omega))
                      go_wp2
                      go_quiet ((go_at_call 242; exact quiet_left (l4Deep_c _ _ _ j _ (hr.below (by decide) (below_drewN hB4 _)) hlt HDJ.out)))
                      go_wp2
                      go_ret
                      exact ⟨ret_b hno.out.symm, below_drewN hB4 _⟩
                    · have d8 : decide ((8 : Int) < (deep l j : Int)) = false := decide_eq_false (by omega)
                      go_wp2
                      go_quiet ((go_at_call 242; exact quiet_left (l4Deep_c _ _ _ j _ (hr.below (by decide) (below_drewN hB4 _)) hlt HDJ.out)))
                      go_wp2
                      go_roundw
                      case rel =>
                        refine ⟨j + 1, by omega, by go_num, fun i hi => ?_, below_drewN hB4 _⟩
                        by_cases e : i = j
                        · subst e
                          rw [HAC2.out]
                          exact decide_eq_true (by omega)
                        · exact HA.out i (by omega)
                      case measure => simp [intOf]; omega
                  · have k1 : ((el l (el l j).parent.toNat).kind == (el l j).kind) = false := beq_eq_false_iff_ne.2 hkk
                    have k2 : ((el l (el l j).parent.toNat).kind != (el l j).kind) = true := by rw [bne_iff_ne]; exact hkk
                    have hno := hno (by rw [HACC.out]; simp [hkk])
                    clear hkk
                    go_wp2
                    go_quiet (fail)
                    go_wp2
                    go_ret
                    exact ⟨ret_b hno.out.symm, below_drewN hB4 _⟩
    · have e : k = l.length := by omega
      subst e
      go_wp2
      go_ret
      exact ⟨ret_b (hyes.out HA.out).symm, hB⟩
end Go.Proofs.Ythgnfpbbhiegfaa
