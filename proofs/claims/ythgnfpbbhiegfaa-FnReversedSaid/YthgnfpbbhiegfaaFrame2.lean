/- The walks of the functions on frames and leaves (the program's). -/
import Derived.Test.YthgnfpbbhiegfaaFrame
import Derived.Test.YthgnfpbbhiegfaaDepths
namespace Go.Proofs.Ythgnfpbbhiegfaa
open Go.RowKit
theorem impl_ChartOk_c {S : Nat → Prop} (A : Option Addr) (c : Nat) (l : List Ac) (w : World) (hr : Sl cAc w S A l) :
    Calls Try.prog 245 #[.slice A l.length c] w fun e w' => e = .returned (.bool (chartB l)) ∧ Below w.heap.size w w' := by
  go_enter Try.func245, Try.ntmps245
  go_wp2_with (go_at_call 266; refine (impl_depths_c _ _ _ _ hr.to).mono ?_; rintro e w1 ⟨⟨v, rfl⟩, hb1⟩)
  go_ret
  exact ⟨rfl, hb1⟩
theorem impl_FrameOk_c {S : Nat → Prop} (A : Option Addr) (c : Nat) (f : Fr) (w : World) (hr : Sl cAc w S A f.chart) :
    Calls Try.prog 173 #[.agg #[.slice A f.chart.length c, .int .i64 f.dims, .int .i64 f.curs]] w fun e w' => e = .returned (.bool (frameB f)) ∧ Below w.heap.size w w' := by
  go_enter Try.func173, Try.ntmps173
  go_wp2_with (first | (go_at_call 245; refine (impl_ChartOk_c _ _ _ _ hr.to).mono ?_; rintro e w1 ⟨rfl, hb1⟩; obtain ⟨hc1, hf1⟩ := bcell hb1; have b1 : Bel w w1 := Bel.step hb1) | (go_at_call 175; refine (between_c _ _ _ _).mono ?_; rintro e w' ⟨rfl, rfl⟩))
  all_goals
    go_ret
    first
      | exact ⟨ret_b (by simp [frameB, *]), b1.out⟩
      | exact ⟨ret_b (by simp [frameB, *]), Bel.out⟩
/-- A leaf, by the account behind it. -/
def leafAtB (l : List Ac) (i : Int) : Bool := decide (0 ≤ i) && decide (i < l.length) && (decide (i + 1 = l.length) || decide (par l (i.toNat + 1) ≠ i))
theorem path_last {l : List Ac} {p : Int} {i : Nat} (h : Dec l i) (h0 : 0 ≤ p) : ∀ (n : Nat) (on : Int), on.toNat < n → on < i → 0 ≤ on → on ≠ p → path l p on = p → ∃ m : Nat, (m : Int) ≤ on ∧ par l m = p
  | 0, _, hn, _, _, _, _ => by omega
  | n + 1, on, hn, hi, h1, hne, hp => by
    have hd := h on.toNat (by omega)
    by_cases e : par l on.toNat = p
    · exact ⟨on.toNat, by omega, e⟩
    · rw [path_step h ⟨h1, hne⟩ hi] at hp
      by_cases h2 : 0 ≤ par l on.toNat
      · obtain ⟨m, hm, hpm⟩ := path_last h h0 n (par l on.toNat) (by omega) (by omega) h2 e hp
        exact ⟨m, by omega, hpm⟩
      · rw [path_stop (by omega)] at hp
        omega
theorem par_next {l : List Ac} (ha : ∀ j, j < l.length → accB l j = true) {i : Nat} : ∀ (n j : Nat), j < n → j < l.length → par l j = i → par l (i + 1) = i ∧ i + 1 < l.length
  | 0, _, hn, _, _ => by omega
  | n + 1, j, hn, hj, hp => by
    have hdec := accs_dec l.length ha
    have hd := hdec j hj
    by_cases e : j = i + 1
    · subst e; exact ⟨hp, hj⟩
    · rcases acc_par (ha j hj) (hdec.less (by omega)) with h1 | ⟨h1, h2, h3⟩
      · omega
      · rw [hp] at h3
        obtain ⟨m, hm, hpm⟩ := path_last (hdec.less (show j ≤ l.length by omega)) (show (0 : Int) ≤ i by omega) j ((j : Int) - 1) (by omega) (by omega) (by omega) (by omega) h3
        exact par_next ha n m (by omega) (by omega) hpm
theorem leafAt_eq {l : List Ac} (h : chartB l = true) (i : Int) : leafAtB l i = leafB l i := by
  obtain ⟨h1, h2, ha, hdec⟩ := chartB_t h
  unfold leafAtB leafB
  rw [h, Bool.true_and]
  by_cases hr : 0 ≤ i ∧ i < l.length
  · obtain ⟨r0, r1⟩ := hr
    have e1 : inB i 0 ((l.length : Int) - 1) = true := inB_mk (by omega)
    rw [e1, decide_eq_true r0, decide_eq_true r1]
    simp only [Bool.true_and]
    obtain ⟨k, rfl⟩ := Int.eq_ofNat_of_zero_le r0
    rw [Bool.eq_iff_iff, List.all_eq_true, Bool.or_eq_true, decide_eq_true_eq, decide_eq_true_eq]
    rw [Int.toNat_natCast]
    constructor
    · intro hh j hj
      rw [decide_eq_true_eq]
      intro hp
      have := par_next ha (j + 1) j (by omega) (List.mem_range.1 hj) hp
      rcases hh with hh | hh
      · omega
      · exact hh this.1
    · intro hh
      by_cases e : (k : Int) + 1 = l.length
      · exact .inl e
      · exact .inr (by simpa using hh (k + 1) (List.mem_range.2 (by omega)))
  · have e1 : inB i 0 ((l.length : Int) - 1) = false := by
      cases hb : inB i 0 ((l.length : Int) - 1)
      · rfl
      · have := inB_t hb; omega
    have e2 : (decide (0 ≤ i) && decide (i < (l.length : Int))) = false := by
      rw [Bool.and_eq_false_iff, decide_eq_false_iff_not, decide_eq_false_iff_not]
      omega
    rw [e1, e2, Bool.false_and, Bool.false_and]
set_option maxHeartbeats 400000 in
theorem leafAt_c {S : Nat → Prop} (A : Option Addr) (c : Nat) (l : List Ac) (i : Int) (w : World) (hr : Sl cAc w S A l) :
    Calls Try.prog 177 #[.slice A l.length c, .int .i64 i] w fun e w' => e = .returned (.bool (leafAtB l i)) ∧ w = w' := by
  have hl := hr.1
  have HL := Lib.hid (show leafAtB l i = (decide (0 ≤ i) && decide (i < l.length) && (decide (i + 1 = l.length) || decide (par l (i.toNat + 1) ≠ i))) from rfl)
  by_cases h0 : 0 ≤ i
  · by_cases h1 : i < l.length
    · obtain ⟨k, rfl⟩ := Int.eq_ofNat_of_zero_le h0
      have e0 : IntKind.i64.wrap ((k : Int) + 1) = (k : Int) + 1 := IntWalk.i64_in _ (by omega)
      by_cases h2 : (k : Int) + 1 = l.length
      · have e2 : ((k : Int) + 1 == (l.length : Int)) = true := beq_iff_eq.2 h2
        have hv := Lib.hid (show leafAtB l (k : Int) = true by rw [HL.out]; simp [h0, h1, h2])
        clear h2
        go_enter Try.func177, Try.ntmps177
        go_wp2
        go_ret
        exact ⟨ret_b hv.out.symm, rfl⟩
      · have e2 : ((k : Int) + 1 == (l.length : Int)) = false := beq_eq_false_iff_ne.2 h2
        have i1 : (0 : Int) ≤ (k : Int) + 1 := by omega
        have i2 : (k : Int) + 1 < (l.length : Int) := by omega
        have i3 : ((k : Int) + 1).toNat = k + 1 := by omega
        obtain ⟨ad, rfl, -, l1, -⟩ := at_Ac hr (k + 1) (by omega)
        by_cases h3 : (el l (k + 1)).parent = k
        all_goals
          first
            | (have e3 : ((el l (k + 1)).parent != (k : Int)) = false := by rw [bne_eq_false_iff_eq]; exact h3)
            | (have e3 : ((el l (k + 1)).parent != (k : Int)) = true := by rw [bne_iff_ne]; exact h3)
          have hv := Lib.hid (show leafAtB l (k : Int) = ((el l (k + 1)).parent != (k : Int)) by rw [HL.out, e3]; simp [h0, h1, h2, par, h3])
          clear h3 h2
          go_enter Try.func177, Try.ntmps177
          go_wp2
          go_ret
          exact ⟨ret_b (by rw [hv.out, e3]), rfl⟩
    · have hv := Lib.hid (show leafAtB l i = false by rw [HL.out]; simp [h1])
      go_enter Try.func177, Try.ntmps177
      go_wp2
      go_ret
      exact ⟨ret_b hv.out.symm, rfl⟩
  · have hv := Lib.hid (show leafAtB l i = false by rw [HL.out]; simp [h0])
    go_enter Try.func177, Try.ntmps177
    go_wp2
    go_ret
    exact ⟨ret_b hv.out.symm, rfl⟩
end Go.Proofs.Ythgnfpbbhiegfaa
