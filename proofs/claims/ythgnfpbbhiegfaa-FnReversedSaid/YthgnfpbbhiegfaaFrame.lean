/- The walks of the functions on frames and lines of entries (the reference's). -/
import Derived.Test.YthgnfpbbhiegfaaChart
namespace Go.Proofs.Ythgnfpbbhiegfaa
open Go.RowKit

def leafB (l : List Ac) (i : Int) : Bool := chartB l && inB i 0 ((l.length : Int) - 1) && (List.range l.length).all (fun k => decide (par l k ≠ i))
set_option maxHeartbeats 400000 in
theorem spec_Leaf_c {S : Nat → Prop} (A : Option Addr) (c : Nat) (l : List Ac) (i : Int) (w : World) (hr : Sl cAc w S A l) :
    Calls Try.prog 165 #[.slice A l.length c, .int .i64 i] w fun e w' => e = .returned (.bool (leafB l i)) ∧ Below w.heap.size w w' := by
  have hl := hr.1
  cases hc : chartB l
  · have hz : leafB l i = false := by unfold leafB; rw [hc]; rfl
    go_enter Try.func165, Try.ntmps165
    go_wp2_with (go_at_call 240; refine (spec_ChartOk_c _ _ _ _ hr.to).mono ?_; rintro e w1 ⟨rfl, hb1⟩)
    go_ret
    exact ⟨ret_b hz.symm, hb1⟩
  have hlen := (chartB_t hc).1
  have hlen2 := (chartB_t hc).2.1
  cases hi : inB i 0 ((l.length : Int) - 1)
  · have hz : leafB l i = false := by unfold leafB; rw [hc, hi]; rfl
    go_enter Try.func165, Try.ntmps165
    go_wp2_with (first | (go_at_call 240; refine (spec_ChartOk_c _ _ _ _ hr.to).mono ?_; rintro e w1 ⟨rfl, hb1⟩) | (go_at_call 81; refine (l1In_c _ _ _ _).mono ?_; rintro e w' ⟨rfl, rfl⟩))
    go_ret
    exact ⟨ret_b hz.symm, hb1⟩
  have hz : leafB l i = (List.range l.length).all (fun k => decide (par l k ≠ i)) := by unfold leafB; rw [hc, hi]; rfl
  have HZ := Lib.hid hz
  clear hz
  go_enter Try.func165, Try.ntmps165
  go_wp2_with (first | (go_at_call 240; refine (spec_ChartOk_c _ _ _ _ hr.to).mono ?_; rintro e w1 ⟨rfl, hb1⟩) | (go_at_call 81; refine (l1In_c _ _ _ _).mono ?_; rintro e w' ⟨rfl, rfl⟩))
  have b1 : Bel w w1 := Bel.step hb1
  go_loop [5] (fun v => ∃ k : Nat, k ≤ l.length ∧ v = .int .i64 k ∧ ∀ j, j < k → par l j ≠ i) (fun v => l.length - (intOf v).toNat)
  case atStart => exact ⟨0, Nat.zero_le _, rfl, fun j hj => absurd hj (Nat.not_lt_zero j)⟩
  case round =>
    obtain ⟨k, hk, rfl, hne⟩ := hrel
    have HN := Lib.hid hne
    clear hne
    by_cases hlt : k < l.length
    · obtain ⟨ad, rfl, -, h1, -⟩ := at_Ac (hr.to (w1 := w1)) k hlt
      by_cases he : (el l k).parent = i
      · have e1 : ((el l k).parent == i) = true := beq_iff_eq.2 he
        have hno : (List.range l.length).all (fun k => decide (par l k ≠ i)) = false := by
          rw [List.all_eq_false]
          exact ⟨k, List.mem_range.2 hlt, by simp [par, he]⟩
        have HO := Lib.hid hno
        clear hno he
        go_wp2
        go_ret
        exact ⟨ret_b (HZ.out.trans HO.out).symm, hb1⟩
      · have e1 : ((el l k).parent == i) = false := beq_eq_false_iff_ne.2 he
        go_wp2
        go_round
        case rel =>
          refine ⟨k + 1, by omega, by go_num, fun j hj => ?_⟩
          by_cases e : j = k
          · subst e; exact he
          · exact HN.out j (by omega)
        case measure => simp [intOf]; omega
    · have e : k = l.length := by omega
      subst e
      go_wp2
      go_ret
      refine ⟨ret_b (HZ.out.trans ?_).symm, hb1⟩
      rw [List.all_eq_true]
      exact fun j hj => decide_eq_true (HN.out j (List.mem_range.1 hj))

def frameB (f : Fr) : Bool := chartB f.chart && inB f.dims 1 20 && inB f.curs 1 20
theorem spec_FrameOk_c {S : Nat → Prop} (A : Option Addr) (c : Nat) (f : Fr) (w : World) (hr : Sl cAc w S A f.chart) :
    Calls Try.prog 176 #[.agg #[.slice A f.chart.length c, .int .i64 f.dims, .int .i64 f.curs]] w fun e w' => e = .returned (.bool (frameB f)) ∧ Below w.heap.size w w' := by
  go_enter Try.func176, Try.ntmps176
  go_wp2_with (first | (go_at_call 240; refine (spec_ChartOk_c _ _ _ _ hr.to).mono ?_; rintro e w1 ⟨rfl, hb1⟩; obtain ⟨hc1, hf1⟩ := bcell hb1; have b1 : Bel w w1 := Bel.step hb1) | (go_at_call 81; refine (l1In_c _ _ _ _).mono ?_; rintro e w' ⟨rfl, rfl⟩))
  all_goals
    go_ret
    exact ⟨ret_b (by simp [frameB, *]), b1.out⟩
end Go.Proofs.Ythgnfpbbhiegfaa
