/- The walks of the functions on entries (the reference's). -/
import Derived.Test.YthgnfpbbhiegfaaEntryP
import Derived.StillTailTactics
namespace Go.Proofs.Ythgnfpbbhiegfaa
open Go.RowKit

set_option maxHeartbeats 1000000 in
theorem l5LineOk_c {S : Nat → Prop} (A : Option Addr) (c : Nat) (f : Fr) (x : Ln) (w : World) (hr : Sl cAc w S A f.chart) (hf : frameB f = true) :
    Calls Try.prog 227 #[.agg #[.slice A f.chart.length c, .int .i64 f.dims, .int .i64 f.curs], .agg #[.int .i64 x.account, .int .i64 x.dim, .int .i64 x.cur, .int .i64 x.amount, .int .i64 x.base]] w fun e w' => e = .returned (.bool (lineB f x)) ∧ Below w.heap.size w w' := by
  have hl := hr.1
  obtain ⟨-, ⟨d1, d2⟩, c1, c2⟩ := frameB_t hf
  clear hf
  have key : ∀ b1 b2 b3 b4 b5 b6 : Bool, ∀ r : Bool, inB x.account 0 ((f.chart.length : Int) - 1) = b1 → leafB f.chart x.account = b2 → inB x.dim 0 (f.dims - 1) = b3 → inB x.cur 0 (f.curs - 1) = b4 → amB x.amount = b5 → amB x.base = b6 → (b1 && b2 && b3 && b4 && b5 && b6 && (decide (x.cur ≠ 0) || decide (x.amount = x.base))) = r → lineB f x = r := by
    rintro _ _ _ _ _ _ _ rfl rfl rfl rfl rfl rfl rfl
    rfl
  have KEY := Lib.hid key
  clear key
  go_enter Try.func227, Try.ntmps227
  go_wp2_with (first | (go_at_call 81; refine (l1In_c _ _ _ _).mono ?_; rintro e w' ⟨rfl, rfl⟩) | (go_at_call 122; refine (l1Amount_c _ _).mono ?_; rintro e w' ⟨rfl, rfl⟩) | (go_at_call 165; refine (spec_Leaf_c _ _ _ _ _ hr.to).mono ?_; rintro e w1 ⟨rfl, hb1⟩; obtain ⟨hc1, hf1⟩ := bcell hb1; have b1 : Bel w w1 := Bel.step hb1))
  all_goals
    go_ret
    refine ⟨ret_b (KEY.out _ _ _ _ _ _ _ rfl rfl rfl rfl rfl rfl ?_).symm, Bel.out⟩
    simp [*]
    try (rw [Bool.eq_iff_iff]; simp; intro _; exact inB_mk (by omega))

theorem l5TextOk_c (s : ByteArray) (w : World) (hs : s.size ≤ 140737488355328) : Calls Try.prog 226 #[.string s] w fun e w' => e = .returned (.bool (textB s)) ∧ w = w' := by
  go_enter Try.func226, Try.ntmps226
  go_wp2
  go_loop [3] (fun i => ∃ k : Nat, k ≤ s.size ∧ i = .int .i64 k ∧ ∀ j, j < k → 32 ≤ bt s j) (fun i => s.size - (intOf i).toNat)
  case atStart => exact ⟨0, Nat.zero_le _, rfl, fun j hj => absurd hj (Nat.not_lt_zero j)⟩
  case round =>
    obtain ⟨k, hk, rfl, hall⟩ := hrel
    have HA := Lib.hid hall
    clear hall
    by_cases hlt : k < s.size
    · have hb := bt_eq s k hlt
      by_cases h32 : bt s k < 32
      · have hno : textB s = false := by
          unfold textB
          rw [Bool.and_eq_false_iff]
          left
          rw [List.all_eq_false]
          exact ⟨k, List.mem_range.2 hlt, by simp; omega⟩
        have HNO := Lib.hid hno
        clear hno
        go_wp2
        go_ret
        exact ⟨ret_b HNO.out.symm, rfl⟩
      · go_wp2
        go_round
        case rel =>
          refine ⟨k + 1, by omega, by go_num, fun j hj => ?_⟩
          by_cases e : j = k
          · subst e; omega
          · exact HA.out j (by omega)
        case measure => simp [intOf]; omega
    · have e : k = s.size := by omega
      subst e
      have hyes : textB s = decide (s.size ≤ 40) := by
        unfold textB
        rw [List.all_eq_true.2 (fun k hk => decide_eq_true (HA.out k (List.mem_range.1 hk))), Bool.true_and]
      have HY := Lib.hid hyes
      clear hyes
      go_wp2
      go_ret
      exact ⟨ret_b (HY.out.trans (by simp; omega)).symm, rfl⟩

/-- What is asked of an entry ahead of its lines. -/
def preB (f : Fr) (e : En) : Bool := frameB f && dayB e.day && inB e.ref 0 1000 && textB e.text && inB e.lines.length 2 60
theorem entB_pre {f : Fr} {e : En} (h : preB f e = false) : entB f e = false := by
  unfold preB at h
  unfold entB entInB
  cases h1 : frameB f <;> cases h2 : dayB e.day <;> cases h3 : inB e.ref 0 1000 <;> cases h4 : textB e.text <;> cases h5 : inB e.lines.length 2 60 <;> simp_all
theorem entB_post {f : Fr} {e : En} (h : preB f e = true) : entB f e = ((List.range e.lines.length).all (fun k => lineB f (el e.lines k)) && (List.range e.lines.length).all (balB e.lines)) := by
  unfold preB at h
  simp only [Bool.and_eq_true] at h
  unfold entB entInB
  simp [h]
set_option maxRecDepth 100000 in
set_option maxHeartbeats 2000000 in
theorem spec_EntryOk_c {S : Nat → Prop} (A : Option Addr) (c : Nat) (f : Fr) (A3 : Option Addr) (c3 : Nat) (e : En) (w : World) (hr : Sl cAc w S A f.chart) (hs : Sl cLn w S A3 e.lines) (hz : e.text.size ≤ 140737488355328) :
    Calls Try.prog 137 #[.agg #[.slice A f.chart.length c, .int .i64 f.dims, .int .i64 f.curs], .agg #[.int .i64 e.day, .int .i64 e.ref, .string e.text, .slice A3 e.lines.length c3]] w fun r w' => r = .returned (.bool (entB f e)) ∧ Below w.heap.size w w' := by
  have hl := hs.1
  cases hp : preB f e
  · have hno := Lib.hid (entB_pre hp)
    have HP := Lib.hid hp
    clear hp
    go_enter Try.func137, Try.ntmps137
    go_wp2_with (first | (go_at_call 176; refine (spec_FrameOk_c _ _ _ _ hr.to).mono ?_; rintro e w1 ⟨rfl, hb1⟩; obtain ⟨hc1, hf1⟩ := bcell hb1; have b1 : Bel w w1 := Bel.step hb1) | (go_at_call 81; refine (l1In_c _ _ _ _).mono ?_; rintro e w' ⟨rfl, rfl⟩) | (go_at_call 82; refine (l2Day_c _ _).mono ?_; rintro e w' ⟨rfl, rfl⟩) | (go_at_call 226; refine (l5TextOk_c _ _ hz).mono ?_; rintro e w' ⟨rfl, rfl⟩))
    all_goals first
      | (go_ret; exact ⟨ret_b hno.out.symm, Bel.out⟩)
      | (exfalso
         have := HP.out
         unfold preB at this
         simp_all)
  · have hpost := Lib.hid (entB_post hp)
    unfold preB at hp
    simp only [Bool.and_eq_true] at hp
    obtain ⟨⟨⟨⟨p1, p2⟩, p3⟩, p4⟩, p5⟩ := hp
    have n1 := inB_t p5
    go_enter Try.func137, Try.ntmps137
    go_wp2_with (first | (go_at_call 176; refine (spec_FrameOk_c _ _ _ _ hr.to).mono ?_; rintro e w1 ⟨rfl, hb1⟩; obtain ⟨hc1, hf1⟩ := bcell hb1; have b1 : Bel w w1 := Bel.step hb1) | (go_at_call 81; refine (l1In_c _ _ _ _).mono ?_; rintro e w' ⟨rfl, rfl⟩) | (go_at_call 82; refine (l2Day_c _ _).mono ?_; rintro e w' ⟨rfl, rfl⟩) | (go_at_call 226; refine (l5TextOk_c _ _ hz).mono ?_; rintro e w' ⟨rfl, rfl⟩))
    have x0 : w1.heap[w.heap.size]? = some (.cells #[.slice A f.chart.length c, .int .i64 f.dims, .int .i64 f.curs] 26 (0, 0)) := box_below (new_box2a _ _ _) hb1
    have x1 : w1.heap[w.heap.size + 1]? = some (.cells #[.int .i64 e.day, .int .i64 e.ref, .string e.text, .slice A3 e.lines.length c3] 34 (0, 0)) := box_below (new_box2b _ _ _) hb1
    have X0 := Lib.hid x0
    have X1 := Lib.hid x1
    clear x0 x1 hc1 hf1 hb1
    have P1 := Lib.hid p1
    clear p1 p2 p3 p4 p5
    go_loopw [5] (fun v wq => ∃ k : Nat, k ≤ e.lines.length ∧ v = .int .i64 k ∧ (∀ j, j < k → lineB f (el e.lines j) = true) ∧ Below w.heap.size w wq ∧ wq.heap[w.heap.size]? = some (.cells #[.slice A f.chart.length c, .int .i64 f.dims, .int .i64 f.curs] 26 (0, 0)) ∧ wq.heap[w.heap.size + 1]? = some (.cells #[.int .i64 e.day, .int .i64 e.ref, .string e.text, .slice A3 e.lines.length c3] 34 (0, 0))) (fun v _ => e.lines.length - (intOf v).toNat)
    case atStart => exact ⟨0, Nat.zero_le _, rfl, fun j hj => absurd hj (Nat.not_lt_zero j), b1.out, X0.out, X1.out⟩
    case round =>
      clear X0 X1 b1
      obtain ⟨wo, rfl⟩ : ∃ wo : World, wo = wr := ⟨_, rfl⟩
      obtain ⟨k, hk, rfl, hall, hB, hx0, hx1⟩ := hrel
      have HA := Lib.hid hall
      have X0 := Lib.hid hx0
      have X1 := Lib.hid hx1
      clear hall hx0 hx1
      have bo : Bel w wo := ⟨hB⟩
      have y0 := (box_cell X0.out 0).trans rfl
      have y1 := (box_cell X0.out 1).trans rfl
      have y2 := (box_cell X0.out 2).trans rfl
      have z3 := (box_cell X1.out 3).trans rfl
      by_cases hlt : k < e.lines.length
      · obtain ⟨ad, rfl, l0, l1, l2, l3, l4⟩ := at_Ln (hs.to (w1 := wo)) k hlt
        have i0 : (0 : Int) ≤ (k : Int) := Int.natCast_nonneg k
        have i1 : (k : Int) < (e.lines.length : Int) := by omega
        go_wp2
        go_still_tail 6, (by kernel_rfl)
        go_wp2_with (go_at_call 227; refine (l5LineOk_c _ _ _ _ _ hr.to P1.out).mono ?_; rintro r w2 ⟨rfl, hb2⟩)
        · rename_i hn
          have hno : entB f e = false := by
            rw [hpost.out, Bool.and_eq_false_iff]
            left
            rw [List.all_eq_false]
            exact ⟨k, List.mem_range.2 hlt, by simpa using hn⟩
          have HNO := Lib.hid hno
          clear hno
          go_ret
          exact ⟨ret_b HNO.out.symm, below_step hB (Bel.step (w := wo) hb2).out⟩
        · rename_i hn
          go_roundw
          case rel =>
            refine ⟨k + 1, by omega, by go_num, fun j hj => ?_, below_step hB (Bel.step (w := wo) hb2).out, box_below X0.out (Bel.step (w := wo) hb2).out, box_below X1.out (Bel.step (w := wo) hb2).out⟩
            by_cases e : j = k
            · subst e; simpa using hn
            · exact HA.out j (by omega)
          case measure => simp [intOf]; omega
      · have e1 : k = e.lines.length := by omega
        have hpost2 : entB f e = (List.range e.lines.length).all (balB e.lines) := by
          rw [hpost.out, List.all_eq_true.2 (fun j hj => HA.out j (by rw [e1]; exact List.mem_range.1 hj)), Bool.true_and]
        have hlines : ∀ j, j < e.lines.length → lineB f (el e.lines j) = true := by rw [← e1]; exact HA.out
        have HP2 := Lib.hid hpost2
        have HLN := Lib.hid hlines
        clear hpost2 hlines hlt hpost
        subst e1
        go_wp2
        go_loopw [6] (fun v wq => ∃ i : Nat, i ≤ e.lines.length ∧ v = .int .i64 i ∧ (∀ j, j < i → balB e.lines j = true) ∧ Below w.heap.size w wq ∧ wq.heap[w.heap.size]? = some (.cells #[.slice A f.chart.length c, .int .i64 f.dims, .int .i64 f.curs] 26 (0, 0)) ∧ wq.heap[w.heap.size + 1]? = some (.cells #[.int .i64 e.day, .int .i64 e.ref, .string e.text, .slice A3 e.lines.length c3] 34 (0, 0))) (fun v _ => e.lines.length - (intOf v).toNat)
        case atStart => exact ⟨0, Nat.zero_le _, rfl, fun j hj => absurd hj (Nat.not_lt_zero j), hB, X0.out, X1.out⟩
        case round =>
          clear X0 X1 y0 y1 y2 z3 bo hB
          obtain ⟨wp, rfl⟩ : ∃ wp : World, wp = wr := ⟨_, rfl⟩
          obtain ⟨i, hi, rfl, hbal, hB, hx0, hx1⟩ := hrel
          have HB := Lib.hid hbal
          have X0 := Lib.hid hx0
          have X1 := Lib.hid hx1
          clear hbal hx0 hx1
          have z3 := (box_cell X1.out 3).trans rfl
          by_cases hlt : i < e.lines.length
          · go_wp2
            go_loopw [7, 8, 9] (fun v1 v2 v3 wq => ∃ k : Nat, k ≤ e.lines.length ∧ v3 = .int .i64 k ∧ v1 = .int .i64 (curSum e.lines (el e.lines i).cur k) ∧ v2 = .int .i64 (dimSum e.lines (el e.lines i).dim k) ∧ Below w.heap.size w wq ∧ wq.heap[w.heap.size]? = some (.cells #[.slice A f.chart.length c, .int .i64 f.dims, .int .i64 f.curs] 26 (0, 0)) ∧ wq.heap[w.heap.size + 1]? = some (.cells #[.int .i64 e.day, .int .i64 e.ref, .string e.text, .slice A3 e.lines.length c3] 34 (0, 0))) (fun _ _ v3 _ => e.lines.length - (intOf v3).toNat)
            case atStart => exact ⟨0, Nat.zero_le _, rfl, rfl, rfl, hB, X0.out, X1.out⟩
            case round =>
              clear X0 X1 z3 hB
              obtain ⟨k, hk, rfl, rfl, rfl, hB, hx0, hx1⟩ := hrel
              have X0 := Lib.hid hx0
              have X1 := Lib.hid hx1
              clear hx0 hx1
              have z3 := (box_cell X1.out 3).trans rfl
              by_cases hkl : k < e.lines.length
              · obtain ⟨ad, rfl, -, l1, l2, l3, l4⟩ := at_Ln (hs.below (by decide) hB) k hkl
                obtain ⟨ad', he, -, m1, m2, -, -⟩ := at_Ln (hs.below (by decide) hB) i hlt
                cases he
                have i0 : (0 : Int) ≤ (k : Int) := Int.natCast_nonneg k
                have i1 : (k : Int) < (e.lines.length : Int) := by omega
                have i2 : (0 : Int) ≤ (i : Int) := Int.natCast_nonneg i
                have i3 : (i : Int) < (e.lines.length : Int) := by omega
                have hka := lineB_t (HLN.out k hkl)
                have q1 := hka.2.2.2.2.1
                have q2 := hka.2.2.2.2.2.1
                have s1 := curSum_bd (ls := e.lines) (c := (el e.lines i).cur) k (fun j hj => (lineB_t (HLN.out j (by omega))).2.2.2.2.1)
                have s2 := dimSum_bd (ls := e.lines) (d := (el e.lines i).dim) k (fun j hj => (lineB_t (HLN.out j (by omega))).2.2.2.2.2.1)
                have t1 := curSum_succ e.lines (el e.lines i).cur k
                have t2 := dimSum_succ e.lines (el e.lines i).dim k
                have T1 := Lib.hid t1
                have T2 := Lib.hid t2
                clear t1 t2 hka
                by_cases hc : (el e.lines k).cur = (el e.lines i).cur
                all_goals
                  first
                    | (have c1 : ((el e.lines k).cur == (el e.lines i).cur) = true := beq_iff_eq.2 hc)
                    | (have c1 : ((el e.lines k).cur == (el e.lines i).cur) = false := beq_eq_false_iff_ne.2 hc)
                  have HC := Lib.hid hc
                  clear hc
                  by_cases hd : (el e.lines k).dim = (el e.lines i).dim
                  all_goals
                    first
                      | (have c2 : ((el e.lines k).dim == (el e.lines i).dim) = true := beq_iff_eq.2 hd)
                      | (have c2 : ((el e.lines k).dim == (el e.lines i).dim) = false := beq_eq_false_iff_ne.2 hd)
                    have HDm := Lib.hid hd
                    clear hd
                    go_wp2
                    go_quiet (fail)
                    go_wp2
                    go_quiet (fail)
                    go_wp2
                    go_roundw
                    case rel =>
                      have hc := HC.out
                      have hd := HDm.out
                      have t1 := T1.out
                      have t2 := T2.out
                      simp only [hc, hd, if_true, if_false] at t1 t2
                      exact ⟨k + 1, by omega, by go_num, by rw [t1]; try simp, by rw [t2]; try simp, below_drewN hB _, X0.out, X1.out⟩
                    case measure => simp [intOf]; omega
              · have ek : k = e.lines.length := by omega
                subst ek
                have hbi : balB e.lines i = (decide (curSum e.lines (el e.lines i).cur e.lines.length = 0) && decide (dimSum e.lines (el e.lines i).dim e.lines.length = 0)) := rfl
                have HBI := Lib.hid hbi
                clear hbi
                have hno : balB e.lines i = false → entB f e = false := fun h => by
                  rw [HP2.out, List.all_eq_false]
                  exact ⟨i, List.mem_range.2 hlt, by simp [h]⟩
                have HNO := Lib.hid hno
                clear hno
                by_cases h1 : curSum e.lines (el e.lines i).cur e.lines.length = 0
                · have c1 : (curSum e.lines (el e.lines i).cur e.lines.length != 0) = false := by rw [bne_eq_false_iff_eq]; exact h1
                  have H1 := Lib.hid h1
                  clear h1
                  by_cases h2 : dimSum e.lines (el e.lines i).dim e.lines.length = 0
                  · have c2 : (dimSum e.lines (el e.lines i).dim e.lines.length != 0) = false := by rw [bne_eq_false_iff_eq]; exact h2
                    have H2 := Lib.hid h2
                    clear h2
                    go_wp2
                    go_roundw
                    case rel =>
                      refine ⟨i + 1, by omega, by go_num, fun j hj => ?_, hB, X0.out, X1.out⟩
                      by_cases e : j = i
                      · subst e
                        rw [HBI.out, H1.out, H2.out]
                        rfl
                      · exact HB.out j (by omega)
                    case measure => simp [intOf]; omega
                  · have c2 : (dimSum e.lines (el e.lines i).dim e.lines.length != 0) = true := by rw [bne_iff_ne]; exact h2
                    have hno := Lib.hid (HNO.out (by rw [HBI.out]; simp [h2]))
                    clear h2
                    go_wp2
                    go_ret
                    exact ⟨ret_b hno.out.symm, hB⟩
                · have c1 : (curSum e.lines (el e.lines i).cur e.lines.length != 0) = true := by rw [bne_iff_ne]; exact h1
                  have hno := Lib.hid (HNO.out (by rw [HBI.out]; simp [h1]))
                  clear h1
                  go_wp2
                  go_ret
                  exact ⟨ret_b hno.out.symm, hB⟩
          · have e1 : i = e.lines.length := by omega
            subst e1
            have hyes : entB f e = true := by
              rw [HP2.out, List.all_eq_true]
              exact fun j hj => HB.out j (List.mem_range.1 hj)
            have HY := Lib.hid hyes
            clear hyes
            go_wp2
            go_ret
            exact ⟨ret_b HY.out.symm, hB⟩
end Go.Proofs.Ythgnfpbbhiegfaa
