/- The walks of the functions that chain entries (the reference's). -/
import Derived.Test.YthgnfpbbhiegfaaHeadP
import Derived.Test.YthgnfpbbhiegfaaOwn
import Derived.StillTailTactics
namespace Go.Proofs.Ythgnfpbbhiegfaa
open Go.RowKit
theorem infoInt : (Try.prog.info? 3).map (fun i => (i.zero, i.size, i.bytes)) = some (some (.int .i64 0), 1, 8) := by kernel_rfl
set_option maxRecDepth 100000 in
set_option maxHeartbeats 1000000 in
theorem l5Numbers_c {S : Nat → Prop} (A3 : Option Addr) (c3 : Nat) (e : En) (w : World) (hs : Sl cLn w S A3 e.lines) (hz : e.text.size ≤ 140737488355328) (h60 : e.lines.length ≤ 60) (h40 : e.text.size ≤ 40) :
    Calls Try.prog 243 #[.agg #[.int .i64 e.day, .int .i64 e.ref, .string e.text, .slice A3 e.lines.length c3]] w fun r w' => ∃ v, r = .returned v ∧ Own cInt 3 w' w.heap.size v (numsOf e) ∧ Below w.heap.size w w' := by
  go_enter Try.func243, Try.ntmps243
  go_wp2_with (fail)
  obtain ⟨W0, hW0, hsz, hbx, b0⟩ : ∃ W0 : World, W0 = w.alloc (.cells #[.int .i64 e.day, .int .i64 e.ref, .string e.text, .slice A3 e.lines.length c3] 34) ∧ W0.heap.size = w.heap.size + 1 ∧ W0.heap[w.heap.size]? = some (.cells #[.int .i64 e.day, .int .i64 e.ref, .string e.text, .slice A3 e.lines.length c3] 34) ∧ Bel w W0 := ⟨_, rfl, by simp, heap_alloc_new _ _, inferInstance⟩
  rw [← hW0, ← hsz]
  clear hW0
  have X := Lib.hid hbx
  have HSZ := Lib.hid hsz
  clear hbx hsz
  have O0 := Lib.hid (Own.lit (c := cInt) (e := 3) (base := W0.heap.size) (w := W0) (xs := [e.day, e.ref, (e.text.size : Int)]) _ (Nat.le_refl _) (by simp) (reps_ints _))
  go_loopw [3, 4] (fun v i wq => ∃ k : Nat, k ≤ e.text.size ∧ i = .int .i64 k ∧ Own cInt 3 wq W0.heap.size v ([e.day, e.ref, (e.text.size : Int)] ++ bytesTo e.text k) ∧ Below W0.heap.size W0 wq) (fun _ i _ => e.text.size - (intOf i).toNat)
  case atStart => exact ⟨0, Nat.zero_le _, rfl, by simpa [bytesTo] using O0.out, Bel.out⟩
  case round =>
    clear O0
    obtain ⟨wo, rfl⟩ : ∃ wo : World, wo = wr := ⟨_, rfl⟩
    obtain ⟨k, hk, rfl, hown, hB⟩ := hrel
    have OW := Lib.hid hown
    clear hown
    have bo : Bel W0 wo := ⟨hB⟩
    have y2 := (box_cell (box_below X.out hB) 2).trans rfl
    have y3 := (box_cell (box_below X.out hB) 3).trans rfl
    have HLN := Lib.hid (bytesTo_len e.text k)
    by_cases hlt : k < e.text.size
    · have hb := bt_eq e.text k hlt
      have hbd := bt_bd e.text k
      go_wp2_with (at_builtin; refine Own.append cInt 65 3 W0.heap.size rfl _ _ rfl Try.underlying65 (.int .i64 0) 8 infoInt rfl (by decide) (by decide) _ _ rfl OW.out.to [bt e.text k] [.int .i64 (bt e.text k)] ⟨wo.heap.size, 0, none⟩ 1 rfl (reps_ints _) box_cells (Bel.size W0 _) (by have := HLN.out; simp; omega) ?_; intro v1 w1 hown1 hg1 hat1; have b1 : Bel W0 w1 := Bel.grown hg1 OW.out.to (Nat.le_refl _))
      go_roundw
      case rel =>
        refine ⟨k + 1, by omega, by go_num, ?_, b1.out⟩
        rw [bytesTo_succ, ← List.append_assoc]
        exact hown1
      case measure => simp [intOf]; omega
    · have ek : k = e.text.size := by omega
      clear hlt
      subst ek
      go_wp2_with (at_builtin; refine Own.append cInt 65 3 W0.heap.size rfl _ _ rfl Try.underlying65 (.int .i64 0) 8 infoInt rfl (by decide) (by decide) _ _ rfl OW.out.to [(e.lines.length : Int)] [.int .i64 (e.lines.length : Int)] ⟨wo.heap.size, 0, none⟩ 1 rfl (reps_ints _) box_cells (Bel.size W0 _) (by have := HLN.out; simp; omega) ?_; intro v1 w1 hown1 hg1 hat1; have b1 : Bel W0 w1 := Bel.grown hg1 OW.out.to (Nat.le_refl _))
      have O1 := Lib.hid hown1
      clear hown1 hg1 hat1 OW bo hB y2 y3
      go_loopw [3, 5] (fun v i wq => ∃ k : Nat, k ≤ e.lines.length ∧ i = .int .i64 k ∧ Own cInt 3 wq W0.heap.size v ([e.day, e.ref, (e.text.size : Int)] ++ bytesTo e.text e.text.size ++ [(e.lines.length : Int)] ++ linesTo e.lines k) ∧ Below W0.heap.size W0 wq) (fun _ i _ => e.lines.length - (intOf i).toNat)
      case atStart => exact ⟨0, Nat.zero_le _, rfl, by simpa [linesTo] using O1.out, b1.out⟩
      case round =>
        clear O1 b1
        obtain ⟨wp, rfl⟩ : ∃ wp : World, wp = wr := ⟨_, rfl⟩
        obtain ⟨k, hk, rfl, hown, hB⟩ := hrel
        have OW := Lib.hid hown
        clear hown
        have bo : Bel W0 wp := ⟨hB⟩
        have y3 := (box_cell (box_below X.out hB) 3).trans rfl
        have HLL := Lib.hid (linesTo_len e.lines k)
        by_cases hlt : k < e.lines.length
        · obtain ⟨ad, rfl, l0, l1, l2, l3, l4⟩ := at_Ln ((hs.to (w1 := W0)).to (w1 := wp)) k hlt
          go_wp2_with (at_builtin; refine Own.append cInt 65 3 W0.heap.size rfl _ _ rfl Try.underlying65 (.int .i64 0) 8 infoInt rfl (by decide) (by decide) _ _ rfl OW.out.to (lnNums (el e.lines k)) ((lnNums (el e.lines k)).map (Value.int .i64)) ⟨wp.heap.size + 1, 0, none⟩ 5 rfl (reps_ints _) (box_cells' (by simp)) (Bel.size W0 _) (by have := HLN.out; have := HLL.out; simp [lnNums]; omega) ?_; intro v1 w1 hown1 hg1 hat1; have b1 : Bel W0 w1 := Bel.grown hg1 OW.out.to (Nat.le_refl _))
          go_roundw
          case rel =>
            refine ⟨k + 1, by omega, by go_num, ?_, b1.out⟩
            rw [linesTo, ← List.append_assoc]
            exact hown1
          case measure => simp [intOf]; omega
        · have ek : k = e.lines.length := by omega
          subst ek
          go_wp2
          go_ret
          exact ⟨_, rfl, OW.out.lower (by have := HSZ.out; omega), below_step b0.out hB⟩
set_option maxRecDepth 100000 in
set_option maxHeartbeats 1000000 in
theorem spec_HeadOf_c {S : Nat → Prop} (A : Option Addr) (c : Nat) (es : List En) (w : World) (hr : Sl cEn w S A es) :
    Calls Try.prog 170 #[.slice A es.length c] w fun r w' => r = .returned (.int .i64 (headOf es)) ∧ Below w.heap.size w w' := by
  have hl := hr.1
  have HDO := Lib.hid (headOf_def es)
  go_enter Try.func170, Try.ntmps170
  by_cases hlen : 1000 < es.length
  · have hn : (1000 : Int) < es.length := by omega
    have hv := HDO.out
    rw [if_pos hlen] at hv
    have HV := Lib.hid hv
    clear hv
    go_wp2
    go_ret
    exact ⟨by rw [HV.out]; rfl, Bel.out⟩
  · have hn : ¬ (1000 : Int) < es.length := by omega
    have hv := HDO.out
    rw [if_neg hlen] at hv
    have HV := Lib.hid hv
    clear hv HDO
    go_wp2
    go_loopw [3, 4] (fun h i wq => ∃ k : Nat, k ≤ es.length ∧ i = .int .i64 k ∧ (∃ y, headTo es k = some y ∧ h = .int .i64 y) ∧ Below w.heap.size w wq) (fun _ i _ => es.length - (intOf i).toNat)
    case atStart => exact ⟨0, Nat.zero_le _, rfl, ⟨1, rfl, rfl⟩, Bel.out⟩
    case round =>
      obtain ⟨wo, rfl⟩ : ∃ wo : World, wo = wr := ⟨_, rfl⟩
      obtain ⟨k, hk, rfl, ⟨y, hy, rfl⟩, hB⟩ := hrel
      have HY := Lib.hid hy
      clear hy
      have bo : Bel w wo := ⟨hB⟩
      by_cases hlt : k < es.length
      · obtain ⟨ad, A3, c3, rfl, l0, l1, l2, l3, hz, h3, hs⟩ := at_En (hr.to (w1 := wo)) k hlt
        have i0 : (0 : Int) ≤ (k : Int) := Int.natCast_nonneg k
        have i1 : (k : Int) < (es.length : Int) := by omega
        have hst := Lib.hid (headTo_succ es k)
        by_cases hbig : 60 < (el es k).lines.length ∨ 40 < (el es k).text.size
        · have hno : headOf es = 0 := headOf_none (k := k + 1) hlt (by rw [hst.out, HY.out]; simp [stepE, hbig])
          have HNO := Lib.hid hno
          clear hno
          have hb' : (60 : Int) < (el es k).lines.length ∨ (¬ (60 : Int) < (el es k).lines.length ∧ (40 : Int) < (el es k).text.size) := by omega
          clear hbig
          rcases hb' with hb' | ⟨hb', hb''⟩
          all_goals
            go_wp2
            go_ret
            exact ⟨by rw [HNO.out]; rfl, hB⟩
        · have hb1 : ¬ (60 : Int) < (el es k).lines.length := by omega
          have hb2 : ¬ (40 : Int) < (el es k).text.size := by omega
          have g60 : (el es k).lines.length ≤ 60 := by omega
          have g40 : (el es k).text.size ≤ 40 := by omega
          have hst2 := Lib.hid (show headTo es (k + 1) = goTo (numsOf (el es k)) y (numsOf (el es k)).length by rw [hst.out, HY.out]; simp [stepE, hbig])
          clear hbig
          go_wp2_with (go_at_call 243; refine (l5Numbers_c _ _ _ _ hs.to hz g60 g40).mono ?_; rintro r w2 ⟨v, rfl, hown, hbw⟩)
          obtain ⟨A5, c5, rfl, -⟩ := hown.slice
          have hsl := hown.reads
          have bw2 : Bel w w2 := ⟨below_step hB hbw⟩
          have y0 := headTo_bd k y HY.out
          have Y0 := Lib.hid y0
          clear y0 hbw hown l0 l1 l2 l3 hs
          go_loopw [3, 6] (fun h i wq => ∃ j : Nat, j ≤ (numsOf (el es k)).length ∧ i = .int .i64 j ∧ (∃ z, goTo (numsOf (el es k)) y j = some z ∧ h = .int .i64 z) ∧ Below w2.heap.size w2 wq) (fun _ i _ => (numsOf (el es k)).length - (intOf i).toNat)
          case atStart => exact ⟨0, Nat.zero_le _, rfl, ⟨y, rfl, rfl⟩, Bel.out⟩
          case round =>
            obtain ⟨wp, rfl⟩ : ∃ wp : World, wp = wr := ⟨_, rfl⟩
            obtain ⟨j, hj, rfl, ⟨z, hz, rfl⟩, hB2⟩ := hrel
            have HZ := Lib.hid hz
            clear hz
            have bp : Bel w2 wp := ⟨hB2⟩
            by_cases hjl : j < (numsOf (el es k)).length
            · obtain ⟨ad5, rfl, m0⟩ := at_Int (hsl.to (w1 := wp)) j hjl
              have j0 : (0 : Int) ≤ (j : Int) := Int.natCast_nonneg j
              have j1 : (j : Int) < ((numsOf (el es k)).length : Int) := by omega
              have j2 : (numsOf (el es k)).length ≤ 344 := by rw [numsOf_len]; omega
              have hzb := goTo_bd Y0.out j z HZ.out
              by_cases hin : inH (el (numsOf (el es k)) j) = true
              · have hx := inB_t hin
                have HG := Lib.hid (show goTo (numsOf (el es k)) y (j + 1) = some (linkN z (el (numsOf (el es k)) j)) by rw [goTo_succ, HZ.out]; simp [hin])
                have HL := Lib.hid (linkN_def z (el (numsOf (el es k)) j))
                have hin2 : (!inB (el (numsOf (el es k)) j) (-549755813888) 549755813887) = false := by unfold inH at hin; rw [hin]; rfl
                clear hin
                go_wp2_with (go_at_call 81; refine (l1In_c _ _ _ _).mono ?_; rintro e w' ⟨rfl, rfl⟩)
                go_roundw
                case rel => exact ⟨j + 1, by omega, by go_num, ⟨_, HG.out, by rw [HL.out]⟩, hB2⟩
                case measure => simp [intOf]; omega
              · have hin2 : (!inB (el (numsOf (el es k)) j) (-549755813888) 549755813887) = true := by unfold inH at hin; simpa using hin
                have hno : headOf es = 0 := headOf_none (k := k + 1) hlt (by
                  rw [hst2.out]
                  have := goTo_none (xs := numsOf (el es k)) (h := y) (k := j + 1) (by rw [goTo_succ, HZ.out]; simp [hin]) ((numsOf (el es k)).length - (j + 1))
                  rwa [show j + 1 + ((numsOf (el es k)).length - (j + 1)) = (numsOf (el es k)).length by omega] at this)
                have HNO := Lib.hid hno
                clear hno hin
                go_wp2_with (go_at_call 81; refine (l1In_c _ _ _ _).mono ?_; rintro e w' ⟨rfl, rfl⟩)
                go_ret
                exact ⟨by rw [HNO.out]; rfl, below_step bw2.out hB2⟩
            · have ej : j = (numsOf (el es k)).length := by omega
              subst ej
              go_wp2
              go_roundw
              case rel => exact ⟨k + 1, by omega, by go_num, ⟨z, by rw [hst2.out, HZ.out], rfl⟩, below_step bw2.out hB2⟩
              case measure => simp [intOf]; omega
      · have ek : k = es.length := by omega
        have hv : headOf es = y := by rw [HV.out, ← ek, HY.out]; rfl
        have HV2 := Lib.hid hv
        clear hv
        go_wp2
        go_ret
        exact ⟨by rw [HV2.out]; rfl, hB⟩
end Go.Proofs.Ythgnfpbbhiegfaa
