/- The walk of the program's LedgerOk. -/
import Derived.Test.YthgnfpbbhiegfaaEntryIn
import Derived.Test.YthgnfpbbhiegfaaHead2
import Derived.Test.YthgnfpbbhiegfaaLedger
namespace Go.Proofs.Ythgnfpbbhiegfaa
open Go.RowKit
set_option linter.unusedSimpArgs false in
set_option maxRecDepth 100000 in
set_option maxHeartbeats 2000000 in
theorem impl_LedgerOk_c {S : Nat → Prop} (A : Option Addr) (c : Nat) (f : Fr) (A0 : Option Addr) (c0 : Nat) (l : Le) (w : World) (hr : Sl cAc w S A f.chart) (hs : Sl cEn w S A0 l.entries) :
    Calls Try.prog 76 #[.agg #[.slice A f.chart.length c, .int .i64 f.dims, .int .i64 f.curs], .agg #[.slice A0 l.entries.length c0, .int .i64 l.head]] w fun r w' => r = .returned (.bool (ledB f l)) ∧ Below w.heap.size w w' := by
  have hl := hs.1
  have HD := Lib.hid (ledB_def f l)
  go_enter Try.func76, Try.ntmps76
  go_upto_region 1 with (fail)
  obtain ⟨W0, hW0, x0, x1, b0⟩ : ∃ W0 : World, W0 = (w.alloc (.cells #[.slice A f.chart.length c, .int .i64 f.dims, .int .i64 f.curs] 26)).alloc (.cells #[.slice A0 l.entries.length c0, .int .i64 l.head] 29) ∧ W0.heap[w.heap.size]? = some (.cells #[.slice A f.chart.length c, .int .i64 f.dims, .int .i64 f.curs] 26 (0, 0)) ∧ W0.heap[w.heap.size + 1]? = some (.cells #[.slice A0 l.entries.length c0, .int .i64 l.head] 29 (0, 0)) ∧ Bel w W0 := ⟨_, rfl, new_box2a _ _ _, new_box2b _ _ _, inferInstance⟩
  rw [← hW0]
  clear hW0
  have X0 := Lib.hid x0
  have X1 := Lib.hid x1
  clear x0 x1
  have y0 := (box_cell X0.out 0).trans rfl
  have y1 := (box_cell X0.out 1).trans rfl
  have y2 := (box_cell X0.out 2).trans rfl
  cases h2 : frameB f
  · have hno := Lib.hid (show ledB f l = false by rw [HD.out]; simp [h2])
    go_wp2_with (go_at_call 173; refine (impl_FrameOk_c _ _ _ _ ((hr.to (w1 := W0)).to (w1 := W0))).mono ?_; rintro e w1 ⟨rfl, hb1⟩; have b1 : Bel W0 w1 := ⟨hb1⟩; have z0 := (box_cell (box_below X1.out b1.out) 0).trans rfl)
    go_ret
    exact ⟨ret_b hno.out.symm, below_step b0.out b1.out⟩
  · by_cases h1 : 1000 < l.entries.length
    · have h1' : (1000 : Int) < l.entries.length := by omega
      have hno := Lib.hid (show ledB f l = false by rw [HD.out]; simp [h1])
      clear h1
      go_wp2_with (go_at_call 173; refine (impl_FrameOk_c _ _ _ _ ((hr.to (w1 := W0)).to (w1 := W0))).mono ?_; rintro e w1 ⟨rfl, hb1⟩; have b1 : Bel W0 w1 := ⟨hb1⟩; have z0 := (box_cell (box_below X1.out b1.out) 0).trans rfl)
      go_ret
      exact ⟨ret_b hno.out.symm, below_step b0.out b1.out⟩
    · have h1' : ¬ (1000 : Int) < l.entries.length := by omega
      have HV := Lib.hid (show ledB f l = (decide (l.head = headOf l.entries) && (List.range l.entries.length).all (fun k => entB f (el l.entries k))) by rw [HD.out]; simp [h1, h2])
      clear h1 HD
      go_wp2_with (go_at_call 173; refine (impl_FrameOk_c _ _ _ _ ((hr.to (w1 := W0)).to (w1 := W0))).mono ?_; rintro e w1 ⟨rfl, hb1⟩; have b1 : Bel W0 w1 := ⟨hb1⟩; have z0 := (box_cell (box_below X1.out b1.out) 0).trans rfl)
      clear y0 y1 y2
      go_loopw [19] (fun v wq => ∃ k : Nat, k ≤ l.entries.length ∧ v = .int .i64 k ∧ (∀ j, j < k → entB f (el l.entries j) = true) ∧ Bel W0 wq) (fun v _ => l.entries.length - (intOf v).toNat)
      case atStart => exact ⟨0, Nat.zero_le _, rfl, fun j hj => absurd hj (Nat.not_lt_zero j), b1⟩
      case round =>
        clear z0 b1 hb1
        obtain ⟨wo, rfl⟩ : ∃ wo : World, wo = wr := ⟨_, rfl⟩
        obtain ⟨k, hk, rfl, hall, bo⟩ := hrel
        have HA := Lib.hid hall
        clear hall
        by_cases hlt : k < l.entries.length
        · obtain ⟨ad, A3, c3, rfl, l0, l1, l2, l3, hz, h3, hsl⟩ := at_En ((hs.to (w1 := W0)).to (w1 := wo)) k hlt
          have i0 : (0 : Int) ≤ (k : Int) := Int.natCast_nonneg k
          have i1 : (k : Int) < (l.entries.length : Int) := by omega
          have hent : entB f (el l.entries k) = entInB f (el l.entries k) := by unfold entB; rw [h2, Bool.true_and]
          have HE := Lib.hid hent
          clear hent
          go_upto_region 6 with (fail)
          obtain ⟨W1, hW1, hx1, b1⟩ : ∃ W1 : World, W1 = wo.alloc (.cells #[.int .i64 (el l.entries k).day, .int .i64 (el l.entries k).ref, .string (el l.entries k).text, .slice A3 (el l.entries k).lines.length c3] 34) ∧ W1.heap[wo.heap.size]? = some (.cells #[.int .i64 (el l.entries k).day, .int .i64 (el l.entries k).ref, .string (el l.entries k).text, .slice A3 (el l.entries k).lines.length c3] 34 (0, 0)) ∧ Bel wo W1 := ⟨_, rfl, heap_alloc_new _ _, inferInstance⟩
          rw [← hW1]
          clear hW1 l0 l1 l2 l3
          have bw : Bel W0 W1 := ⟨below_step bo.out b1.out⟩
          have y0 := (box_cell (box_below X0.out bw.out) 0).trans rfl
          have y1 := (box_cell (box_below X0.out bw.out) 1).trans rfl
          have y2 := (box_cell (box_below X0.out bw.out) 2).trans rfl
          have m0 := (box_cell hx1 0).trans rfl
          have m1 := (box_cell hx1 1).trans rfl
          have m2 := (box_cell hx1 2).trans rfl
          have m3 := (box_cell hx1 3).trans rfl
          clear hx1
          go_wp2_with (go_at_call 86; refine (entryIn_c _ _ _ _ _ _ _ h2 ((hr.to (w1 := W0)).to (w1 := W1)) (hsl.to (w1 := W1)) hz).mono ?_; rintro r w2 ⟨rfl, hb2⟩)
          · rename_i hn
            have hno : ledB f l = false := by
              rw [HV.out, Bool.and_eq_false_iff]
              right
              rw [List.all_eq_false]
              exact ⟨k, List.mem_range.2 hlt, by rw [HE.out]; simpa using hn⟩
            have HNO := Lib.hid hno
            clear hno
            go_ret
            exact ⟨ret_b HNO.out.symm, below_step b0.out (below_step bw.out hb2)⟩
          · rename_i hn
            go_roundw
            case rel =>
              refine ⟨k + 1, by omega, by go_num, fun j hj => ?_, ⟨below_step bw.out hb2⟩⟩
              by_cases e : j = k
              · subst e; rw [HE.out]; simpa using hn
              · exact HA.out j (by omega)
            case measure => simp [intOf]; omega
        · have ek : k = l.entries.length := by omega
          have hyes : ledB f l = decide (l.head = headOf l.entries) := by
            rw [HV.out, List.all_eq_true.2 (fun j hj => HA.out j (by rw [ek]; exact List.mem_range.1 hj)), Bool.and_true]
          have HY := Lib.hid hyes
          clear hyes
          have z0 := (box_cell (box_below X1.out bo.out) 0).trans rfl
          have z1 := (box_cell (box_below X1.out bo.out) 1).trans rfl
          go_wp2
          refine wp_region_held_drew (S := fun wq => Bel wo wq ∧ wq.cell? ⟨w.heap.size + 1, 0, none⟩ = some (.slice A0 l.entries.length c0) ∧ wq.cell? ⟨w.heap.size + 1, 1, none⟩ = some (.int .i64 l.head)) (by kernel_rfl) ⟨inferInstance, z0, z1⟩ (fun hHeld => ?_)
          first
            | (refine wpAnyH_take (i := 0) (v := undef) rfl (by kernel_rfl) (by kernel_rfl) (by kernel_rfl) (fun _ _ _ h => h) (Or.inr ⟨by rfl, rfl⟩) (by assumption) ?_)
            | (refine wpAnyH_take (i := 0) (v := ?_) rfl (by kernel_rfl) (by kernel_rfl) (by kernel_rfl) (fun _ _ _ h => h) (Or.inl ⟨by rfl, ?_⟩) (by assumption) ?_; rotate_left; (intro wH hSw; (try dsimp only at hSw); go_simp; try with_reducible rfl))
          try simp only [Act.put, List.setIfInBounds_toArray, List.set_cons_zero, List.set_cons_succ, List.getElem_toArray, List.getElem_cons_zero, List.getElem_cons_succ]
          first
            | (refine wpAnyH_take (i := 1) (v := undef) rfl (by kernel_rfl) (by kernel_rfl) (by kernel_rfl) (fun _ _ _ h => h) (Or.inr ⟨by rfl, rfl⟩) (by assumption) ?_)
            | (refine wpAnyH_take (i := 1) (v := ?_) rfl (by kernel_rfl) (by kernel_rfl) (by kernel_rfl) (fun _ _ _ h => h) (Or.inl ⟨by rfl, ?_⟩) (by assumption) ?_; rotate_left; (intro wH hSw; (try dsimp only at hSw); go_simp; try with_reducible rfl))
          try simp only [Act.put, List.setIfInBounds_toArray, List.set_cons_zero, List.set_cons_succ, List.getElem_toArray, List.getElem_cons_zero, List.getElem_cons_succ]
          first
            | (refine wpAnyH_take (i := 2) (v := undef) rfl (by kernel_rfl) (by kernel_rfl) (by kernel_rfl) (fun _ _ _ h => h) (Or.inr ⟨by rfl, rfl⟩) (by assumption) ?_)
            | (refine wpAnyH_take (i := 2) (v := ?_) rfl (by kernel_rfl) (by kernel_rfl) (by kernel_rfl) (fun _ _ _ h => h) (Or.inl ⟨by rfl, ?_⟩) (by assumption) ?_; rotate_left; (intro wH hSw; (try dsimp only at hSw); go_simp; try with_reducible rfl))
          try simp only [Act.put, List.setIfInBounds_toArray, List.set_cons_zero, List.set_cons_succ, List.getElem_toArray, List.getElem_cons_zero, List.getElem_cons_succ]
          first
            | (refine wpAnyH_take (i := 3) (v := undef) rfl (by kernel_rfl) (by kernel_rfl) (by kernel_rfl) (fun _ _ _ h => h) (Or.inr ⟨by rfl, rfl⟩) (by assumption) ?_)
            | (refine wpAnyH_take (i := 3) (v := ?_) rfl (by kernel_rfl) (by kernel_rfl) (by kernel_rfl) (fun _ _ _ h => h) (Or.inl ⟨by rfl, ?_⟩) (by assumption) ?_; rotate_left; (intro wH hSw; (try dsimp only at hSw); go_simp; try with_reducible rfl))
          try simp only [Act.put, List.setIfInBounds_toArray, List.set_cons_zero, List.set_cons_succ, List.getElem_toArray, List.getElem_cons_zero, List.getElem_cons_succ]
          refine wpAnyH_ready (rs := [4]) (by kernel_rfl) (by simp) ?_
          refine AllReadyH.cons rfl (fun K hK => ?_) AllReadyH.nil
          go_simp
          (go_at_call 174; refine (impl_HeadOf_c _ _ _ _ ((hs.to (w1 := W0)).to (w1 := wo)).to).mono ?_; rintro e w2 ⟨rfl, hb2⟩; have b2 : Bel wo w2 := Bel.step hb2)
          refine hK.out _ _ (by (try dsimp only); exact ⟨inferInstance, (box_cell (box_below (box_below X1.out bo.out) Bel.out) 0).trans rfl, (box_cell (box_below (box_below X1.out bo.out) Bel.out) 1).trans rfl⟩) (fun hHeld => ?_)
          clear hK K
          try simp only [Act.put, List.setIfInBounds_toArray, List.set_cons_zero, List.set_cons_succ, List.getElem_toArray, List.getElem_cons_zero, List.getElem_cons_succ]
          first
            | (refine wpAnyH_take (i := 5) (v := undef) rfl (by kernel_rfl) (by kernel_rfl) (by kernel_rfl) (fun _ _ _ h => h) (Or.inr ⟨by rfl, rfl⟩) (by assumption) ?_)
            | (refine wpAnyH_take (i := 5) (v := ?_) rfl (by kernel_rfl) (by kernel_rfl) (by kernel_rfl) (fun _ _ _ h => h) (Or.inl ⟨by rfl, ?_⟩) (by assumption) ?_; rotate_left; (intro wH hSw; (try dsimp only at hSw); go_simp; try with_reducible rfl))
          try simp only [Act.put, List.setIfInBounds_toArray, List.set_cons_zero, List.set_cons_succ, List.getElem_toArray, List.getElem_cons_zero, List.getElem_cons_succ]
          first
            | (refine wpAnyH_take (i := 6) (v := undef) rfl (by kernel_rfl) (by kernel_rfl) (by kernel_rfl) (fun _ _ _ h => h) (Or.inr ⟨by rfl, rfl⟩) (by assumption) ?_)
            | (refine wpAnyH_take (i := 6) (v := ?_) rfl (by kernel_rfl) (by kernel_rfl) (by kernel_rfl) (fun _ _ _ h => h) (Or.inl ⟨by rfl, ?_⟩) (by assumption) ?_; rotate_left; (intro wH hSw; (try dsimp only at hSw); go_simp; try with_reducible rfl))
          try simp only [Act.put, List.setIfInBounds_toArray, List.set_cons_zero, List.set_cons_succ, List.getElem_toArray, List.getElem_cons_zero, List.getElem_cons_succ]
          refine wpAnyH_done (by kernel_rfl) ?_ _
          go_wp2
          go_ret
          refine ⟨ret_b ?_, below_step b0.out (below_step bo.out b2.out)⟩
          rw [HY.out]
          rfl
end Go.Proofs.Ythgnfpbbhiegfaa
