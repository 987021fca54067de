/- The walk of the program's entryIn. -/
import Derived.Test.YthgnfpbbhiegfaaSums
import Derived.Test.YthgnfpbbhiegfaaFrame2
import Derived.Deep.RegionHeld3
import Derived.Deep.DeepCutAuto
namespace Go.Proofs.Ythgnfpbbhiegfaa
open Go.RowKit Go.Maps
def preIn (e : En) : Bool := dayB e.day && inB e.ref 0 1000 && decide (e.text.size ≤ 40) && inB e.lines.length 2 60
def bytesB (s : ByteArray) : Bool := (List.range s.size).all (fun k => decide (32 ≤ bt s k))
theorem entIn_pre {f : Fr} {e : En} (h : preIn e = false) : entInB f e = false := by
  unfold preIn at h
  unfold entInB textB
  cases h1 : dayB e.day <;> cases h2 : inB e.ref 0 1000 <;> cases h3 : decide (e.text.size ≤ 40) <;> cases h4 : inB e.lines.length 2 60 <;> simp_all
theorem entIn_post {f : Fr} {e : En} (h : preIn e = true) : entInB f e = (bytesB e.text && ((List.range e.lines.length).all (fun k => lineB f (el e.lines k)) && (List.range e.lines.length).all (balB e.lines))) := by
  unfold preIn at h
  simp only [Bool.and_eq_true, decide_eq_true_eq] at h
  unfold entInB textB bytesB
  simp [h, Bool.and_assoc]
theorem lineAt {f : Fr} (hf : frameB f = true) (x : Ln) : lineB f x = (leafAtB f.chart x.account && inB x.dim 0 (f.dims - 1) && inB x.cur 0 (f.curs - 1) && amB x.amount && amB x.base && (decide (x.cur ≠ 0) || decide (x.amount = x.base))) := by
  have hc := (frameB_t hf).1
  unfold lineB
  rw [leafAt_eq hc]
  have : (inB x.account 0 ((f.chart.length : Int) - 1) && leafB f.chart x.account) = leafB f.chart x.account := by
    unfold leafB
    rw [hc]
    cases inB x.account 0 ((f.chart.length : Int) - 1) <;> simp
  rw [this]
set_option linter.unusedSimpArgs false in
set_option maxRecDepth 100000 in
set_option maxHeartbeats 4000000 in
theorem entryIn_c {S : Nat → Prop} (A : Option Addr) (c : Nat) (f : Fr) (A3 : Option Addr) (c3 : Nat) (e : En) (w : World) (hf : frameB f = true) (hr : Sl cAc w S A f.chart) (hs : Sl cLn w S A3 e.lines) (hz : e.text.size ≤ 140737488355328) :
    Calls Try.prog 86 #[.agg #[.slice A f.chart.length c, .int .i64 f.dims, .int .i64 f.curs], .agg #[.int .i64 e.day, .int .i64 e.ref, .string e.text, .slice A3 e.lines.length c3]] w fun r w' => r = .returned (.bool (entInB f e)) ∧ Below w.heap.size w w' := by
  have hl := hs.1
  have hmm := @run_makeMap Try.prog
  obtain ⟨-, ⟨d1, d2⟩, c1, c2⟩ := frameB_t hf
  cases hp : preIn e
  · have hno := Lib.hid (entIn_pre (f := f) hp)
    have HP := Lib.hid hp
    clear hp
    go_enter Try.func86, Try.ntmps86
    go_wp2_with (first | (go_at_call 77; refine (isDay_c _ _).mono ?_; rintro e w' ⟨rfl, rfl⟩) | (go_at_call 175; refine (between_c _ _ _ _).mono ?_; rintro e w' ⟨rfl, rfl⟩))
    all_goals first
      | (go_ret; exact ⟨ret_b hno.out.symm, Bel.out⟩)
      | (exfalso
         have h := HP.out
         unfold preIn at h
         rw [Bool.and_eq_false_iff, Bool.and_eq_false_iff, Bool.and_eq_false_iff, decide_eq_false_iff_not] at h
         rcases h with ((h | h) | h) | h
         all_goals first | (simp_all; done) | omega | (have := inB_f h; omega))
  · have hpost := Lib.hid (entIn_post (f := f) hp)
    unfold preIn at hp
    simp only [Bool.and_eq_true, decide_eq_true_eq] at hp
    obtain ⟨⟨⟨p1, p2⟩, p3⟩, p4⟩ := hp
    have n1 := inB_t p4
    have q3 : ¬ (40 : Int) < e.text.size := by omega
    have q4 : ¬ (e.lines.length : Int) < 2 := by omega
    have q5 : ¬ (60 : Int) < e.lines.length := by omega
    go_enter Try.func86, Try.ntmps86
    go_wp2_with (first | (go_at_call 77; refine (isDay_c _ _).mono ?_; rintro e w' ⟨rfl, rfl⟩) | (go_at_call 175; refine (between_c _ _ _ _).mono ?_; rintro e w' ⟨rfl, rfl⟩))
    obtain ⟨W0, hW0, hsz, x0, x1, b0⟩ : ∃ W0 : World, W0 = (w.alloc (.cells #[.slice A f.chart.length c, .int .i64 f.dims, .int .i64 f.curs] 26)).alloc (.cells #[.int .i64 e.day, .int .i64 e.ref, .string e.text, .slice A3 e.lines.length c3] 34) ∧ W0.heap.size = w.heap.size + 2 ∧ W0.heap[w.heap.size]? = some (.cells #[.slice A f.chart.length c, .int .i64 f.dims, .int .i64 f.curs] 26 (0, 0)) ∧ W0.heap[w.heap.size + 1]? = some (.cells #[.int .i64 e.day, .int .i64 e.ref, .string e.text, .slice A3 e.lines.length c3] 34 (0, 0)) ∧ Bel w W0 := ⟨_, rfl, by simp, new_box2a _ _ _, new_box2b _ _ _, inferInstance⟩
    rw [← hW0]
    clear hW0 p1 p2 p3 p4 q3 q4 q5
    have X0 := Lib.hid x0
    have X1 := Lib.hid x1
    have HSZ := Lib.hid hsz
    clear x0 x1 hsz
    have z2 := (box_cell X1.out 2).trans rfl
    go_loop [5] (fun v => ∃ k : Nat, k ≤ e.text.size ∧ v = .int .i64 k ∧ ∀ j, j < k → 32 ≤ bt e.text j) (fun v => e.text.size - (intOf v).toNat)
    case atStart => exact ⟨0, Nat.zero_le _, rfl, fun j hj => absurd hj (Nat.not_lt_zero j)⟩
    case round =>
      obtain ⟨k, hk, rfl, hall⟩ := hrel
      have HA := Lib.hid hall
      clear hall
      by_cases hlt : k < e.text.size
      · have hb := bt_eq e.text k hlt
        by_cases h32 : bt e.text k < 32
        · have hno : entInB f e = false := by
            rw [hpost.out, Bool.and_eq_false_iff]
            left
            unfold bytesB
            rw [List.all_eq_false]
            exact ⟨k, List.mem_range.2 hlt, by simp; omega⟩
          have HNO := Lib.hid hno
          clear hno
          go_wp2
          go_ret
          exact ⟨ret_b HNO.out.symm, b0.out⟩
        · go_wp2
          go_round
          case rel =>
            refine ⟨k + 1, by omega, by go_num, fun j hj => ?_⟩
            by_cases e : j = k
            · subst e; omega
            · exact HA.out j (by omega)
          case measure => simp [intOf]; omega
      · have ek : k = e.text.size := by omega
        have hpo2 : entInB f e = ((List.range e.lines.length).all (fun k => lineB f (el e.lines k)) && (List.range e.lines.length).all (balB e.lines)) := by
          have hbt : bytesB e.text = true := by
            unfold bytesB
            rw [List.all_eq_true]
            exact fun j hj => decide_eq_true (HA.out j (by rw [ek]; exact List.mem_range.1 hj))
          rw [hpost.out, hbt, Bool.true_and]
        have HP2 := Lib.hid hpo2
        clear hpo2 hpost HA hlt
        have z3 := (box_cell (box_below X1.out (Bel.out : Below W0.heap.size W0 (W0.alloc (.map #[] 0)))) 3).trans rfl
        subst ek
        go_wp2
        go_loopw [55] (fun v wq => ∃ k : Nat, k ≤ e.lines.length ∧ v = .int .i64 k ∧ (∀ j, j < k → lineB f (el e.lines j) = true) ∧ (∃ D, Sums e.lines k D ∧ wq.ownsMap Try.prog 246 (plainElem Try.prog 3) W0.heap.size (2 * k) D) ∧ Below W0.heap.size W0 wq) (fun v _ => e.lines.length - (intOf v).toNat)
        case atStart => exact ⟨0, Nat.zero_le _, rfl, fun j hj => absurd hj (Nat.not_lt_zero j), ⟨_, sums_none _, World.ownsMap_made _ _ _ _⟩, Bel.out⟩
        case round =>
          clear z3 z2
          obtain ⟨wo, rfl⟩ : ∃ wo : World, wo = wr := ⟨_, rfl⟩
          obtain ⟨k, hk, rfl, hall, ⟨D, hD, hM⟩, hB⟩ := hrel
          have HA := Lib.hid hall
          have HD := Lib.hid hD
          have HM := Lib.hid hM
          clear hall hD hM
          have bo : Bel W0 wo := ⟨hB⟩
          by_cases hlt : k < e.lines.length
          · obtain ⟨ad, rfl, l0, l1, l2, l3, l4⟩ := at_Ln ((hs.to (w1 := W0)).to (w1 := wo)) k hlt
            have i0 : (0 : Int) ≤ (k : Int) := Int.natCast_nonneg k
            have i1 : (k : Int) < (e.lines.length : Int) := by omega
            have hla := Lib.hid (lineAt hf (el e.lines k))
            go_upto_region 12 with (fail)
            obtain ⟨W1, hW1, hsz1, hx1, b1, hM1⟩ : ∃ W1 : World, W1 = wo.alloc (.cells #[.int .i64 (el e.lines k).account, .int .i64 (el e.lines k).dim, .int .i64 (el e.lines k).cur, .int .i64 (el e.lines k).amount, .int .i64 (el e.lines k).base] 130) ∧ W1.heap.size = wo.heap.size + 1 ∧ W1.heap[wo.heap.size]? = some (.cells #[.int .i64 (el e.lines k).account, .int .i64 (el e.lines k).dim, .int .i64 (el e.lines k).cur, .int .i64 (el e.lines k).amount, .int .i64 (el e.lines k).base] 130 (0, 0)) ∧ Bel W0 W1 ∧ W1.ownsMap Try.prog 246 (plainElem Try.prog 3) W0.heap.size (2 * k) D := ⟨_, rfl, by simp, heap_alloc_new _ _, inferInstance, HM.out.alloc _⟩
            have hlm := HM.out.lt
            rw [← hW1]
            clear hW1 l0 l1 l2 l3 l4
            have HSZ1 := Lib.hid hsz1
            have XL := Lib.hid hx1
            have HM1 := Lib.hid hM1
            clear hsz1 hx1 hM1 HM
            have y0 := (box_cell (box_below X0.out b1.out) 0).trans rfl
            have y1 := (box_cell (box_below X0.out b1.out) 1).trans rfl
            have y2 := (box_cell (box_below X0.out b1.out) 2).trans rfl
            have l0 := (box_cell XL.out 0).trans rfl
            have l1 := (box_cell XL.out 1).trans rfl
            have l2 := (box_cell XL.out 2).trans rfl
            have l3 := (box_cell XL.out 3).trans rfl
            have l4 := (box_cell XL.out 4).trans rfl
            cases hline : lineB f (el e.lines k)
            · have hno : entInB f e = false := by
                rw [HP2.out, Bool.and_eq_false_iff]
                left
                rw [List.all_eq_false]
                exact ⟨k, List.mem_range.2 hlt, by simp [hline]⟩
              have HNO := Lib.hid hno
              have HLA := Lib.hid (hla.out.symm.trans hline)
              clear hno hline hla
              go_wp2_with (first | (go_at_call 177; refine (leafAt_c _ _ _ _ _ ((hr.to (w1 := W0)).to (w1 := W1))).mono ?_; rintro e w' ⟨rfl, rfl⟩) | (go_at_call 175; refine (between_c _ _ _ _).mono ?_; rintro e w' ⟨rfl, rfl⟩) | (go_at_call 89; refine (amount_c _ _).mono ?_; rintro e w' ⟨rfl, rfl⟩))
              all_goals first
                | (go_ret; exact ⟨ret_b HNO.out.symm, below_step b0.out b1.out⟩)
                | (exfalso; have h := HLA.out; simp_all)
            · have hlt' := lineB_t hline
              have hl7 := hla.out.symm.trans hline
              simp only [Bool.and_eq_true] at hl7
              obtain ⟨⟨⟨⟨⟨g1, g2⟩, g3⟩, g4⟩, g5⟩, -⟩ := hl7
              obtain ⟨-, -, t3, t4, t5, t6, t7⟩ := hlt'
              have e1 : ((el e.lines k).cur == (0 : Int)) = decide ((el e.lines k).cur = 0) := rfl
              have okc : okI (el e.lines k).cur := wf64 (by omega) (by omega)
              have okd : okI (el e.lines k).dim := wf64 (by omega) (by omega)
              have s1 := curSum_bd (ls := e.lines) (c := (el e.lines k).cur) k (fun j hj => (lineB_t (HA.out j (by omega))).2.2.2.2.1)
              have s2 := dimSum_bd (ls := e.lines) (d := (el e.lines k).dim) k (fun j hj => (lineB_t (HA.out j (by omega))).2.2.2.2.2.1)
              obtain ⟨cc, ha1, hlook, hop⟩ := assign_op (w := W1.drew) pairLaw Try.underlying245 Try.underlying3 zeroInt HM1.out (by unfold maxLen; omega) (pk_is ok0 okc)
              have hcc : cc = curSum e.lines (el e.lines k).cur k := by
                rw [HD.out.cur _ okc] at ha1
                simpa using ha1.symm
              subst hcc
              obtain ⟨W8, W10, v0, st, r8, k8, r10, o10, gr8, gr10⟩ := hop (curSum e.lines (el e.lines k).cur k + (el e.lines k).amount) (wf64 (by omega) (by omega))
              obtain ⟨cc, ha2, hlook2, hop2⟩ := assign_op (w := W10.drew) pairLaw Try.underlying245 Try.underlying3 zeroInt o10 (by unfold maxLen; omega) (pk_is ok1 okd)
              have hcc : cc = dimSum e.lines (el e.lines k).dim k := by
                rw [atKey_put_other (fun e' => by have := pk_inj ok1 okd ok0 okc e'; omega), HD.out.dim _ okd] at ha2
                simpa using ha2.symm
              subst hcc
              obtain ⟨V8, V10, v1, st1, r18, k18, r110, o110, gr18, gr110⟩ := hop2 (dimSum e.lines (el e.lines k).dim k + (el e.lines k).base) (wf64 (by omega) (by omega))
              have HD2 := Lib.hid (sums_put HD.out okc okd)
              have HLI := Lib.hid hline
              have hs0 : wo.heap.size < W1.heap.size := by have := HSZ1.out; omega
              have hne : some wo.heap.size ≠ some W0.heap.size := by simp; omega
              have x8 := Lib.hid ((gr8.block wo.heap.size hs0 hne).trans XL.out)
              have x10 := Lib.hid ((gr10.block wo.heap.size hs0 hne).trans XL.out)
              have hs10 : wo.heap.size < W10.heap.size := Nat.lt_of_lt_of_le hs0 gr10.size
              have x18 := Lib.hid ((gr18.block wo.heap.size hs10 hne).trans x10.out)
              have x110 := Lib.hid ((gr110.block wo.heap.size hs10 hne).trans x10.out)
              have b10 : Bel W0 W10 := ⟨(Bel.out : Below W0.heap.size W0 W1.drew).grown gr10 Bel.out.size (by simp)⟩
              have b110 : Bel W0 V10 := ⟨(Bel.out : Below W0.heap.size W0 W10.drew).grown gr110 Bel.out.size (by simp)⟩
              have O110 := Lib.hid o110
              have w1 : IntKind.i64.wrap (curSum e.lines (el e.lines k).cur k + (el e.lines k).amount) = curSum e.lines (el e.lines k).cur k + (el e.lines k).amount := IntWalk.i64_in _ (by omega)
              have w2 : IntKind.i64.wrap (dimSum e.lines (el e.lines k).dim k + (el e.lines k).base) = dimSum e.lines (el e.lines k).dim k + (el e.lines k).base := IntWalk.i64_in _ (by omega)
              have W1f := Lib.hid w1
              have W2f := Lib.hid w2
              clear ha1 ha2 hop hop2 hline hla e1 gr8 gr10 gr18 gr110 o10 o110 w1 w2
              have hq : ((el e.lines k).cur == (0 : Int)) = true ∧ ((el e.lines k).amount != (el e.lines k).base) = false ∨ ((el e.lines k).cur == (0 : Int)) = false := by
                by_cases hcur : (el e.lines k).cur = 0
                · exact .inl ⟨beq_iff_eq.2 hcur, by rw [bne_eq_false_iff_eq]; exact t7 hcur⟩
                · exact .inr (beq_eq_false_iff_ne.2 hcur)
              clear t7
              rcases hq with ⟨q1, q2⟩ | q1
              all_goals
                go_wp2_with (first | (go_at_call 177; refine (leafAt_c _ _ _ _ _ ((hr.to (w1 := W0)).to (w1 := W1))).mono ?_; rintro e w' ⟨rfl, rfl⟩) | (go_at_call 175; refine (between_c _ _ _ _).mono ?_; rintro e w' ⟨rfl, rfl⟩) | (go_at_call 89; refine (amount_c _ _).mono ?_; rintro e w' ⟨rfl, rfl⟩))
                have w1 := W1f.out
                refine wp_region_held_drew (S := fun wq => wq.cell? ⟨wo.heap.size, 2, none⟩ = some (.int .i64 (el e.lines k).cur) ∧ wq.cell? ⟨wo.heap.size, 3, none⟩ = some (.int .i64 (el e.lines k).amount)) (by kernel_rfl) ⟨l2, l3⟩ (fun hHeld => ?_)
                first
                  | (refine wpAnyH_take (i := 0) (v := undef) rfl (by kernel_rfl) (by kernel_rfl) (by kernel_rfl) (fun _ _ _ h => h) (Or.inr ⟨by rfl, rfl⟩) (by assumption) ?_)
                  | (refine wpAnyH_take (i := 0) (v := ?_) rfl (by kernel_rfl) (by kernel_rfl) (by kernel_rfl) (fun _ _ _ h => h) (Or.inl ⟨by rfl, ?_⟩) (by assumption) ?_; rotate_left; (intro wH hSw; (try dsimp only at hSw); go_simp; try with_reducible rfl))
                try simp only [Act.put, List.setIfInBounds_toArray, List.set_cons_zero, List.set_cons_succ, List.getElem_toArray, List.getElem_cons_zero, List.getElem_cons_succ]
                first
                  | (refine wpAnyH_take (i := 1) (v := undef) rfl (by kernel_rfl) (by kernel_rfl) (by kernel_rfl) (fun _ _ _ h => h) (Or.inr ⟨by rfl, rfl⟩) (by assumption) ?_)
                  | (refine wpAnyH_take (i := 1) (v := ?_) rfl (by kernel_rfl) (by kernel_rfl) (by kernel_rfl) (fun _ _ _ h => h) (Or.inl ⟨by rfl, ?_⟩) (by assumption) ?_; rotate_left; (intro wH hSw; (try dsimp only at hSw); go_simp; try with_reducible rfl))
                try simp only [Act.put, List.setIfInBounds_toArray, List.set_cons_zero, List.set_cons_succ, List.getElem_toArray, List.getElem_cons_zero, List.getElem_cons_succ]
                first
                  | (refine wpAnyH_take (i := 2) (v := undef) rfl (by kernel_rfl) (by kernel_rfl) (by kernel_rfl) (fun _ _ _ h => h) (Or.inr ⟨by rfl, rfl⟩) (by assumption) ?_)
                  | (refine wpAnyH_take (i := 2) (v := ?_) rfl (by kernel_rfl) (by kernel_rfl) (by kernel_rfl) (fun _ _ _ h => h) (Or.inl ⟨by rfl, ?_⟩) (by assumption) ?_; rotate_left; (intro wH hSw; (try dsimp only at hSw); go_simp; try with_reducible rfl))
                try simp only [Act.put, List.setIfInBounds_toArray, List.set_cons_zero, List.set_cons_succ, List.getElem_toArray, List.getElem_cons_zero, List.getElem_cons_succ]
                first
                  | (refine wpAnyH_take (i := 3) (v := undef) rfl (by kernel_rfl) (by kernel_rfl) (by kernel_rfl) (fun _ _ _ h => h) (Or.inr ⟨by rfl, rfl⟩) (by assumption) ?_)
                  | (refine wpAnyH_take (i := 3) (v := ?_) rfl (by kernel_rfl) (by kernel_rfl) (by kernel_rfl) (fun _ _ _ h => h) (Or.inl ⟨by rfl, ?_⟩) (by assumption) ?_; rotate_left; (intro wH hSw; (try dsimp only at hSw); go_simp; try with_reducible rfl))
                try simp only [Act.put, List.setIfInBounds_toArray, List.set_cons_zero, List.set_cons_succ, List.getElem_toArray, List.getElem_cons_zero, List.getElem_cons_succ]
                first
                  | (refine wpAnyH_take (i := 5) (v := undef) rfl (by kernel_rfl) (by kernel_rfl) (by kernel_rfl) (fun _ _ _ h => h) (Or.inr ⟨by rfl, rfl⟩) (by assumption) ?_)
                  | (refine wpAnyH_take (i := 5) (v := ?_) rfl (by kernel_rfl) (by kernel_rfl) (by kernel_rfl) (fun _ _ _ h => h) (Or.inl ⟨by rfl, ?_⟩) (by assumption) ?_; rotate_left; (intro wH hSw; (try dsimp only at hSw); go_simp; try with_reducible rfl))
                try simp only [Act.put, List.setIfInBounds_toArray, List.set_cons_zero, List.set_cons_succ, List.getElem_toArray, List.getElem_cons_zero, List.getElem_cons_succ]
                first
                  | (refine wpAnyH_take (i := 6) (v := undef) rfl (by kernel_rfl) (by kernel_rfl) (by kernel_rfl) (fun _ _ _ h => h) (Or.inr ⟨by rfl, rfl⟩) (by assumption) ?_)
                  | (refine wpAnyH_take (i := 6) (v := ?_) rfl (by kernel_rfl) (by kernel_rfl) (by kernel_rfl) (fun _ _ _ h => h) (Or.inl ⟨by rfl, ?_⟩) (by assumption) ?_; rotate_left; (intro wH hSw; (try dsimp only at hSw); go_simp; try with_reducible rfl))
                try simp only [Act.put, List.setIfInBounds_toArray, List.set_cons_zero, List.set_cons_succ, List.getElem_toArray, List.getElem_cons_zero, List.getElem_cons_succ]
                refine wpAnyH_ready (rs := [4, 8]) (by kernel_rfl) (by simp) ?_
                refine AllReadyH.cons rfl (fun K hK => ?_) (AllReadyH.cons rfl (fun K hK => ?_) AllReadyH.nil)
                go_simp
                refine hK.out _ _ hHeld (fun hHeld => ?_)
                clear hK K
                try simp only [Act.put, List.setIfInBounds_toArray, List.set_cons_zero, List.set_cons_succ, List.getElem_toArray, List.getElem_cons_zero, List.getElem_cons_succ]
                first
                  | (refine wpAnyH_take (i := 7) (v := undef) rfl (by kernel_rfl) (by kernel_rfl) (by kernel_rfl) (fun _ _ _ h => h) (Or.inr ⟨by rfl, rfl⟩) (by assumption) ?_)
                  | (refine wpAnyH_take (i := 7) (v := ?_) rfl (by kernel_rfl) (by kernel_rfl) (by kernel_rfl) (fun _ _ _ h => h) (Or.inl ⟨by rfl, ?_⟩) (by assumption) ?_; rotate_left; (intro wH hSw; (try dsimp only at hSw); go_simp; try with_reducible rfl))
                try simp only [Act.put, List.setIfInBounds_toArray, List.set_cons_zero, List.set_cons_succ, List.getElem_toArray, List.getElem_cons_zero, List.getElem_cons_succ]
                refine wpAnyH_ready (rs := [8]) (by kernel_rfl) (by simp) ?_
                refine AllReadyH.cons rfl (fun K hK => ?_) AllReadyH.nil
                go_simp
                skip
                refine hK.out _ _ (by (try dsimp only); exact ⟨(box_cell x8.out 2).trans rfl, (box_cell x8.out 3).trans rfl⟩) (fun hHeld => ?_)
                clear hK K
                try simp only [Act.put, List.setIfInBounds_toArray, List.set_cons_zero, List.set_cons_succ, List.getElem_toArray, List.getElem_cons_zero, List.getElem_cons_succ]
                first
                  | (refine wpAnyH_take (i := 9) (v := undef) rfl (by kernel_rfl) (by kernel_rfl) (by kernel_rfl) (fun _ _ _ h => h) (Or.inr ⟨by rfl, rfl⟩) (by assumption) ?_)
                  | (refine wpAnyH_take (i := 9) (v := ?_) rfl (by kernel_rfl) (by kernel_rfl) (by kernel_rfl) (fun _ _ _ h => h) (Or.inl ⟨by rfl, ?_⟩) (by assumption) ?_; rotate_left; (intro wH hSw; (try dsimp only at hSw); go_simp; try with_reducible rfl))
                try simp only [Act.put, List.setIfInBounds_toArray, List.set_cons_zero, List.set_cons_succ, List.getElem_toArray, List.getElem_cons_zero, List.getElem_cons_succ]
                rotate_left
                go_simp
                refine hK.out _ _ (by (try dsimp only); exact ⟨(box_cell x8.out 2).trans rfl, (box_cell x8.out 3).trans rfl⟩) (fun hHeld => ?_)
                clear hK K
                try simp only [Act.put, List.setIfInBounds_toArray, List.set_cons_zero, List.set_cons_succ, List.getElem_toArray, List.getElem_cons_zero, List.getElem_cons_succ]
                first
                  | (refine wpAnyH_take (i := 9) (v := undef) rfl (by kernel_rfl) (by kernel_rfl) (by kernel_rfl) (fun _ _ _ h => h) (Or.inr ⟨by rfl, rfl⟩) (by assumption) ?_)
                  | (refine wpAnyH_take (i := 9) (v := ?_) rfl (by kernel_rfl) (by kernel_rfl) (by kernel_rfl) (fun _ _ _ h => h) (Or.inl ⟨by rfl, ?_⟩) (by assumption) ?_; rotate_left; (intro wH hSw; (try dsimp only at hSw); go_simp; try with_reducible rfl))
                try simp only [Act.put, List.setIfInBounds_toArray, List.set_cons_zero, List.set_cons_succ, List.getElem_toArray, List.getElem_cons_zero, List.getElem_cons_succ]
                refine wpAnyH_ready (rs := [4]) (by kernel_rfl) (by simp) ?_
                refine AllReadyH.cons rfl (fun K hK => ?_) AllReadyH.nil
                go_simp
                skip
                refine hK.out _ _ (by (try dsimp only); exact hHeld) (fun hHeld => ?_)
                clear hK K
                try simp only [Act.put, List.setIfInBounds_toArray, List.set_cons_zero, List.set_cons_succ, List.getElem_toArray, List.getElem_cons_zero, List.getElem_cons_succ]
                first
                  | (refine wpAnyH_take (i := 7) (v := undef) rfl (by kernel_rfl) (by kernel_rfl) (by kernel_rfl) (fun _ _ _ h => h) (Or.inr ⟨by rfl, rfl⟩) (by assumption) ?_)
                  | (refine wpAnyH_take (i := 7) (v := ?_) rfl (by kernel_rfl) (by kernel_rfl) (by kernel_rfl) (fun _ _ _ h => h) (Or.inl ⟨by rfl, ?_⟩) (by assumption) ?_; rotate_left; (intro wH hSw; (try dsimp only at hSw); go_simp; try with_reducible rfl))
                try simp only [Act.put, List.setIfInBounds_toArray, List.set_cons_zero, List.set_cons_succ, List.getElem_toArray, List.getElem_cons_zero, List.getElem_cons_succ]
                all_goals
                  refine wpAnyH_ready (rs := [10]) (by kernel_rfl) (by simp) ?_
                  refine AllReadyH.cons rfl (fun K hK => ?_) AllReadyH.nil
                  go_simp
                  skip
                  refine hK.out _ _ (by (try dsimp only); exact ⟨(box_cell x10.out 2).trans rfl, (box_cell x10.out 3).trans rfl⟩) (fun hHeld => ?_)
                  clear hK K
                  try simp only [Act.put, List.setIfInBounds_toArray, List.set_cons_zero, List.set_cons_succ, List.getElem_toArray, List.getElem_cons_zero, List.getElem_cons_succ]
                  refine wpAnyH_done (by kernel_rfl) ?_ _
                  clear hHeld w1
                  go_wp2
                  have w2 := W2f.out
                  refine wp_region_held_drew (S := fun wq => wq.cell? ⟨wo.heap.size, 1, none⟩ = some (.int .i64 (el e.lines k).dim) ∧ wq.cell? ⟨wo.heap.size, 4, none⟩ = some (.int .i64 (el e.lines k).base)) (by kernel_rfl) ⟨(box_cell x10.out 1).trans rfl, (box_cell x10.out 4).trans rfl⟩ (fun hHeld => ?_)
                  first
                    | (refine wpAnyH_take (i := 0) (v := undef) rfl (by kernel_rfl) (by kernel_rfl) (by kernel_rfl) (fun _ _ _ h => h) (Or.inr ⟨by rfl, rfl⟩) (by assumption) ?_)
                    | (refine wpAnyH_take (i := 0) (v := ?_) rfl (by kernel_rfl) (by kernel_rfl) (by kernel_rfl) (fun _ _ _ h => h) (Or.inl ⟨by rfl, ?_⟩) (by assumption) ?_; rotate_left; (intro wH hSw; (try dsimp only at hSw); go_simp; try with_reducible rfl))
                  try simp only [Act.put, List.setIfInBounds_toArray, List.set_cons_zero, List.set_cons_succ, List.getElem_toArray, List.getElem_cons_zero, List.getElem_cons_succ]
                  first
                    | (refine wpAnyH_take (i := 1) (v := undef) rfl (by kernel_rfl) (by kernel_rfl) (by kernel_rfl) (fun _ _ _ h => h) (Or.inr ⟨by rfl, rfl⟩) (by assumption) ?_)
                    | (refine wpAnyH_take (i := 1) (v := ?_) rfl (by kernel_rfl) (by kernel_rfl) (by kernel_rfl) (fun _ _ _ h => h) (Or.inl ⟨by rfl, ?_⟩) (by assumption) ?_; rotate_left; (intro wH hSw; (try dsimp only at hSw); go_simp; try with_reducible rfl))
                  try simp only [Act.put, List.setIfInBounds_toArray, List.set_cons_zero, List.set_cons_succ, List.getElem_toArray, List.getElem_cons_zero, List.getElem_cons_succ]
                  first
                    | (refine wpAnyH_take (i := 2) (v := undef) rfl (by kernel_rfl) (by kernel_rfl) (by kernel_rfl) (fun _ _ _ h => h) (Or.inr ⟨by rfl, rfl⟩) (by assumption) ?_)
                    | (refine wpAnyH_take (i := 2) (v := ?_) rfl (by kernel_rfl) (by kernel_rfl) (by kernel_rfl) (fun _ _ _ h => h) (Or.inl ⟨by rfl, ?_⟩) (by assumption) ?_; rotate_left; (intro wH hSw; (try dsimp only at hSw); go_simp; try with_reducible rfl))
                  try simp only [Act.put, List.setIfInBounds_toArray, List.set_cons_zero, List.set_cons_succ, List.getElem_toArray, List.getElem_cons_zero, List.getElem_cons_succ]
                  first
                    | (refine wpAnyH_take (i := 3) (v := undef) rfl (by kernel_rfl) (by kernel_rfl) (by kernel_rfl) (fun _ _ _ h => h) (Or.inr ⟨by rfl, rfl⟩) (by assumption) ?_)
                    | (refine wpAnyH_take (i := 3) (v := ?_) rfl (by kernel_rfl) (by kernel_rfl) (by kernel_rfl) (fun _ _ _ h => h) (Or.inl ⟨by rfl, ?_⟩) (by assumption) ?_; rotate_left; (intro wH hSw; (try dsimp only at hSw); go_simp; try with_reducible rfl))
                  try simp only [Act.put, List.setIfInBounds_toArray, List.set_cons_zero, List.set_cons_succ, List.getElem_toArray, List.getElem_cons_zero, List.getElem_cons_succ]
                  first
                    | (refine wpAnyH_take (i := 5) (v := undef) rfl (by kernel_rfl) (by kernel_rfl) (by kernel_rfl) (fun _ _ _ h => h) (Or.inr ⟨by rfl, rfl⟩) (by assumption) ?_)
                    | (refine wpAnyH_take (i := 5) (v := ?_) rfl (by kernel_rfl) (by kernel_rfl) (by kernel_rfl) (fun _ _ _ h => h) (Or.inl ⟨by rfl, ?_⟩) (by assumption) ?_; rotate_left; (intro wH hSw; (try dsimp only at hSw); go_simp; try with_reducible rfl))
                  try simp only [Act.put, List.setIfInBounds_toArray, List.set_cons_zero, List.set_cons_succ, List.getElem_toArray, List.getElem_cons_zero, List.getElem_cons_succ]
                  first
                    | (refine wpAnyH_take (i := 6) (v := undef) rfl (by kernel_rfl) (by kernel_rfl) (by kernel_rfl) (fun _ _ _ h => h) (Or.inr ⟨by rfl, rfl⟩) (by assumption) ?_)
                    | (refine wpAnyH_take (i := 6) (v := ?_) rfl (by kernel_rfl) (by kernel_rfl) (by kernel_rfl) (fun _ _ _ h => h) (Or.inl ⟨by rfl, ?_⟩) (by assumption) ?_; rotate_left; (intro wH hSw; (try dsimp only at hSw); go_simp; try with_reducible rfl))
                  try simp only [Act.put, List.setIfInBounds_toArray, List.set_cons_zero, List.set_cons_succ, List.getElem_toArray, List.getElem_cons_zero, List.getElem_cons_succ]
                  refine wpAnyH_ready (rs := [4, 8]) (by kernel_rfl) (by simp) ?_
                  refine AllReadyH.cons rfl (fun K hK => ?_) (AllReadyH.cons rfl (fun K hK => ?_) AllReadyH.nil)
                  go_simp
                  refine hK.out _ _ hHeld (fun hHeld => ?_)
                  clear hK K
                  try simp only [Act.put, List.setIfInBounds_toArray, List.set_cons_zero, List.set_cons_succ, List.getElem_toArray, List.getElem_cons_zero, List.getElem_cons_succ]
                  first
                    | (refine wpAnyH_take (i := 7) (v := undef) rfl (by kernel_rfl) (by kernel_rfl) (by kernel_rfl) (fun _ _ _ h => h) (Or.inr ⟨by rfl, rfl⟩) (by assumption) ?_)
                    | (refine wpAnyH_take (i := 7) (v := ?_) rfl (by kernel_rfl) (by kernel_rfl) (by kernel_rfl) (fun _ _ _ h => h) (Or.inl ⟨by rfl, ?_⟩) (by assumption) ?_; rotate_left; (intro wH hSw; (try dsimp only at hSw); go_simp; try with_reducible rfl))
                  try simp only [Act.put, List.setIfInBounds_toArray, List.set_cons_zero, List.set_cons_succ, List.getElem_toArray, List.getElem_cons_zero, List.getElem_cons_succ]
                  refine wpAnyH_ready (rs := [8]) (by kernel_rfl) (by simp) ?_
                  refine AllReadyH.cons rfl (fun K hK => ?_) AllReadyH.nil
                  go_simp
                  skip
                  refine hK.out _ _ (by (try dsimp only); exact ⟨(box_cell x18.out 1).trans rfl, (box_cell x18.out 4).trans rfl⟩) (fun hHeld => ?_)
                  clear hK K
                  try simp only [Act.put, List.setIfInBounds_toArray, List.set_cons_zero, List.set_cons_succ, List.getElem_toArray, List.getElem_cons_zero, List.getElem_cons_succ]
                  first
                    | (refine wpAnyH_take (i := 9) (v := undef) rfl (by kernel_rfl) (by kernel_rfl) (by kernel_rfl) (fun _ _ _ h => h) (Or.inr ⟨by rfl, rfl⟩) (by assumption) ?_)
                    | (refine wpAnyH_take (i := 9) (v := ?_) rfl (by kernel_rfl) (by kernel_rfl) (by kernel_rfl) (fun _ _ _ h => h) (Or.inl ⟨by rfl, ?_⟩) (by assumption) ?_; rotate_left; (intro wH hSw; (try dsimp only at hSw); go_simp; try with_reducible rfl))
                  try simp only [Act.put, List.setIfInBounds_toArray, List.set_cons_zero, List.set_cons_succ, List.getElem_toArray, List.getElem_cons_zero, List.getElem_cons_succ]
                  rotate_left
                  go_simp
                  refine hK.out _ _ (by (try dsimp only); exact ⟨(box_cell x18.out 1).trans rfl, (box_cell x18.out 4).trans rfl⟩) (fun hHeld => ?_)
                  clear hK K
                  try simp only [Act.put, List.setIfInBounds_toArray, List.set_cons_zero, List.set_cons_succ, List.getElem_toArray, List.getElem_cons_zero, List.getElem_cons_succ]
                  first
                    | (refine wpAnyH_take (i := 9) (v := undef) rfl (by kernel_rfl) (by kernel_rfl) (by kernel_rfl) (fun _ _ _ h => h) (Or.inr ⟨by rfl, rfl⟩) (by assumption) ?_)
                    | (refine wpAnyH_take (i := 9) (v := ?_) rfl (by kernel_rfl) (by kernel_rfl) (by kernel_rfl) (fun _ _ _ h => h) (Or.inl ⟨by rfl, ?_⟩) (by assumption) ?_; rotate_left; (intro wH hSw; (try dsimp only at hSw); go_simp; try with_reducible rfl))
                  try simp only [Act.put, List.setIfInBounds_toArray, List.set_cons_zero, List.set_cons_succ, List.getElem_toArray, List.getElem_cons_zero, List.getElem_cons_succ]
                  refine wpAnyH_ready (rs := [4]) (by kernel_rfl) (by simp) ?_
                  refine AllReadyH.cons rfl (fun K hK => ?_) AllReadyH.nil
                  go_simp
                  skip
                  refine hK.out _ _ (by (try dsimp only); exact hHeld) (fun hHeld => ?_)
                  clear hK K
                  try simp only [Act.put, List.setIfInBounds_toArray, List.set_cons_zero, List.set_cons_succ, List.getElem_toArray, List.getElem_cons_zero, List.getElem_cons_succ]
                  first
                    | (refine wpAnyH_take (i := 7) (v := undef) rfl (by kernel_rfl) (by kernel_rfl) (by kernel_rfl) (fun _ _ _ h => h) (Or.inr ⟨by rfl, rfl⟩) (by assumption) ?_)
                    | (refine wpAnyH_take (i := 7) (v := ?_) rfl (by kernel_rfl) (by kernel_rfl) (by kernel_rfl) (fun _ _ _ h => h) (Or.inl ⟨by rfl, ?_⟩) (by assumption) ?_; rotate_left; (intro wH hSw; (try dsimp only at hSw); go_simp; try with_reducible rfl))
                  try simp only [Act.put, List.setIfInBounds_toArray, List.set_cons_zero, List.set_cons_succ, List.getElem_toArray, List.getElem_cons_zero, List.getElem_cons_succ]
                  all_goals
                    refine wpAnyH_ready (rs := [10]) (by kernel_rfl) (by simp) ?_
                    refine AllReadyH.cons rfl (fun K hK => ?_) AllReadyH.nil
                    go_simp
                    skip
                    refine hK.out _ _ (by (try dsimp only); exact ⟨(box_cell x110.out 1).trans rfl, (box_cell x110.out 4).trans rfl⟩) (fun hHeld => ?_)
                    clear hK K
                    try simp only [Act.put, List.setIfInBounds_toArray, List.set_cons_zero, List.set_cons_succ, List.getElem_toArray, List.getElem_cons_zero, List.getElem_cons_succ]
                    refine wpAnyH_done (by kernel_rfl) ?_ _
                    clear hHeld w2
                    go_wp2
                    go_roundw
                    case rel =>
                      refine ⟨k + 1, by omega, by go_num, fun j hj => ?_, ⟨_, HD2.out, by rw [Nat.mul_add]; exact O110.out⟩, b110.out⟩
                      by_cases e : j = k
                      · subst e; exact HLI.out
                      · exact HA.out j (by omega)
                    case measure => simp [intOf]; omega
          · have ek : k = e.lines.length := by omega
            subst ek
            have hpo3 : entInB f e = (List.range e.lines.length).all (balB e.lines) := by
              rw [HP2.out, List.all_eq_true.2 (fun j hj => HA.out j (List.mem_range.1 hj)), Bool.true_and]
            have hok : ∀ j, j < e.lines.length → okI (el e.lines j).cur ∧ okI (el e.lines j).dim := fun j hj => by
              have := lineB_t (HA.out j hj)
              exact ⟨wf64 (by omega) (by omega), wf64 (by omega) (by omega)⟩
            have HP3 := Lib.hid hpo3
            have HOK := Lib.hid hok
            clear hpo3 hok hlt
            go_wp2_with (at_range; refine wpList_range_own _ rfl _ _ rfl 246 3 pairKeyed Try.underlying245 _ W0.heap.size _ _ rfl HM.out ?_; intro w2 hr2 hg2 hs2)
            go_frame
            have HR2 := Lib.hid hr2
            have hlm := HM.out.lt
            have b2 : Below w.heap.size w w2 := (below_step b0.out hB).grown hg2 (below_step b0.out hB).size (by simp)
            have b00 := b0.out.size
            clear hr2 hg2 hs2 HM
            go_loopw [10] (fun _ wq => ∃ (left : Lit → Bool) (cnt : Nat), wq.ranges Try.prog 246 (plainElem Try.prog 3) W0.heap.size wo.heap.size (2 * e.lines.length) D left cnt ∧ (∀ kl, has D kl = true → left kl = false → ∀ zd, D.atKey kl zd = .lit (.int .i64 0)) ∧ Below w.heap.size w wq) (fun _ wq => wq.rangeLeft W0.heap.size wo.heap.size)
            case atStart => exact ⟨_, _, HR2.out, (fun kl h1 h2 => by rw [h1] at h2; cases h2), b2⟩
            case round =>
              clear HR2 b2
              obtain ⟨left, cnt, hrg, hzero, hB2⟩ := hrel
              have HR := Lib.hid hrg
              have HZR := Lib.hid hzero
              clear hrg hzero
              go_wp2_with (at_next; refine wpList_next_ranges _ rfl _ rfl 246 pairKeyed (plainElem Try.prog 3) (fun v : Value => v) (Value.int .i64) (fun key kl _ => ⟨key, rfl⟩) (fun v y hv => by obtain ⟨c, rfl, _⟩ := plainElem_int_inv Try.underlying3 hv; exact ⟨c, rfl⟩) W0.heap.size wo.heap.size _ D _ _ rfl HR.out ?_ ?_)
              · intro hc0 hl0
                have hv : entInB f e = true := by
                  rw [HP3.out]
                  exact sums_zero HD.out HOK.out (fun kl h => HZR.out kl h (hl0 kl))
                have HV := Lib.hid hv
                clear hv
                go_wp2
                go_ret
                exact ⟨ret_b HV.out.symm, hB2⟩
              · intro x cv kl y ps w3 cnt1 hkey hlk hRv hat hrg1 hlt1 hg1 hs1 hen
                have hy : y = .lit (.int .i64 cv) := by
                  obtain ⟨c', hc', hy', _⟩ := plainElem_int_inv Try.underlying3 hRv
                  injection hc' with _ hc'
                  subst hc'
                  exact congrArg Prod.fst hy'
                have hat2 : ∀ zd, D.atKey kl zd = .lit (.int .i64 cv) := fun zd => (hat zd).trans hy
                have hhas : has D kl = true := has_true_of_atKey hat2
                have b3 : Below w.heap.size w w3 := hB2.grown hg1 hB2.size (fun j hj => by cases hj; omega)
                have HAT := Lib.hid hat2
                have HR1 := Lib.hid hrg1
                have HHAS := Lib.hid hhas
                clear hat hat2 hrg1 hRv hkey hlk hy hg1 hs1 hhas
                by_cases h0 : cv = 0
                · subst h0
                  go_wp2
                  go_roundw
                  case rel =>
                    refine ⟨_, cnt1, HR1.out, fun kl' h1 h2 => ?_, b3⟩
                    by_cases e : kl' = kl
                    · subst e; exact HAT.out
                    · refine HZR.out kl' h1 ?_
                      rw [sameKey_ne e] at h2
                      simpa using h2
                  case measure => rw [HR1.out.left_eq, HR.out.left_eq]; exact hlt1
                · have c0 : (cv != 0) = true := by rw [bne_iff_ne]; exact h0
                  have hv : entInB f e = false := by
                    rw [HP3.out]
                    exact sums_not HD.out HOK.out HHAS.out HAT.out h0
                  have HV := Lib.hid hv
                  clear hv h0
                  go_wp2
                  go_ret
                  exact ⟨ret_b HV.out.symm, b3⟩
end Go.Proofs.Ythgnfpbbhiegfaa
