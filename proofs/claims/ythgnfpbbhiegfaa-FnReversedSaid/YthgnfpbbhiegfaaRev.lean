/- The walk of the program's Reverse. -/
import Derived.Test.YthgnfpbbhiegfaaPost2
import Derived.Test.YthgnfpbbhiegfaaText
import Derived.Test.YthgnfpbbhiegfaaRevP
import Derived.Test.YthgnfpbbhiegfaaDrawE
import Derived.IntWalk
namespace Go.Proofs.Ythgnfpbbhiegfaa
open Go.RowKit
def revB (f : Fr) (l : Le) (at' day : Int) : Bool := ledB f l && decide (0 ≤ at') && decide (at' < l.entries.length) && dayB day
set_option linter.unusedSimpArgs false in
set_option maxRecDepth 100000 in
set_option maxHeartbeats 4000000 in
theorem Reverse_no {S : Nat → Prop} (A : Option Addr) (c : Nat) (f : Fr) (A0 : Option Addr) (c0 : Nat) (l : Le) (at' day : Int) (w : World) (hr : Sl cAc w S A f.chart) (hs : Sl cEn w S A0 l.entries) (hno : revB f l at' day = false) :
    Calls Try.prog 12 #[.agg #[.slice A f.chart.length c, .int .i64 f.dims, .int .i64 f.curs], .agg #[.slice A0 l.entries.length c0, .int .i64 l.head], .int .i64 at', .int .i64 day] w fun r w' => r = .returned (.tuple #[.agg #[.int .i64 0, .int .i64 0, .string ⟨#[]⟩, .slice none 0 0], .bool false]) ∧ Below w.heap.size w w' := by
  have hl := hs.1
  have HNO := Lib.hid hno
  clear hno
  go_enter Try.func12, Try.ntmps12
  go_upto_region 1 with (fail)
  obtain ⟨W0, hW0, hsz, x0, x1, x2, b0⟩ : ∃ W0 : World, W0 = ((w.alloc (.cells #[.slice A f.chart.length c, .int .i64 f.dims, .int .i64 f.curs] 26)).alloc (.cells #[.slice A0 l.entries.length c0, .int .i64 l.head] 29)).alloc (.cells #[.int .i64 0, .int .i64 0, .string ⟨#[]⟩, .slice none 0 0] 34) ∧ W0.heap.size = w.heap.size + 3 ∧ W0.heap[w.heap.size]? = some (.cells #[.slice A f.chart.length c, .int .i64 f.dims, .int .i64 f.curs] 26 (0, 0)) ∧ W0.heap[w.heap.size + 1]? = some (.cells #[.slice A0 l.entries.length c0, .int .i64 l.head] 29 (0, 0)) ∧ W0.heap[w.heap.size + 2]? = some (.cells #[.int .i64 0, .int .i64 0, .string ⟨#[]⟩, .slice none 0 0] 34 (0, 0)) ∧ Bel w W0 := ⟨_, rfl, by simp, box_up (box_up (box_at rfl _)), box_up (box_at (by simp) _), box_at (by simp) _, inferInstance⟩
  rw [← hW0]
  clear hW0
  have X0 := Lib.hid x0
  have X1 := Lib.hid x1
  have X2 := Lib.hid x2
  have y0 := (box_cell x0 0).trans rfl
  have y1 := (box_cell x0 1).trans rfl
  have y2 := (box_cell x0 2).trans rfl
  have z0 := (box_cell x1 0).trans rfl
  have z1 := (box_cell x1 1).trans rfl
  clear x0 x1 x2 hsz
  go_wp2_with (first | (go_at_call 76; refine (impl_LedgerOk_c _ _ _ _ _ _ _ (hr.to (w1 := W0)) (hs.to (w1 := W0))).mono ?_; rintro r w1 ⟨rfl, hb1⟩; have b1 : Bel W0 w1 := ⟨hb1⟩; have q0 := (box_cell (box_below X1.out b1.out) 0).trans rfl; have HX := Lib.hid (box_below X2.out b1.out); have u0 := (box_cell HX.out 0).trans rfl; have u1 := (box_cell HX.out 1).trans rfl; have u2 := (box_cell HX.out 2).trans rfl; have u3 := (box_cell HX.out 3).trans rfl; have f0 := box_free HX.out 0; have f1 := box_free HX.out 1; have f2 := box_free HX.out 2; have f3 := box_free HX.out 3) | (go_at_call 77; refine (isDay_c _ _).mono ?_; rintro e w' ⟨rfl, rfl⟩))
  all_goals first
    | (refine bodyPost_ret (results_row_tmp rfl _ _ (w.heap.size + 2) 34 #[.int .i64 0, .int .i64 0, .string ⟨#[]⟩, .slice none 0 0] (0, 0) _ (.bool false) rfl rfl (heap_setCell_same _ _ 3 _ _ _ (heap_setCell_same _ _ 2 _ _ _ (heap_setCell_same _ _ 1 _ _ _ (heap_setCell_same _ _ 0 _ _ _ HX.out)))) Try.underlying34 rfl (by kernel_rfl)) rfl ?_
       refine ⟨rfl, ?_⟩
       have bb : Below w.heap.size w w1 := below_step b0.out b1.out
       exact (((bb.setCell (p := ⟨w.heap.size + 2, 0, none⟩) (by show w.heap.size ≤ w.heap.size + 2; omega) _).setCell (p := ⟨w.heap.size + 2, 1, none⟩) (by show w.heap.size ≤ w.heap.size + 2; omega) _).setCell (p := ⟨w.heap.size + 2, 2, none⟩) (by show w.heap.size ≤ w.heap.size + 2; omega) _).setCell (p := ⟨w.heap.size + 2, 3, none⟩) (by show w.heap.size ≤ w.heap.size + 2; omega) _)
    | (exfalso
       have h := HNO.out
       unfold revB at h
       simp_all
       done)
/-- The amount negated, then the base. -/
theorem neg_step {e : TypeId} {W : World} {base gs n cap : Nat} {ls : List Ln} {j : Nat} (h : Own cLn e W base (.slice (some ⟨gs, 0, none⟩) n cap) (negTo ls j)) (hj : j < ls.length) :
    Own cLn e (W.setCell ⟨gs, j * 5 + 3, none⟩ (.int .i64 (-(el ls j).amount))) base (.slice (some ⟨gs, 0, none⟩) n cap) ((negTo ls j).set j { el ls j with amount := -(el ls j).amount }) := by
  have hl : j < (negTo ls j).length := by rw [negTo_len]; exact hj
  have he : (negTo ls j)[j] = el ls j := by rw [← el_eq _ _ hl, negTo_el ls j hj]
  exact (h.store j hl 3 (by decide) (.int .i64 (-(el ls j).amount)) { el ls j with amount := -(el ls j).amount } (fun cs hc => by
    rw [he] at hc
    rw [Ln_open hc]
    exact Ln_mk (x := { el ls j with amount := -(el ls j).amount }))).1
theorem neg_step2 {e : TypeId} {W : World} {base gs n cap : Nat} {ls : List Ln} {j : Nat} (h : Own cLn e W base (.slice (some ⟨gs, 0, none⟩) n cap) ((negTo ls j).set j { el ls j with amount := -(el ls j).amount })) (hj : j < ls.length) :
    Own cLn e (W.setCell ⟨gs, j * 5 + 4, none⟩ (.int .i64 (-(el ls j).base))) base (.slice (some ⟨gs, 0, none⟩) n cap) (negTo ls (j + 1)) := by
  have hl : j < ((negTo ls j).set j { el ls j with amount := -(el ls j).amount }).length := by rw [List.length_set, negTo_len]; exact hj
  have h1 := (h.store j hl 4 (by decide) (.int .i64 (-(el ls j).base)) (negL (el ls j)) (fun cs hc => by
    rw [List.getElem_set_self] at hc
    rw [Ln_open hc]
    exact Ln_mk (x := negL (el ls j)))).1
  rw [List.set_set, negTo_set ls j hj] at h1
  exact h1
def revT : ByteArray := ⟨#[114, 101, 118, 101, 114, 115, 101, 32]⟩
theorem revT_ok : okT revT := by
  intro j hj
  have hj' : j < 8 := hj
  have : j = 0 ∨ j = 1 ∨ j = 2 ∨ j = 3 ∨ j = 4 ∨ j = 5 ∨ j = 6 ∨ j = 7 := by omega
  rcases this with rfl | rfl | rfl | rfl | rfl | rfl | rfl | rfl <;> decide
theorem textB_rev {s : ByteArray} (h : okT s) (hs : s.size ≤ 8) : textB (revT ++ s) = true := by
  have h1 := okT_append revT_ok h
  unfold textB
  rw [Bool.and_eq_true, List.all_eq_true]
  refine ⟨fun k hk => decide_eq_true (h1 k (List.mem_range.1 hk)), decide_eq_true ?_⟩
  rw [ByteArray.size_append]
  show 8 + s.size ≤ 40
  omega
set_option linter.unusedSimpArgs false in
set_option maxRecDepth 100000 in
set_option maxHeartbeats 4000000 in
theorem Reverse_yes {S : Nat → Prop} (A : Option Addr) (c : Nat) (f : Fr) (A0 : Option Addr) (c0 : Nat) (l : Le) (k : Nat) (day : Int) (w : World) (hr : Sl cAc w S A f.chart) (hs : Sl cEn w S A0 l.entries) (hled : ledB f l = true) (hk : k < l.entries.length) (hday : dayB day = true) :
    Calls Try.prog 12 #[.agg #[.slice A f.chart.length c, .int .i64 f.dims, .int .i64 f.curs], .agg #[.slice A0 l.entries.length c0, .int .i64 l.head], .int .i64 k, .int .i64 day] w fun r w' => (∃ (t : ByteArray) (A1 : Option Addr) (c1 : Nat), r = .returned (.tuple #[.agg #[.int .i64 day, .int .i64 (k + 1), .string t, .slice A1 (el l.entries k).lines.length c1], .bool true]) ∧ textB t = true ∧ Sl cLn w' (fun j => w.heap.size ≤ j) A1 ((el l.entries k).lines.map negL)) ∧ Below w.heap.size w w' := by
  have hl := hs.1
  have i0 : (0 : Int) ≤ (k : Int) := Int.natCast_nonneg k
  have i1 : (k : Int) < (l.entries.length : Int) := by omega
  have i2 : ¬ (k : Int) < 0 := by omega
  have h60 := led_60 hled k hk
  go_enter Try.func12, Try.ntmps12
  go_upto_region 1 with (fail)
  obtain ⟨W0, hW0, hsz, x0, x1, x2, b0⟩ : ∃ W0 : World, W0 = ((w.alloc (.cells #[.slice A f.chart.length c, .int .i64 f.dims, .int .i64 f.curs] 26)).alloc (.cells #[.slice A0 l.entries.length c0, .int .i64 l.head] 29)).alloc (.cells #[.int .i64 0, .int .i64 0, .string ⟨#[]⟩, .slice none 0 0] 34) ∧ W0.heap.size = w.heap.size + 3 ∧ W0.heap[w.heap.size]? = some (.cells #[.slice A f.chart.length c, .int .i64 f.dims, .int .i64 f.curs] 26 (0, 0)) ∧ W0.heap[w.heap.size + 1]? = some (.cells #[.slice A0 l.entries.length c0, .int .i64 l.head] 29 (0, 0)) ∧ W0.heap[w.heap.size + 2]? = some (.cells #[.int .i64 0, .int .i64 0, .string ⟨#[]⟩, .slice none 0 0] 34 (0, 0)) ∧ Bel w W0 := ⟨_, rfl, by simp, box_up (box_up (box_at rfl _)), box_up (box_at (by simp) _), box_at (by simp) _, inferInstance⟩
  rw [← hW0]
  clear hW0
  have X0 := Lib.hid x0
  have X1 := Lib.hid x1
  have X2 := Lib.hid x2
  have y0 := (box_cell x0 0).trans rfl
  have y1 := (box_cell x0 1).trans rfl
  have y2 := (box_cell x0 2).trans rfl
  have z0 := (box_cell x1 0).trans rfl
  have z1 := (box_cell x1 1).trans rfl
  clear x0 x1 x2 hsz
  go_upto_region 3 with (first | (go_at_call 76; refine (impl_LedgerOk_c _ _ _ _ _ _ _ (hr.to (w1 := W0)) (hs.to (w1 := W0))).mono ?_; rintro r w1 ⟨rfl, hb1⟩; have b1 : Bel W0 w1 := ⟨hb1⟩; rw [hled]; have q0 := (box_cell (box_below X1.out b1.out) 0).trans rfl) | (go_at_call 77; refine (isDay_c _ _).mono ?_; rintro e w' ⟨rfl, rfl⟩))
  clear y0 y1 y2 z0 z1
  obtain ⟨ad, A3, c3, rfl, l0, l1, l2, l3, hz, h3', hsl⟩ := at_En ((hs.to (w1 := W0)).to (w1 := w1)) k hk
  go_upto_region 4 with (go_at_call 78; refine (copyEntry_c _ _ _ _ hsl h60).mono ?_; rintro r w2 ⟨gs, rfl, hgs, hown2, hb2⟩; have b2 : Bel w1 w2 := ⟨hb2⟩)
  obtain ⟨W3, hW3, hsz3, hx3, b3⟩ : ∃ W3 : World, W3 = w2.alloc (.cells #[.int .i64 (el l.entries k).day, .int .i64 (el l.entries k).ref, .string (el l.entries k).text, .slice (some ⟨gs, 0, none⟩) (el l.entries k).lines.length (el l.entries k).lines.length] 34) ∧ W3.heap.size = w2.heap.size + 1 ∧ W3.heap[w2.heap.size]? = some (.cells #[.int .i64 (el l.entries k).day, .int .i64 (el l.entries k).ref, .string (el l.entries k).text, .slice (some ⟨gs, 0, none⟩) (el l.entries k).lines.length (el l.entries k).lines.length] 34 (0, 0)) ∧ Bel w2 W3 := ⟨_, rfl, by simp, heap_alloc_new _ _, inferInstance⟩
  rw [← hW3]
  clear hW3 l0 l1 l2 l3 q0
  have XT := Lib.hid hx3
  have HO := Lib.hid (Own.below hown2 b3.out)
  have glt2 : gs < w2.heap.size := (hown2.lt _ rfl).2
  have hn8 : k + 1 < 10000000 := by have := (ledB_t hled).1; omega
  have ek : (((k + 1 : Nat) : Int)) = (k : Int) + 1 := by simp
  have hdec := fun w => decimal_c (k + 1) hn8 w
  rw [ek] at hdec
  have HDEC := Lib.hid hdec
  clear hx3 hown2 hdec ek
  go_upto_region 5 with (go_at_call 79; refine (HDEC.out _).mono ?_; rintro r w4 ⟨⟨s, rfl, hsok, hss⟩, hb4⟩; have b4 : Bel W3 w4 := ⟨hb4⟩; have XT4 := Lib.hid (box_below XT.out b4.out); have u0 := (box_cell XT4.out 0).trans rfl; have u1 := (box_cell XT4.out 1).trans rfl; have u2 := (box_cell XT4.out 2).trans rfl; have u3 := (box_cell XT4.out 3).trans rfl; have f0 := box_free XT4.out 0; have f1 := box_free XT4.out 1; have f2 := box_free XT4.out 2)
  obtain ⟨T, hT⟩ : ∃ T : ByteArray, T = (⟨#[114, 101, 118, 101, 114, 115, 101, 32]⟩ ++ s : ByteArray) := ⟨_, rfl⟩
  rw [← hT]
  obtain ⟨W5, hW5, hx5, hg5⟩ : ∃ W5 : World, W5 = ((w4.setCell ⟨w2.heap.size, 0, none⟩ (.int .i64 day)).setCell ⟨w2.heap.size, 1, none⟩ (.int .i64 ((k : Int) + 1))).setCell ⟨w2.heap.size, 2, none⟩ (.string T) ∧ W5.heap[w2.heap.size]? = some (.cells #[.int .i64 day, .int .i64 ((k : Int) + 1), .string T, .slice (some ⟨gs, 0, none⟩) (el l.entries k).lines.length (el l.entries k).lines.length] 34 (0, 0)) ∧ w4.grownBy W5 (some w2.heap.size) := ⟨_, rfl, heap_setCell_same _ _ 2 _ _ _ (heap_setCell_same _ _ 1 _ _ _ (heap_setCell_same _ _ 0 _ _ _ XT4.out)), ((grown_set _ _ _ _).trans (grown_set _ _ _ _)).trans (grown_set _ _ _ _)⟩
  rw [← hW5]
  clear hW5 u0 u1 u2 u3 f0 f1 f2
  have s1 := b1.out.size
  have s2 := b2.out.size
  have s3 := b3.out.size
  have hgl := (HO.out.lt _ rfl).2
  have HB5 := Lib.hid hx5
  have B5 := Lib.hid (Below.grown (below_step b1.out (below_step b2.out (below_step b3.out b4.out))) hg5 (by have := b4.out.size; omega) (fun j hj => by cases hj; omega))
  have z3 := (box_cell hx5 3).trans rfl
  have hls : ∀ j, j < (el l.entries k).lines.length → lineB f (el (el l.entries k).lines j) = true := by
    have := (ledB_t hled).2.2.2 k hk
    unfold entB at this
    rw [Bool.and_eq_true] at this
    exact (entIn_t this.2).2.2.2.2.1
  have HLS := Lib.hid hls
  have hO4 := HO.out.to (w1 := w4)
  have hO5 := hO4.kept flatLn hg5 (fun j hj e => by cases hj; have := (hO4.lt _ e).1; simp [Value.ownBlock] at e; omega)
  have O5 := Lib.hid hO5
  have HT := Lib.hid hT
  clear hls hO4 hO5 hT hx5 hg5
  go_wp2
  go_loopw [52] (fun v wq => ∃ j : Nat, j ≤ (el l.entries k).lines.length ∧ v = .int .i64 j ∧ wq.heap[w2.heap.size]? = some (.cells #[.int .i64 day, .int .i64 ((k : Int) + 1), .string T, .slice (some ⟨gs, 0, none⟩) (el l.entries k).lines.length (el l.entries k).lines.length] 34 (0, 0)) ∧ Own cLn 130 wq w1.heap.size (.slice (some ⟨gs, 0, none⟩) (el l.entries k).lines.length (el l.entries k).lines.length) (negTo (el l.entries k).lines j) ∧ Below W0.heap.size W0 wq) (fun v _ => (el l.entries k).lines.length - (intOf v).toNat)
  case atStart => exact ⟨0, Nat.zero_le _, rfl, HB5.out, by rw [negTo_zero]; exact O5.out, B5.out⟩
  case round =>
    clear z3
    obtain ⟨wo, rfl⟩ : ∃ wo : World, wo = wr := ⟨_, rfl⟩
    obtain ⟨j, hj, rfl, hbx, hown, hbel⟩ := hrel
    have HX := Lib.hid hbx
    have HW := Lib.hid hown
    have HBL := Lib.hid hbel
    clear hbx hown hbel
    by_cases hlt : j < (el l.entries k).lines.length
    · have hli := lineB_t (HLS.out j hlt)
      have am := hli.2.2.2.2.1
      have bm := hli.2.2.2.2.2.1
      have u1 : IntKind.i64.wrap (-(el (el l.entries k).lines j).amount) = -(el (el l.entries k).lines j).amount := IntWalk.i64_in _ (by omega)
      have u2 : IntKind.i64.wrap (-(el (el l.entries k).lines j).base) = -(el (el l.entries k).lines j).base := IntWalk.i64_in _ (by omega)
      clear hli
      have j0 : (0 : Int) ≤ (j : Int) := Int.natCast_nonneg j
      have j1 : (j : Int) < ((el l.entries k).lines.length : Int) := by omega
      go_upto_region 8 with (fail)
      have z3 := (box_cell HX.out 3).trans rfl
      obtain ⟨ad, he, -, -, -, l3, -⟩ := at_Ln HW.out.reads j (by rw [negTo_len]; exact hlt)
      cases he
      rw [negTo_el _ _ hlt, add_base] at l3
      have fr := HW.out.free (j * 5 + 3)
      refine wp_region_held_drew (S := fun wq => wq.cell? ⟨w2.heap.size, 3, none⟩ = some (.slice (some ⟨gs, 0, none⟩) (el l.entries k).lines.length (el l.entries k).lines.length)) (by kernel_rfl) z3 (fun hHeld => ?_)
      first
        | (refine wpAnyH_take (i := 0) (v := undef) rfl (by kernel_rfl) (by kernel_rfl) (by kernel_rfl) (fun _ _ _ h => h) (Or.inr ⟨by rfl, rfl⟩) (by assumption) ?_)
        | (refine wpAnyH_take (i := 0) (v := ?_) rfl (by kernel_rfl) (by kernel_rfl) (by kernel_rfl) (fun _ _ _ h => h) (Or.inl ⟨by rfl, ?_⟩) (by assumption) ?_; rotate_left; (intro wH hSw; (try dsimp only at hSw); go_simp; try with_reducible rfl))
      try simp only [Act.put, List.setIfInBounds_toArray, List.set_cons_zero, List.set_cons_succ, List.getElem_toArray, List.getElem_cons_zero, List.getElem_cons_succ]
      first
        | (refine wpAnyH_take (i := 1) (v := undef) rfl (by kernel_rfl) (by kernel_rfl) (by kernel_rfl) (fun _ _ _ h => h) (Or.inr ⟨by rfl, rfl⟩) (by assumption) ?_)
        | (refine wpAnyH_take (i := 1) (v := ?_) rfl (by kernel_rfl) (by kernel_rfl) (by kernel_rfl) (fun _ _ _ h => h) (Or.inl ⟨by rfl, ?_⟩) (by assumption) ?_; rotate_left; (intro wH hSw; (try dsimp only at hSw); go_simp; try with_reducible rfl))
      try simp only [Act.put, List.setIfInBounds_toArray, List.set_cons_zero, List.set_cons_succ, List.getElem_toArray, List.getElem_cons_zero, List.getElem_cons_succ]
      first
        | (refine wpAnyH_take (i := 2) (v := undef) rfl (by kernel_rfl) (by kernel_rfl) (by kernel_rfl) (fun _ _ _ h => h) (Or.inr ⟨by rfl, rfl⟩) (by assumption) ?_)
        | (refine wpAnyH_take (i := 2) (v := ?_) rfl (by kernel_rfl) (by kernel_rfl) (by kernel_rfl) (fun _ _ _ h => h) (Or.inl ⟨by rfl, ?_⟩) (by assumption) ?_; rotate_left; (intro wH hSw; (try dsimp only at hSw); go_simp; try with_reducible rfl))
      try simp only [Act.put, List.setIfInBounds_toArray, List.set_cons_zero, List.set_cons_succ, List.getElem_toArray, List.getElem_cons_zero, List.getElem_cons_succ]
      first
        | (refine wpAnyH_take (i := 3) (v := undef) rfl (by kernel_rfl) (by kernel_rfl) (by kernel_rfl) (fun _ _ _ h => h) (Or.inr ⟨by rfl, rfl⟩) (by assumption) ?_)
        | (refine wpAnyH_take (i := 3) (v := ?_) rfl (by kernel_rfl) (by kernel_rfl) (by kernel_rfl) (fun _ _ _ h => h) (Or.inl ⟨by rfl, ?_⟩) (by assumption) ?_; rotate_left; (intro wH hSw; (try dsimp only at hSw); go_simp; try with_reducible rfl))
      try simp only [Act.put, List.setIfInBounds_toArray, List.set_cons_zero, List.set_cons_succ, List.getElem_toArray, List.getElem_cons_zero, List.getElem_cons_succ]
      first
        | (refine wpAnyH_take (i := 4) (v := undef) rfl (by kernel_rfl) (by kernel_rfl) (by kernel_rfl) (fun _ _ _ h => h) (Or.inr ⟨by rfl, rfl⟩) (by assumption) ?_)
        | (refine wpAnyH_take (i := 4) (v := ?_) rfl (by kernel_rfl) (by kernel_rfl) (by kernel_rfl) (fun _ _ _ h => h) (Or.inl ⟨by rfl, ?_⟩) (by assumption) ?_; rotate_left; (intro wH hSw; (try dsimp only at hSw); go_simp; try with_reducible rfl))
      try simp only [Act.put, List.setIfInBounds_toArray, List.set_cons_zero, List.set_cons_succ, List.getElem_toArray, List.getElem_cons_zero, List.getElem_cons_succ]
      first
        | (refine wpAnyH_take (i := 5) (v := undef) rfl (by kernel_rfl) (by kernel_rfl) (by kernel_rfl) (fun _ _ _ h => h) (Or.inr ⟨by rfl, rfl⟩) (by assumption) ?_)
        | (refine wpAnyH_take (i := 5) (v := ?_) rfl (by kernel_rfl) (by kernel_rfl) (by kernel_rfl) (fun _ _ _ h => h) (Or.inl ⟨by rfl, ?_⟩) (by assumption) ?_; rotate_left; (intro wH hSw; (try dsimp only at hSw); go_simp; try with_reducible rfl))
      try simp only [Act.put, List.setIfInBounds_toArray, List.set_cons_zero, List.set_cons_succ, List.getElem_toArray, List.getElem_cons_zero, List.getElem_cons_succ]
      first
        | (refine wpAnyH_take (i := 6) (v := undef) rfl (by kernel_rfl) (by kernel_rfl) (by kernel_rfl) (fun _ _ _ h => h) (Or.inr ⟨by rfl, rfl⟩) (by assumption) ?_)
        | (refine wpAnyH_take (i := 6) (v := ?_) rfl (by kernel_rfl) (by kernel_rfl) (by kernel_rfl) (fun _ _ _ h => h) (Or.inl ⟨by rfl, ?_⟩) (by assumption) ?_; rotate_left; (intro wH hSw; (try dsimp only at hSw); go_simp; try with_reducible rfl))
      try simp only [Act.put, List.setIfInBounds_toArray, List.set_cons_zero, List.set_cons_succ, List.getElem_toArray, List.getElem_cons_zero, List.getElem_cons_succ]
      first
        | (refine wpAnyH_take (i := 7) (v := undef) rfl (by kernel_rfl) (by kernel_rfl) (by kernel_rfl) (fun _ _ _ h => h) (Or.inr ⟨by rfl, rfl⟩) (by assumption) ?_)
        | (refine wpAnyH_take (i := 7) (v := ?_) rfl (by kernel_rfl) (by kernel_rfl) (by kernel_rfl) (fun _ _ _ h => h) (Or.inl ⟨by rfl, ?_⟩) (by assumption) ?_; rotate_left; (intro wH hSw; (try dsimp only at hSw); go_simp; try with_reducible rfl))
      try simp only [Act.put, List.setIfInBounds_toArray, List.set_cons_zero, List.set_cons_succ, List.getElem_toArray, List.getElem_cons_zero, List.getElem_cons_succ]
      refine wpAnyH_ready (rs := [8]) (by kernel_rfl) (by simp) ?_
      refine AllReadyH.cons rfl (fun K hK => ?_) AllReadyH.nil
      go_simp
      skip
      refine hK.out _ _ (by (try dsimp only); exact hHeld) (fun hHeld => ?_)
      clear hK K
      try simp only [Act.put, List.setIfInBounds_toArray, List.set_cons_zero, List.set_cons_succ, List.getElem_toArray, List.getElem_cons_zero, List.getElem_cons_succ]
      first
        | (refine wpAnyH_take (i := 9) (v := undef) rfl (by kernel_rfl) (by kernel_rfl) (by kernel_rfl) (fun _ _ _ h => h) (Or.inr ⟨by rfl, rfl⟩) (by assumption) ?_)
        | (refine wpAnyH_take (i := 9) (v := ?_) rfl (by kernel_rfl) (by kernel_rfl) (by kernel_rfl) (fun _ _ _ h => h) (Or.inl ⟨by rfl, ?_⟩) (by assumption) ?_; rotate_left; (intro wH hSw; (try dsimp only at hSw); go_simp; try with_reducible rfl))
      try simp only [Act.put, List.setIfInBounds_toArray, List.set_cons_zero, List.set_cons_succ, List.getElem_toArray, List.getElem_cons_zero, List.getElem_cons_succ]
      first
        | (refine wpAnyH_take (i := 10) (v := undef) rfl (by kernel_rfl) (by kernel_rfl) (by kernel_rfl) (fun _ _ _ h => h) (Or.inr ⟨by rfl, rfl⟩) (by assumption) ?_)
        | (refine wpAnyH_take (i := 10) (v := ?_) rfl (by kernel_rfl) (by kernel_rfl) (by kernel_rfl) (fun _ _ _ h => h) (Or.inl ⟨by rfl, ?_⟩) (by assumption) ?_; rotate_left; (intro wH hSw; (try dsimp only at hSw); go_simp; try with_reducible rfl))
      try simp only [Act.put, List.setIfInBounds_toArray, List.set_cons_zero, List.set_cons_succ, List.getElem_toArray, List.getElem_cons_zero, List.getElem_cons_succ]
      first
        | (refine wpAnyH_take (i := 11) (v := undef) rfl (by kernel_rfl) (by kernel_rfl) (by kernel_rfl) (fun _ _ _ h => h) (Or.inr ⟨by rfl, rfl⟩) (by assumption) ?_)
        | (refine wpAnyH_take (i := 11) (v := ?_) rfl (by kernel_rfl) (by kernel_rfl) (by kernel_rfl) (fun _ _ _ h => h) (Or.inl ⟨by rfl, ?_⟩) (by assumption) ?_; rotate_left; (intro wH hSw; (try dsimp only at hSw); go_simp; try with_reducible rfl))
      try simp only [Act.put, List.setIfInBounds_toArray, List.set_cons_zero, List.set_cons_succ, List.getElem_toArray, List.getElem_cons_zero, List.getElem_cons_succ]
      refine wpAnyH_ready (rs := [12]) (by kernel_rfl) (by simp) ?_
      refine AllReadyH.cons rfl (fun K hK => ?_) AllReadyH.nil
      go_simp
      skip
      refine hK.out _ _ (by (try dsimp only); exact (cell_same (heap_setCell_other _ _ _ _ (by show w2.heap.size ≠ gs; omega))).trans z3) (fun hHeld => ?_)
      clear hK K
      try simp only [Act.put, List.setIfInBounds_toArray, List.set_cons_zero, List.set_cons_succ, List.getElem_toArray, List.getElem_cons_zero, List.getElem_cons_succ]
      refine wpAnyH_done (by kernel_rfl) ?_ _
      go_upto_region 9 with (fail)
      have hw6 := neg_step HW.out hlt
      have hx6 : (wo.setCell ⟨gs, j * 5 + 3, none⟩ (.int .i64 (-(el (el l.entries k).lines j).amount))).heap[w2.heap.size]? = _ := (heap_setCell_other _ _ _ _ (by show w2.heap.size ≠ gs; omega)).trans HX.out
      have hb6 := HBL.out.setCell (p := ⟨gs, j * 5 + 3, none⟩) (by have := (HO.out.lt _ rfl).1; show W0.heap.size ≤ gs; omega) (.int .i64 (-(el (el l.entries k).lines j).amount))
      obtain ⟨W6, hW6⟩ : ∃ W6 : World, W6 = wo.setCell ⟨gs, j * 5 + 3, none⟩ (.int .i64 (-(el (el l.entries k).lines j).amount)) := ⟨_, rfl⟩
      rw [← hW6] at hw6 hx6 hb6 ⊢
      have HW6 := Lib.hid hw6
      have HX6 := Lib.hid hx6
      have HB6 := Lib.hid hb6
      clear hW6 hw6 hx6 hb6 l3 fr z3
      have z3 := (box_cell HX6.out 3).trans rfl
      obtain ⟨ad, he, -, -, -, -, l4⟩ := at_Ln HW6.out.reads j (by rw [List.length_set, negTo_len]; exact hlt)
      cases he
      rw [el_eq _ _ (by rw [List.length_set, negTo_len]; exact hlt), List.getElem_set_self, add_base] at l4
      have fr := HW6.out.free (j * 5 + 4)
      refine wp_region_held_drew (S := fun wq => wq.cell? ⟨w2.heap.size, 3, none⟩ = some (.slice (some ⟨gs, 0, none⟩) (el l.entries k).lines.length (el l.entries k).lines.length)) (by kernel_rfl) z3 (fun hHeld => ?_)
      first
        | (refine wpAnyH_take (i := 0) (v := undef) rfl (by kernel_rfl) (by kernel_rfl) (by kernel_rfl) (fun _ _ _ h => h) (Or.inr ⟨by rfl, rfl⟩) (by assumption) ?_)
        | (refine wpAnyH_take (i := 0) (v := ?_) rfl (by kernel_rfl) (by kernel_rfl) (by kernel_rfl) (fun _ _ _ h => h) (Or.inl ⟨by rfl, ?_⟩) (by assumption) ?_; rotate_left; (intro wH hSw; (try dsimp only at hSw); go_simp; try with_reducible rfl))
      try simp only [Act.put, List.setIfInBounds_toArray, List.set_cons_zero, List.set_cons_succ, List.getElem_toArray, List.getElem_cons_zero, List.getElem_cons_succ]
      first
        | (refine wpAnyH_take (i := 1) (v := undef) rfl (by kernel_rfl) (by kernel_rfl) (by kernel_rfl) (fun _ _ _ h => h) (Or.inr ⟨by rfl, rfl⟩) (by assumption) ?_)
        | (refine wpAnyH_take (i := 1) (v := ?_) rfl (by kernel_rfl) (by kernel_rfl) (by kernel_rfl) (fun _ _ _ h => h) (Or.inl ⟨by rfl, ?_⟩) (by assumption) ?_; rotate_left; (intro wH hSw; (try dsimp only at hSw); go_simp; try with_reducible rfl))
      try simp only [Act.put, List.setIfInBounds_toArray, List.set_cons_zero, List.set_cons_succ, List.getElem_toArray, List.getElem_cons_zero, List.getElem_cons_succ]
      first
        | (refine wpAnyH_take (i := 2) (v := undef) rfl (by kernel_rfl) (by kernel_rfl) (by kernel_rfl) (fun _ _ _ h => h) (Or.inr ⟨by rfl, rfl⟩) (by assumption) ?_)
        | (refine wpAnyH_take (i := 2) (v := ?_) rfl (by kernel_rfl) (by kernel_rfl) (by kernel_rfl) (fun _ _ _ h => h) (Or.inl ⟨by rfl, ?_⟩) (by assumption) ?_; rotate_left; (intro wH hSw; (try dsimp only at hSw); go_simp; try with_reducible rfl))
      try simp only [Act.put, List.setIfInBounds_toArray, List.set_cons_zero, List.set_cons_succ, List.getElem_toArray, List.getElem_cons_zero, List.getElem_cons_succ]
      first
        | (refine wpAnyH_take (i := 3) (v := undef) rfl (by kernel_rfl) (by kernel_rfl) (by kernel_rfl) (fun _ _ _ h => h) (Or.inr ⟨by rfl, rfl⟩) (by assumption) ?_)
        | (refine wpAnyH_take (i := 3) (v := ?_) rfl (by kernel_rfl) (by kernel_rfl) (by kernel_rfl) (fun _ _ _ h => h) (Or.inl ⟨by rfl, ?_⟩) (by assumption) ?_; rotate_left; (intro wH hSw; (try dsimp only at hSw); go_simp; try with_reducible rfl))
      try simp only [Act.put, List.setIfInBounds_toArray, List.set_cons_zero, List.set_cons_succ, List.getElem_toArray, List.getElem_cons_zero, List.getElem_cons_succ]
      first
        | (refine wpAnyH_take (i := 4) (v := undef) rfl (by kernel_rfl) (by kernel_rfl) (by kernel_rfl) (fun _ _ _ h => h) (Or.inr ⟨by rfl, rfl⟩) (by assumption) ?_)
        | (refine wpAnyH_take (i := 4) (v := ?_) rfl (by kernel_rfl) (by kernel_rfl) (by kernel_rfl) (fun _ _ _ h => h) (Or.inl ⟨by rfl, ?_⟩) (by assumption) ?_; rotate_left; (intro wH hSw; (try dsimp only at hSw); go_simp; try with_reducible rfl))
      try simp only [Act.put, List.setIfInBounds_toArray, List.set_cons_zero, List.set_cons_succ, List.getElem_toArray, List.getElem_cons_zero, List.getElem_cons_succ]
      first
        | (refine wpAnyH_take (i := 5) (v := undef) rfl (by kernel_rfl) (by kernel_rfl) (by kernel_rfl) (fun _ _ _ h => h) (Or.inr ⟨by rfl, rfl⟩) (by assumption) ?_)
        | (refine wpAnyH_take (i := 5) (v := ?_) rfl (by kernel_rfl) (by kernel_rfl) (by kernel_rfl) (fun _ _ _ h => h) (Or.inl ⟨by rfl, ?_⟩) (by assumption) ?_; rotate_left; (intro wH hSw; (try dsimp only at hSw); go_simp; try with_reducible rfl))
      try simp only [Act.put, List.setIfInBounds_toArray, List.set_cons_zero, List.set_cons_succ, List.getElem_toArray, List.getElem_cons_zero, List.getElem_cons_succ]
      first
        | (refine wpAnyH_take (i := 6) (v := undef) rfl (by kernel_rfl) (by kernel_rfl) (by kernel_rfl) (fun _ _ _ h => h) (Or.inr ⟨by rfl, rfl⟩) (by assumption) ?_)
        | (refine wpAnyH_take (i := 6) (v := ?_) rfl (by kernel_rfl) (by kernel_rfl) (by kernel_rfl) (fun _ _ _ h => h) (Or.inl ⟨by rfl, ?_⟩) (by assumption) ?_; rotate_left; (intro wH hSw; (try dsimp only at hSw); go_simp; try with_reducible rfl))
      try simp only [Act.put, List.setIfInBounds_toArray, List.set_cons_zero, List.set_cons_succ, List.getElem_toArray, List.getElem_cons_zero, List.getElem_cons_succ]
      first
        | (refine wpAnyH_take (i := 7) (v := undef) rfl (by kernel_rfl) (by kernel_rfl) (by kernel_rfl) (fun _ _ _ h => h) (Or.inr ⟨by rfl, rfl⟩) (by assumption) ?_)
        | (refine wpAnyH_take (i := 7) (v := ?_) rfl (by kernel_rfl) (by kernel_rfl) (by kernel_rfl) (fun _ _ _ h => h) (Or.inl ⟨by rfl, ?_⟩) (by assumption) ?_; rotate_left; (intro wH hSw; (try dsimp only at hSw); go_simp; try with_reducible rfl))
      try simp only [Act.put, List.setIfInBounds_toArray, List.set_cons_zero, List.set_cons_succ, List.getElem_toArray, List.getElem_cons_zero, List.getElem_cons_succ]
      refine wpAnyH_ready (rs := [8]) (by kernel_rfl) (by simp) ?_
      refine AllReadyH.cons rfl (fun K hK => ?_) AllReadyH.nil
      go_simp
      skip
      refine hK.out _ _ (by (try dsimp only); exact hHeld) (fun hHeld => ?_)
      clear hK K
      try simp only [Act.put, List.setIfInBounds_toArray, List.set_cons_zero, List.set_cons_succ, List.getElem_toArray, List.getElem_cons_zero, List.getElem_cons_succ]
      first
        | (refine wpAnyH_take (i := 9) (v := undef) rfl (by kernel_rfl) (by kernel_rfl) (by kernel_rfl) (fun _ _ _ h => h) (Or.inr ⟨by rfl, rfl⟩) (by assumption) ?_)
        | (refine wpAnyH_take (i := 9) (v := ?_) rfl (by kernel_rfl) (by kernel_rfl) (by kernel_rfl) (fun _ _ _ h => h) (Or.inl ⟨by rfl, ?_⟩) (by assumption) ?_; rotate_left; (intro wH hSw; (try dsimp only at hSw); go_simp; try with_reducible rfl))
      try simp only [Act.put, List.setIfInBounds_toArray, List.set_cons_zero, List.set_cons_succ, List.getElem_toArray, List.getElem_cons_zero, List.getElem_cons_succ]
      first
        | (refine wpAnyH_take (i := 10) (v := undef) rfl (by kernel_rfl) (by kernel_rfl) (by kernel_rfl) (fun _ _ _ h => h) (Or.inr ⟨by rfl, rfl⟩) (by assumption) ?_)
        | (refine wpAnyH_take (i := 10) (v := ?_) rfl (by kernel_rfl) (by kernel_rfl) (by kernel_rfl) (fun _ _ _ h => h) (Or.inl ⟨by rfl, ?_⟩) (by assumption) ?_; rotate_left; (intro wH hSw; (try dsimp only at hSw); go_simp; try with_reducible rfl))
      try simp only [Act.put, List.setIfInBounds_toArray, List.set_cons_zero, List.set_cons_succ, List.getElem_toArray, List.getElem_cons_zero, List.getElem_cons_succ]
      first
        | (refine wpAnyH_take (i := 11) (v := undef) rfl (by kernel_rfl) (by kernel_rfl) (by kernel_rfl) (fun _ _ _ h => h) (Or.inr ⟨by rfl, rfl⟩) (by assumption) ?_)
        | (refine wpAnyH_take (i := 11) (v := ?_) rfl (by kernel_rfl) (by kernel_rfl) (by kernel_rfl) (fun _ _ _ h => h) (Or.inl ⟨by rfl, ?_⟩) (by assumption) ?_; rotate_left; (intro wH hSw; (try dsimp only at hSw); go_simp; try with_reducible rfl))
      try simp only [Act.put, List.setIfInBounds_toArray, List.set_cons_zero, List.set_cons_succ, List.getElem_toArray, List.getElem_cons_zero, List.getElem_cons_succ]
      refine wpAnyH_ready (rs := [12]) (by kernel_rfl) (by simp) ?_
      refine AllReadyH.cons rfl (fun K hK => ?_) AllReadyH.nil
      go_simp
      skip
      refine hK.out _ _ (by (try dsimp only); exact (cell_same (heap_setCell_other _ _ _ _ (by show w2.heap.size ≠ gs; omega))).trans z3) (fun hHeld => ?_)
      clear hK K
      try simp only [Act.put, List.setIfInBounds_toArray, List.set_cons_zero, List.set_cons_succ, List.getElem_toArray, List.getElem_cons_zero, List.getElem_cons_succ]
      refine wpAnyH_done (by kernel_rfl) ?_ _
      clear l4 fr z3
      go_wp2
      go_roundw
      case rel =>
        have q1 := neg_step2 HW6.out hlt
        have q2 : (W6.setCell ⟨gs, j * 5 + 4, none⟩ (.int .i64 (-(el (el l.entries k).lines j).base))).heap[w2.heap.size]? = _ := (heap_setCell_other _ _ _ _ (by show w2.heap.size ≠ gs; omega)).trans HX6.out
        exact ⟨j + 1, by omega, by go_num, q2, q1, ((HB6.out.setCell (p := ⟨gs, j * 5 + 4, none⟩) (by have := (HO.out.lt _ rfl).1; show W0.heap.size ≤ gs; omega) _).drew).drew⟩
      case measure => simp [intOf]; omega
    · have ej : j = (el l.entries k).lines.length := by omega
      subst ej
      have z0 := (box_cell HX.out 0).trans rfl
      have z1 := (box_cell HX.out 1).trans rfl
      have z2 := (box_cell HX.out 2).trans rfl
      have z3 := (box_cell HX.out 3).trans rfl
      have hx2 := box_below X2.out HBL.out
      have H2 := Lib.hid hx2
      have u0 := (box_cell hx2 0).trans rfl
      have u1 := (box_cell hx2 1).trans rfl
      have u2 := (box_cell hx2 2).trans rfl
      have u3 := (box_cell hx2 3).trans rfl
      have f0 := box_free hx2 0
      have f1 := box_free hx2 1
      have f2 := box_free hx2 2
      have f3 := box_free hx2 3
      clear hx2
      go_wp2
      refine bodyPost_ret (results_row_tmp rfl _ _ (w.heap.size + 2) 34 #[.int .i64 day, .int .i64 ((k : Int) + 1), .string T, .slice (some ⟨gs, 0, none⟩) (el l.entries k).lines.length (el l.entries k).lines.length] (0, 0) _ (.bool true) rfl rfl (heap_setCell_same _ _ 3 _ _ _ (heap_setCell_same _ _ 2 _ _ _ (heap_setCell_same _ _ 1 _ _ _ (heap_setCell_same _ _ 0 _ _ _ H2.out)))) Try.underlying34 rfl (by kernel_rfl)) rfl ?_
      have hne : (Value.slice (some ⟨gs, 0, none⟩) (el l.entries k).lines.length (el l.entries k).lines.length).ownBlock ≠ some (w.heap.size + 2) := fun e => by
        have h1 := (HO.out.lt _ e).1
        have h2 := box_lt X2.out
        omega
      have hw := HW.out
      rw [negTo_all] at hw
      have hr := (((hw.setB flatLn 0 (.int .i64 day) hne).setB flatLn 1 (.int .i64 ((k : Int) + 1)) hne).setB flatLn 2 (.string T) hne).setB flatLn 3 (.slice (some ⟨gs, 0, none⟩) (el l.entries k).lines.length (el l.entries k).lines.length) hne
      have hbb := below_step b0.out HBL.out
      have h0 := b0.out.size
      refine ⟨⟨T, _, _, rfl, by rw [HT.out]; exact textB_rev hsok hss, hr.sl (fun q hq => by have h : w1.heap.size ≤ q := hq; omega) (fun _ _ hx => flatLn hx)⟩, ?_⟩
      exact (((hbb.setCell (p := ⟨w.heap.size + 2, 0, none⟩) (by show w.heap.size ≤ w.heap.size + 2; omega) _).setCell (p := ⟨w.heap.size + 2, 1, none⟩) (by show w.heap.size ≤ w.heap.size + 2; omega) _).setCell (p := ⟨w.heap.size + 2, 2, none⟩) (by show w.heap.size ≤ w.heap.size + 2; omega) _).setCell (p := ⟨w.heap.size + 2, 3, none⟩) (by show w.heap.size ≤ w.heap.size + 2; omega) _
end Go.Proofs.Ythgnfpbbhiegfaa
