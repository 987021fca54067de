/- The walk of the reference's Reverse. -/
import Derived.Test.YthgnfpbbhiegfaaRev
import Derived.Test.YthgnfpbbhiegfaaDrawS
import Derived.IntWalk
namespace Go.Proofs.Ythgnfpbbhiegfaa
open Go.RowKit
set_option maxRecDepth 100000 in
set_option maxHeartbeats 1000000 in
theorem l5Entry_c {S : Nat → Prop} (A3 : Option Addr) (c3 : Nat) (e : En) (w : World) (hs : Sl cLn w S A3 e.lines) (h60 : e.lines.length ≤ 60) :
    Calls Try.prog 83 #[.agg #[.int .i64 e.day, .int .i64 e.ref, .string e.text, .slice A3 e.lines.length c3]] w fun r w' => (∃ A n c, r = .returned (.agg #[.int .i64 e.day, .int .i64 e.ref, .string e.text, .slice A n c]) ∧ Own cLn 130 w' w.heap.size (.slice A n c) e.lines) ∧ Below w.heap.size w w' := by
  have hl := hs.1
  go_enter Try.func83, Try.ntmps83
  go_upto_region 1 with (fail)
  obtain ⟨W0, hW0, hsz, x0, x1, b0⟩ : ∃ W0 : World, W0 = (w.alloc (.cells #[.int .i64 e.day, .int .i64 e.ref, .string e.text, .slice A3 e.lines.length c3] 34)).alloc (.cells #[.int .i64 0, .int .i64 0, .string ⟨#[]⟩, .slice none 0 0] 34) ∧ W0.heap.size = w.heap.size + 2 ∧ W0.heap[w.heap.size]? = some (.cells #[.int .i64 e.day, .int .i64 e.ref, .string e.text, .slice A3 e.lines.length c3] 34 (0, 0)) ∧ W0.heap[w.heap.size + 1]? = some (.cells #[.int .i64 0, .int .i64 0, .string ⟨#[]⟩, .slice none 0 0] 34 (0, 0)) ∧ Bel w W0 := ⟨_, rfl, by simp, new_box2a _ _ _, new_box2b _ _ _, inferInstance⟩
  rw [← hW0]
  clear hW0
  have X0 := Lib.hid x0
  have X1 := Lib.hid x1
  have HSZ := Lib.hid hsz
  have hs0 : Sl cLn W0 (fun k => some k ≠ (Value.slice (some ⟨W0.heap.size, 0, none⟩) 0 0).ownBlock) A3 e.lines := ((hs.bound (by decide)).mono (fun k hk => by have := hk.2; simp [Value.ownBlock]; omega)).to (w1 := W0)
  have y3 := (box_cell (box_al (o' := .cells #[] 130) x0) 3).trans rfl
  clear x0 x1 hsz
  have O0 := Lib.hid (Own.lit (c := cLn) (e := 130) (base := W0.heap.size) (w := W0) (xs := []) [] (Nat.le_refl _) (by simp) Reps.none)
  go_wp2_with (at_builtin; refine Own.appendAll cLn 32 130 W0.heap.size rfl _ _ rfl Try.underlying32 (.agg #[.int .i64 0, .int .i64 0, .int .i64 0, .int .i64 0, .int .i64 0]) 40 infoLn rfl (by decide) (by decide) _ _ rfl O0.out e.lines A3 c3 rfl hs0.to (by simp) (by simp; omega) ?_; intro v1 w1 hown1 hg1 hat1; obtain ⟨A, n, c, rfl⟩ := hown1.slc; have O1 := Lib.hid hown1; have b1 : Bel W0 w1 := ⟨(Bel.out : Below W0.heap.size W0 (W0.alloc (.cells #[] 130))).grown hg1 Bel.out.size (fun k hk => by have hk' : (Value.slice (some ⟨W0.heap.size, 0, none⟩) 0 0).ownBlock = some k := hk; simp [Value.ownBlock] at hk'; omega)⟩; have hx0 := box_below X0.out b1.out; have hx1 := box_below X1.out b1.out; have H0 := Lib.hid hx0; have H1 := Lib.hid hx1; have z0 := (box_cell hx0 0).trans rfl; have z1 := (box_cell hx0 1).trans rfl; have z2 := (box_cell hx0 2).trans rfl; have z3 := (box_cell hx0 3).trans rfl; have f3 := box_free hx0 3; have t0 := (box_cell hx1 0).trans rfl; have t1 := (box_cell hx1 1).trans rfl; have t2 := (box_cell hx1 2).trans rfl; have t3 := (box_cell hx1 3).trans rfl; have u0 := box_free hx1 0; have u1 := box_free hx1 1; have u2 := box_free hx1 2; have u3 := box_free hx1 3; clear hx0 hx1 hown1 hg1 hat1)
  refine bodyPost_ret (results_cell_row rfl _ _ (w.heap.size + 1) 34 #[_, _, _, _] (0, 0) _ rfl (heap_setCell_same _ _ 3 _ _ _ (heap_setCell_same _ _ 2 _ _ _ (heap_setCell_same _ _ 1 _ _ _ (heap_setCell_same _ _ 0 _ _ _ ((heap_setCell_other _ _ _ _ (by simp)).trans H1.out))))) Try.underlying34 rfl (by kernel_rfl)) rfl ?_
  have hsz := HSZ.out
  have o := O1.out.lower (b0.out.size)
  have n0 := O1.out.ne H0.out (by decide)
  have n1 := O1.out.ne H1.out (by decide)
  refine ⟨⟨A, n, c, rfl, ((((o.setB flatLn 3 _ n0).setB flatLn 0 _ n1).setB flatLn 1 _ n1).setB flatLn 2 _ n1).setB flatLn 3 _ n1⟩, ?_⟩
  have b : Below w.heap.size w w1 := below_step b0.out b1.out
  exact ((((b.setCell (by simp) _).setCell (by simp) _).setCell (by simp) _).setCell (by simp) _).setCell (by simp) _
set_option linter.unusedSimpArgs false in
set_option maxRecDepth 100000 in
set_option maxHeartbeats 4000000 in
theorem spec_Reverse_no {S : Nat → Prop} (A : Option Addr) (c : Nat) (f : Fr) (A0 : Option Addr) (c0 : Nat) (l : Le) (at' day : Int) (w : World) (hr : Sl cAc w S A f.chart) (hs : Sl cEn w S A0 l.entries) (hno : revB f l at' day = false) :
    Calls Try.prog 13 #[.agg #[.slice A f.chart.length c, .int .i64 f.dims, .int .i64 f.curs], .agg #[.slice A0 l.entries.length c0, .int .i64 l.head], .int .i64 at', .int .i64 day] w fun r w' => r = .returned (.tuple #[.agg #[.int .i64 0, .int .i64 0, .string ⟨#[]⟩, .slice none 0 0], .bool false]) ∧ Below w.heap.size w w' := by
  have hl := hs.1
  have HNO := Lib.hid hno
  clear hno
  go_enter Try.func13, Try.ntmps13
  go_upto_region 1 with (fail)
  obtain ⟨W0, hW0, hsz, x0, x1, x2, b0⟩ : ∃ W0 : World, W0 = ((w.alloc (.cells #[.slice A f.chart.length c, .int .i64 f.dims, .int .i64 f.curs] 26)).alloc (.cells #[.slice A0 l.entries.length c0, .int .i64 l.head] 29)).alloc (.cells #[.int .i64 0, .int .i64 0, .string ⟨#[]⟩, .slice none 0 0] 34) ∧ W0.heap.size = w.heap.size + 3 ∧ W0.heap[w.heap.size]? = some (.cells #[.slice A f.chart.length c, .int .i64 f.dims, .int .i64 f.curs] 26 (0, 0)) ∧ W0.heap[w.heap.size + 1]? = some (.cells #[.slice A0 l.entries.length c0, .int .i64 l.head] 29 (0, 0)) ∧ W0.heap[w.heap.size + 2]? = some (.cells #[.int .i64 0, .int .i64 0, .string ⟨#[]⟩, .slice none 0 0] 34 (0, 0)) ∧ Bel w W0 := ⟨_, rfl, by simp, box_up (box_up (box_at rfl _)), box_up (box_at (by simp) _), box_at (by simp) _, inferInstance⟩
  rw [← hW0]
  clear hW0
  have X0 := Lib.hid x0
  have X1 := Lib.hid x1
  have X2 := Lib.hid x2
  have y0 := (box_cell x0 0).trans rfl
  have y1 := (box_cell x0 1).trans rfl
  have y2 := (box_cell x0 2).trans rfl
  have z0 := (box_cell x1 0).trans rfl
  have z1 := (box_cell x1 1).trans rfl
  clear x0 x1 x2 hsz
  go_wp2_with (first | (go_at_call 80; refine (spec_LedgerOk_c _ _ _ _ _ _ _ (hr.to (w1 := W0)) (hs.to (w1 := W0))).mono ?_; rintro r w1 ⟨rfl, hb1⟩; have b1 : Bel W0 w1 := ⟨hb1⟩; have q0 := (box_cell (box_below X1.out b1.out) 0).trans rfl; have HX := Lib.hid (box_below X2.out b1.out); have u0 := (box_cell HX.out 0).trans rfl; have u1 := (box_cell HX.out 1).trans rfl; have u2 := (box_cell HX.out 2).trans rfl; have u3 := (box_cell HX.out 3).trans rfl; have f0 := box_free HX.out 0; have f1 := box_free HX.out 1; have f2 := box_free HX.out 2; have f3 := box_free HX.out 3) | (go_at_call 81; refine (l1In_c _ _ _ _).mono ?_; rintro e w' ⟨rfl, rfl⟩) | (go_at_call 82; refine (l2Day_c _ _).mono ?_; rintro e w' ⟨rfl, rfl⟩))
  all_goals first
    | (refine bodyPost_ret (results_row_tmp rfl _ _ (w.heap.size + 2) 34 #[.int .i64 0, .int .i64 0, .string ⟨#[]⟩, .slice none 0 0] (0, 0) _ (.bool false) rfl rfl (heap_setCell_same _ _ 3 _ _ _ (heap_setCell_same _ _ 2 _ _ _ (heap_setCell_same _ _ 1 _ _ _ (heap_setCell_same _ _ 0 _ _ _ HX.out)))) Try.underlying34 rfl (by kernel_rfl)) rfl ?_
       refine ⟨rfl, ?_⟩
       have bb : Below w.heap.size w w1 := below_step b0.out b1.out
       exact (((bb.setCell (p := ⟨w.heap.size + 2, 0, none⟩) (by show w.heap.size ≤ w.heap.size + 2; omega) _).setCell (p := ⟨w.heap.size + 2, 1, none⟩) (by show w.heap.size ≤ w.heap.size + 2; omega) _).setCell (p := ⟨w.heap.size + 2, 2, none⟩) (by show w.heap.size ≤ w.heap.size + 2; omega) _).setCell (p := ⟨w.heap.size + 2, 3, none⟩) (by show w.heap.size ≤ w.heap.size + 2; omega) _)
    | (exfalso
       have h := HNO.out
       unfold revB at h
       have hin := inB_t (show inB at' 0 ((l.entries.length : Int) - 1) = true by assumption)
       simp_all
       omega)
set_option linter.unusedSimpArgs false in
set_option maxRecDepth 100000 in
set_option maxHeartbeats 4000000 in
theorem spec_Reverse_yes {S : Nat → Prop} (A : Option Addr) (c : Nat) (f : Fr) (A0 : Option Addr) (c0 : Nat) (l : Le) (k : Nat) (day : Int) (w : World) (hr : Sl cAc w S A f.chart) (hs : Sl cEn w S A0 l.entries) (hled : ledB f l = true) (hk : k < l.entries.length) (hday : dayB day = true) :
    Calls Try.prog 13 #[.agg #[.slice A f.chart.length c, .int .i64 f.dims, .int .i64 f.curs], .agg #[.slice A0 l.entries.length c0, .int .i64 l.head], .int .i64 k, .int .i64 day] w fun r w' => (∃ (a b : Int) (t : ByteArray) (A' : Option Addr) (n' c' : Nat), r = .returned (.tuple #[.agg #[.int .i64 a, .int .i64 b, .string t, .slice A' n' c'], .bool true])) ∧ Below w.heap.size w w' := by
  have hl := hs.1
  have i0 : (0 : Int) ≤ (k : Int) := Int.natCast_nonneg k
  have i1 : (k : Int) < (l.entries.length : Int) := by omega
  have i2 : inB (k : Int) 0 ((l.entries.length : Int) - 1) = true := inB_mk (by omega)
  have h60 := led_60 hled k hk
  have I2 := Lib.hid i2
  clear i2
  go_enter Try.func13, Try.ntmps13
  go_upto_region 1 with (fail)
  obtain ⟨W0, hW0, hsz, x0, x1, x2, b0⟩ : ∃ W0 : World, W0 = ((w.alloc (.cells #[.slice A f.chart.length c, .int .i64 f.dims, .int .i64 f.curs] 26)).alloc (.cells #[.slice A0 l.entries.length c0, .int .i64 l.head] 29)).alloc (.cells #[.int .i64 0, .int .i64 0, .string ⟨#[]⟩, .slice none 0 0] 34) ∧ W0.heap.size = w.heap.size + 3 ∧ W0.heap[w.heap.size]? = some (.cells #[.slice A f.chart.length c, .int .i64 f.dims, .int .i64 f.curs] 26 (0, 0)) ∧ W0.heap[w.heap.size + 1]? = some (.cells #[.slice A0 l.entries.length c0, .int .i64 l.head] 29 (0, 0)) ∧ W0.heap[w.heap.size + 2]? = some (.cells #[.int .i64 0, .int .i64 0, .string ⟨#[]⟩, .slice none 0 0] 34 (0, 0)) ∧ Bel w W0 := ⟨_, rfl, by simp, box_up (box_up (box_at rfl _)), box_up (box_at (by simp) _), box_at (by simp) _, inferInstance⟩
  rw [← hW0]
  clear hW0
  have X0 := Lib.hid x0
  have X1 := Lib.hid x1
  have X2 := Lib.hid x2
  have y0 := (box_cell x0 0).trans rfl
  have y1 := (box_cell x0 1).trans rfl
  have y2 := (box_cell x0 2).trans rfl
  have z0 := (box_cell x1 0).trans rfl
  have z1 := (box_cell x1 1).trans rfl
  clear x0 x1 x2 hsz
  go_upto_region 3 with (first | (go_at_call 80; refine (spec_LedgerOk_c _ _ _ _ _ _ _ (hr.to (w1 := W0)) (hs.to (w1 := W0))).mono ?_; rintro r w1 ⟨rfl, hb1⟩; have b1 : Bel W0 w1 := ⟨hb1⟩; rw [hled]; have q0 := (box_cell (box_below X1.out b1.out) 0).trans rfl) | (go_at_call 81; refine (l1In_c _ _ _ _).mono ?_; rintro e w' ⟨rfl, rfl⟩; rw [I2.out]) | (go_at_call 82; refine (l2Day_c _ _).mono ?_; rintro e w' ⟨rfl, rfl⟩))
  clear y0 y1 y2 z0 z1
  obtain ⟨ad, A3, c3, rfl, l0, l1, l2, l3, hz, h3', hsl⟩ := at_En ((hs.to (w1 := W0)).to (w1 := w1)) k hk
  go_upto_region 4 with (go_at_call 83; refine (l5Entry_c _ _ _ _ hsl h60).mono ?_; rintro r w2 ⟨⟨A2, n2, c2, rfl, hown2⟩, hb2⟩; have b2 : Bel w1 w2 := ⟨hb2⟩)
  have hin : entInB f (el l.entries k) = true := by
    have := (ledB_t hled).2.2.2 k hk
    unfold entB at this
    rw [Bool.and_eq_true] at this
    exact this.2
  have h2l := (entIn_t hin).2.2.2.1.1
  have HLS := Lib.hid (entIn_t hin).2.2.2.2.1
  obtain ⟨gs, rfl, rfl⟩ : ∃ gs, A2 = some ⟨gs, 0, none⟩ ∧ n2 = (el l.entries k).lines.length := by
    rcases hown2.split with ⟨-, h0⟩ | ⟨b, cap, cur, h1, -⟩
    · rw [h0] at h2l; simp at h2l
    · injection h1 with h1 h2
      exact ⟨b, h1, h2⟩
  have hn8 : k + 1 < 10 ^ 7 := by have := (ledB_t hled).1; omega
  have ek : (((k + 1 : Nat) : Int)) = (k : Int) + 1 := by simp
  have htx := fun w => l1Text_c 6 (k + 1) w (by omega) hn8
  rw [ek] at htx
  have HTX := Lib.hid htx
  have hds := dtx_size 6 (k + 1)
  have hdn : ¬ 9223372036854775807 < 8 + (dtx 6 (k + 1)).size := by omega
  have HO := Lib.hid hown2
  clear ek htx hown2 hn8
  go_upto_block 0 with (go_at_call 84; refine (HTX.out _).mono ?_; rintro r w4 ⟨rfl, nd, rfl⟩)
  generalize (⟨#[114, 101, 118, 101, 114, 115, 101, 32]⟩ ++ dtx 6 (k + 1) : ByteArray) = T
  have hcw : Bel w2 (w2.alloc (.cells #[.int .i64 day, .int .i64 ((k : Int) + 1), .string (el l.entries k).text, .slice (some ⟨gs, 0, none⟩) (el l.entries k).lines.length c2] 34)) := inferInstance
  have hhx : ((w2.alloc (.cells #[.int .i64 day, .int .i64 ((k : Int) + 1), .string (el l.entries k).text, .slice (some ⟨gs, 0, none⟩) (el l.entries k).lines.length c2] 34)).drewN nd).heap[w2.heap.size]? = some (.cells #[.int .i64 day, .int .i64 ((k : Int) + 1), .string (el l.entries k).text, .slice (some ⟨gs, 0, none⟩) (el l.entries k).lines.length c2] 34 (0, 0)) := heap_alloc_new _ _
  have hho : Own cLn 130 ((w2.alloc (.cells #[.int .i64 day, .int .i64 ((k : Int) + 1), .string (el l.entries k).text, .slice (some ⟨gs, 0, none⟩) (el l.entries k).lines.length c2] 34)).drewN nd) w1.heap.size (.slice (some ⟨gs, 0, none⟩) (el l.entries k).lines.length c2) (el l.entries k).lines := HO.out.to
  have hhb : Below W0.heap.size W0 ((w2.alloc (.cells #[.int .i64 day, .int .i64 ((k : Int) + 1), .string (el l.entries k).text, .slice (some ⟨gs, 0, none⟩) (el l.entries k).lines.length c2] 34)).drewN nd) := below_step b1.out (below_step b2.out Bel.out)
  obtain ⟨W4, hW4⟩ : ∃ W4 : World, W4 = (w2.alloc (.cells #[.int .i64 day, .int .i64 ((k : Int) + 1), .string (el l.entries k).text, .slice (some ⟨gs, 0, none⟩) (el l.entries k).lines.length c2] 34)).drewN nd := ⟨_, rfl⟩
  rw [← hW4] at hhx hho hhb ⊢
  have hx5 : (W4.setCell ⟨w2.heap.size, 2, none⟩ (.string T)).heap[w2.heap.size]? = some (.cells #[.int .i64 day, .int .i64 ((k : Int) + 1), .string T, .slice (some ⟨gs, 0, none⟩) (el l.entries k).lines.length c2] 34 (0, 0)) := heap_setCell_same _ _ 2 _ _ _ hhx
  have hO5 := hho.setB flatLn 2 (.string T) (hho.ne hhx (by decide))
  have s1 := b1.out.size
  have s2 := b2.out.size
  have hb5 := hhb.setCell (p := ⟨w2.heap.size, 2, none⟩) (by show W0.heap.size ≤ w2.heap.size; omega) (.string T)
  obtain ⟨W5, hW5⟩ : ∃ W5 : World, W5 = W4.setCell ⟨w2.heap.size, 2, none⟩ (.string T) := ⟨_, rfl⟩
  rw [← hW5] at hx5 hO5 hb5 ⊢
  have HB5 := Lib.hid hx5
  have O5 := Lib.hid hO5
  have B5 := Lib.hid hb5
  have glt2 : gs < w2.heap.size := (HO.out.lt _ rfl).2
  have hnc := HO.out.num.2
  have hgs0 : W0.heap.size ≤ gs := by
    have h : w1.heap.size ≤ gs := (HO.out.lt gs rfl).1
    omega
  have z3 := (box_cell hx5 3).trans rfl
  clear hW4 hW5 hcw hhx hho hhb hx5 hO5 hb5
  go_wp2
  go_loopw [11] (fun v wq => ∃ j : Nat, j ≤ (el l.entries k).lines.length ∧ v = .int .i64 j ∧ wq.heap[w2.heap.size]? = some (.cells #[.int .i64 day, .int .i64 ((k : Int) + 1), .string T, .slice (some ⟨gs, 0, none⟩) (el l.entries k).lines.length c2] 34 (0, 0)) ∧ Own cLn 130 wq w1.heap.size (.slice (some ⟨gs, 0, none⟩) (el l.entries k).lines.length c2) (negTo (el l.entries k).lines j) ∧ Below W0.heap.size W0 wq) (fun v _ => (el l.entries k).lines.length - (intOf v).toNat)
  case atStart => exact ⟨0, Nat.zero_le _, rfl, HB5.out, by rw [negTo_zero]; exact O5.out, B5.out⟩
  case round =>
    clear z3
    obtain ⟨wo, rfl⟩ : ∃ wo : World, wo = wr := ⟨_, rfl⟩
    obtain ⟨j, hj, rfl, hbx, hown, hbel⟩ := hrel
    have HX := Lib.hid hbx
    have HW := Lib.hid hown
    have HBL := Lib.hid hbel
    clear hbx hown hbel
    by_cases hlt : j < (el l.entries k).lines.length
    · have hli := lineB_t (HLS.out j hlt)
      have am := hli.2.2.2.2.1
      have bm := hli.2.2.2.2.2.1
      have u1 : IntKind.i64.wrap (-(el (el l.entries k).lines j).amount) = -(el (el l.entries k).lines j).amount := IntWalk.i64_in _ (by omega)
      have u2 : IntKind.i64.wrap (-(el (el l.entries k).lines j).base) = -(el (el l.entries k).lines j).base := IntWalk.i64_in _ (by omega)
      clear hli
      have j0 : (0 : Int) ≤ (j : Int) := Int.natCast_nonneg j
      have j1 : (j : Int) < ((el l.entries k).lines.length : Int) := by omega
      have z3 := (box_cell HX.out 3).trans rfl
      have hcc := hnc
      go_upto_region 10 with (fail)
      obtain ⟨ad, he, -, -, -, l3, -⟩ := at_Ln HW.out.reads j (by rw [negTo_len]; exact hlt)
      cases he
      rw [negTo_el _ _ hlt, add_base] at l3
      have fr := HW.out.free (j * 5 + 3)
      refine wp_region_held_drew (S := fun wq => wq.cell? ⟨w2.heap.size, 3, none⟩ = some (.slice (some ⟨gs, 0, none⟩) (el l.entries k).lines.length c2)) (by kernel_rfl) z3 (fun hHeld => ?_)
      first
        | (refine wpAnyH_take (i := 0) (v := undef) rfl (by kernel_rfl) (by kernel_rfl) (by kernel_rfl) (fun _ _ _ h => h) (Or.inr ⟨by rfl, rfl⟩) (by assumption) ?_)
        | (refine wpAnyH_take (i := 0) (v := ?_) rfl (by kernel_rfl) (by kernel_rfl) (by kernel_rfl) (fun _ _ _ h => h) (Or.inl ⟨by rfl, ?_⟩) (by assumption) ?_; rotate_left; (intro wH hSw; (try dsimp only at hSw); go_simp; try with_reducible rfl))
      try simp only [Act.put, List.setIfInBounds_toArray, List.set_cons_zero, List.set_cons_succ, List.getElem_toArray, List.getElem_cons_zero, List.getElem_cons_succ]
      first
        | (refine wpAnyH_take (i := 1) (v := undef) rfl (by kernel_rfl) (by kernel_rfl) (by kernel_rfl) (fun _ _ _ h => h) (Or.inr ⟨by rfl, rfl⟩) (by assumption) ?_)
        | (refine wpAnyH_take (i := 1) (v := ?_) rfl (by kernel_rfl) (by kernel_rfl) (by kernel_rfl) (fun _ _ _ h => h) (Or.inl ⟨by rfl, ?_⟩) (by assumption) ?_; rotate_left; (intro wH hSw; (try dsimp only at hSw); go_simp; try with_reducible rfl))
      try simp only [Act.put, List.setIfInBounds_toArray, List.set_cons_zero, List.set_cons_succ, List.getElem_toArray, List.getElem_cons_zero, List.getElem_cons_succ]
      first
        | (refine wpAnyH_take (i := 2) (v := undef) rfl (by kernel_rfl) (by kernel_rfl) (by kernel_rfl) (fun _ _ _ h => h) (Or.inr ⟨by rfl, rfl⟩) (by assumption) ?_)
        | (refine wpAnyH_take (i := 2) (v := ?_) rfl (by kernel_rfl) (by kernel_rfl) (by kernel_rfl) (fun _ _ _ h => h) (Or.inl ⟨by rfl, ?_⟩) (by assumption) ?_; rotate_left; (intro wH hSw; (try dsimp only at hSw); go_simp; try with_reducible rfl))
      try simp only [Act.put, List.setIfInBounds_toArray, List.set_cons_zero, List.set_cons_succ, List.getElem_toArray, List.getElem_cons_zero, List.getElem_cons_succ]
      first
        | (refine wpAnyH_take (i := 3) (v := undef) rfl (by kernel_rfl) (by kernel_rfl) (by kernel_rfl) (fun _ _ _ h => h) (Or.inr ⟨by rfl, rfl⟩) (by assumption) ?_)
        | (refine wpAnyH_take (i := 3) (v := ?_) rfl (by kernel_rfl) (by kernel_rfl) (by kernel_rfl) (fun _ _ _ h => h) (Or.inl ⟨by rfl, ?_⟩) (by assumption) ?_; rotate_left; (intro wH hSw; (try dsimp only at hSw); go_simp; try with_reducible rfl))
      try simp only [Act.put, List.setIfInBounds_toArray, List.set_cons_zero, List.set_cons_succ, List.getElem_toArray, List.getElem_cons_zero, List.getElem_cons_succ]
      first
        | (refine wpAnyH_take (i := 4) (v := undef) rfl (by kernel_rfl) (by kernel_rfl) (by kernel_rfl) (fun _ _ _ h => h) (Or.inr ⟨by rfl, rfl⟩) (by assumption) ?_)
        | (refine wpAnyH_take (i := 4) (v := ?_) rfl (by kernel_rfl) (by kernel_rfl) (by kernel_rfl) (fun _ _ _ h => h) (Or.inl ⟨by rfl, ?_⟩) (by assumption) ?_; rotate_left; (intro wH hSw; (try dsimp only at hSw); go_simp; try with_reducible rfl))
      try simp only [Act.put, List.setIfInBounds_toArray, List.set_cons_zero, List.set_cons_succ, List.getElem_toArray, List.getElem_cons_zero, List.getElem_cons_succ]
      first
        | (refine wpAnyH_take (i := 5) (v := undef) rfl (by kernel_rfl) (by kernel_rfl) (by kernel_rfl) (fun _ _ _ h => h) (Or.inr ⟨by rfl, rfl⟩) (by assumption) ?_)
        | (refine wpAnyH_take (i := 5) (v := ?_) rfl (by kernel_rfl) (by kernel_rfl) (by kernel_rfl) (fun _ _ _ h => h) (Or.inl ⟨by rfl, ?_⟩) (by assumption) ?_; rotate_left; (intro wH hSw; (try dsimp only at hSw); go_simp; try with_reducible rfl))
      try simp only [Act.put, List.setIfInBounds_toArray, List.set_cons_zero, List.set_cons_succ, List.getElem_toArray, List.getElem_cons_zero, List.getElem_cons_succ]
      first
        | (refine wpAnyH_take (i := 6) (v := undef) rfl (by kernel_rfl) (by kernel_rfl) (by kernel_rfl) (fun _ _ _ h => h) (Or.inr ⟨by rfl, rfl⟩) (by assumption) ?_)
        | (refine wpAnyH_take (i := 6) (v := ?_) rfl (by kernel_rfl) (by kernel_rfl) (by kernel_rfl) (fun _ _ _ h => h) (Or.inl ⟨by rfl, ?_⟩) (by assumption) ?_; rotate_left; (intro wH hSw; (try dsimp only at hSw); go_simp; try with_reducible rfl))
      try simp only [Act.put, List.setIfInBounds_toArray, List.set_cons_zero, List.set_cons_succ, List.getElem_toArray, List.getElem_cons_zero, List.getElem_cons_succ]
      first
        | (refine wpAnyH_take (i := 7) (v := undef) rfl (by kernel_rfl) (by kernel_rfl) (by kernel_rfl) (fun _ _ _ h => h) (Or.inr ⟨by rfl, rfl⟩) (by assumption) ?_)
        | (refine wpAnyH_take (i := 7) (v := ?_) rfl (by kernel_rfl) (by kernel_rfl) (by kernel_rfl) (fun _ _ _ h => h) (Or.inl ⟨by rfl, ?_⟩) (by assumption) ?_; rotate_left; (intro wH hSw; (try dsimp only at hSw); go_simp; try with_reducible rfl))
      try simp only [Act.put, List.setIfInBounds_toArray, List.set_cons_zero, List.set_cons_succ, List.getElem_toArray, List.getElem_cons_zero, List.getElem_cons_succ]
      refine wpAnyH_ready (rs := [8]) (by kernel_rfl) (by simp) ?_
      refine AllReadyH.cons rfl (fun K hK => ?_) AllReadyH.nil
      go_simp
      skip
      refine hK.out _ _ (by (try dsimp only); exact hHeld) (fun hHeld => ?_)
      clear hK K
      try simp only [Act.put, List.setIfInBounds_toArray, List.set_cons_zero, List.set_cons_succ, List.getElem_toArray, List.getElem_cons_zero, List.getElem_cons_succ]
      first
        | (refine wpAnyH_take (i := 9) (v := undef) rfl (by kernel_rfl) (by kernel_rfl) (by kernel_rfl) (fun _ _ _ h => h) (Or.inr ⟨by rfl, rfl⟩) (by assumption) ?_)
        | (refine wpAnyH_take (i := 9) (v := ?_) rfl (by kernel_rfl) (by kernel_rfl) (by kernel_rfl) (fun _ _ _ h => h) (Or.inl ⟨by rfl, ?_⟩) (by assumption) ?_; rotate_left; (intro wH hSw; (try dsimp only at hSw); go_simp; try with_reducible rfl))
      try simp only [Act.put, List.setIfInBounds_toArray, List.set_cons_zero, List.set_cons_succ, List.getElem_toArray, List.getElem_cons_zero, List.getElem_cons_succ]
      first
        | (refine wpAnyH_take (i := 10) (v := undef) rfl (by kernel_rfl) (by kernel_rfl) (by kernel_rfl) (fun _ _ _ h => h) (Or.inr ⟨by rfl, rfl⟩) (by assumption) ?_)
        | (refine wpAnyH_take (i := 10) (v := ?_) rfl (by kernel_rfl) (by kernel_rfl) (by kernel_rfl) (fun _ _ _ h => h) (Or.inl ⟨by rfl, ?_⟩) (by assumption) ?_; rotate_left; (intro wH hSw; (try dsimp only at hSw); go_simp; try with_reducible rfl))
      try simp only [Act.put, List.setIfInBounds_toArray, List.set_cons_zero, List.set_cons_succ, List.getElem_toArray, List.getElem_cons_zero, List.getElem_cons_succ]
      first
        | (refine wpAnyH_take (i := 11) (v := undef) rfl (by kernel_rfl) (by kernel_rfl) (by kernel_rfl) (fun _ _ _ h => h) (Or.inr ⟨by rfl, rfl⟩) (by assumption) ?_)
        | (refine wpAnyH_take (i := 11) (v := ?_) rfl (by kernel_rfl) (by kernel_rfl) (by kernel_rfl) (fun _ _ _ h => h) (Or.inl ⟨by rfl, ?_⟩) (by assumption) ?_; rotate_left; (intro wH hSw; (try dsimp only at hSw); go_simp; try with_reducible rfl))
      try simp only [Act.put, List.setIfInBounds_toArray, List.set_cons_zero, List.set_cons_succ, List.getElem_toArray, List.getElem_cons_zero, List.getElem_cons_succ]
      refine wpAnyH_ready (rs := [12]) (by kernel_rfl) (by simp) ?_
      refine AllReadyH.cons rfl (fun K hK => ?_) AllReadyH.nil
      go_simp
      skip
      refine hK.out _ _ (by (try dsimp only); exact (cell_same (heap_setCell_other _ _ _ _ (by show w2.heap.size ≠ gs; omega))).trans z3) (fun hHeld => ?_)
      clear hK K
      try simp only [Act.put, List.setIfInBounds_toArray, List.set_cons_zero, List.set_cons_succ, List.getElem_toArray, List.getElem_cons_zero, List.getElem_cons_succ]
      refine wpAnyH_done (by kernel_rfl) ?_ _
      go_upto_region 11 with (fail)
      have hw6 := neg_step HW.out hlt
      have hx6 : (wo.setCell ⟨gs, j * 5 + 3, none⟩ (.int .i64 (-(el (el l.entries k).lines j).amount))).heap[w2.heap.size]? = _ := (heap_setCell_other _ _ _ _ (by show w2.heap.size ≠ gs; omega)).trans HX.out
      have hb6 := HBL.out.setCell (p := ⟨gs, j * 5 + 3, none⟩) hgs0 (.int .i64 (-(el (el l.entries k).lines j).amount))
      obtain ⟨W6, hW6⟩ : ∃ W6 : World, W6 = wo.setCell ⟨gs, j * 5 + 3, none⟩ (.int .i64 (-(el (el l.entries k).lines j).amount)) := ⟨_, rfl⟩
      rw [← hW6] at hw6 hx6 hb6 ⊢
      have HW6 := Lib.hid hw6
      have HX6 := Lib.hid hx6
      have HB6 := Lib.hid hb6
      clear hW6 hw6 hx6 hb6 l3 fr z3
      have z3 := (box_cell HX6.out 3).trans rfl
      obtain ⟨ad, he, -, -, -, -, l4⟩ := at_Ln HW6.out.reads j (by rw [List.length_set, negTo_len]; exact hlt)
      cases he
      rw [el_eq _ _ (by rw [List.length_set, negTo_len]; exact hlt), List.getElem_set_self, add_base] at l4
      have fr := HW6.out.free (j * 5 + 4)
      refine wp_region_held_drew (S := fun wq => wq.cell? ⟨w2.heap.size, 3, none⟩ = some (.slice (some ⟨gs, 0, none⟩) (el l.entries k).lines.length c2)) (by kernel_rfl) z3 (fun hHeld => ?_)
      first
        | (refine wpAnyH_take (i := 0) (v := undef) rfl (by kernel_rfl) (by kernel_rfl) (by kernel_rfl) (fun _ _ _ h => h) (Or.inr ⟨by rfl, rfl⟩) (by assumption) ?_)
        | (refine wpAnyH_take (i := 0) (v := ?_) rfl (by kernel_rfl) (by kernel_rfl) (by kernel_rfl) (fun _ _ _ h => h) (Or.inl ⟨by rfl, ?_⟩) (by assumption) ?_; rotate_left; (intro wH hSw; (try dsimp only at hSw); go_simp; try with_reducible rfl))
      try simp only [Act.put, List.setIfInBounds_toArray, List.set_cons_zero, List.set_cons_succ, List.getElem_toArray, List.getElem_cons_zero, List.getElem_cons_succ]
      first
        | (refine wpAnyH_take (i := 1) (v := undef) rfl (by kernel_rfl) (by kernel_rfl) (by kernel_rfl) (fun _ _ _ h => h) (Or.inr ⟨by rfl, rfl⟩) (by assumption) ?_)
        | (refine wpAnyH_take (i := 1) (v := ?_) rfl (by kernel_rfl) (by kernel_rfl) (by kernel_rfl) (fun _ _ _ h => h) (Or.inl ⟨by rfl, ?_⟩) (by assumption) ?_; rotate_left; (intro wH hSw; (try dsimp only at hSw); go_simp; try with_reducible rfl))
      try simp only [Act.put, List.setIfInBounds_toArray, List.set_cons_zero, List.set_cons_succ, List.getElem_toArray, List.getElem_cons_zero, List.getElem_cons_succ]
      first
        | (refine wpAnyH_take (i := 2) (v := undef) rfl (by kernel_rfl) (by kernel_rfl) (by kernel_rfl) (fun _ _ _ h => h) (Or.inr ⟨by rfl, rfl⟩) (by assumption) ?_)
        | (refine wpAnyH_take (i := 2) (v := ?_) rfl (by kernel_rfl) (by kernel_rfl) (by kernel_rfl) (fun _ _ _ h => h) (Or.inl ⟨by rfl, ?_⟩) (by assumption) ?_; rotate_left; (intro wH hSw; (try dsimp only at hSw); go_simp; try with_reducible rfl))
      try simp only [Act.put, List.setIfInBounds_toArray, List.set_cons_zero, List.set_cons_succ, List.getElem_toArray, List.getElem_cons_zero, List.getElem_cons_succ]
      first
        | (refine wpAnyH_take (i := 3) (v := undef) rfl (by kernel_rfl) (by kernel_rfl) (by kernel_rfl) (fun _ _ _ h => h) (Or.inr ⟨by rfl, rfl⟩) (by assumption) ?_)
        | (refine wpAnyH_take (i := 3) (v := ?_) rfl (by kernel_rfl) (by kernel_rfl) (by kernel_rfl) (fun _ _ _ h => h) (Or.inl ⟨by rfl, ?_⟩) (by assumption) ?_; rotate_left; (intro wH hSw; (try dsimp only at hSw); go_simp; try with_reducible rfl))
      try simp only [Act.put, List.setIfInBounds_toArray, List.set_cons_zero, List.set_cons_succ, List.getElem_toArray, List.getElem_cons_zero, List.getElem_cons_succ]
      first
        | (refine wpAnyH_take (i := 4) (v := undef) rfl (by kernel_rfl) (by kernel_rfl) (by kernel_rfl) (fun _ _ _ h => h) (Or.inr ⟨by rfl, rfl⟩) (by assumption) ?_)
        | (refine wpAnyH_take (i := 4) (v := ?_) rfl (by kernel_rfl) (by kernel_rfl) (by kernel_rfl) (fun _ _ _ h => h) (Or.inl ⟨by rfl, ?_⟩) (by assumption) ?_; rotate_left; (intro wH hSw; (try dsimp only at hSw); go_simp; try with_reducible rfl))
      try simp only [Act.put, List.setIfInBounds_toArray, List.set_cons_zero, List.set_cons_succ, List.getElem_toArray, List.getElem_cons_zero, List.getElem_cons_succ]
      first
        | (refine wpAnyH_take (i := 5) (v := undef) rfl (by kernel_rfl) (by kernel_rfl) (by kernel_rfl) (fun _ _ _ h => h) (Or.inr ⟨by rfl, rfl⟩) (by assumption) ?_)
        | (refine wpAnyH_take (i := 5) (v := ?_) rfl (by kernel_rfl) (by kernel_rfl) (by kernel_rfl) (fun _ _ _ h => h) (Or.inl ⟨by rfl, ?_⟩) (by assumption) ?_; rotate_left; (intro wH hSw; (try dsimp only at hSw); go_simp; try with_reducible rfl))
      try simp only [Act.put, List.setIfInBounds_toArray, List.set_cons_zero, List.set_cons_succ, List.getElem_toArray, List.getElem_cons_zero, List.getElem_cons_succ]
      first
        | (refine wpAnyH_take (i := 6) (v := undef) rfl (by kernel_rfl) (by kernel_rfl) (by kernel_rfl) (fun _ _ _ h => h) (Or.inr ⟨by rfl, rfl⟩) (by assumption) ?_)
        | (refine wpAnyH_take (i := 6) (v := ?_) rfl (by kernel_rfl) (by kernel_rfl) (by kernel_rfl) (fun _ _ _ h => h) (Or.inl ⟨by rfl, ?_⟩) (by assumption) ?_; rotate_left; (intro wH hSw; (try dsimp only at hSw); go_simp; try with_reducible rfl))
      try simp only [Act.put, List.setIfInBounds_toArray, List.set_cons_zero, List.set_cons_succ, List.getElem_toArray, List.getElem_cons_zero, List.getElem_cons_succ]
      first
        | (refine wpAnyH_take (i := 7) (v := undef) rfl (by kernel_rfl) (by kernel_rfl) (by kernel_rfl) (fun _ _ _ h => h) (Or.inr ⟨by rfl, rfl⟩) (by assumption) ?_)
        | (refine wpAnyH_take (i := 7) (v := ?_) rfl (by kernel_rfl) (by kernel_rfl) (by kernel_rfl) (fun _ _ _ h => h) (Or.inl ⟨by rfl, ?_⟩) (by assumption) ?_; rotate_left; (intro wH hSw; (try dsimp only at hSw); go_simp; try with_reducible rfl))
      try simp only [Act.put, List.setIfInBounds_toArray, List.set_cons_zero, List.set_cons_succ, List.getElem_toArray, List.getElem_cons_zero, List.getElem_cons_succ]
      refine wpAnyH_ready (rs := [8]) (by kernel_rfl) (by simp) ?_
      refine AllReadyH.cons rfl (fun K hK => ?_) AllReadyH.nil
      go_simp
      skip
      refine hK.out _ _ (by (try dsimp only); exact hHeld) (fun hHeld => ?_)
      clear hK K
      try simp only [Act.put, List.setIfInBounds_toArray, List.set_cons_zero, List.set_cons_succ, List.getElem_toArray, List.getElem_cons_zero, List.getElem_cons_succ]
      first
        | (refine wpAnyH_take (i := 9) (v := undef) rfl (by kernel_rfl) (by kernel_rfl) (by kernel_rfl) (fun _ _ _ h => h) (Or.inr ⟨by rfl, rfl⟩) (by assumption) ?_)
        | (refine wpAnyH_take (i := 9) (v := ?_) rfl (by kernel_rfl) (by kernel_rfl) (by kernel_rfl) (fun _ _ _ h => h) (Or.inl ⟨by rfl, ?_⟩) (by assumption) ?_; rotate_left; (intro wH hSw; (try dsimp only at hSw); go_simp; try with_reducible rfl))
      try simp only [Act.put, List.setIfInBounds_toArray, List.set_cons_zero, List.set_cons_succ, List.getElem_toArray, List.getElem_cons_zero, List.getElem_cons_succ]
      first
        | (refine wpAnyH_take (i := 10) (v := undef) rfl (by kernel_rfl) (by kernel_rfl) (by kernel_rfl) (fun _ _ _ h => h) (Or.inr ⟨by rfl, rfl⟩) (by assumption) ?_)
        | (refine wpAnyH_take (i := 10) (v := ?_) rfl (by kernel_rfl) (by kernel_rfl) (by kernel_rfl) (fun _ _ _ h => h) (Or.inl ⟨by rfl, ?_⟩) (by assumption) ?_; rotate_left; (intro wH hSw; (try dsimp only at hSw); go_simp; try with_reducible rfl))
      try simp only [Act.put, List.setIfInBounds_toArray, List.set_cons_zero, List.set_cons_succ, List.getElem_toArray, List.getElem_cons_zero, List.getElem_cons_succ]
      first
        | (refine wpAnyH_take (i := 11) (v := undef) rfl (by kernel_rfl) (by kernel_rfl) (by kernel_rfl) (fun _ _ _ h => h) (Or.inr ⟨by rfl, rfl⟩) (by assumption) ?_)
        | (refine wpAnyH_take (i := 11) (v := ?_) rfl (by kernel_rfl) (by kernel_rfl) (by kernel_rfl) (fun _ _ _ h => h) (Or.inl ⟨by rfl, ?_⟩) (by assumption) ?_; rotate_left; (intro wH hSw; (try dsimp only at hSw); go_simp; try with_reducible rfl))
      try simp only [Act.put, List.setIfInBounds_toArray, List.set_cons_zero, List.set_cons_succ, List.getElem_toArray, List.getElem_cons_zero, List.getElem_cons_succ]
      refine wpAnyH_ready (rs := [12]) (by kernel_rfl) (by simp) ?_
      refine AllReadyH.cons rfl (fun K hK => ?_) AllReadyH.nil
      go_simp
      skip
      refine hK.out _ _ (by (try dsimp only); exact (cell_same (heap_setCell_other _ _ _ _ (by show w2.heap.size ≠ gs; omega))).trans z3) (fun hHeld => ?_)
      clear hK K
      try simp only [Act.put, List.setIfInBounds_toArray, List.set_cons_zero, List.set_cons_succ, List.getElem_toArray, List.getElem_cons_zero, List.getElem_cons_succ]
      refine wpAnyH_done (by kernel_rfl) ?_ _
      clear l4 fr z3
      go_wp2
      go_roundw
      case rel =>
        have q1 := neg_step2 HW6.out hlt
        have q2 : (W6.setCell ⟨gs, j * 5 + 4, none⟩ (.int .i64 (-(el (el l.entries k).lines j).base))).heap[w2.heap.size]? = _ := (heap_setCell_other _ _ _ _ (by show w2.heap.size ≠ gs; omega)).trans HX6.out
        exact ⟨j + 1, by omega, by go_num, q2, q1, ((HB6.out.setCell (p := ⟨gs, j * 5 + 4, none⟩) hgs0 _).drew).drew⟩
      case measure => simp [intOf]; omega
    · have ej : j = (el l.entries k).lines.length := by omega
      subst ej
      have z0 := (box_cell HX.out 0).trans rfl
      have z1 := (box_cell HX.out 1).trans rfl
      have z2 := (box_cell HX.out 2).trans rfl
      have z3 := (box_cell HX.out 3).trans rfl
      have hx2 := box_below X2.out HBL.out
      have H2 := Lib.hid hx2
      have u0 := (box_cell hx2 0).trans rfl
      have u1 := (box_cell hx2 1).trans rfl
      have u2 := (box_cell hx2 2).trans rfl
      have u3 := (box_cell hx2 3).trans rfl
      have f0 := box_free hx2 0
      have f1 := box_free hx2 1
      have f2 := box_free hx2 2
      have f3 := box_free hx2 3
      clear hx2
      go_wp2
      refine bodyPost_ret (results_row_tmp rfl _ _ (w.heap.size + 2) 34 #[.int .i64 day, .int .i64 ((k : Int) + 1), .string T, .slice (some ⟨gs, 0, none⟩) (el l.entries k).lines.length c2] (0, 0) _ (.bool true) rfl rfl (heap_setCell_same _ _ 3 _ _ _ (heap_setCell_same _ _ 2 _ _ _ (heap_setCell_same _ _ 1 _ _ _ (heap_setCell_same _ _ 0 _ _ _ H2.out)))) Try.underlying34 rfl (by kernel_rfl)) rfl ?_
      have hbb := below_step b0.out HBL.out
      have h0 := b0.out.size
      refine ⟨⟨_, _, _, _, _, _, rfl⟩, ?_⟩
      exact (((hbb.setCell (p := ⟨w.heap.size + 2, 0, none⟩) (by show w.heap.size ≤ w.heap.size + 2; omega) _).setCell (p := ⟨w.heap.size + 2, 1, none⟩) (by show w.heap.size ≤ w.heap.size + 2; omega) _).setCell (p := ⟨w.heap.size + 2, 2, none⟩) (by show w.heap.size ≤ w.heap.size + 2; omega) _).setCell (p := ⟨w.heap.size + 2, 3, none⟩) (by show w.heap.size ≤ w.heap.size + 2; omega) _
end Go.Proofs.Ythgnfpbbhiegfaa
