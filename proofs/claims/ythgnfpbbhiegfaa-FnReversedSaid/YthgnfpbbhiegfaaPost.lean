/- The walks of the program's copyEntry, copyLedger, Post, Reverse. -/
import Derived.Test.YthgnfpbbhiegfaaCopy
import Derived.Test.YthgnfpbbhiegfaaLedger2
namespace Go.Proofs.Ythgnfpbbhiegfaa
open Go.RowKit
theorem infoLn : (Try.prog.info? 130).map (fun i => (i.zero, i.size, i.bytes)) = some (some (.agg #[.int .i64 0, .int .i64 0, .int .i64 0, .int .i64 0, .int .i64 0]), 5, 40) := by kernel_rfl
theorem infoLn2 : (Try.prog.info? 130).map (·.size) = some 5 := by kernel_rfl
theorem Ln_any {w w1 : World} {S S1 : Nat → Prop} {x : Ln} {cs : List Value} (h : cLn.rd w S x cs) : cLn.rd w1 S1 x cs := by rw [Ln_open h]; exact Ln_mk
set_option maxRecDepth 100000 in
set_option maxHeartbeats 1000000 in
theorem copyEntry_c {S : Nat → Prop} (A3 : Option Addr) (c3 : Nat) (e : En) (w : World) (hs : Sl cLn w S A3 e.lines) (h60 : e.lines.length ≤ 60) :
    Calls Try.prog 78 #[.agg #[.int .i64 e.day, .int .i64 e.ref, .string e.text, .slice A3 e.lines.length c3]] w fun r w' => ∃ g, r = .returned (.agg #[.int .i64 e.day, .int .i64 e.ref, .string e.text, .slice (some ⟨g, 0, none⟩) e.lines.length e.lines.length]) ∧ w.heap.size ≤ g ∧ Own cLn 130 w' w.heap.size (.slice (some ⟨g, 0, none⟩) e.lines.length e.lines.length) e.lines ∧ Below w.heap.size w w' := by
  have hl := hs.1
  go_enter Try.func78, Try.ntmps78
  go_upto_region 1 with (fail)
  have hs2 : Sl cLn w (fun k => some k ≠ some (w.heap.size + 2)) A3 e.lines := (hs.bound (by decide)).mono (fun k hk => by have := hk.2; simp; omega)
  obtain ⟨W0, hW0, hsz, x0, x1, b0⟩ : ∃ W0 : World, W0 = (w.alloc (.cells #[.int .i64 e.day, .int .i64 e.ref, .string e.text, .slice A3 e.lines.length c3] 34)).alloc (.cells #[.int .i64 0, .int .i64 0, .string ⟨#[]⟩, .slice none 0 0] 34) ∧ W0.heap.size = w.heap.size + 2 ∧ W0.heap[w.heap.size]? = some (.cells #[.int .i64 e.day, .int .i64 e.ref, .string e.text, .slice A3 e.lines.length c3] 34 (0, 0)) ∧ W0.heap[w.heap.size + 1]? = some (.cells #[.int .i64 0, .int .i64 0, .string ⟨#[]⟩, .slice none 0 0] 34 (0, 0)) ∧ Bel w W0 := ⟨_, rfl, by simp, new_box2a _ _ _, new_box2b _ _ _, inferInstance⟩
  rw [← hW0]
  clear hW0
  have X0 := Lib.hid x0
  have X1 := Lib.hid x1
  have HSZ := Lib.hid hsz
  have y3 := (box_cell x0 3).trans rfl
  rw [← hsz] at hs2
  clear x0 x1 hsz
  go_wp2_with (at_make; go_loud (refine Own.make cLn 32 130 W0.heap.size rfl _ _ rfl Try.underlying32 (.agg #[.int .i64 0, .int .i64 0, .int .i64 0, .int .i64 0, .int .i64 0]) 40 infoLn rfl (⟨0, 0, 0, 0, 0⟩ : Ln) (fun _ _ => Ln_mk) .i64 .i64 e.lines.length rfl rfl (by omega) (by omega) (Nat.le_refl _) ?_; intro w1 hown1 hg1; have b1 : Bel W0 w1 := ⟨(Below.refl _ _).grown hg1 (Nat.le_refl _) (by simp)⟩; have hx0 := (box_below X0.out b1.out); have hx1 := (box_below X1.out b1.out); have hsz1 := b1.out.size; have y3 := (box_cell hx0 3).trans rfl; obtain ⟨w2, hrun, hown2, hg2⟩ := Own.copyRunN (scap := c3) 32 130 3 W0.heap.size Try.underlying32 infoLn2 hown1 (by simp) rfl ((hs2.to (w1 := W0)).to (w1 := w1)); have b2 : Bel W0 w2 := ⟨b1.out.grown hg2 b1.out.size (by simp)⟩; have O2 := Lib.hid hown2; have hy0 := box_below X0.out b2.out; have hy1 := box_below X1.out b2.out; have HY1 := Lib.hid hy1; have z0 := (box_cell hy0 0).trans rfl; have z1 := (box_cell hy0 1).trans rfl; have z2 := (box_cell hy0 2).trans rfl; have z3 := (box_cell hy0 3).trans rfl; have f3 := box_free hy0 3; have t0 := (box_cell hy1 0).trans rfl; have t1 := (box_cell hy1 1).trans rfl; have t2 := (box_cell hy1 2).trans rfl; have t3 := (box_cell hy1 3).trans rfl; have u0 := box_free hy1 0; have u1 := box_free hy1 1; have u2 := box_free hy1 2; have u3 := box_free hy1 3; clear hown1 hown2 hg2 hx0 hx1 hy0 hy1 hsz1))
  refine bodyPost_ret (results_cell_row rfl _ _ (w.heap.size + 1) 34 #[.int .i64 e.day, .int .i64 e.ref, .string e.text, .slice (some ⟨W0.heap.size, 0, none⟩) e.lines.length e.lines.length] (0, 0) _ rfl (heap_setCell_same _ _ 3 _ _ _ (heap_setCell_same _ _ 2 _ _ _ (heap_setCell_same _ _ 1 _ _ _ (heap_setCell_same _ _ 0 _ _ _ ((heap_setCell_other _ _ _ _ (by simp)).trans HY1.out))))) Try.underlying34 rfl (by kernel_rfl)) rfl ?_
  refine ⟨W0.heap.size, rfl, b0.out.size, ?_, ?_⟩
  · have hsz := HSZ.out
    have o1 := O2.out.lower (b0.out.size)
    have o2 := o1.grown (grown_set _ w.heap.size 3 (.slice (some ⟨W0.heap.size, 0, none⟩) e.lines.length e.lines.length)) (by simp; omega) (fun _ _ h => Ln_any h)
    have o3 := o2.grown (grown_set _ (w.heap.size + 1) 0 (.int .i64 e.day)) (by simp; omega) (fun _ _ h => Ln_any h)
    have o4 := o3.grown (grown_set _ (w.heap.size + 1) 1 (.int .i64 e.ref)) (by simp; omega) (fun _ _ h => Ln_any h)
    have o5 := o4.grown (grown_set _ (w.heap.size + 1) 2 (.string e.text)) (by simp; omega) (fun _ _ h => Ln_any h)
    exact o5.grown (grown_set _ (w.heap.size + 1) 3 (.slice (some ⟨W0.heap.size, 0, none⟩) e.lines.length e.lines.length)) (by simp; omega) (fun _ _ h => Ln_any h)
  · have b : Below w.heap.size w w2 := below_step b0.out b2.out
    exact ((((b.setCell (by simp) _).setCell (by simp) _).setCell (by simp) _).setCell (by simp) _).setCell (by simp) _
end Go.Proofs.Ythgnfpbbhiegfaa
