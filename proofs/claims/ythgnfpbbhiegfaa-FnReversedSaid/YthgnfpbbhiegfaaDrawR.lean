/- The walk of the function that draws the law's input. -/
import Derived.Test.YthgnfpbbhiegfaaDrawM
import Derived.IntWalk
namespace Go.Proofs.Ythgnfpbbhiegfaa
open Go.RowKit
theorem results_2rows {P : Program} {fn : Func} {p q u v : Tmp} {ty tz : TypeId} (h : fn.results = #[.cell p ty, .cell q tz, .tmp u, .tmp v]) (tmps : Array Value) (w : World) (g g2 : Nat) (t t2 : TypeId) (cs cs2 : Array Value) (fr fr2 : Nat × Nat) (d d2 : TypeDesc) (x y : Value)
    (hp : tmps.getD p undef = .pointer (some ⟨g, 0, none⟩)) (hq : tmps.getD q undef = .pointer (some ⟨g2, 0, none⟩)) (hx : tmps.getD u undef = x) (hy : tmps.getD v undef = y) (hg : w.heap[g]? = some (.cells cs t fr)) (hg2 : w.heap[g2]? = some (.cells cs2 t2 fr2))
    (hu : P.underlying ty = some d) (hd : (match d with | .struct _ | .array _ _ => true | _ => false) = true) (hi : (P.info? ty).map (·.size) = some cs.size)
    (hu2 : P.underlying tz = some d2) (hd2 : (match d2 with | .struct _ | .array _ _ => true | _ => false) = true) (hi2 : (P.info? tz).map (·.size) = some cs2.size) :
    (results fn tmps).run P w = .ok (.tuple #[.agg cs, .agg cs2, x, y]) w := by
  have hp' : tmps[p]?.getD undef = .pointer (some ⟨g, 0, none⟩) := by simpa using hp
  have hq' : tmps[q]?.getD undef = .pointer (some ⟨g2, 0, none⟩) := by simpa using hq
  have hx' : tmps[u]?.getD undef = x := by simpa using hx
  have hy' : tmps[v]?.getD undef = y := by simpa using hy
  simp [results, h, hp', hq', hx', hy', asAddr, Sem.run_bind, Result.andThen, run_loadVar_row w g t ty cs fr d hg hu hd hi, run_loadVar_row w g2 t2 tz cs2 fr2 d2 hg2 hu2 hd2 hi2]
/-- What has been drawn: the results' boxes, the frame's. -/
structure DrS (g : Nat) (w wq : World) (A : Option Addr) (c : Nat) (f : Fr) (b7 : Nat) : Prop where
  x2 : wq.heap[w.heap.size]? = some (.cells #[.slice none 0 0, .int .i64 0, .int .i64 0] 26 (0, 0))
  x3 : wq.heap[w.heap.size + 1]? = some (.cells #[.slice none 0 0, .int .i64 0] 29 (0, 0))
  x7 : wq.heap[b7]? = some (.cells #[.slice A f.chart.length c, .int .i64 f.dims, .int .i64 f.curs] 26 (0, 0))
  cur : Cur wq g
  bel : Below w.heap.size w wq
  row : Own cAc 115 wq (g + 1) (.slice A f.chart.length c) f.chart
  hg : w.heap.size + 2 ≤ g
  hb : g < b7
theorem DrS.lm {g : Nat} {w wq W : World} {A : Option Addr} {c : Nat} {f : Fr} {b7 : Nat} (h : DrS g w wq A c f b7) (hc : Cur W g) (hl : LM g wq W) : DrS g w W A c f b7 where
  x2 := box_lm h.x2 hl (by have := h.hg; omega) (by decide) (by decide)
  x3 := box_lm h.x3 hl (by have := h.hg; omega) (by decide) (by decide)
  x7 := box_lm h.x7 hl (by have := h.hb; omega) (by decide) (by decide)
  cur := hc
  bel := h.bel.trans ⟨hl.os, hl.tape, hl.output, hl.size, fun k hk => hl.low k (by have := h.hg; omega)⟩
  row := h.row.lm flatAc hl (by decide) (by decide)
  hg := h.hg
  hb := h.hb
theorem DrS.dr {g : Nat} {w wq W : World} {A : Option Addr} {c : Nat} {f : Fr} {b7 : Nat} (h : DrS g w wq A c f b7) (hd : Dr g wq W) : DrS g w W A c f b7 := h.lm hd.1 (LM.lk (LK.gro hd.2 h.cur.lt))
theorem DrS.read {g : Nat} {w wq : World} {A : Option Addr} {c : Nat} {f : Fr} {b7 : Nat} (h : DrS g w wq A c f b7) : Sl cAc wq (fun k => g < k) A f.chart := h.row.sl (fun k hk => by omega) (fun _ _ hx => flatAc hx)
theorem DrS.box {g : Nat} {w wq : World} {A : Option Addr} {c : Nat} {f : Fr} {b7 b8 : Nat} {cur : Array Value} {fr : Nat × Nat} (h : DrS g w wq A c f b7) (hB : wq.heap[b8]? = some (.cells cur 29 fr)) (hgb : g < b8) (i : Nat) (u : Value) : DrS g w (wq.setCell ⟨b8, i, none⟩ u) A c f b7 := by
  have hg := h.hg
  have h7 : b7 ≠ b8 := fun e => by
    have := h.x7
    rw [e, hB] at this
    injection this with this
    injection this with _ this _
    revert this
    decide
  exact ⟨(heap_setCell_other _ _ _ _ (by show w.heap.size ≠ b8; omega)).trans h.x2, (heap_setCell_other _ _ _ _ (by show w.heap.size + 1 ≠ b8; omega)).trans h.x3, (heap_setCell_other _ _ _ _ h7).trans h.x7, h.cur.set _ hgb, h.bel.setCell (by show w.heap.size ≤ b8; omega) u, h.row.setB flatAc i u (h.row.ne hB (by decide)), h.hg, h.hb⟩
theorem DrS.fin {g : Nat} {w wq : World} {A : Option Addr} {c : Nat} {f : Fr} {b7 b8 : Nat} {v : Value} {xs : List EV} (h : DrS g w wq A c f b7) (hB : wq.heap[b8]? = some (.cells #[.slice none 0 0, .int .i64 0] 29 (0, 0))) (hgb : g < b8) (he : EnsT g wq v xs) (y : Int) :
    DrS g w ((wq.setCell ⟨b8, 0, none⟩ v).setCell ⟨b8, 1, none⟩ (.int .i64 y)) A c f b7 ∧ ((wq.setCell ⟨b8, 0, none⟩ v).setCell ⟨b8, 1, none⟩ (.int .i64 y)).heap[b8]? = some (.cells #[v, .int .i64 y] 29 (0, 0)) ∧ EnsT g ((wq.setCell ⟨b8, 0, none⟩ v).setCell ⟨b8, 1, none⟩ (.int .i64 y)) v xs := by
  have k : (wq.setCell ⟨b8, 0, none⟩ v).heap[b8]? = some (.cells #[v, .int .i64 0] 29 (0, 0)) := heap_setCell_same _ _ 0 _ _ _ hB
  exact ⟨(h.box hB hgb 0 v).box k hgb 1 _, heap_setCell_same _ _ 1 _ _ _ k, (he.setB hB (by decide) (by decide) 0 v).setB k (by decide) (by decide) 1 _⟩
theorem DrS.mid {g : Nat} {w wq : World} {A : Option Addr} {c : Nat} {f : Fr} {b7 b8 : Nat} {v8 : Value} {h8 : Int} (h : DrS g w wq A c f b7) (hB : wq.heap[b8]? = some (.cells #[v8, .int .i64 h8] 29 (0, 0))) (hgb : g < b8) (u0 u1 u2 : Value) :
    (((wq.setCell ⟨w.heap.size, 0, none⟩ u0).setCell ⟨w.heap.size, 1, none⟩ u1).setCell ⟨w.heap.size, 2, none⟩ u2).heap[b7]? = some (.cells #[.slice A f.chart.length c, .int .i64 f.dims, .int .i64 f.curs] 26 (0, 0)) ∧ (((wq.setCell ⟨w.heap.size, 0, none⟩ u0).setCell ⟨w.heap.size, 1, none⟩ u1).setCell ⟨w.heap.size, 2, none⟩ u2).heap[b8]? = some (.cells #[v8, .int .i64 h8] 29 (0, 0)) ∧ (((wq.setCell ⟨w.heap.size, 0, none⟩ u0).setCell ⟨w.heap.size, 1, none⟩ u1).setCell ⟨w.heap.size, 2, none⟩ u2).heap[w.heap.size + 1]? = some (.cells #[.slice none 0 0, .int .i64 0] 29 (0, 0)) ∧ (((wq.setCell ⟨w.heap.size, 0, none⟩ u0).setCell ⟨w.heap.size, 1, none⟩ u1).setCell ⟨w.heap.size, 2, none⟩ u2).heap[w.heap.size]? = some (.cells #[u0, u1, u2] 26 (0, 0)) := by
  have hg := h.hg
  have hb := h.hb
  have three : ∀ (j : Nat), j ≠ w.heap.size → (((wq.setCell ⟨w.heap.size, 0, none⟩ u0).setCell ⟨w.heap.size, 1, none⟩ u1).setCell ⟨w.heap.size, 2, none⟩ u2).heap[j]? = wq.heap[j]? := fun j hj => (heap_setCell_other _ _ _ _ hj).trans ((heap_setCell_other _ _ _ _ hj).trans (heap_setCell_other _ _ _ _ hj))
  exact ⟨(three _ (by omega)).trans h.x7, (three _ (by omega)).trans hB, (three _ (by omega)).trans h.x3, heap_setCell_same _ _ 2 _ _ _ (heap_setCell_same _ _ 1 _ _ _ (heap_setCell_same _ _ 0 _ _ _ h.x2))⟩
theorem DrS.out {g : Nat} {w wq : World} {A : Option Addr} {c : Nat} {f : Fr} {b7 b8 : Nat} {v8 : Value} {h8 : Int} {xs : List EV} (h : DrS g w wq A c f b7) (hB : wq.heap[b8]? = some (.cells #[v8, .int .i64 h8] 29 (0, 0))) (hgb : g < b8) (he : EnsT g wq v8 xs) (u0 u1 u2 y0 y1 : Value) {W2 : World}
    (hW : W2 = ((((wq.setCell ⟨w.heap.size, 0, none⟩ u0).setCell ⟨w.heap.size, 1, none⟩ u1).setCell ⟨w.heap.size, 2, none⟩ u2).setCell ⟨w.heap.size + 1, 0, none⟩ y0).setCell ⟨w.heap.size + 1, 1, none⟩ y1) :
    W2.heap[b7]? = some (.cells #[.slice A f.chart.length c, .int .i64 f.dims, .int .i64 f.curs] 26 (0, 0)) ∧ W2.heap[b8]? = some (.cells #[v8, .int .i64 h8] 29 (0, 0)) ∧ W2.heap[w.heap.size]? = some (.cells #[u0, u1, u2] 26 (0, 0)) ∧ W2.heap[w.heap.size + 1]? = some (.cells #[y0, y1] 29 (0, 0)) ∧ Below w.heap.size w W2 ∧ Own cAc 115 W2 (g + 1) (.slice A f.chart.length c) f.chart ∧ EnsT g W2 v8 xs := by
  subst hW
  have hg := h.hg
  have hb := h.hb
  obtain ⟨m7, m8, m3, m2⟩ := h.mid hB hgb u0 u1 u2
  have k3 : ((((wq.setCell ⟨w.heap.size, 0, none⟩ u0).setCell ⟨w.heap.size, 1, none⟩ u1).setCell ⟨w.heap.size, 2, none⟩ u2).setCell ⟨w.heap.size + 1, 0, none⟩ y0).heap[w.heap.size + 1]? = some (.cells #[y0, .int .i64 0] 29 (0, 0)) := heap_setCell_same _ _ 0 _ _ _ m3
  have two : ∀ (j : Nat), j ≠ w.heap.size + 1 → (((((wq.setCell ⟨w.heap.size, 0, none⟩ u0).setCell ⟨w.heap.size, 1, none⟩ u1).setCell ⟨w.heap.size, 2, none⟩ u2).setCell ⟨w.heap.size + 1, 0, none⟩ y0).setCell ⟨w.heap.size + 1, 1, none⟩ y1).heap[j]? = (((wq.setCell ⟨w.heap.size, 0, none⟩ u0).setCell ⟨w.heap.size, 1, none⟩ u1).setCell ⟨w.heap.size, 2, none⟩ u2).heap[j]? := fun j hj => (heap_setCell_other _ _ _ _ hj).trans (heap_setCell_other _ _ _ _ hj)
  have a0 : (wq.setCell ⟨w.heap.size, 0, none⟩ u0).heap[w.heap.size]? = some (.cells #[u0, .int .i64 0, .int .i64 0] 26 (0, 0)) := heap_setCell_same _ _ 0 _ _ _ h.x2
  have a1 : ((wq.setCell ⟨w.heap.size, 0, none⟩ u0).setCell ⟨w.heap.size, 1, none⟩ u1).heap[w.heap.size]? = some (.cells #[u0, u1, .int .i64 0] 26 (0, 0)) := heap_setCell_same _ _ 1 _ _ _ a0
  refine ⟨(two _ (by omega)).trans m7, (two _ (by omega)).trans m8, (two _ (by omega)).trans m2, heap_setCell_same _ _ 1 _ _ _ k3, ((((h.bel.setCell (by simp) _).setCell (by simp) _).setCell (by simp) _).setCell (by simp) _).setCell (by simp) _, ?_, ?_⟩
  · have r0 := h.row.setB flatAc 0 u0 (h.row.ne h.x2 (by decide))
    have r1 := r0.setB flatAc 1 u1 (r0.ne a0 (by decide))
    have r2 := r1.setB flatAc 2 u2 (r1.ne a1 (by decide))
    have r3 := r2.setB flatAc 0 y0 (r2.ne m3 (by decide))
    exact r3.setB flatAc 1 y1 (r3.ne k3 (by decide))
  · exact ((((he.setB h.x2 (by decide) (by decide) 0 u0).setB a0 (by decide) (by decide) 1 u1).setB a1 (by decide) (by decide) 2 u2).setB m3 (by decide) (by decide) 0 y0).setB k3 (by decide) (by decide) 1 y1
theorem ledg_c {S : Nat → Prop} (A : Option Addr) (c : Nat) (f : Fr) (x : Nat) (g : Nat) (w : World) (hc : Cur w g) (hs : Sl cAc w S A f.chart) (hS : ∀ k, S k → k ≠ g) (hl : 3 ≤ f.chart.length ∧ f.chart.length ≤ 9) (hx : (x : Int) < 6) :
    Calls Try.prog 72 #[.pointer (some ⟨g, 0, none⟩), .agg #[.slice A f.chart.length c, .int .i64 f.dims, .int .i64 f.curs], .int .i64 (1 + (x : Int))] w fun e w' => (∃ (A1 : Option Addr) (n1 c1 : Nat) (h : Int) (xs : List EV), e = .returned (.agg #[.slice A1 n1 c1, .int .i64 h]) ∧ n1 ≤ 6 ∧ EnsT g w' (.slice A1 n1 c1) xs) ∧ Dr g w w' := by
  have h := l5DrawLedger_c A c f (1 + x) g w hc hs hS ⟨by omega, by omega⟩ (by omega)
  have e : ((1 + x : Nat) : Int) = 1 + (x : Int) := by omega
  rw [e] at h
  refine h.mono fun r w' hr => ?_
  obtain ⟨⟨A1, n1, c1, h1, xs, h2, h3, h4⟩, h5⟩ := hr
  exact ⟨⟨A1, n1, c1, h1, xs, h2, by have := h4.len; omega, h4⟩, h5⟩
set_option linter.unusedSimpArgs false in
set_option maxRecDepth 100000 in
set_option maxHeartbeats 4000000 in
theorem DrawReverse_c {S : Nat → Prop} (A0 : Option Addr) (cap0 : Nat) (code : List Int) (w : World) (hs : Sl cU8 w S A0 code) (hl : code.length ≤ 1048576) (hb : ∀ j, j < code.length → 0 ≤ code.getD j 0 ∧ code.getD j 0 ≤ 255) :
    Calls Try.prog 11 #[.slice A0 code.length cap0] w fun e w' => (∃ (A : Option Addr) (c : Nat) (f : Fr) (A1 : Option Addr) (c1 : Nat) (l : Le) (at' day : Int), e = .returned (.tuple #[.agg #[.slice A f.chart.length c, .int .i64 f.dims, .int .i64 f.curs], .agg #[.slice A1 l.entries.length c1, .int .i64 l.head], .int .i64 at', .int .i64 day]) ∧ Sl cAc w' (fun k => w.heap.size ≤ k) A f.chart ∧ Sl cEn w' (fun k => w.heap.size ≤ k) A1 l.entries ∧ l.entries.length ≤ 6 ∧ l.entries.length ≤ c1) ∧ Below w.heap.size w w' := by
  go_enter Try.func11, Try.ntmps11
  go_upto_region 1 with (fail)
  obtain ⟨W0, hW0, x2, x3, b0, hsz⟩ : ∃ W0 : World, W0 = (w.alloc (.cells #[.slice none 0 0, .int .i64 0, .int .i64 0] 26)).alloc (.cells #[.slice none 0 0, .int .i64 0] 29) ∧ W0.heap[w.heap.size]? = some (.cells #[.slice none 0 0, .int .i64 0, .int .i64 0] 26 (0, 0)) ∧ W0.heap[w.heap.size + 1]? = some (.cells #[.slice none 0 0, .int .i64 0] 29 (0, 0)) ∧ Bel w W0 ∧ W0.heap.size = w.heap.size + 2 := ⟨_, rfl, new_box2a _ _ _, new_box2b _ _ _, inferInstance, by simp⟩
  rw [← hW0]
  have X2 := Lib.hid x2
  have X3 := Lib.hid x3
  have HSZ := Lib.hid hsz
  clear hW0 x2 x3 hsz
  go_upto_region 2 with (go_at_call 69; refine (l1New_c _ _ _ _ (hs.to (w1 := W0)) hl hb).mono ?_; rintro e w1 ⟨g, rfl, hg, hc1, hb1⟩)
  go_upto_region 3 with (go_at_call 70; refine (l5DrawFrame_c g _ hc1).mono ?_; rintro e w2 ⟨⟨A, c, f, rfl, hfc, hown, hfl⟩, hd2⟩)
  obtain ⟨b7, hb7⟩ : ∃ b7, b7 = w2.heap.size := ⟨_, rfl⟩
  obtain ⟨W3, hW3, hst⟩ : ∃ W3 : World, W3 = w2.alloc (.cells #[.slice A f.chart.length c, .int .i64 f.dims, .int .i64 f.curs] 26) ∧ DrS g w W3 A c f b7 := ⟨_, rfl, by
    have hz := HSZ.out
    have hga : Gro g w2 (w2.alloc (.cells #[.slice A f.chart.length c, .int .i64 f.dims, .int .i64 f.curs] 26)) := inferInstance
    refine ⟨box_al (box_gro (box_below X2.out hb1) (by omega) hd2.2), box_al (box_gro (box_below X3.out hb1) (by omega) hd2.2), by rw [hb7]; exact heap_alloc_new _ _, hd2.1.to, ?_, hown.to, by omega, by rw [hb7]; exact hd2.1.lt⟩
    have q1 : Below w.heap.size w w1 := below_step b0.out hb1
    have q2 := hd2.2.trans hga
    exact q1.trans ⟨q2.out.os, q2.out.tape, q2.out.output, q2.out.size, fun k hk => q2.out.block k (by have := hb1.size; omega) (fun e => by injection e; omega)⟩⟩
  rw [← hW3, ← hb7]
  have HS := Lib.hid hst
  clear hW3 hst hb7 hown
  have c0 := (box_cell HS.out.x7 0).trans rfl
  have c1 := (box_cell HS.out.x7 1).trans rfl
  have c2 := (box_cell HS.out.x7 2).trans rfl
  go_cut [8] (fun v wc => ∃ (b8 : Nat) (A1 : Option Addr) (n1 cap1 : Nat) (h : Int) (xs : List EV), v = .pointer (some ⟨b8, 0, none⟩) ∧ DrS g w wc A c f b7 ∧ wc.heap[b8]? = some (.cells #[.slice A1 n1 cap1, .int .i64 h] 29 (0, 0)) ∧ g < b8 ∧ EnsT g wc (.slice A1 n1 cap1) xs ∧ n1 ≤ 6)
  case first =>
    refine wp_region_held_drew (S := fun wq => wq.cell? ⟨b7, 0, none⟩ = some (.slice A f.chart.length c) ∧ wq.cell? ⟨b7, 1, none⟩ = some (.int .i64 f.dims) ∧ wq.cell? ⟨b7, 2, none⟩ = some (.int .i64 f.curs)) (by kernel_rfl) ⟨c0, c1, c2⟩ (fun hHeld => ?_)
    first
      | (refine wpAnyH_take (i := 0) (v := undef) rfl (by kernel_rfl) (by kernel_rfl) (by kernel_rfl) (fun _ _ _ h => h) (Or.inr ⟨by rfl, rfl⟩) (by assumption) ?_)
      | (refine wpAnyH_take (i := 0) (v := ?_) rfl (by kernel_rfl) (by kernel_rfl) (by kernel_rfl) (fun _ _ _ h => h) (Or.inl ⟨by rfl, ?_⟩) (by assumption) ?_; rotate_left; (intro wH hSw; (try dsimp only at hSw); go_simp; try with_reducible rfl))
    try simp only [Act.put, List.setIfInBounds_toArray, List.set_cons_zero, List.set_cons_succ, List.getElem_toArray, List.getElem_cons_zero, List.getElem_cons_succ]
    first
      | (refine wpAnyH_take (i := 1) (v := undef) rfl (by kernel_rfl) (by kernel_rfl) (by kernel_rfl) (fun _ _ _ h => h) (Or.inr ⟨by rfl, rfl⟩) (by assumption) ?_)
      | (refine wpAnyH_take (i := 1) (v := ?_) rfl (by kernel_rfl) (by kernel_rfl) (by kernel_rfl) (fun _ _ _ h => h) (Or.inl ⟨by rfl, ?_⟩) (by assumption) ?_; rotate_left; (intro wH hSw; (try dsimp only at hSw); go_simp; try with_reducible rfl))
    try simp only [Act.put, List.setIfInBounds_toArray, List.set_cons_zero, List.set_cons_succ, List.getElem_toArray, List.getElem_cons_zero, List.getElem_cons_succ]
    first
      | (refine wpAnyH_take (i := 2) (v := undef) rfl (by kernel_rfl) (by kernel_rfl) (by kernel_rfl) (fun _ _ _ h => h) (Or.inr ⟨by rfl, rfl⟩) (by assumption) ?_)
      | (refine wpAnyH_take (i := 2) (v := ?_) rfl (by kernel_rfl) (by kernel_rfl) (by kernel_rfl) (fun _ _ _ h => h) (Or.inl ⟨by rfl, ?_⟩) (by assumption) ?_; rotate_left; (intro wH hSw; (try dsimp only at hSw); go_simp; try with_reducible rfl))
    try simp only [Act.put, List.setIfInBounds_toArray, List.set_cons_zero, List.set_cons_succ, List.getElem_toArray, List.getElem_cons_zero, List.getElem_cons_succ]
    first
      | (refine wpAnyH_take (i := 3) (v := undef) rfl (by kernel_rfl) (by kernel_rfl) (by kernel_rfl) (fun _ _ _ h => h) (Or.inr ⟨by rfl, rfl⟩) (by assumption) ?_)
      | (refine wpAnyH_take (i := 3) (v := ?_) rfl (by kernel_rfl) (by kernel_rfl) (by kernel_rfl) (fun _ _ _ h => h) (Or.inl ⟨by rfl, ?_⟩) (by assumption) ?_; rotate_left; (intro wH hSw; (try dsimp only at hSw); go_simp; try with_reducible rfl))
    try simp only [Act.put, List.setIfInBounds_toArray, List.set_cons_zero, List.set_cons_succ, List.getElem_toArray, List.getElem_cons_zero, List.getElem_cons_succ]
    refine wpAnyH_ready (rs := [4, 8]) (by kernel_rfl) (by simp) ?_
    refine AllReadyH.cons rfl (fun K hK => ?_) (AllReadyH.cons rfl (fun K hK => ?_) AllReadyH.nil)
    · go_simp
      (go_at_call 73; refine (l1Below_c 6 g _ HS.out.cur.to).mono ?_; rintro e w4 ⟨⟨x, rfl, hx⟩, hd⟩; have HS := Lib.hid (HS.out.dr ⟨hd.1, Gro.trans inferInstance hd.2⟩); have hx := hx (by omega); have u1 : IntKind.i64.wrap (1 + (x : Int)) = 1 + (x : Int) := IntWalk.i64_in _ (by omega))
      refine hK.out _ _ (by (try dsimp only); exact ⟨(box_cell HS.out.x7 0).trans rfl, (box_cell HS.out.x7 1).trans rfl, (box_cell HS.out.x7 2).trans rfl⟩) (fun hHeld => ?_)
      clear hK K
      try simp only [Act.put, List.setIfInBounds_toArray, List.set_cons_zero, List.set_cons_succ, List.getElem_toArray, List.getElem_cons_zero, List.getElem_cons_succ]
      first
        | (refine wpAnyH_take (i := 5) (v := undef) rfl (by kernel_rfl) (by kernel_rfl) (by kernel_rfl) (fun _ _ _ h => h) (Or.inr ⟨by rfl, rfl⟩) (by assumption) ?_)
        | (refine wpAnyH_take (i := 5) (v := ?_) rfl (by kernel_rfl) (by kernel_rfl) (by kernel_rfl) (fun _ _ _ h => h) (Or.inl ⟨by rfl, ?_⟩) (by assumption) ?_; rotate_left; (intro wH hSw; (try dsimp only at hSw); go_simp; try with_reducible rfl))
      try simp only [Act.put, List.setIfInBounds_toArray, List.set_cons_zero, List.set_cons_succ, List.getElem_toArray, List.getElem_cons_zero, List.getElem_cons_succ]
      refine wpAnyH_ready (rs := [6, 8]) (by kernel_rfl) (by simp) ?_
      refine AllReadyH.cons rfl (fun K hK => ?_) (AllReadyH.cons rfl (fun K hK => ?_) AllReadyH.nil)
      · go_simp
        (go_at_call 72; refine (ledg_c A c f x g _ HS.out.cur.to HS.out.read.to (fun k hk => Nat.ne_of_gt hk) hfl hx).mono ?_; rintro e w5 ⟨⟨A1, n1, cap1, h1, xs, rfl, hn6, hens⟩, hd⟩; have HS := Lib.hid (HS.out.dr ⟨hd.1, Gro.trans inferInstance hd.2⟩); have HE := Lib.hid hens)
        refine hK.out _ _ (by (try dsimp only); exact ⟨(box_cell HS.out.x7 0).trans rfl, (box_cell HS.out.x7 1).trans rfl, (box_cell HS.out.x7 2).trans rfl⟩) (fun hHeld => ?_)
        clear hK K
        try simp only [Act.put, List.setIfInBounds_toArray, List.set_cons_zero, List.set_cons_succ, List.getElem_toArray, List.getElem_cons_zero, List.getElem_cons_succ]
        refine wpAnyH_ready (rs := [7, 8]) (by kernel_rfl) (by simp) ?_
        refine AllReadyH.cons rfl (fun K hK => ?_) (AllReadyH.cons rfl (fun K hK => ?_) AllReadyH.nil)
        · go_simp
          (go_at_call 71; refine (l5SpoilLedger_c _ _ _ _ xs g _ HS.out.cur.to (HE.out.dr HS.out.cur.lt inferInstance)).mono ?_; rintro e w6 ⟨⟨h2, xs2, rfl, hens2⟩, hcw, hlm⟩; have HS := Lib.hid (HS.out.lm hcw ((LM.lk (LK.gro (g := g) inferInstance HS.out.cur.lt)).trans hlm)); have HE := Lib.hid hens2)
          refine hK.out _ _ (by (try dsimp only); exact ⟨(box_cell HS.out.x7 0).trans rfl, (box_cell HS.out.x7 1).trans rfl, (box_cell HS.out.x7 2).trans rfl⟩) (fun hHeld => ?_)
          clear hK K
          try simp only [Act.put, List.setIfInBounds_toArray, List.set_cons_zero, List.set_cons_succ, List.getElem_toArray, List.getElem_cons_zero, List.getElem_cons_succ]
          refine wpAnyH_ready (rs := [8]) (by kernel_rfl) (by simp) ?_
          refine AllReadyH.cons rfl (fun K hK => ?_) AllReadyH.nil
          go_simp
          skip
          refine hK.out _ _ (by (try dsimp only); exact ⟨(box_cell (box_al HS.out.x7) 0).trans rfl, (box_cell (box_al HS.out.x7) 1).trans rfl, (box_cell (box_al HS.out.x7) 2).trans rfl⟩) (fun hHeld => ?_)
          clear hK K
          try simp only [Act.put, List.setIfInBounds_toArray, List.set_cons_zero, List.set_cons_succ, List.getElem_toArray, List.getElem_cons_zero, List.getElem_cons_succ]
          have HGB := Lib.hid HS.out.cur.lt
          have HS := Lib.hid (HS.out.dr (⟨HS.out.cur.to, inferInstance⟩ : Dr g w6 (w6.alloc (.cells #[.slice A1 n1 cap1, .int .i64 h2] 29))))
          have HE := Lib.hid (HE.out.dr (W := w6.alloc (.cells #[.slice A1 n1 cap1, .int .i64 h2] 29)) HGB.out inferInstance)
          refine wpAnyH_ready (rs := [9]) (by kernel_rfl) (by simp) ?_
          refine AllReadyH.cons rfl (fun K hK => ?_) AllReadyH.nil
          go_simp
          skip
          refine hK.out _ _ (by (try dsimp only); exact ⟨(box_cell HS.out.x7 0).trans rfl, (box_cell HS.out.x7 1).trans rfl, (box_cell HS.out.x7 2).trans rfl⟩) (fun hHeld => ?_)
          clear hK K
          try simp only [Act.put, List.setIfInBounds_toArray, List.set_cons_zero, List.set_cons_succ, List.getElem_toArray, List.getElem_cons_zero, List.getElem_cons_succ]
          refine wpAnyH_done (by kernel_rfl) ?_ _
          go_wp2
          go_meet
          exact ⟨_, _, _, _, _, _, rfl, HS.out, heap_alloc_new _ _, HGB.out, HE.out, hn6⟩
        · go_simp
          refine hK.out _ _ (by (try dsimp only); exact ⟨(box_cell (box_al HS.out.x7) 0).trans rfl, (box_cell (box_al HS.out.x7) 1).trans rfl, (box_cell (box_al HS.out.x7) 2).trans rfl⟩) (fun hHeld => ?_)
          clear hK K
          try simp only [Act.put, List.setIfInBounds_toArray, List.set_cons_zero, List.set_cons_succ, List.getElem_toArray, List.getElem_cons_zero, List.getElem_cons_succ]
          have HGB := Lib.hid HS.out.cur.lt
          have HB := Lib.hid (heap_alloc_new w5 (.cells #[.slice none 0 0, .int .i64 0] 29))
          refine wpAnyH_ready (rs := [7]) (by kernel_rfl) (by simp) ?_
          refine AllReadyH.cons rfl (fun K hK => ?_) AllReadyH.nil
          go_simp
          ((go_at_call 71; refine (l5SpoilLedger_c _ _ _ _ xs g _ HS.out.cur.to (HE.out.dr HS.out.cur.lt inferInstance)).mono ?_; rintro e w6 ⟨⟨h2, xs2, rfl, hens2⟩, hcw, hlm⟩; have HS := Lib.hid (HS.out.lm hcw ((LM.lk (LK.gro (g := g) inferInstance HS.out.cur.lt)).trans hlm)); have HE := Lib.hid hens2); have HB := Lib.hid (box_lm HB.out hlm (Nat.ne_of_gt HGB.out) (by decide) (by decide)))
          refine hK.out _ _ (by (try dsimp only); exact ⟨(box_cell HS.out.x7 0).trans rfl, (box_cell HS.out.x7 1).trans rfl, (box_cell HS.out.x7 2).trans rfl⟩) (fun hHeld => ?_)
          clear hK K
          try simp only [Act.put, List.setIfInBounds_toArray, List.set_cons_zero, List.set_cons_succ, List.getElem_toArray, List.getElem_cons_zero, List.getElem_cons_succ]
          have k0 := (box_cell HB.out 0).trans rfl
          have k1 := (box_cell HB.out 1).trans rfl
          have m0 := box_free HB.out 0
          have m1 := box_free HB.out 1
          have HF := Lib.hid (HS.out.fin HB.out HGB.out HE.out h2)
          refine wpAnyH_ready (rs := [9]) (by kernel_rfl) (by simp) ?_
          refine AllReadyH.cons rfl (fun K hK => ?_) AllReadyH.nil
          go_simp
          skip
          refine hK.out _ _ (by (try dsimp only); exact ⟨(box_cell HF.out.1.x7 0).trans rfl, (box_cell HF.out.1.x7 1).trans rfl, (box_cell HF.out.1.x7 2).trans rfl⟩) (fun hHeld => ?_)
          clear hK K
          try simp only [Act.put, List.setIfInBounds_toArray, List.set_cons_zero, List.set_cons_succ, List.getElem_toArray, List.getElem_cons_zero, List.getElem_cons_succ]
          refine wpAnyH_done (by kernel_rfl) ?_ _
          go_wp2
          go_meet
          exact ⟨_, _, _, _, _, _, rfl, HF.out.1, HF.out.2.1, HGB.out, HF.out.2.2, hn6⟩
      · go_simp
        refine hK.out _ _ (by (try dsimp only); exact ⟨(box_cell (box_al HS.out.x7) 0).trans rfl, (box_cell (box_al HS.out.x7) 1).trans rfl, (box_cell (box_al HS.out.x7) 2).trans rfl⟩) (fun hHeld => ?_)
        clear hK K
        try simp only [Act.put, List.setIfInBounds_toArray, List.set_cons_zero, List.set_cons_succ, List.getElem_toArray, List.getElem_cons_zero, List.getElem_cons_succ]
        have HGB := Lib.hid HS.out.cur.lt
        have HB := Lib.hid (heap_alloc_new w4 (.cells #[.slice none 0 0, .int .i64 0] 29))
        refine wpAnyH_ready (rs := [6]) (by kernel_rfl) (by simp) ?_
        refine AllReadyH.cons rfl (fun K hK => ?_) AllReadyH.nil
        go_simp
        ((go_at_call 72; refine (ledg_c A c f x g _ HS.out.cur.to HS.out.read.to (fun k hk => Nat.ne_of_gt hk) hfl hx).mono ?_; rintro e w5 ⟨⟨A1, n1, cap1, h1, xs, rfl, hn6, hens⟩, hd⟩; have HS := Lib.hid (HS.out.dr ⟨hd.1, Gro.trans inferInstance hd.2⟩); have HE := Lib.hid hens); have HB := Lib.hid (box_gro HB.out (Nat.ne_of_gt HGB.out) hd.2))
        refine hK.out _ _ (by (try dsimp only); exact ⟨(box_cell HS.out.x7 0).trans rfl, (box_cell HS.out.x7 1).trans rfl, (box_cell HS.out.x7 2).trans rfl⟩) (fun hHeld => ?_)
        clear hK K
        try simp only [Act.put, List.setIfInBounds_toArray, List.set_cons_zero, List.set_cons_succ, List.getElem_toArray, List.getElem_cons_zero, List.getElem_cons_succ]
        refine wpAnyH_ready (rs := [7]) (by kernel_rfl) (by simp) ?_
        refine AllReadyH.cons rfl (fun K hK => ?_) AllReadyH.nil
        go_simp
        ((go_at_call 71; refine (l5SpoilLedger_c _ _ _ _ xs g _ HS.out.cur.to (HE.out.dr HS.out.cur.lt inferInstance)).mono ?_; rintro e w6 ⟨⟨h2, xs2, rfl, hens2⟩, hcw, hlm⟩; have HS := Lib.hid (HS.out.lm hcw ((LM.lk (LK.gro (g := g) inferInstance HS.out.cur.lt)).trans hlm)); have HE := Lib.hid hens2); have HB := Lib.hid (box_lm HB.out hlm (Nat.ne_of_gt HGB.out) (by decide) (by decide)))
        refine hK.out _ _ (by (try dsimp only); exact ⟨(box_cell HS.out.x7 0).trans rfl, (box_cell HS.out.x7 1).trans rfl, (box_cell HS.out.x7 2).trans rfl⟩) (fun hHeld => ?_)
        clear hK K
        try simp only [Act.put, List.setIfInBounds_toArray, List.set_cons_zero, List.set_cons_succ, List.getElem_toArray, List.getElem_cons_zero, List.getElem_cons_succ]
        have k0 := (box_cell HB.out 0).trans rfl
        have k1 := (box_cell HB.out 1).trans rfl
        have m0 := box_free HB.out 0
        have m1 := box_free HB.out 1
        have HF := Lib.hid (HS.out.fin HB.out HGB.out HE.out h2)
        refine wpAnyH_ready (rs := [9]) (by kernel_rfl) (by simp) ?_
        refine AllReadyH.cons rfl (fun K hK => ?_) AllReadyH.nil
        go_simp
        skip
        refine hK.out _ _ (by (try dsimp only); exact ⟨(box_cell HF.out.1.x7 0).trans rfl, (box_cell HF.out.1.x7 1).trans rfl, (box_cell HF.out.1.x7 2).trans rfl⟩) (fun hHeld => ?_)
        clear hK K
        try simp only [Act.put, List.setIfInBounds_toArray, List.set_cons_zero, List.set_cons_succ, List.getElem_toArray, List.getElem_cons_zero, List.getElem_cons_succ]
        refine wpAnyH_done (by kernel_rfl) ?_ _
        go_wp2
        go_meet
        exact ⟨_, _, _, _, _, _, rfl, HF.out.1, HF.out.2.1, HGB.out, HF.out.2.2, hn6⟩
    · go_simp
      refine hK.out _ _ (by (try dsimp only); exact ⟨(box_cell (box_al HS.out.x7) 0).trans rfl, (box_cell (box_al HS.out.x7) 1).trans rfl, (box_cell (box_al HS.out.x7) 2).trans rfl⟩) (fun hHeld => ?_)
      clear hK K
      try simp only [Act.put, List.setIfInBounds_toArray, List.set_cons_zero, List.set_cons_succ, List.getElem_toArray, List.getElem_cons_zero, List.getElem_cons_succ]
      have HGB := Lib.hid HS.out.cur.lt
      have HB := Lib.hid (show (W3.drew.alloc (.cells #[.slice none 0 0, .int .i64 0] 29)).heap[W3.heap.size]? = some (.cells #[.slice none 0 0, .int .i64 0] 29) from heap_alloc_new W3.drew (.cells #[.slice none 0 0, .int .i64 0] 29))
      refine wpAnyH_ready (rs := [4]) (by kernel_rfl) (by simp) ?_
      refine AllReadyH.cons rfl (fun K hK => ?_) AllReadyH.nil
      go_simp
      ((go_at_call 73; refine (l1Below_c 6 g _ HS.out.cur.to).mono ?_; rintro e w4 ⟨⟨x, rfl, hx⟩, hd⟩; have HS := Lib.hid (HS.out.dr ⟨hd.1, Gro.trans inferInstance hd.2⟩); have hx := hx (by omega); have u1 : IntKind.i64.wrap (1 + (x : Int)) = 1 + (x : Int) := IntWalk.i64_in _ (by omega)); have HB := Lib.hid (box_gro HB.out (Nat.ne_of_gt HGB.out) hd.2))
      refine hK.out _ _ (by (try dsimp only); exact ⟨(box_cell HS.out.x7 0).trans rfl, (box_cell HS.out.x7 1).trans rfl, (box_cell HS.out.x7 2).trans rfl⟩) (fun hHeld => ?_)
      clear hK K
      try simp only [Act.put, List.setIfInBounds_toArray, List.set_cons_zero, List.set_cons_succ, List.getElem_toArray, List.getElem_cons_zero, List.getElem_cons_succ]
      first
        | (refine wpAnyH_take (i := 5) (v := undef) rfl (by kernel_rfl) (by kernel_rfl) (by kernel_rfl) (fun _ _ _ h => h) (Or.inr ⟨by rfl, rfl⟩) (by assumption) ?_)
        | (refine wpAnyH_take (i := 5) (v := ?_) rfl (by kernel_rfl) (by kernel_rfl) (by kernel_rfl) (fun _ _ _ h => h) (Or.inl ⟨by rfl, ?_⟩) (by assumption) ?_; rotate_left; (intro wH hSw; (try dsimp only at hSw); go_simp; try with_reducible rfl))
      try simp only [Act.put, List.setIfInBounds_toArray, List.set_cons_zero, List.set_cons_succ, List.getElem_toArray, List.getElem_cons_zero, List.getElem_cons_succ]
      refine wpAnyH_ready (rs := [6]) (by kernel_rfl) (by simp) ?_
      refine AllReadyH.cons rfl (fun K hK => ?_) AllReadyH.nil
      go_simp
      ((go_at_call 72; refine (ledg_c A c f x g _ HS.out.cur.to HS.out.read.to (fun k hk => Nat.ne_of_gt hk) hfl hx).mono ?_; rintro e w5 ⟨⟨A1, n1, cap1, h1, xs, rfl, hn6, hens⟩, hd⟩; have HS := Lib.hid (HS.out.dr ⟨hd.1, Gro.trans inferInstance hd.2⟩); have HE := Lib.hid hens); have HB := Lib.hid (box_gro HB.out (Nat.ne_of_gt HGB.out) hd.2))
      refine hK.out _ _ (by (try dsimp only); exact ⟨(box_cell HS.out.x7 0).trans rfl, (box_cell HS.out.x7 1).trans rfl, (box_cell HS.out.x7 2).trans rfl⟩) (fun hHeld => ?_)
      clear hK K
      try simp only [Act.put, List.setIfInBounds_toArray, List.set_cons_zero, List.set_cons_succ, List.getElem_toArray, List.getElem_cons_zero, List.getElem_cons_succ]
      refine wpAnyH_ready (rs := [7]) (by kernel_rfl) (by simp) ?_
      refine AllReadyH.cons rfl (fun K hK => ?_) AllReadyH.nil
      go_simp
      ((go_at_call 71; refine (l5SpoilLedger_c _ _ _ _ xs g _ HS.out.cur.to (HE.out.dr HS.out.cur.lt inferInstance)).mono ?_; rintro e w6 ⟨⟨h2, xs2, rfl, hens2⟩, hcw, hlm⟩; have HS := Lib.hid (HS.out.lm hcw ((LM.lk (LK.gro (g := g) inferInstance HS.out.cur.lt)).trans hlm)); have HE := Lib.hid hens2); have HB := Lib.hid (box_lm HB.out hlm (Nat.ne_of_gt HGB.out) (by decide) (by decide)))
      refine hK.out _ _ (by (try dsimp only); exact ⟨(box_cell HS.out.x7 0).trans rfl, (box_cell HS.out.x7 1).trans rfl, (box_cell HS.out.x7 2).trans rfl⟩) (fun hHeld => ?_)
      clear hK K
      try simp only [Act.put, List.setIfInBounds_toArray, List.set_cons_zero, List.set_cons_succ, List.getElem_toArray, List.getElem_cons_zero, List.getElem_cons_succ]
      have k0 := (box_cell HB.out 0).trans rfl
      have k1 := (box_cell HB.out 1).trans rfl
      have m0 := box_free HB.out 0
      have m1 := box_free HB.out 1
      have HF := Lib.hid (HS.out.fin HB.out HGB.out HE.out h2)
      refine wpAnyH_ready (rs := [9]) (by kernel_rfl) (by simp) ?_
      refine AllReadyH.cons rfl (fun K hK => ?_) AllReadyH.nil
      go_simp
      skip
      refine hK.out _ _ (by (try dsimp only); exact ⟨(box_cell HF.out.1.x7 0).trans rfl, (box_cell HF.out.1.x7 1).trans rfl, (box_cell HF.out.1.x7 2).trans rfl⟩) (fun hHeld => ?_)
      clear hK K
      try simp only [Act.put, List.setIfInBounds_toArray, List.set_cons_zero, List.set_cons_succ, List.getElem_toArray, List.getElem_cons_zero, List.getElem_cons_succ]
      refine wpAnyH_done (by kernel_rfl) ?_ _
      go_wp2
      go_meet
      exact ⟨_, _, _, _, _, _, rfl, HF.out.1, HF.out.2.1, HGB.out, HF.out.2.2, hn6⟩
  case rest =>
    obtain ⟨b8, A1, n1, cap1, h1, xs, rfl, hst, hbx, hgb, hens, hn6⟩ := hcut
    obtain ⟨W4, hW4⟩ : ∃ W4 : World, W4 = wc := ⟨_, rfl⟩
    rw [← hW4] at hst hbx hens ⊢
    have HS := Lib.hid hst
    have HB := Lib.hid hbx
    have HE := Lib.hid hens
    have hnl : xs.length = n1 ∧ n1 ≤ cap1 := by have := hens.len; omega
    have HNL := Lib.hid hnl
    have H4 := Lib.hid hst.cur.lt
    clear hW4 hst hbx hens c0 c1 c2 hnl
    go_upto_region 4 with (fail)
    have c0 := (box_cell HS.out.x7 0).trans rfl
    have c1 := (box_cell HS.out.x7 1).trans rfl
    have c2 := (box_cell HS.out.x7 2).trans rfl
    have e0 := (box_cell HB.out 0).trans rfl
    have e1 := (box_cell HB.out 1).trans rfl
    refine wp_region_held_drew (S := fun wq => wq.cell? ⟨b7, 0, none⟩ = some (.slice A f.chart.length c) ∧ wq.cell? ⟨b7, 1, none⟩ = some (.int .i64 f.dims) ∧ wq.cell? ⟨b7, 2, none⟩ = some (.int .i64 f.curs) ∧ wq.cell? ⟨b8, 0, none⟩ = some (.slice A1 n1 cap1) ∧ wq.cell? ⟨b8, 1, none⟩ = some (.int .i64 h1)) (by kernel_rfl) ⟨c0, c1, c2, e0, e1⟩ (fun hHeld => ?_)
    first
      | (refine wpAnyH_take (i := 0) (v := undef) rfl (by kernel_rfl) (by kernel_rfl) (by kernel_rfl) (fun _ _ _ h => h) (Or.inr ⟨by rfl, rfl⟩) (by assumption) ?_)
      | (refine wpAnyH_take (i := 0) (v := ?_) rfl (by kernel_rfl) (by kernel_rfl) (by kernel_rfl) (fun _ _ _ h => h) (Or.inl ⟨by rfl, ?_⟩) (by assumption) ?_; rotate_left; (intro wH hSw; (try dsimp only at hSw); go_simp; try with_reducible rfl))
    try simp only [Act.put, List.setIfInBounds_toArray, List.set_cons_zero, List.set_cons_succ, List.getElem_toArray, List.getElem_cons_zero, List.getElem_cons_succ]
    first
      | (refine wpAnyH_take (i := 1) (v := undef) rfl (by kernel_rfl) (by kernel_rfl) (by kernel_rfl) (fun _ _ _ h => h) (Or.inr ⟨by rfl, rfl⟩) (by assumption) ?_)
      | (refine wpAnyH_take (i := 1) (v := ?_) rfl (by kernel_rfl) (by kernel_rfl) (by kernel_rfl) (fun _ _ _ h => h) (Or.inl ⟨by rfl, ?_⟩) (by assumption) ?_; rotate_left; (intro wH hSw; (try dsimp only at hSw); go_simp; try with_reducible rfl))
    try simp only [Act.put, List.setIfInBounds_toArray, List.set_cons_zero, List.set_cons_succ, List.getElem_toArray, List.getElem_cons_zero, List.getElem_cons_succ]
    first
      | (refine wpAnyH_take (i := 2) (v := undef) rfl (by kernel_rfl) (by kernel_rfl) (by kernel_rfl) (fun _ _ _ h => h) (Or.inr ⟨by rfl, rfl⟩) (by assumption) ?_)
      | (refine wpAnyH_take (i := 2) (v := ?_) rfl (by kernel_rfl) (by kernel_rfl) (by kernel_rfl) (fun _ _ _ h => h) (Or.inl ⟨by rfl, ?_⟩) (by assumption) ?_; rotate_left; (intro wH hSw; (try dsimp only at hSw); go_simp; try with_reducible rfl))
    try simp only [Act.put, List.setIfInBounds_toArray, List.set_cons_zero, List.set_cons_succ, List.getElem_toArray, List.getElem_cons_zero, List.getElem_cons_succ]
    first
      | (refine wpAnyH_take (i := 3) (v := undef) rfl (by kernel_rfl) (by kernel_rfl) (by kernel_rfl) (fun _ _ _ h => h) (Or.inr ⟨by rfl, rfl⟩) (by assumption) ?_)
      | (refine wpAnyH_take (i := 3) (v := ?_) rfl (by kernel_rfl) (by kernel_rfl) (by kernel_rfl) (fun _ _ _ h => h) (Or.inl ⟨by rfl, ?_⟩) (by assumption) ?_; rotate_left; (intro wH hSw; (try dsimp only at hSw); go_simp; try with_reducible rfl))
    try simp only [Act.put, List.setIfInBounds_toArray, List.set_cons_zero, List.set_cons_succ, List.getElem_toArray, List.getElem_cons_zero, List.getElem_cons_succ]
    first
      | (refine wpAnyH_take (i := 4) (v := undef) rfl (by kernel_rfl) (by kernel_rfl) (by kernel_rfl) (fun _ _ _ h => h) (Or.inr ⟨by rfl, rfl⟩) (by assumption) ?_)
      | (refine wpAnyH_take (i := 4) (v := ?_) rfl (by kernel_rfl) (by kernel_rfl) (by kernel_rfl) (fun _ _ _ h => h) (Or.inl ⟨by rfl, ?_⟩) (by assumption) ?_; rotate_left; (intro wH hSw; (try dsimp only at hSw); go_simp; try with_reducible rfl))
    try simp only [Act.put, List.setIfInBounds_toArray, List.set_cons_zero, List.set_cons_succ, List.getElem_toArray, List.getElem_cons_zero, List.getElem_cons_succ]
    first
      | (refine wpAnyH_take (i := 5) (v := undef) rfl (by kernel_rfl) (by kernel_rfl) (by kernel_rfl) (fun _ _ _ h => h) (Or.inr ⟨by rfl, rfl⟩) (by assumption) ?_)
      | (refine wpAnyH_take (i := 5) (v := ?_) rfl (by kernel_rfl) (by kernel_rfl) (by kernel_rfl) (fun _ _ _ h => h) (Or.inl ⟨by rfl, ?_⟩) (by assumption) ?_; rotate_left; (intro wH hSw; (try dsimp only at hSw); go_simp; try with_reducible rfl))
    try simp only [Act.put, List.setIfInBounds_toArray, List.set_cons_zero, List.set_cons_succ, List.getElem_toArray, List.getElem_cons_zero, List.getElem_cons_succ]
    first
      | (refine wpAnyH_take (i := 6) (v := undef) rfl (by kernel_rfl) (by kernel_rfl) (by kernel_rfl) (fun _ _ _ h => h) (Or.inr ⟨by rfl, rfl⟩) (by assumption) ?_)
      | (refine wpAnyH_take (i := 6) (v := ?_) rfl (by kernel_rfl) (by kernel_rfl) (by kernel_rfl) (fun _ _ _ h => h) (Or.inl ⟨by rfl, ?_⟩) (by assumption) ?_; rotate_left; (intro wH hSw; (try dsimp only at hSw); go_simp; try with_reducible rfl))
    try simp only [Act.put, List.setIfInBounds_toArray, List.set_cons_zero, List.set_cons_succ, List.getElem_toArray, List.getElem_cons_zero, List.getElem_cons_succ]
    first
      | (refine wpAnyH_take (i := 8) (v := undef) rfl (by kernel_rfl) (by kernel_rfl) (by kernel_rfl) (fun _ _ _ h => h) (Or.inr ⟨by rfl, rfl⟩) (by assumption) ?_)
      | (refine wpAnyH_take (i := 8) (v := ?_) rfl (by kernel_rfl) (by kernel_rfl) (by kernel_rfl) (fun _ _ _ h => h) (Or.inl ⟨by rfl, ?_⟩) (by assumption) ?_; rotate_left; (intro wH hSw; (try dsimp only at hSw); go_simp; try with_reducible rfl))
    try simp only [Act.put, List.setIfInBounds_toArray, List.set_cons_zero, List.set_cons_succ, List.getElem_toArray, List.getElem_cons_zero, List.getElem_cons_succ]
    first
      | (refine wpAnyH_take (i := 9) (v := undef) rfl (by kernel_rfl) (by kernel_rfl) (by kernel_rfl) (fun _ _ _ h => h) (Or.inr ⟨by rfl, rfl⟩) (by assumption) ?_)
      | (refine wpAnyH_take (i := 9) (v := ?_) rfl (by kernel_rfl) (by kernel_rfl) (by kernel_rfl) (fun _ _ _ h => h) (Or.inl ⟨by rfl, ?_⟩) (by assumption) ?_; rotate_left; (intro wH hSw; (try dsimp only at hSw); go_simp; try with_reducible rfl))
    try simp only [Act.put, List.setIfInBounds_toArray, List.set_cons_zero, List.set_cons_succ, List.getElem_toArray, List.getElem_cons_zero, List.getElem_cons_succ]
    first
      | (refine wpAnyH_take (i := 10) (v := undef) rfl (by kernel_rfl) (by kernel_rfl) (by kernel_rfl) (fun _ _ _ h => h) (Or.inr ⟨by rfl, rfl⟩) (by assumption) ?_)
      | (refine wpAnyH_take (i := 10) (v := ?_) rfl (by kernel_rfl) (by kernel_rfl) (by kernel_rfl) (fun _ _ _ h => h) (Or.inl ⟨by rfl, ?_⟩) (by assumption) ?_; rotate_left; (intro wH hSw; (try dsimp only at hSw); go_simp; try with_reducible rfl))
    try simp only [Act.put, List.setIfInBounds_toArray, List.set_cons_zero, List.set_cons_succ, List.getElem_toArray, List.getElem_cons_zero, List.getElem_cons_succ]
    first
      | (refine wpAnyH_take (i := 13) (v := undef) rfl (by kernel_rfl) (by kernel_rfl) (by kernel_rfl) (fun _ _ _ h => h) (Or.inr ⟨by rfl, rfl⟩) (by assumption) ?_)
      | (refine wpAnyH_take (i := 13) (v := ?_) rfl (by kernel_rfl) (by kernel_rfl) (by kernel_rfl) (fun _ _ _ h => h) (Or.inl ⟨by rfl, ?_⟩) (by assumption) ?_; rotate_left; (intro wH hSw; (try dsimp only at hSw); go_simp; try with_reducible rfl))
    try simp only [Act.put, List.setIfInBounds_toArray, List.set_cons_zero, List.set_cons_succ, List.getElem_toArray, List.getElem_cons_zero, List.getElem_cons_succ]
    first
      | (refine wpAnyH_take (i := 14) (v := undef) rfl (by kernel_rfl) (by kernel_rfl) (by kernel_rfl) (fun _ _ _ h => h) (Or.inr ⟨by rfl, rfl⟩) (by assumption) ?_)
      | (refine wpAnyH_take (i := 14) (v := ?_) rfl (by kernel_rfl) (by kernel_rfl) (by kernel_rfl) (fun _ _ _ h => h) (Or.inl ⟨by rfl, ?_⟩) (by assumption) ?_; rotate_left; (intro wH hSw; (try dsimp only at hSw); go_simp; try with_reducible rfl))
    try simp only [Act.put, List.setIfInBounds_toArray, List.set_cons_zero, List.set_cons_succ, List.getElem_toArray, List.getElem_cons_zero, List.getElem_cons_succ]
    refine wpAnyH_ready (rs := [7, 11]) (by kernel_rfl) (by simp) ?_
    refine AllReadyH.cons rfl (fun K hK => ?_) (AllReadyH.cons rfl (fun K hK => ?_) AllReadyH.nil)
    · go_simp
      (go_at_call 73; refine (l1Below_c _ g _ HS.out.cur.to).mono ?_; rintro e w5 ⟨⟨x, rfl, -⟩, hd⟩; have hdd : Dr g W4 w5 := ⟨hd.1, Gro.trans inferInstance hd.2⟩; have HB := Lib.hid (box_gro HB.out (by omega) hdd.2); have HE := Lib.hid (HE.out.dr HS.out.cur.lt hdd.2); have HS := Lib.hid (HS.out.dr hdd))
      refine hK.out _ _ (by (try dsimp only); exact ⟨(box_cell HS.out.x7 0).trans rfl, (box_cell HS.out.x7 1).trans rfl, (box_cell HS.out.x7 2).trans rfl, (box_cell HB.out 0).trans rfl, (box_cell HB.out 1).trans rfl⟩) (fun hHeld => ?_)
      clear hK K
      try simp only [Act.put, List.setIfInBounds_toArray, List.set_cons_zero, List.set_cons_succ, List.getElem_toArray, List.getElem_cons_zero, List.getElem_cons_succ]
      refine wpAnyH_ready (rs := [11]) (by kernel_rfl) (by simp) ?_
      refine AllReadyH.cons rfl (fun K hK => ?_) AllReadyH.nil
      go_simp
      skip
      refine hK.out _ _ (by (try dsimp only); exact ⟨(box_cell (box_al HS.out.x7) 0).trans rfl, (box_cell (box_al HS.out.x7) 1).trans rfl, (box_cell (box_al HS.out.x7) 2).trans rfl, (box_cell (box_al HB.out) 0).trans rfl, (box_cell (box_al HB.out) 1).trans rfl⟩) (fun hHeld => ?_)
      clear hK K
      try simp only [Act.put, List.setIfInBounds_toArray, List.set_cons_zero, List.set_cons_succ, List.getElem_toArray, List.getElem_cons_zero, List.getElem_cons_succ]
      refine wpAnyH_ready (rs := [12]) (by kernel_rfl) (by simp) ?_
      refine AllReadyH.cons rfl (fun K hK => ?_) AllReadyH.nil
      go_simp
      (go_at_call 74; refine (l1Spoil_c _ _ [-1, (n1 : Int)] _ g _ HS.out.cur.to (show Sl cInt (w5.alloc (.cells #[.int .i64 (-1), .int .i64 n1] 3)) (fun k => w5.heap.size ≤ k) (some ⟨w5.heap.size, 0, none⟩) [-1, (n1 : Int)] from lit_int _ _ [-1, (n1 : Int)] (by simp)).to (fun k hk => Nat.ne_of_gt (Nat.lt_of_lt_of_le HS.out.cur.lt hk)) (by simp)).mono ?_; rintro e w6 ⟨⟨y, rfl⟩, hd⟩; have hdd : Dr g w5 w6 := ⟨hd.1, Gro.trans inferInstance hd.2⟩; have HB := Lib.hid (box_gro HB.out (by omega) hdd.2); have HE := Lib.hid (HE.out.dr HS.out.cur.lt hdd.2); have HS := Lib.hid (HS.out.dr hdd))
      refine hK.out _ _ (by (try dsimp only); exact ⟨(box_cell HS.out.x7 0).trans rfl, (box_cell HS.out.x7 1).trans rfl, (box_cell HS.out.x7 2).trans rfl, (box_cell HB.out 0).trans rfl, (box_cell HB.out 1).trans rfl⟩) (fun hHeld => ?_)
      clear hK K
      try simp only [Act.put, List.setIfInBounds_toArray, List.set_cons_zero, List.set_cons_succ, List.getElem_toArray, List.getElem_cons_zero, List.getElem_cons_succ]
      refine wpAnyH_ready (rs := [15]) (by kernel_rfl) (by simp) ?_
      refine AllReadyH.cons rfl (fun K hK => ?_) AllReadyH.nil
      go_simp
      (go_at_call 73; refine (l1Below_c 900 g _ HS.out.cur.to).mono ?_; rintro e w7 ⟨⟨z, rfl, -⟩, hd⟩; have hdd : Dr g w6 w7 := ⟨hd.1, Gro.trans inferInstance hd.2⟩; have HB := Lib.hid (box_gro HB.out (by omega) hdd.2); have HE := Lib.hid (HE.out.dr HS.out.cur.lt hdd.2); have HS := Lib.hid (HS.out.dr hdd))
      refine hK.out _ _ (by (try dsimp only); exact ⟨(box_cell HS.out.x7 0).trans rfl, (box_cell HS.out.x7 1).trans rfl, (box_cell HS.out.x7 2).trans rfl, (box_cell HB.out 0).trans rfl, (box_cell HB.out 1).trans rfl⟩) (fun hHeld => ?_)
      clear hK K
      try simp only [Act.put, List.setIfInBounds_toArray, List.set_cons_zero, List.set_cons_succ, List.getElem_toArray, List.getElem_cons_zero, List.getElem_cons_succ]
      refine wpAnyH_ready (rs := [16]) (by kernel_rfl) (by simp) ?_
      refine AllReadyH.cons rfl (fun K hK => ?_) AllReadyH.nil
      go_simp
      (go_at_call 75; refine (l2BadDay_c _ g _ HS.out.cur.to).mono ?_; rintro e w8 ⟨⟨dy, rfl⟩, hd⟩; have hdd : Dr g w7 w8 := ⟨hd.1, Gro.trans inferInstance hd.2⟩; have HB := Lib.hid (box_gro HB.out (by omega) hdd.2); have HE := Lib.hid (HE.out.dr HS.out.cur.lt hdd.2); have HS := Lib.hid (HS.out.dr hdd))
      refine hK.out _ _ (by (try dsimp only); exact ⟨(box_cell HS.out.x7 0).trans rfl, (box_cell HS.out.x7 1).trans rfl, (box_cell HS.out.x7 2).trans rfl, (box_cell HB.out 0).trans rfl, (box_cell HB.out 1).trans rfl⟩) (fun hHeld => ?_)
      clear hK K
      try simp only [Act.put, List.setIfInBounds_toArray, List.set_cons_zero, List.set_cons_succ, List.getElem_toArray, List.getElem_cons_zero, List.getElem_cons_succ]
      have r0 := (box_cell HS.out.x2 0).trans rfl
      have r1 := (box_cell HS.out.x2 1).trans rfl
      have r2 := (box_cell HS.out.x2 2).trans rfl
      have p0 := box_free HS.out.x2 0
      have p1 := box_free HS.out.x2 1
      have p2 := box_free HS.out.x2 2
      have hmid := HS.out.mid HB.out hgb (.slice A f.chart.length c) (.int .i64 f.dims) (.int .i64 f.curs)
      have HM := Lib.hid hmid
      clear hmid
      refine wpAnyH_ready (rs := [17]) (by kernel_rfl) (by simp) ?_
      refine AllReadyH.cons rfl (fun K hK => ?_) AllReadyH.nil
      go_simp
      skip
      refine hK.out _ _ (by (try dsimp only); exact ⟨(box_cell HM.out.1 0).trans rfl, (box_cell HM.out.1 1).trans rfl, (box_cell HM.out.1 2).trans rfl, (box_cell HM.out.2.1 0).trans rfl, (box_cell HM.out.2.1 1).trans rfl⟩) (fun hHeld => ?_)
      clear hK K
      try simp only [Act.put, List.setIfInBounds_toArray, List.set_cons_zero, List.set_cons_succ, List.getElem_toArray, List.getElem_cons_zero, List.getElem_cons_succ]
      have r3 := (box_cell HM.out.2.2.1 0).trans rfl
      have r4 := (box_cell HM.out.2.2.1 1).trans rfl
      have p3 := box_free HM.out.2.2.1 0
      have p4 := box_free HM.out.2.2.1 1
      have hfin := HS.out.out HB.out hgb HE.out (.slice A f.chart.length c) (.int .i64 f.dims) (.int .i64 f.curs) (.slice A1 n1 cap1) (.int .i64 h1) rfl
      have HF := Lib.hid hfin
      clear hfin
      refine wpAnyH_ready (rs := [18]) (by kernel_rfl) (by simp) ?_
      refine AllReadyH.cons rfl (fun K hK => ?_) AllReadyH.nil
      go_simp
      skip
      refine hK.out _ _ (by (try dsimp only); exact ⟨(box_cell HF.out.1 0).trans rfl, (box_cell HF.out.1 1).trans rfl, (box_cell HF.out.1 2).trans rfl, (box_cell HF.out.2.1 0).trans rfl, (box_cell HF.out.2.1 1).trans rfl⟩) (fun hHeld => ?_)
      clear hK K
      try simp only [Act.put, List.setIfInBounds_toArray, List.set_cons_zero, List.set_cons_succ, List.getElem_toArray, List.getElem_cons_zero, List.getElem_cons_succ]
      first
        | (refine wpAnyH_take (i := 19) (v := undef) rfl (by kernel_rfl) (by kernel_rfl) (by kernel_rfl) (fun _ _ _ h => h) (Or.inr ⟨by rfl, rfl⟩) (by assumption) ?_)
        | (refine wpAnyH_take (i := 19) (v := ?_) rfl (by kernel_rfl) (by kernel_rfl) (by kernel_rfl) (fun _ _ _ h => h) (Or.inl ⟨by rfl, ?_⟩) (by assumption) ?_; rotate_left; (intro wH hSw; (try dsimp only at hSw); go_simp; try with_reducible rfl))
      try simp only [Act.put, List.setIfInBounds_toArray, List.set_cons_zero, List.set_cons_succ, List.getElem_toArray, List.getElem_cons_zero, List.getElem_cons_succ]
      first
        | (refine wpAnyH_take (i := 20) (v := undef) rfl (by kernel_rfl) (by kernel_rfl) (by kernel_rfl) (fun _ _ _ h => h) (Or.inr ⟨by rfl, rfl⟩) (by assumption) ?_)
        | (refine wpAnyH_take (i := 20) (v := ?_) rfl (by kernel_rfl) (by kernel_rfl) (by kernel_rfl) (fun _ _ _ h => h) (Or.inl ⟨by rfl, ?_⟩) (by assumption) ?_; rotate_left; (intro wH hSw; (try dsimp only at hSw); go_simp; try with_reducible rfl))
      try simp only [Act.put, List.setIfInBounds_toArray, List.set_cons_zero, List.set_cons_succ, List.getElem_toArray, List.getElem_cons_zero, List.getElem_cons_succ]
      refine wpAnyH_done (by kernel_rfl) ?_ _
      go_wp2
      refine bodyPost_ret (results_2rows rfl _ _ w.heap.size (w.heap.size + 1) 26 29 _ _ (0, 0) (0, 0) _ _ _ _ rfl rfl rfl rfl HF.out.2.2.1 HF.out.2.2.2.1 Try.underlying26 rfl (by kernel_rfl) Try.underlying29 rfl (by kernel_rfl)) rfl ?_
      obtain ⟨-, -, -, -, hbel, hrow, hens⟩ := HF.out
      obtain ⟨es, hes, hsl⟩ := hens.read
      have hnn := HNL.out
      have hgg := HS.out.hg
      refine ⟨⟨A, c, f, A1, cap1, ⟨es, h1⟩, y, dy, ?_, hrow.sl (fun k hk => by omega) (fun _ _ hx => flatAc hx), hsl.mono (fun k hk => by omega), by show es.length ≤ 6; omega, by show es.length ≤ cap1; omega⟩, hbel⟩
      have hee : es.length = n1 := by omega
      show _ = Ending.returned (.tuple #[_, .agg #[.slice A1 es.length cap1, .int .i64 h1], .int .i64 y, .int .i64 dy])
      rw [hee]
      rfl
    · go_simp
      refine hK.out _ _ (by (try dsimp only); exact ⟨(box_cell (box_al HS.out.x7) 0).trans rfl, (box_cell (box_al HS.out.x7) 1).trans rfl, (box_cell (box_al HS.out.x7) 2).trans rfl, (box_cell (box_al HB.out) 0).trans rfl, (box_cell (box_al HB.out) 1).trans rfl⟩) (fun hHeld => ?_)
      clear hK K
      try simp only [Act.put, List.setIfInBounds_toArray, List.set_cons_zero, List.set_cons_succ, List.getElem_toArray, List.getElem_cons_zero, List.getElem_cons_succ]
      refine wpAnyH_ready (rs := [7]) (by kernel_rfl) (by simp) ?_
      refine AllReadyH.cons rfl (fun K hK => ?_) AllReadyH.nil
      go_simp
      (go_at_call 73; refine (l1Below_c _ g _ HS.out.cur.to).mono ?_; rintro e w5 ⟨⟨x, rfl, -⟩, hd⟩; have hdd : Dr g W4 w5 := ⟨hd.1, Gro.trans inferInstance hd.2⟩; have HB := Lib.hid (box_gro HB.out (by omega) hdd.2); have HE := Lib.hid (HE.out.dr HS.out.cur.lt hdd.2); have HS := Lib.hid (HS.out.dr hdd))
      refine hK.out _ _ (by (try dsimp only); exact ⟨(box_cell HS.out.x7 0).trans rfl, (box_cell HS.out.x7 1).trans rfl, (box_cell HS.out.x7 2).trans rfl, (box_cell HB.out 0).trans rfl, (box_cell HB.out 1).trans rfl⟩) (fun hHeld => ?_)
      clear hK K
      try simp only [Act.put, List.setIfInBounds_toArray, List.set_cons_zero, List.set_cons_succ, List.getElem_toArray, List.getElem_cons_zero, List.getElem_cons_succ]
      have HSI := Lib.hid (((show Sl cInt (W4.alloc (.cells #[.int .i64 (-1), .int .i64 n1] 3)) (fun k => W4.heap.size ≤ k) (some ⟨W4.heap.size, 0, none⟩) [-1, (n1 : Int)] from lit_int _ _ [-1, (n1 : Int)] (by simp)).to (w1 := (W4.alloc (.cells #[.int .i64 (-1), .int .i64 n1] 3)).drew)).gro hd.2 (fun k hk => Nat.ne_of_gt (Nat.lt_of_lt_of_le H4.out hk)))
      refine wpAnyH_ready (rs := [12]) (by kernel_rfl) (by simp) ?_
      refine AllReadyH.cons rfl (fun K hK => ?_) AllReadyH.nil
      go_simp
      (go_at_call 74; refine (l1Spoil_c _ _ [-1, (n1 : Int)] _ g _ HS.out.cur.to HSI.out.to (fun k hk => Nat.ne_of_gt (Nat.lt_of_lt_of_le H4.out hk)) (by simp)).mono ?_; rintro e w6 ⟨⟨y, rfl⟩, hd⟩; have hdd : Dr g w5 w6 := ⟨hd.1, Gro.trans inferInstance hd.2⟩; have HB := Lib.hid (box_gro HB.out (by omega) hdd.2); have HE := Lib.hid (HE.out.dr HS.out.cur.lt hdd.2); have HS := Lib.hid (HS.out.dr hdd))
      refine hK.out _ _ (by (try dsimp only); exact ⟨(box_cell HS.out.x7 0).trans rfl, (box_cell HS.out.x7 1).trans rfl, (box_cell HS.out.x7 2).trans rfl, (box_cell HB.out 0).trans rfl, (box_cell HB.out 1).trans rfl⟩) (fun hHeld => ?_)
      clear hK K
      try simp only [Act.put, List.setIfInBounds_toArray, List.set_cons_zero, List.set_cons_succ, List.getElem_toArray, List.getElem_cons_zero, List.getElem_cons_succ]
      refine wpAnyH_ready (rs := [15]) (by kernel_rfl) (by simp) ?_
      refine AllReadyH.cons rfl (fun K hK => ?_) AllReadyH.nil
      go_simp
      (go_at_call 73; refine (l1Below_c 900 g _ HS.out.cur.to).mono ?_; rintro e w7 ⟨⟨z, rfl, -⟩, hd⟩; have hdd : Dr g w6 w7 := ⟨hd.1, Gro.trans inferInstance hd.2⟩; have HB := Lib.hid (box_gro HB.out (by omega) hdd.2); have HE := Lib.hid (HE.out.dr HS.out.cur.lt hdd.2); have HS := Lib.hid (HS.out.dr hdd))
      refine hK.out _ _ (by (try dsimp only); exact ⟨(box_cell HS.out.x7 0).trans rfl, (box_cell HS.out.x7 1).trans rfl, (box_cell HS.out.x7 2).trans rfl, (box_cell HB.out 0).trans rfl, (box_cell HB.out 1).trans rfl⟩) (fun hHeld => ?_)
      clear hK K
      try simp only [Act.put, List.setIfInBounds_toArray, List.set_cons_zero, List.set_cons_succ, List.getElem_toArray, List.getElem_cons_zero, List.getElem_cons_succ]
      refine wpAnyH_ready (rs := [16]) (by kernel_rfl) (by simp) ?_
      refine AllReadyH.cons rfl (fun K hK => ?_) AllReadyH.nil
      go_simp
      (go_at_call 75; refine (l2BadDay_c _ g _ HS.out.cur.to).mono ?_; rintro e w8 ⟨⟨dy, rfl⟩, hd⟩; have hdd : Dr g w7 w8 := ⟨hd.1, Gro.trans inferInstance hd.2⟩; have HB := Lib.hid (box_gro HB.out (by omega) hdd.2); have HE := Lib.hid (HE.out.dr HS.out.cur.lt hdd.2); have HS := Lib.hid (HS.out.dr hdd))
      refine hK.out _ _ (by (try dsimp only); exact ⟨(box_cell HS.out.x7 0).trans rfl, (box_cell HS.out.x7 1).trans rfl, (box_cell HS.out.x7 2).trans rfl, (box_cell HB.out 0).trans rfl, (box_cell HB.out 1).trans rfl⟩) (fun hHeld => ?_)
      clear hK K
      try simp only [Act.put, List.setIfInBounds_toArray, List.set_cons_zero, List.set_cons_succ, List.getElem_toArray, List.getElem_cons_zero, List.getElem_cons_succ]
      have r0 := (box_cell HS.out.x2 0).trans rfl
      have r1 := (box_cell HS.out.x2 1).trans rfl
      have r2 := (box_cell HS.out.x2 2).trans rfl
      have p0 := box_free HS.out.x2 0
      have p1 := box_free HS.out.x2 1
      have p2 := box_free HS.out.x2 2
      have hmid := HS.out.mid HB.out hgb (.slice A f.chart.length c) (.int .i64 f.dims) (.int .i64 f.curs)
      have HM := Lib.hid hmid
      clear hmid
      refine wpAnyH_ready (rs := [17]) (by kernel_rfl) (by simp) ?_
      refine AllReadyH.cons rfl (fun K hK => ?_) AllReadyH.nil
      go_simp
      skip
      refine hK.out _ _ (by (try dsimp only); exact ⟨(box_cell HM.out.1 0).trans rfl, (box_cell HM.out.1 1).trans rfl, (box_cell HM.out.1 2).trans rfl, (box_cell HM.out.2.1 0).trans rfl, (box_cell HM.out.2.1 1).trans rfl⟩) (fun hHeld => ?_)
      clear hK K
      try simp only [Act.put, List.setIfInBounds_toArray, List.set_cons_zero, List.set_cons_succ, List.getElem_toArray, List.getElem_cons_zero, List.getElem_cons_succ]
      have r3 := (box_cell HM.out.2.2.1 0).trans rfl
      have r4 := (box_cell HM.out.2.2.1 1).trans rfl
      have p3 := box_free HM.out.2.2.1 0
      have p4 := box_free HM.out.2.2.1 1
      have hfin := HS.out.out HB.out hgb HE.out (.slice A f.chart.length c) (.int .i64 f.dims) (.int .i64 f.curs) (.slice A1 n1 cap1) (.int .i64 h1) rfl
      have HF := Lib.hid hfin
      clear hfin
      refine wpAnyH_ready (rs := [18]) (by kernel_rfl) (by simp) ?_
      refine AllReadyH.cons rfl (fun K hK => ?_) AllReadyH.nil
      go_simp
      skip
      refine hK.out _ _ (by (try dsimp only); exact ⟨(box_cell HF.out.1 0).trans rfl, (box_cell HF.out.1 1).trans rfl, (box_cell HF.out.1 2).trans rfl, (box_cell HF.out.2.1 0).trans rfl, (box_cell HF.out.2.1 1).trans rfl⟩) (fun hHeld => ?_)
      clear hK K
      try simp only [Act.put, List.setIfInBounds_toArray, List.set_cons_zero, List.set_cons_succ, List.getElem_toArray, List.getElem_cons_zero, List.getElem_cons_succ]
      first
        | (refine wpAnyH_take (i := 19) (v := undef) rfl (by kernel_rfl) (by kernel_rfl) (by kernel_rfl) (fun _ _ _ h => h) (Or.inr ⟨by rfl, rfl⟩) (by assumption) ?_)
        | (refine wpAnyH_take (i := 19) (v := ?_) rfl (by kernel_rfl) (by kernel_rfl) (by kernel_rfl) (fun _ _ _ h => h) (Or.inl ⟨by rfl, ?_⟩) (by assumption) ?_; rotate_left; (intro wH hSw; (try dsimp only at hSw); go_simp; try with_reducible rfl))
      try simp only [Act.put, List.setIfInBounds_toArray, List.set_cons_zero, List.set_cons_succ, List.getElem_toArray, List.getElem_cons_zero, List.getElem_cons_succ]
      first
        | (refine wpAnyH_take (i := 20) (v := undef) rfl (by kernel_rfl) (by kernel_rfl) (by kernel_rfl) (fun _ _ _ h => h) (Or.inr ⟨by rfl, rfl⟩) (by assumption) ?_)
        | (refine wpAnyH_take (i := 20) (v := ?_) rfl (by kernel_rfl) (by kernel_rfl) (by kernel_rfl) (fun _ _ _ h => h) (Or.inl ⟨by rfl, ?_⟩) (by assumption) ?_; rotate_left; (intro wH hSw; (try dsimp only at hSw); go_simp; try with_reducible rfl))
      try simp only [Act.put, List.setIfInBounds_toArray, List.set_cons_zero, List.set_cons_succ, List.getElem_toArray, List.getElem_cons_zero, List.getElem_cons_succ]
      refine wpAnyH_done (by kernel_rfl) ?_ _
      go_wp2
      refine bodyPost_ret (results_2rows rfl _ _ w.heap.size (w.heap.size + 1) 26 29 _ _ (0, 0) (0, 0) _ _ _ _ rfl rfl rfl rfl HF.out.2.2.1 HF.out.2.2.2.1 Try.underlying26 rfl (by kernel_rfl) Try.underlying29 rfl (by kernel_rfl)) rfl ?_
      obtain ⟨-, -, -, -, hbel, hrow, hens⟩ := HF.out
      obtain ⟨es, hes, hsl⟩ := hens.read
      have hnn := HNL.out
      have hgg := HS.out.hg
      refine ⟨⟨A, c, f, A1, cap1, ⟨es, h1⟩, y, dy, ?_, hrow.sl (fun k hk => by omega) (fun _ _ hx => flatAc hx), hsl.mono (fun k hk => by omega), by show es.length ≤ 6; omega, by show es.length ≤ cap1; omega⟩, hbel⟩
      have hee : es.length = n1 := by omega
      show _ = Ending.returned (.tuple #[_, .agg #[.slice A1 es.length cap1, .int .i64 h1], .int .i64 y, .int .i64 dy])
      rw [hee]
      rfl
end Go.Proofs.Ythgnfpbbhiegfaa
