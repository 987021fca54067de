/- The walk of the program's Post, for what is right. -/
import Derived.Test.YthgnfpbbhiegfaaCopyL
import Derived.Deep.DeepCutAuto
namespace Go.Proofs.Ythgnfpbbhiegfaa
open Go.RowKit
theorem append_op {P : Program} {o : Oper} {a : Act} {w w1 : World} {K : Act → World → Prop} {Q : Exit → Act → World → Prop} (s x : Operand) (t : TypeId) (ho : o.op = .call { callee := .builtin .append, args := #[s, x], argTypes := #[t, t] }) {v v1 y : Value} (hs : a.eval s = v) (hx : a.eval x = y)
    (hrun : (Builtin.append_ #[t, t] o.type #[v, y]).run P w = .ok v1 w1) (h : K (a.put o.dst v1) w1) : Oper.wp P o a w K Q := by
  unfold Oper.wp
  simp [execOp, ho, resolve, invoke, builtin, hs, hx, hrun, Result.andThen]
  exact h
theorem box_up {W : World} {g : Nat} {o o' : Obj} (h : W.heap[g]? = some o) : (W.alloc o').heap[g]? = some o := ((Below.refl _ _ |>.alloc (Nat.le_refl W.heap.size) o').block g (box_lt h)).trans h
theorem box_at {W : World} {n : Nat} (hn : W.heap.size = n) (o : Obj) : (W.alloc o).heap[n]? = some o := by subst hn; exact heap_alloc_new _ _
theorem ledB_t {f : Fr} {l : Le} (h : ledB f l = true) : l.entries.length ≤ 1000 ∧ frameB f = true ∧ l.head = headOf l.entries ∧ ∀ k, k < l.entries.length → entB f (el l.entries k) = true := by
  rw [ledB_def] at h
  simp only [Bool.and_eq_true, decide_eq_true_eq, List.all_eq_true, Bool.not_eq_true', decide_eq_false_iff_not] at h
  exact ⟨by omega, h.1.1.2, h.1.2, fun k hk => h.2 k (List.mem_range.2 hk)⟩
theorem entIn_t {f : Fr} {e : En} (h : entInB f e = true) : dayB e.day = true ∧ inB e.ref 0 1000 = true ∧ textB e.text = true ∧ (2 ≤ e.lines.length ∧ e.lines.length ≤ 60) ∧ (∀ k, k < e.lines.length → lineB f (el e.lines k) = true) ∧ ∀ k, k < e.lines.length → balB e.lines k = true := by
  unfold entInB at h
  simp only [Bool.and_eq_true, List.all_eq_true] at h
  obtain ⟨⟨⟨⟨⟨h1, h2⟩, h3⟩, h4⟩, h5⟩, h6⟩ := h
  have := inB_t h4
  exact ⟨h1, h2, h3, by omega, fun k hk => h5 k (List.mem_range.2 hk), fun k hk => h6 k (List.mem_range.2 hk)⟩
theorem led_60 {f : Fr} {l : Le} (h : ledB f l = true) : ∀ j, j < l.entries.length → (el l.entries j).lines.length ≤ 60 := fun j hj => by
  have := (ledB_t h).2.2.2 j hj
  unfold entB at this
  rw [Bool.and_eq_true] at this
  exact (entIn_t this.2).2.2.2.1.2
theorem results_row_tmp {P : Program} {fn : Func} {p u : Tmp} {ty : TypeId} (h : fn.results = #[.cell p ty, .tmp u]) (tmps : Array Value) (w : World) (g : Nat) (t : TypeId) (cs : Array Value) (fr : Nat × Nat) (d : TypeDesc) (v : Value)
    (hp : tmps.getD p undef = .pointer (some ⟨g, 0, none⟩)) (hv : tmps.getD u undef = v) (hg : w.heap[g]? = some (.cells cs t fr))
    (hu : P.underlying ty = some d) (hd : (match d with | .struct _ | .array _ _ => true | _ => false) = true) (hi : (P.info? ty).map (·.size) = some cs.size) :
    (results fn tmps).run P w = .ok (.tuple #[.agg cs, v]) w := by
  rw [results_cell_tmp h, hp, hv]
  simp [asAddr, run_loadVar_row w g t ty cs fr d hg hu hd hi, Result.andThen]
theorem headOf_in (es : List En) : inCh (headOf es, false) := by
  unfold headOf
  split
  · constructor <;> decide
  · cases h : headTo es es.length with
    | none => constructor <;> decide
    | some y => exact headTo_bd _ _ h
set_option linter.unusedSimpArgs false in
set_option maxRecDepth 100000 in
set_option maxHeartbeats 4000000 in
theorem Post_c {S : Nat → Prop} (A : Option Addr) (c : Nat) (f : Fr) (A0 : Option Addr) (c0 : Nat) (l : Le) (A3 : Option Addr) (c3 : Nat) (e : En) (w : World) (hr : Sl cAc w S A f.chart) (hs : Sl cEn w S A0 l.entries) (he : Sl cLn w S A3 e.lines) (hz : e.text.size ≤ 140737488355328) (hled : ledB f l = true) (hent : entInB f e = true) (hlt : l.entries.length < 1000) :
    Calls Try.prog 14 #[.agg #[.slice A f.chart.length c, .int .i64 f.dims, .int .i64 f.curs], .agg #[.slice A0 l.entries.length c0, .int .i64 l.head], .agg #[.int .i64 e.day, .int .i64 e.ref, .string e.text, .slice A3 e.lines.length c3]] w fun r w' => (∃ A1 c1 h1, r = .returned (.tuple #[.agg #[.slice A1 (l.entries.length + 1) c1, .int .i64 h1], .int .i64 0]) ∧ Sl cEn w' (fun k => w.heap.size ≤ k) A1 (l.entries ++ [e])) ∧ Below w.heap.size w w' := by
  have hl := hs.1
  have hfr := (ledB_t hled).2.1
  have h60 := led_60 hled
  have H60 := Lib.hid h60
  clear h60
  go_enter Try.func14, Try.ntmps14
  go_upto_region 1 with (fail)
  obtain ⟨W0, hW0, hsz, x0, x1, x2, x3, b0⟩ : ∃ W0 : World, W0 = (((w.alloc (.cells #[.slice A f.chart.length c, .int .i64 f.dims, .int .i64 f.curs] 26)).alloc (.cells #[.slice A0 l.entries.length c0, .int .i64 l.head] 29)).alloc (.cells #[.int .i64 e.day, .int .i64 e.ref, .string e.text, .slice A3 e.lines.length c3] 34)).alloc (.cells #[.slice none 0 0, .int .i64 0] 29) ∧ W0.heap.size = w.heap.size + 4 ∧ W0.heap[w.heap.size]? = some (.cells #[.slice A f.chart.length c, .int .i64 f.dims, .int .i64 f.curs] 26 (0, 0)) ∧ W0.heap[w.heap.size + 1]? = some (.cells #[.slice A0 l.entries.length c0, .int .i64 l.head] 29 (0, 0)) ∧ W0.heap[w.heap.size + 2]? = some (.cells #[.int .i64 e.day, .int .i64 e.ref, .string e.text, .slice A3 e.lines.length c3] 34 (0, 0)) ∧ W0.heap[w.heap.size + 3]? = some (.cells #[.slice none 0 0, .int .i64 0] 29 (0, 0)) ∧ Bel w W0 := ⟨_, rfl, by simp, box_up (box_up (box_up (box_at rfl _))), box_up (box_up (box_at (by simp) _)), box_up (box_at (by simp) _), box_at (by simp) _, inferInstance⟩
  rw [← hW0]
  clear hW0
  have X0 := Lib.hid x0
  have X1 := Lib.hid x1
  have X2 := Lib.hid x2
  have X3 := Lib.hid x3
  have HSZ := Lib.hid hsz
  have y0 := (box_cell x0 0).trans rfl
  have y1 := (box_cell x0 1).trans rfl
  have y2 := (box_cell x0 2).trans rfl
  have z0 := (box_cell x1 0).trans rfl
  have z1 := (box_cell x1 1).trans rfl
  clear x0 x1 x2 x3 hsz
  go_upto_region 3 with (go_at_call 76; refine (impl_LedgerOk_c _ _ _ _ _ _ _ (hr.to (w1 := W0)) (hs.to (w1 := W0))).mono ?_; rintro r w1 ⟨rfl, hb1⟩; have b1 : Bel W0 w1 := ⟨hb1⟩; rw [hled])
  clear y0 y1 y2 z0 z1
  have z0 := (box_cell (box_below X1.out b1.out) 0).trans rfl
  have z1 := (box_cell (box_below X1.out b1.out) 1).trans rfl
  go_upto_region 4 with (go_at_call 85; refine (copyLedger_c _ _ _ _ ((hs.to (w1 := W0)).to (w1 := w1)) (by omega) H60.out).mono ?_; rintro r w2 ⟨gs, rfl, hgs, hown2, hb2⟩; have b2 : Bel w1 w2 := ⟨hb2⟩)
  obtain ⟨W3, hW3, hsz3, hx3, b3⟩ : ∃ W3 : World, W3 = w2.alloc (.cells #[.slice (some ⟨gs, 0, none⟩) l.entries.length l.entries.length, .int .i64 l.head] 29) ∧ W3.heap.size = w2.heap.size + 1 ∧ W3.heap[w2.heap.size]? = some (.cells #[.slice (some ⟨gs, 0, none⟩) l.entries.length l.entries.length, .int .i64 l.head] 29 (0, 0)) ∧ Bel w2 W3 := ⟨_, rfl, by simp, heap_alloc_new _ _, inferInstance⟩
  rw [← hW3]
  clear hW3 z0 z1
  have bw3 : Bel W0 W3 := ⟨below_step b1.out (below_step b2.out b3.out)⟩
  have XT := Lib.hid hx3
  have HO3 := Lib.hid (((hown2.bound).mono (S' := fun k => W0.heap.size ≤ k ∧ k ≠ w2.heap.size) (fun k hk => by have h := hk.1.1; have h2 := hk.2; have h3 := b1.out.size; constructor <;> omega)).to (w1 := W3))
  have HGS := Lib.hid (hown2.own.lt _ rfl)
  have s1 := b1.out.size
  have s2 := b2.out.size
  clear hx3 hown2
  have y0 := (box_cell (box_below X0.out bw3.out) 0).trans rfl
  have y1 := (box_cell (box_below X0.out bw3.out) 1).trans rfl
  have y2 := (box_cell (box_below X0.out bw3.out) 2).trans rfl
  have e0 := (box_cell (box_below X2.out bw3.out) 0).trans rfl
  have e1 := (box_cell (box_below X2.out bw3.out) 1).trans rfl
  have e2 := (box_cell (box_below X2.out bw3.out) 2).trans rfl
  have e3 := (box_cell (box_below X2.out bw3.out) 3).trans rfl
  go_upto_region 6 with (go_at_call 86; refine (entryIn_c _ _ _ _ _ _ _ hfr ((hr.to (w1 := W0)).to (w1 := W3)) ((he.to (w1 := W0)).to (w1 := W3)) hz).mono ?_; rintro r w4 ⟨rfl, hb4⟩; have b4 : Bel W3 w4 := ⟨hb4⟩; rw [hent])
  clear y0 y1 y2 e0 e1 e2 e3
  have bw4 : Bel W0 w4 := ⟨below_step bw3.out b4.out⟩
  have z0 := (box_cell (box_below X1.out bw4.out) 0).trans rfl
  have q1 : ((l.entries.length : Int) == (1000 : Int)) = false := beq_eq_false_iff_ne.2 (by omega)
  go_upto_region 8 with (fail)
  have xt4 := box_below XT.out b4.out
  have XT4 := Lib.hid xt4
  have HO4 := Lib.hid (HO3.out.to (w1 := w4))
  have t0 := (box_cell xt4 0).trans rfl
  have e0 := (box_cell (box_below X2.out bw4.out) 0).trans rfl
  have e1 := (box_cell (box_below X2.out bw4.out) 1).trans rfl
  have e2 := (box_cell (box_below X2.out bw4.out) 2).trans rfl
  have e3 := (box_cell (box_below X2.out bw4.out) 3).trans rfl
  have s3 := b3.out.size
  have s4 := b4.out.size
  have he60 := (entIn_t hent).2.2.2.1.2
  clear xt4
  go_cut [] (fun wc => ∃ A1 c1, wc.heap[w2.heap.size]? = some (.cells #[.slice A1 (l.entries.length + 1) c1, .int .i64 l.head] 29 (0, 0)) ∧ OwnS (fun k => W0.heap.size ≤ k ∧ k ≠ w2.heap.size) cEn 34 wc w1.heap.size (.slice A1 (l.entries.length + 1) c1) (l.entries ++ [e]) ∧ Bel W0 wc ∧ w4.heap.size ≤ wc.heap.size ∧ (Value.slice A1 (l.entries.length + 1) c1).ownBlock ≠ some w2.heap.size)
  case first =>
    refine wp_region_held_drew (S := fun wq => wq.cell? ⟨w.heap.size + 2, 0, none⟩ = some (.int .i64 e.day) ∧ wq.cell? ⟨w.heap.size + 2, 1, none⟩ = some (.int .i64 e.ref) ∧ wq.cell? ⟨w.heap.size + 2, 2, none⟩ = some (.string e.text) ∧ wq.cell? ⟨w.heap.size + 2, 3, none⟩ = some (.slice A3 e.lines.length c3)) (by kernel_rfl) ⟨e0, e1, e2, e3⟩ (fun hHeld => ?_)
    first
      | (refine wpAnyH_take (i := 0) (v := undef) rfl (by kernel_rfl) (by kernel_rfl) (by kernel_rfl) (fun _ _ _ h => h) (Or.inr ⟨by rfl, rfl⟩) (by assumption) ?_)
      | (refine wpAnyH_take (i := 0) (v := ?_) rfl (by kernel_rfl) (by kernel_rfl) (by kernel_rfl) (fun _ _ _ h => h) (Or.inl ⟨by rfl, ?_⟩) (by assumption) ?_; rotate_left; (intro wH hSw; (try dsimp only at hSw); go_simp; try with_reducible rfl))
    try simp only [Act.put, List.setIfInBounds_toArray, List.set_cons_zero, List.set_cons_succ, List.getElem_toArray, List.getElem_cons_zero, List.getElem_cons_succ]
    first
      | (refine wpAnyH_take (i := 2) (v := undef) rfl (by kernel_rfl) (by kernel_rfl) (by kernel_rfl) (fun _ _ _ h => h) (Or.inr ⟨by rfl, rfl⟩) (by assumption) ?_)
      | (refine wpAnyH_take (i := 2) (v := ?_) rfl (by kernel_rfl) (by kernel_rfl) (by kernel_rfl) (fun _ _ _ h => h) (Or.inl ⟨by rfl, ?_⟩) (by assumption) ?_; rotate_left; (intro wH hSw; (try dsimp only at hSw); go_simp; try with_reducible rfl))
    try simp only [Act.put, List.setIfInBounds_toArray, List.set_cons_zero, List.set_cons_succ, List.getElem_toArray, List.getElem_cons_zero, List.getElem_cons_succ]
    refine wpAnyH_ready (rs := [1, 3]) (by kernel_rfl) (by simp) ?_
    refine AllReadyH.cons rfl (fun K hK => ?_) (AllReadyH.cons rfl (fun K hK => ?_) AllReadyH.nil)
    go_simp
    refine hK.out _ _ hHeld (fun hHeld => ?_)
    clear hK K
    try simp only [Act.put, List.setIfInBounds_toArray, List.set_cons_zero, List.set_cons_succ, List.getElem_toArray, List.getElem_cons_zero, List.getElem_cons_succ]
    refine wpAnyH_ready (rs := [3]) (by kernel_rfl) (by simp) ?_
    refine AllReadyH.cons rfl (fun K hK => ?_) AllReadyH.nil
    go_simp
    (go_at_call 78; refine (copyEntry_c _ _ _ _ (((he.to (w1 := W0)).to (w1 := w4)).to) he60).mono ?_; rintro r w5 ⟨g2, rfl, hg2, hown5, hb5⟩; have b5 : Bel w4 w5 := Bel.step hb5; have tt := (box_cell (box_below XT4.out b5.out) 0).trans rfl)
    refine hK.out _ _ (by (try dsimp only); exact ⟨(box_cell (box_below (box_below X2.out bw4.out) Bel.out) 0).trans rfl, (box_cell (box_below (box_below X2.out bw4.out) Bel.out) 1).trans rfl, (box_cell (box_below (box_below X2.out bw4.out) Bel.out) 2).trans rfl, (box_cell (box_below (box_below X2.out bw4.out) Bel.out) 3).trans rfl⟩) (fun hHeld => ?_)
    clear hK K
    try simp only [Act.put, List.setIfInBounds_toArray, List.set_cons_zero, List.set_cons_succ, List.getElem_toArray, List.getElem_cons_zero, List.getElem_cons_succ]
    refine wpAnyH_ready (rs := [4]) (by kernel_rfl) (by simp) ?_
    refine AllReadyH.cons rfl (fun K hK => ?_) AllReadyH.nil
    go_simp
    skip
    refine hK.out _ _ (by (try dsimp only); exact ⟨(box_cell (box_below (box_below X2.out bw4.out) Bel.out) 0).trans rfl, (box_cell (box_below (box_below X2.out bw4.out) Bel.out) 1).trans rfl, (box_cell (box_below (box_below X2.out bw4.out) Bel.out) 2).trans rfl, (box_cell (box_below (box_below X2.out bw4.out) Bel.out) 3).trans rfl⟩) (fun hHeld => ?_)
    clear hK K
    try simp only [Act.put, List.setIfInBounds_toArray, List.set_cons_zero, List.set_cons_succ, List.getElem_toArray, List.getElem_cons_zero, List.getElem_cons_succ]
    rotate_left
    go_simp
    (go_at_call 78; refine (copyEntry_c _ _ _ _ (((he.to (w1 := W0)).to (w1 := w4)).to) he60).mono ?_; rintro r w5 ⟨g2, rfl, hg2, hown5, hb5⟩; have b5 : Bel w4 w5 := Bel.step hb5; have tt := (box_cell (box_below XT4.out b5.out) 0).trans rfl)
    refine hK.out _ _ (by (try dsimp only); exact ⟨(box_cell (box_below (box_below X2.out bw4.out) Bel.out) 0).trans rfl, (box_cell (box_below (box_below X2.out bw4.out) Bel.out) 1).trans rfl, (box_cell (box_below (box_below X2.out bw4.out) Bel.out) 2).trans rfl, (box_cell (box_below (box_below X2.out bw4.out) Bel.out) 3).trans rfl⟩) (fun hHeld => ?_)
    clear hK K
    try simp only [Act.put, List.setIfInBounds_toArray, List.set_cons_zero, List.set_cons_succ, List.getElem_toArray, List.getElem_cons_zero, List.getElem_cons_succ]
    refine wpAnyH_ready (rs := [1, 4]) (by kernel_rfl) (by simp) ?_
    refine AllReadyH.cons rfl (fun K hK => ?_) (AllReadyH.cons rfl (fun K hK => ?_) AllReadyH.nil)
    go_simp
    refine hK.out _ _ hHeld (fun hHeld => ?_)
    clear hK K
    try simp only [Act.put, List.setIfInBounds_toArray, List.set_cons_zero, List.set_cons_succ, List.getElem_toArray, List.getElem_cons_zero, List.getElem_cons_succ]
    refine wpAnyH_ready (rs := [4]) (by kernel_rfl) (by simp) ?_
    refine AllReadyH.cons rfl (fun K hK => ?_) AllReadyH.nil
    go_simp
    skip
    refine hK.out _ _ (by (try dsimp only); exact ⟨(box_cell (box_below (box_below X2.out bw4.out) Bel.out) 0).trans rfl, (box_cell (box_below (box_below X2.out bw4.out) Bel.out) 1).trans rfl, (box_cell (box_below (box_below X2.out bw4.out) Bel.out) 2).trans rfl, (box_cell (box_below (box_below X2.out bw4.out) Bel.out) 3).trans rfl⟩) (fun hHeld => ?_)
    clear hK K
    try simp only [Act.put, List.setIfInBounds_toArray, List.set_cons_zero, List.set_cons_succ, List.getElem_toArray, List.getElem_cons_zero, List.getElem_cons_succ]
    rotate_left
    go_simp
    refine hK.out _ _ (by (try dsimp only); exact ⟨(box_cell (box_below (box_below X2.out bw4.out) Bel.out) 0).trans rfl, (box_cell (box_below (box_below X2.out bw4.out) Bel.out) 1).trans rfl, (box_cell (box_below (box_below X2.out bw4.out) Bel.out) 2).trans rfl, (box_cell (box_below (box_below X2.out bw4.out) Bel.out) 3).trans rfl⟩) (fun hHeld => ?_)
    clear hK K
    try simp only [Act.put, List.setIfInBounds_toArray, List.set_cons_zero, List.set_cons_succ, List.getElem_toArray, List.getElem_cons_zero, List.getElem_cons_succ]
    have tt5 := (box_cell (box_below (box_below XT4.out b5.out) (Bel.out : Below w5.heap.size w5 (w5.alloc (.cells #[.int .i64 e.day, .int .i64 e.ref, .string e.text, .slice (some ⟨g2, 0, none⟩) e.lines.length e.lines.length] 34)))) 0).trans rfl
    refine wpAnyH_ready (rs := [1]) (by kernel_rfl) (by simp) ?_
    refine AllReadyH.cons rfl (fun K hK => ?_) AllReadyH.nil
    go_simp
    skip
    refine hK.out _ _ (by (try dsimp only); exact hHeld) (fun hHeld => ?_)
    clear hK K
    try simp only [Act.put, List.setIfInBounds_toArray, List.set_cons_zero, List.set_cons_succ, List.getElem_toArray, List.getElem_cons_zero, List.getElem_cons_succ]
    all_goals
      have hgs4 := HGS.out
      have s5 := b5.out.size
      have hrd : Sl cLn (w5.alloc (.cells #[.int .i64 e.day, .int .i64 e.ref, .string e.text, .slice (some ⟨g2, 0, none⟩) e.lines.length e.lines.length] 34)) (fun k => (W0.heap.size ≤ k ∧ k ≠ w2.heap.size) ∧ some k ≠ (Value.slice (some ⟨gs, 0, none⟩) l.entries.length l.entries.length).ownBlock) (some ⟨g2, 0, none⟩) e.lines := (Own.below hown5 (Bel.out : Below w5.heap.size w5 (w5.alloc (.cells #[.int .i64 e.day, .int .i64 e.ref, .string e.text, .slice (some ⟨g2, 0, none⟩) e.lines.length e.lines.length] 34)))).sl (fun k hk => by have h : w4.heap.size ≤ k := hk; refine ⟨⟨by omega, by omega⟩, ?_⟩; simp [Value.ownBlock]; omega) (fun _ _ h => Ln_any h)
      obtain ⟨v1, w6, hrun, hown6, hg6, hat6⟩ := OwnS.appendRun (w := w5.alloc (.cells #[.int .i64 e.day, .int .i64 e.ref, .string e.text, .slice (some ⟨g2, 0, none⟩) e.lines.length e.lines.length] 34)) 27 34 27 w1.heap.size Try.underlying27 (.agg #[.int .i64 0, .int .i64 0, .string ⟨#[]⟩, .slice none 0 0]) 56 infoEn rfl (by decide) (by decide) ((HO4.out.to (w1 := w5)).to (w1 := w5.alloc (.cells #[.int .i64 e.day, .int .i64 e.ref, .string e.text, .slice (some ⟨g2, 0, none⟩) e.lines.length e.lines.length] 34))) [e] _ ⟨w5.heap.size, 0, none⟩ 1 1 rfl (Reps.single (En_mk hz (Nat.le_refl _) hrd) rfl) box_cells (by simp; omega) (by omega)
      obtain ⟨A1, c1, rfl, -⟩ := hown6.own.slice
      have hlen : (l.entries ++ [e]).length = l.entries.length + 1 := by simp
      rw [hlen] at hown6 hrun hat6
      clear hlen
      have xt6 := (hg6.block w2.heap.size (by simp; omega) (by simp [Value.ownBlock]; omega)).trans (box_below (box_below XT4.out b5.out) (Bel.out : Below w5.heap.size w5 (w5.alloc (.cells #[.int .i64 e.day, .int .i64 e.ref, .string e.text, .slice (some ⟨g2, 0, none⟩) e.lines.length e.lines.length] 34))))
      have hz0 := HSZ.out
      have x26 := Lib.hid ((hg6.block (w.heap.size + 2) (by simp; omega) (by simp [Value.ownBlock]; omega)).trans (box_below (box_below (box_below X2.out bw4.out) b5.out) (Bel.out : Below w5.heap.size w5 (w5.alloc (.cells #[.int .i64 e.day, .int .i64 e.ref, .string e.text, .slice (some ⟨g2, 0, none⟩) e.lines.length e.lines.length] 34)))))
      have XT6 := Lib.hid xt6
      have k0 := (box_cell xt6 0).trans rfl
      have f0 := box_free xt6 0
      have O6 := Lib.hid hown6
      have b6 : Below w4.heap.size w4 w5 := b5.out
      have bb6 : Below W0.heap.size W0 w6 := (below_step bw4.out (below_step b5.out (Bel.out : Below w5.heap.size w5 (w5.alloc (.cells #[.int .i64 e.day, .int .i64 e.ref, .string e.text, .slice (some ⟨g2, 0, none⟩) e.lines.length e.lines.length] 34))))).grown hg6 (by simp; omega) (fun j hj => by simp [Value.ownBlock] at hj; omega)
      have s6 : w4.heap.size ≤ w6.heap.size := by have := hg6.size; simp at this; omega
      have hob : (Value.slice A1 (l.entries.length + 1) c1).ownBlock ≠ some w2.heap.size := by
        rcases hat6 with h | h
        · rw [h]; simp [Value.ownBlock]; omega
        · rw [h]; simp; omega
      clear xt6 hown6 hg6 hat6 hrd
      refine wpAnyH_ready (rs := [5]) (by kernel_rfl) (by simp) ?_
      refine AllReadyH.cons rfl (fun K hK => ?_) AllReadyH.nil
      rw [if_pos (by rfl)]
      refine append_op _ _ _ rfl rfl rfl hrun ?_
      refine hK.out _ _ ⟨(box_cell x26.out 0).trans rfl, (box_cell x26.out 1).trans rfl, (box_cell x26.out 2).trans rfl, (box_cell x26.out 3).trans rfl⟩ (fun hHeld => ?_)
      clear hK K
      try simp only [Act.put, List.setIfInBounds_toArray, List.set_cons_zero, List.set_cons_succ, List.getElem_toArray, List.getElem_cons_zero, List.getElem_cons_succ]
      first
        | (refine wpAnyH_take (i := 6) (v := undef) rfl (by kernel_rfl) (by kernel_rfl) (by kernel_rfl) (fun _ _ _ h => h) (Or.inr ⟨by rfl, rfl⟩) (by assumption) ?_)
        | (refine wpAnyH_take (i := 6) (v := ?_) rfl (by kernel_rfl) (by kernel_rfl) (by kernel_rfl) (fun _ _ _ h => h) (Or.inl ⟨by rfl, ?_⟩) (by assumption) ?_; rotate_left; (intro wH hSw; (try dsimp only at hSw); go_simp; try with_reducible rfl))
      try simp only [Act.put, List.setIfInBounds_toArray, List.set_cons_zero, List.set_cons_succ, List.getElem_toArray, List.getElem_cons_zero, List.getElem_cons_succ]
      have x27 := (heap_setCell_other w6 ⟨w2.heap.size, 0, none⟩ (w.heap.size + 2) (.slice A1 (l.entries.length + 1) c1) (by show w.heap.size + 2 ≠ w2.heap.size; omega)).trans x26.out
      refine wpAnyH_ready (rs := [7]) (by kernel_rfl) (by simp) ?_
      refine AllReadyH.cons rfl (fun K hK => ?_) AllReadyH.nil
      go_simp
      skip
      refine hK.out _ _ (by (try dsimp only); exact ⟨(box_cell x27 0).trans rfl, (box_cell x27 1).trans rfl, (box_cell x27 2).trans rfl, (box_cell x27 3).trans rfl⟩) (fun hHeld => ?_)
      clear hK K
      try simp only [Act.put, List.setIfInBounds_toArray, List.set_cons_zero, List.set_cons_succ, List.getElem_toArray, List.getElem_cons_zero, List.getElem_cons_succ]
      refine wpAnyH_done (by kernel_rfl) ?_ _
      go_wp2
      go_meet
      refine ⟨A1, c1, heap_setCell_same w6 w2.heap.size 0 _ _ _ XT6.out, ?_, ⟨bb6.setCell (by show W0.heap.size ≤ w2.heap.size; omega) _⟩, by simpa using s6, hob⟩
      exact O6.out.set _ (by simp) hob
  case rest =>
    obtain ⟨A1, c1, hbx, hown, bc, hsc, hob⟩ := hcut
    obtain ⟨W5, hW5⟩ : ∃ W5 : World, W5 = wc := ⟨_, rfl⟩
    rw [← hW5] at hbx hown bc hsc ⊢
    clear hW5
    have hhead := (ledB_t hled).2.2.1
    have hin := headOf_in l.entries
    rw [← hhead] at hin
    have HIN := Lib.hid hin
    have HBX := Lib.hid hbx
    have HOW := Lib.hid ((hown.bound).mono (S' := fun k => (W0.heap.size ≤ k ∧ k ≠ w2.heap.size) ∧ k < W5.heap.size) (fun _ h => h))
    have z1 := (box_cell (box_below X1.out bc.out) 1).trans rfl
    clear hhead hin hbx hown t0 e0 e1 e2 e3
    go_upto_region 10 with (fail)
    obtain ⟨W6, hW6, hsz6, hch6, b6⟩ : ∃ W6 : World, W6 = W5.alloc (.cells #[.int .i64 l.head, .bool false] 136) ∧ W6.heap.size = W5.heap.size + 1 ∧ chB W6 W5.heap.size (l.head, false) ∧ Bel W5 W6 := ⟨_, rfl, by simp, heap_alloc_new _ _, inferInstance⟩
    rw [← hW6]
    clear hW6 z1
    have bw6 : Bel W0 W6 := ⟨below_step bc.out b6.out⟩
    have e0 := (box_cell (box_below X2.out bw6.out) 0).trans rfl
    have e1 := (box_cell (box_below X2.out bw6.out) 1).trans rfl
    have e2 := (box_cell (box_below X2.out bw6.out) 2).trans rfl
    have e3 := (box_cell (box_below X2.out bw6.out) 3).trans rfl
    have hz5 := HSZ.out
    have h05 := bc.out.size
    have heS : Sl cLn w (fun k => k ≠ W5.heap.size) A3 e.lines := (he.bound (by decide)).mono (fun k hk => by have := hk.2; omega)
    go_upto_region 11 with (go_at_call 87; refine (numbersOf_c W5.heap.size _ _ _ _ _ hch6 HIN.out ((heS.to (w1 := W0)).to (w1 := W6)) hz).mono ?_; rintro r w7 ⟨rfl, hch7, hg7⟩)
    have b7 : Below W0.heap.size W0 w7 := bw6.out.grown hg7 bw6.out.size (fun j hj => by cases hj; omega)
    have CH := Lib.hid hch7
    have c0 := (box_cell hch7 0).trans rfl
    have hbx7 := (hg7.block w2.heap.size (by have := box_lt HBX.out; omega) (by simp; have := box_lt HBX.out; omega)).trans (box_below HBX.out b6.out)
    have k0 := (box_cell hbx7 0).trans rfl
    have k1 := (box_cell hbx7 1).trans rfl
    have f1 := box_free hbx7 1
    have hx3 := box_below X3.out b7
    have r0 := (box_cell hx3 0).trans rfl
    have r1 := (box_cell hx3 1).trans rfl
    have g0 := box_free hx3 0
    have g1 := box_free hx3 1
    have HX3 := Lib.hid hx3
    have hne2 : w.heap.size + 3 < w2.heap.size := by omega
    clear hbx7 hx3 e0 e1 e2 e3
    go_wp2
    refine bodyPost_ret (results_row_tmp rfl _ _ (w.heap.size + 3) 29 #[.slice A1 (l.entries.length + 1) c1, .int .i64 ((numsOf e).foldl stepC (l.head, false)).1] (0, 0) _ (.int .i64 0) rfl rfl (heap_setCell_same _ _ 1 _ _ _ (heap_setCell_same _ _ 0 _ _ _ ((heap_setCell_other _ _ _ _ (by show w.heap.size + 3 ≠ w2.heap.size; omega)).trans HX3.out))) Try.underlying29 rfl (by kernel_rfl)) rfl ?_
    refine ⟨⟨A1, c1, _, rfl, ?_⟩, ?_⟩
    · have o5 := HOW.out
      have lt5 := o5.own.lt
      have o7 := (o5.to (w1 := W6)).grown hg7 (fun j hj => by cases hj; exact ⟨fun h => by have := h.2; omega, fun h => by have := (lt5 _ h).2; omega⟩)
      have o8 := o7.set (g := w2.heap.size) (i := 1) (.int .i64 ((numsOf e).foldl stepC (l.head, false)).1) (fun h => h.1.2 rfl) hob
      have hr3 : (Value.slice A1 (l.entries.length + 1) c1).ownBlock ≠ some (w.heap.size + 3) := fun h => by have := (lt5 _ h).1; omega
      have hS3 : ¬ ((W0.heap.size ≤ w.heap.size + 3 ∧ w.heap.size + 3 ≠ w2.heap.size) ∧ w.heap.size + 3 < W5.heap.size) := fun h => by have := h.1.1; omega
      have o9 := (o8.set (g := w.heap.size + 3) (i := 0) (.slice A1 (l.entries.length + 1) c1) hS3 hr3).set (g := w.heap.size + 3) (i := 1) (.int .i64 ((numsOf e).foldl stepC (l.head, false)).1) hS3 hr3
      exact o9.sl (fun k hk => by have h : w1.heap.size ≤ k := hk; show w.heap.size ≤ k; omega) (fun k hk => by have h := hk.1.1; show w.heap.size ≤ k; omega)
    · have hbb := below_step b0.out (b7.setCell (p := ⟨w2.heap.size, 1, none⟩) (by show W0.heap.size ≤ w2.heap.size; omega) (.int .i64 ((numsOf e).foldl stepC (l.head, false)).1))
      exact (hbb.setCell (p := ⟨w.heap.size + 3, 0, none⟩) (by show w.heap.size ≤ w.heap.size + 3; omega) _).setCell (p := ⟨w.heap.size + 3, 1, none⟩) (by show w.heap.size ≤ w.heap.size + 3; omega) _
end Go.Proofs.Ythgnfpbbhiegfaa
