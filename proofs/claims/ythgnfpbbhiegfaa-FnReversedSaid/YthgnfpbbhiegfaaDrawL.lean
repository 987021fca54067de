/- The walks of the functions that draw a ledger, and spoil it. -/
import Derived.Test.YthgnfpbbhiegfaaDrawS
import Derived.Test.YthgnfpbbhiegfaaPost2
import Derived.Test.YthgnfpbbhiegfaaHead
namespace Go.Proofs.Ythgnfpbbhiegfaa
open Go.RowKit
theorem EnsT.dr {g : Nat} {w W : World} {v : Value} {xs : List EV} (h : EnsT g w v xs) (hg : g < w.heap.size) (hd : Gro g w W) : EnsT g W v xs := h.lk (LK.gro hd hg)
theorem EnsT.setB {g : Nat} {w : World} {v : Value} {xs : List EV} (h : EnsT g w v xs) {b : Nat} {cur : Array Value} {T : TypeId} {fr : Nat × Nat} (hb : w.heap[b]? = some (.cells cur T fr)) (h1 : T ≠ 34) (h2 : T ≠ 130) (i : Nat) (u : Value) : EnsT g (w.setCell ⟨b, i, none⟩ u) v xs :=
  ⟨h.1.setB flatEV i u (h.1.ne hb h1), fun x hx => by
    obtain ⟨ls, hl, ho⟩ := h.2 x hx
    exact ⟨ls, hl, ho.setB flatLn i u (ho.ne hb h2)⟩⟩
theorem EnsT.push {g : Nat} {w w1 : World} {v v1 : Value} {xs : List EV} {x : EV} (h : EnsT g w v xs) (hown : Own cEV 34 w1 (g + 1) v1 (xs ++ [x])) (hg : w.grownBy w1 v.ownBlock)
    (hx : ∃ ls : List Ln, ls.length = x.n ∧ Own cLn 130 w (g + 1) (.slice x.a x.n x.cap) ls) : EnsT g w1 v1 (xs ++ [x]) := by
  have key : ∀ y : EV, (∃ ls : List Ln, ls.length = y.n ∧ Own cLn 130 w (g + 1) (.slice y.a y.n y.cap) ls) → ∃ ls : List Ln, ls.length = y.n ∧ Own cLn 130 w1 (g + 1) (.slice y.a y.n y.cap) ls := fun y hy => by
    obtain ⟨ls, hl, ho⟩ := hy
    refine ⟨ls, hl, ho.kept flatLn hg (fun j hj => ?_)⟩
    rcases h.1.split with ⟨rfl, -⟩ | ⟨b, cap, cur, rfl, -, hh, -⟩
    · cases hj
    · simp only [Value.ownBlock, Option.some.injEq] at hj
      subst hj
      exact ho.ne hh (by decide)
  refine ⟨hown, fun y hy => ?_⟩
  rcases List.mem_append.1 hy with hy | hy
  · exact key y (h.2 y hy)
  · obtain rfl := List.mem_singleton.1 hy
    exact key _ hx
theorem Own.appendRunF {α : Type} {c : Cod α} {w : World} {P : Program} (hf : Flat c) (t e ty : TypeId) (base : Nat) (ht : P.underlying t = some (.slice e)) (z : Value) (bytes : Nat) (hinfo : (P.info? e).map (fun i => (i.zero, i.size, i.bytes)) = some (some z, c.sz, bytes)) (hz : z.cells.size = c.sz) (hs0 : 0 < c.sz) (hb0 : 0 < bytes)
    {v : Value} {xs : List α} (HO : Own c e w base v xs) (ys : List α) (cs : List Value) (ad : Addr) (m cap : Nat) (hm : ys.length = m)
    (hcs : Reps (c.rd w (fun _ => True)) c.sz ys cs) (hcells : ∀ j u, cs[j]? = some u → w.cell? (ad.add j) = some u) (hbase : base ≤ w.heap.size) (hl : (xs.length + m) * bytes ≤ 140737488355328) :
    ∃ v1 w1, (Builtin.append_ #[t, t] ty #[v, .slice (some ad) m cap]).run P w = .ok v1 w1 ∧ Own c e w1 base v1 (xs ++ ys) ∧ w.grownBy w1 v.ownBlock ∧ (v1.ownBlock = v.ownBlock ∨ v1.ownBlock = some w.heap.size) := by
  have ho : OwnS (fun _ => True) c e w base v xs := by
    obtain ⟨ds, h1, h2⟩ := HO
    exact ⟨ds, h1, h2.imp (fun _ _ h => hf h)⟩
  obtain ⟨v1, w1, h1, h2, h3, h4⟩ := OwnS.appendRun t e ty base ht z bytes hinfo hz hs0 hb0 ho ys cs ad m cap hm (hcs.imp (fun _ _ h => hf h)) hcells hbase hl
  exact ⟨v1, w1, h1, h2.own, h3, h4⟩
/-- A ledger that is being drawn: the frame's box, the result's, the ledger's; its entries. -/
structure LdS (g : Nat) (w wq : World) (A : Option Addr) (c : Nat) (f : Fr) (v : Value) (xs : List EV) : Prop where
  x4 : wq.heap[w.heap.size]? = some (.cells #[.slice A f.chart.length c, .int .i64 f.dims, .int .i64 f.curs] 26 (0, 0))
  x6 : wq.heap[w.heap.size + 1]? = some (.cells #[.slice none 0 0, .int .i64 0] 29 (0, 0))
  x7 : wq.heap[w.heap.size + 2]? = some (.cells #[v, .int .i64 1] 29 (0, 0))
  cur : Cur wq g
  gro : Gro g w wq
  ens : EnsT g wq v xs
  new : ∀ j, v.ownBlock = some j → w.heap.size ≤ j
theorem LdS.dr {g : Nat} {w wq w1 : World} {A : Option Addr} {c : Nat} {f : Fr} {v : Value} {xs : List EV} (h : LdS g w wq A c f v xs) (hg : g < w.heap.size) (hd : Dr g wq w1) : LdS g w w1 A c f v xs where
  x4 := box_gro h.x4 (by omega) hd.2
  x6 := box_gro h.x6 (by omega) hd.2
  x7 := box_gro h.x7 (by omega) hd.2
  cur := hd.1
  gro := h.gro.trans hd.2
  ens := h.ens.dr h.cur.lt hd.2
  new := h.new
/-- What an append to the entries, stored, leaves. -/
theorem LdS.push {g : Nat} {w wq w1 : World} {A : Option Addr} {c : Nat} {f : Fr} {v v1 : Value} {xs : List EV} {x : EV} {o : Obj} (h : LdS g w wq A c f v xs) (hg : g < w.heap.size) (hown : Own cEV 34 w1 (g + 1) v1 (xs ++ [x])) (hgr : (wq.alloc o).grownBy w1 v.ownBlock) (hat : v1.ownBlock = v.ownBlock ∨ v1.ownBlock = some (wq.alloc o).heap.size)
    (hx : ∃ ls : List Ln, ls.length = x.n ∧ Own cLn 130 wq (g + 1) (.slice x.a x.n x.cap) ls) :
    w1.heap[w.heap.size + 2]? = some (.cells #[v, .int .i64 1] 29 (0, 0)) ∧ w1.heap[w.heap.size]? = some (.cells #[.slice A f.chart.length c, .int .i64 f.dims, .int .i64 f.curs] 26 (0, 0)) ∧ LdS g w (w1.setCell ⟨w.heap.size + 2, 0, none⟩ v1) A c f v1 (xs ++ [x]) := by
  have keep : ∀ (j : Nat) (cur : Array Value) (T : TypeId) (fr : Nat × Nat), wq.heap[j]? = some (.cells cur T fr) → T ≠ 34 → w1.heap[j]? = some (.cells cur T fr) := fun j cur T fr hj hT => (hgr.block j (by have := box_lt hj; simp; omega) (fun e => h.ens.1.ne hj hT e.symm)).trans (box_al hj)
  have k4 := keep _ _ _ _ h.x4 (by decide)
  have k6 := keep _ _ _ _ h.x6 (by decide)
  have k7 := keep _ _ _ _ h.x7 (by decide)
  have hga : Gro g wq (wq.alloc o) := inferInstance
  have e1 : EnsT g (wq.alloc o) v xs := h.ens.dr h.cur.lt hga
  have e2 : EnsT g w1 v1 (xs ++ [x]) := e1.push hown hgr (by obtain ⟨ls, hl, ho⟩ := hx; exact ⟨ls, hl, ho.to⟩)
  have hlt := h.ens.1.lt
  have hc1 : Cur w1 g := (h.cur.to (W := wq.alloc o)).row hgr (fun j hj => (hlt j hj).1)
  have hgi : Gro g w wq := h.gro
  have hg1 : Gro g w w1 := Gro.row hgr (fun j hj => h.new j hj)
  have s1 := h.gro.size
  refine ⟨k7, k4, ⟨(heap_setCell_other _ _ _ _ (by show w.heap.size ≠ w.heap.size + 2; omega)).trans k4, (heap_setCell_other _ _ _ _ (by show w.heap.size + 1 ≠ w.heap.size + 2; omega)).trans k6, heap_setCell_same _ _ 0 _ _ _ k7, hc1.set _ (by show g < w.heap.size + 2; omega), hg1.set _ (.inl (by show w.heap.size ≤ w.heap.size + 2; omega)), e2.setB k7 (by decide) (by decide) 0 v1, fun j e => ?_⟩⟩
  rcases hat with hat | hat
  · exact h.new j (hat ▸ e)
  · rw [hat] at e
    simp at e
    omega
theorem LdS.last {g : Nat} {w wq : World} {A : Option Addr} {c : Nat} {f : Fr} {v : Value} {xs : List EV} (h : LdS g w wq A c f v xs) (hg : g < w.heap.size) (y u0 u1 : Value) :
    EnsT g (((wq.setCell ⟨w.heap.size + 2, 1, none⟩ y).setCell ⟨w.heap.size + 1, 0, none⟩ u0).setCell ⟨w.heap.size + 1, 1, none⟩ u1) v xs ∧ Dr g w (((wq.setCell ⟨w.heap.size + 2, 1, none⟩ y).setCell ⟨w.heap.size + 1, 0, none⟩ u0).setCell ⟨w.heap.size + 1, 1, none⟩ u1) := by
  have k6 := (heap_setCell_other wq ⟨w.heap.size + 2, 1, none⟩ (w.heap.size + 1) y (by show w.heap.size + 1 ≠ w.heap.size + 2; omega)).trans h.x6
  have k7 : ((wq.setCell ⟨w.heap.size + 2, 1, none⟩ y).setCell ⟨w.heap.size + 1, 0, none⟩ u0).heap[w.heap.size + 1]? = some (.cells #[u0, .int .i64 0] 29 (0, 0)) := heap_setCell_same _ _ 0 _ _ _ k6
  have hd : Dr g w wq := ⟨h.cur, h.gro⟩
  exact ⟨((h.ens.setB h.x7 (by decide) (by decide) 1 y).setB k6 (by decide) (by decide) 0 u0).setB k7 (by decide) (by decide) 1 u1, ((hd.set hg 1 _ (by omega)).set hg 0 _ (by omega)).set hg 1 _ (by omega)⟩
set_option linter.unusedSimpArgs false in
set_option maxRecDepth 100000 in
set_option maxHeartbeats 4000000 in
theorem l5DrawLedger_c {S : Nat → Prop} (A : Option Addr) (c : Nat) (f : Fr) (n : Nat) (g : Nat) (w : World) (hc : Cur w g) (hs : Sl cAc w S A f.chart) (hS : ∀ k, S k → k ≠ g) (hl : 0 < f.chart.length ∧ f.chart.length ≤ 100) (hn : n ≤ 6) :
    Calls Try.prog 72 #[.pointer (some ⟨g, 0, none⟩), .agg #[.slice A f.chart.length c, .int .i64 f.dims, .int .i64 f.curs], .int .i64 n] w fun e w' => (∃ (A1 : Option Addr) (n1 c1 : Nat) (h : Int) (xs : List EV), e = .returned (.agg #[.slice A1 n1 c1, .int .i64 h]) ∧ xs.length = n ∧ EnsT g w' (.slice A1 n1 c1) xs) ∧ Dr g w w' := by
  have hg := hc.lt
  go_enter Try.func72, Try.ntmps72
  go_upto_block 0 with (fail)
  obtain ⟨W0, hW0, hst⟩ : ∃ W0 : World, W0 = ((w.alloc (.cells #[.slice A f.chart.length c, .int .i64 f.dims, .int .i64 f.curs] 26)).alloc (.cells #[.slice none 0 0, .int .i64 0] 29)).alloc (.cells #[.slice none 0 0, .int .i64 1] 29) ∧ LdS g w W0 A c f (.slice none 0 0) [] := ⟨_, rfl, box_al (new_box2a _ _ _), box_al (new_box2b _ _ _), by
    have e : w.heap.size + 2 = ((w.alloc (.cells #[.slice A f.chart.length c, .int .i64 f.dims, .int .i64 f.curs] 26)).alloc (.cells #[.slice none 0 0, .int .i64 0] 29)).heap.size := by simp
    rw [e]
    exact heap_alloc_new _ _, hc.to, inferInstance, ⟨Own.nil, fun x hx => by cases hx⟩, fun j hj => by cases hj⟩
  rw [← hW0]
  have HS := Lib.hid hst
  clear hW0 hst
  go_wp2
  go_loopw [2] (fun v wq => ∃ (m : Nat) (vl : Value) (xs : List EV), v = .int .i64 m ∧ xs.length + m = n ∧ LdS g w wq A c f vl xs) (fun v _ => (intOf v).toNat)
  case atStart => exact ⟨n, _, [], rfl, by simp, HS.out⟩
  case round =>
    clear HS
    obtain ⟨wo, rfl⟩ : ∃ wo : World, wo = wr := ⟨_, rfl⟩
    obtain ⟨m, vl, xs, rfl, hxm, hst⟩ := hrel
    obtain ⟨a, n0, cap, rfl⟩ := hst.ens.1.slc
    have HS := Lib.hid hst
    clear hst
    by_cases hm : 0 < m
    · have hm1 : (0 : Int) < m := by omega
      go_upto_region 4 with (fail)
      have c0 := (box_cell HS.out.x4 0).trans rfl
      have c1 := (box_cell HS.out.x4 1).trans rfl
      have c2 := (box_cell HS.out.x4 2).trans rfl
      have e0 := (box_cell HS.out.x7 0).trans rfl
      refine wp_region_held_drew (S := fun wq => wq.cell? ⟨w.heap.size, 0, none⟩ = some (.slice A f.chart.length c) ∧ wq.cell? ⟨w.heap.size, 1, none⟩ = some (.int .i64 f.dims) ∧ wq.cell? ⟨w.heap.size, 2, none⟩ = some (.int .i64 f.curs)) (by kernel_rfl) ⟨c0, c1, c2⟩ (fun hHeld => ?_)
      first
        | (refine wpAnyH_take (i := 0) (v := undef) rfl (by kernel_rfl) (by kernel_rfl) (by kernel_rfl) (fun _ _ _ h => h) (Or.inr ⟨by rfl, rfl⟩) (by assumption) ?_)
        | (refine wpAnyH_take (i := 0) (v := ?_) rfl (by kernel_rfl) (by kernel_rfl) (by kernel_rfl) (fun _ _ _ h => h) (Or.inl ⟨by rfl, ?_⟩) (by assumption) ?_; rotate_left; (intro wH hSw; (try dsimp only at hSw); go_simp; try with_reducible rfl))
      try simp only [Act.put, List.setIfInBounds_toArray, List.set_cons_zero, List.set_cons_succ, List.getElem_toArray, List.getElem_cons_zero, List.getElem_cons_succ]
      first
        | (refine wpAnyH_take (i := 2) (v := undef) rfl (by kernel_rfl) (by kernel_rfl) (by kernel_rfl) (fun _ _ _ h => h) (Or.inr ⟨by rfl, rfl⟩) (by assumption) ?_)
        | (refine wpAnyH_take (i := 2) (v := ?_) rfl (by kernel_rfl) (by kernel_rfl) (by kernel_rfl) (fun _ _ _ h => h) (Or.inl ⟨by rfl, ?_⟩) (by assumption) ?_; rotate_left; (intro wH hSw; (try dsimp only at hSw); go_simp; try with_reducible rfl))
      try simp only [Act.put, List.setIfInBounds_toArray, List.set_cons_zero, List.set_cons_succ, List.getElem_toArray, List.getElem_cons_zero, List.getElem_cons_succ]
      first
        | (refine wpAnyH_take (i := 3) (v := undef) rfl (by kernel_rfl) (by kernel_rfl) (by kernel_rfl) (fun _ _ _ h => h) (Or.inr ⟨by rfl, rfl⟩) (by assumption) ?_)
        | (refine wpAnyH_take (i := 3) (v := ?_) rfl (by kernel_rfl) (by kernel_rfl) (by kernel_rfl) (fun _ _ _ h => h) (Or.inl ⟨by rfl, ?_⟩) (by assumption) ?_; rotate_left; (intro wH hSw; (try dsimp only at hSw); go_simp; try with_reducible rfl))
      try simp only [Act.put, List.setIfInBounds_toArray, List.set_cons_zero, List.set_cons_succ, List.getElem_toArray, List.getElem_cons_zero, List.getElem_cons_succ]
      have hs0 := hs.gro HS.out.gro hS
      refine wpAnyH_ready (rs := [1, 4]) (by kernel_rfl) (by simp) ?_
      refine AllReadyH.cons rfl (fun K hK => ?_) (AllReadyH.cons rfl (fun K hK => ?_) AllReadyH.nil)
      · go_simp
        refine hK.out _ _ hHeld (fun hHeld => ?_)
        clear hK K
        try simp only [Act.put, List.setIfInBounds_toArray, List.set_cons_zero, List.set_cons_succ, List.getElem_toArray, List.getElem_cons_zero, List.getElem_cons_succ]
        refine wpAnyH_ready (rs := [4]) (by kernel_rfl) (by simp) ?_
        refine AllReadyH.cons rfl (fun K hK => ?_) AllReadyH.nil
        go_simp
        (go_at_call 171; refine (l5DrawEntry_c _ _ _ g _ HS.out.cur.to hs0.to hS hl).mono ?_; rintro r w2 ⟨⟨x, rfl, hxt, hxl⟩, hd⟩; have HS := Lib.hid (HS.out.dr hg ⟨hd.1, Gro.trans inferInstance hd.2⟩); have e0 := (box_cell HS.out.x7 0).trans rfl)
        refine hK.out _ _ (by (try dsimp only); exact ⟨(box_cell HS.out.x4 0).trans rfl, (box_cell HS.out.x4 1).trans rfl, (box_cell HS.out.x4 2).trans rfl⟩) (fun hHeld => ?_)
        clear hK K
        try simp only [Act.put, List.setIfInBounds_toArray, List.set_cons_zero, List.set_cons_succ, List.getElem_toArray, List.getElem_cons_zero, List.getElem_cons_succ]
        refine wpAnyH_ready (rs := [5]) (by kernel_rfl) (by simp) ?_
        refine AllReadyH.cons rfl (fun K hK => ?_) AllReadyH.nil
        go_simp
        skip
        refine hK.out _ _ (by (try dsimp only); exact ⟨(box_cell (box_al HS.out.x4) 0).trans rfl, (box_cell (box_al HS.out.x4) 1).trans rfl, (box_cell (box_al HS.out.x4) 2).trans rfl⟩) (fun hHeld => ?_)
        clear hK K
        try simp only [Act.put, List.setIfInBounds_toArray, List.set_cons_zero, List.set_cons_succ, List.getElem_toArray, List.getElem_cons_zero, List.getElem_cons_succ]
        obtain ⟨v1, w6, hrun, hown6, hg6, hat6⟩ := Own.appendRunF (w := w2.alloc (.cells #[.int .i64 x.day, .int .i64 x.ref, .string x.text, .slice x.a x.n x.cap] 34)) flatEV 27 34 27 (g + 1) Try.underlying27 (.agg #[.int .i64 0, .int .i64 0, .string ⟨#[]⟩, .slice none 0 0]) 56 infoEn rfl (by decide) (by decide) HS.out.ens.1.to [x] [.int .i64 x.day, .int .i64 x.ref, .string x.text, .slice x.a x.n x.cap] ⟨w2.heap.size, 0, none⟩ 1 1 rfl (Reps.single ⟨rfl, hxt⟩ rfl) box_cells (by have := HS.out.cur.lt; simp; omega) (by omega)
        obtain ⟨A1, n1, cap1, rfl⟩ := hown6.slc
        obtain ⟨k7, k4, hp⟩ := HS.out.push hg hown6 hg6 hat6 hxl
        have HP := Lib.hid hp
        have e0 := (box_cell k7 0).trans rfl
        have f0 := box_free k7 0
        refine wpAnyH_ready (rs := [6]) (by kernel_rfl) (by simp) ?_
        refine AllReadyH.cons rfl (fun K hK => ?_) AllReadyH.nil
        rw [if_pos (by rfl)]
        refine append_op _ _ _ rfl rfl rfl hrun ?_
        refine hK.out _ _ ⟨(box_cell k4 0).trans rfl, (box_cell k4 1).trans rfl, (box_cell k4 2).trans rfl⟩ (fun hHeld => ?_)
        clear hK K hp hrun hown6 hg6 hat6 k4 k7
        try simp only [Act.put, List.setIfInBounds_toArray, List.set_cons_zero, List.set_cons_succ, List.getElem_toArray, List.getElem_cons_zero, List.getElem_cons_succ]
        first
          | (refine wpAnyH_take (i := 7) (v := undef) rfl (by kernel_rfl) (by kernel_rfl) (by kernel_rfl) (fun _ _ _ h => h) (Or.inr ⟨by rfl, rfl⟩) (by assumption) ?_)
          | (refine wpAnyH_take (i := 7) (v := ?_) rfl (by kernel_rfl) (by kernel_rfl) (by kernel_rfl) (fun _ _ _ h => h) (Or.inl ⟨by rfl, ?_⟩) (by assumption) ?_; rotate_left; (intro wH hSw; (try dsimp only at hSw); go_simp; try with_reducible rfl))
        try simp only [Act.put, List.setIfInBounds_toArray, List.set_cons_zero, List.set_cons_succ, List.getElem_toArray, List.getElem_cons_zero, List.getElem_cons_succ]
        refine wpAnyH_ready (rs := [8]) (by kernel_rfl) (by simp) ?_
        refine AllReadyH.cons rfl (fun K hK => ?_) AllReadyH.nil
        go_simp
        skip
        refine hK.out _ _ (by (try dsimp only); exact ⟨(box_cell HP.out.x4 0).trans rfl, (box_cell HP.out.x4 1).trans rfl, (box_cell HP.out.x4 2).trans rfl⟩) (fun hHeld => ?_)
        clear hK K
        try simp only [Act.put, List.setIfInBounds_toArray, List.set_cons_zero, List.set_cons_succ, List.getElem_toArray, List.getElem_cons_zero, List.getElem_cons_succ]
        refine wpAnyH_done (by kernel_rfl) ?_ _
        go_wp2
        go_roundw
        case rel => exact ⟨m - 1, _, xs ++ [x], by go_num, by simp; omega, HP.out⟩
        case measure => simp [intOf]; omega
      · go_simp
        (go_at_call 171; refine (l5DrawEntry_c _ _ _ g _ HS.out.cur.to hs0.to hS hl).mono ?_; rintro r w2 ⟨⟨x, rfl, hxt, hxl⟩, hd⟩; have HS := Lib.hid (HS.out.dr hg ⟨hd.1, Gro.trans inferInstance hd.2⟩); have e0 := (box_cell HS.out.x7 0).trans rfl)
        refine hK.out _ _ (by (try dsimp only); exact ⟨(box_cell HS.out.x4 0).trans rfl, (box_cell HS.out.x4 1).trans rfl, (box_cell HS.out.x4 2).trans rfl⟩) (fun hHeld => ?_)
        clear hK K
        try simp only [Act.put, List.setIfInBounds_toArray, List.set_cons_zero, List.set_cons_succ, List.getElem_toArray, List.getElem_cons_zero, List.getElem_cons_succ]
        refine wpAnyH_ready (rs := [1, 5]) (by kernel_rfl) (by simp) ?_
        refine AllReadyH.cons rfl (fun K hK => ?_) (AllReadyH.cons rfl (fun K hK => ?_) AllReadyH.nil)
        · go_simp
          refine hK.out _ _ hHeld (fun hHeld => ?_)
          clear hK K
          try simp only [Act.put, List.setIfInBounds_toArray, List.set_cons_zero, List.set_cons_succ, List.getElem_toArray, List.getElem_cons_zero, List.getElem_cons_succ]
          refine wpAnyH_ready (rs := [5]) (by kernel_rfl) (by simp) ?_
          refine AllReadyH.cons rfl (fun K hK => ?_) AllReadyH.nil
          go_simp
          skip
          refine hK.out _ _ (by (try dsimp only); exact ⟨(box_cell (box_al HS.out.x4) 0).trans rfl, (box_cell (box_al HS.out.x4) 1).trans rfl, (box_cell (box_al HS.out.x4) 2).trans rfl⟩) (fun hHeld => ?_)
          clear hK K
          try simp only [Act.put, List.setIfInBounds_toArray, List.set_cons_zero, List.set_cons_succ, List.getElem_toArray, List.getElem_cons_zero, List.getElem_cons_succ]
          obtain ⟨v1, w6, hrun, hown6, hg6, hat6⟩ := Own.appendRunF (w := w2.alloc (.cells #[.int .i64 x.day, .int .i64 x.ref, .string x.text, .slice x.a x.n x.cap] 34)) flatEV 27 34 27 (g + 1) Try.underlying27 (.agg #[.int .i64 0, .int .i64 0, .string ⟨#[]⟩, .slice none 0 0]) 56 infoEn rfl (by decide) (by decide) HS.out.ens.1.to [x] [.int .i64 x.day, .int .i64 x.ref, .string x.text, .slice x.a x.n x.cap] ⟨w2.heap.size, 0, none⟩ 1 1 rfl (Reps.single ⟨rfl, hxt⟩ rfl) box_cells (by have := HS.out.cur.lt; simp; omega) (by omega)
          obtain ⟨A1, n1, cap1, rfl⟩ := hown6.slc
          obtain ⟨k7, k4, hp⟩ := HS.out.push hg hown6 hg6 hat6 hxl
          have HP := Lib.hid hp
          have e0 := (box_cell k7 0).trans rfl
          have f0 := box_free k7 0
          refine wpAnyH_ready (rs := [6]) (by kernel_rfl) (by simp) ?_
          refine AllReadyH.cons rfl (fun K hK => ?_) AllReadyH.nil
          rw [if_pos (by rfl)]
          refine append_op _ _ _ rfl rfl rfl hrun ?_
          refine hK.out _ _ ⟨(box_cell k4 0).trans rfl, (box_cell k4 1).trans rfl, (box_cell k4 2).trans rfl⟩ (fun hHeld => ?_)
          clear hK K hp hrun hown6 hg6 hat6 k4 k7
          try simp only [Act.put, List.setIfInBounds_toArray, List.set_cons_zero, List.set_cons_succ, List.getElem_toArray, List.getElem_cons_zero, List.getElem_cons_succ]
          first
            | (refine wpAnyH_take (i := 7) (v := undef) rfl (by kernel_rfl) (by kernel_rfl) (by kernel_rfl) (fun _ _ _ h => h) (Or.inr ⟨by rfl, rfl⟩) (by assumption) ?_)
            | (refine wpAnyH_take (i := 7) (v := ?_) rfl (by kernel_rfl) (by kernel_rfl) (by kernel_rfl) (fun _ _ _ h => h) (Or.inl ⟨by rfl, ?_⟩) (by assumption) ?_; rotate_left; (intro wH hSw; (try dsimp only at hSw); go_simp; try with_reducible rfl))
          try simp only [Act.put, List.setIfInBounds_toArray, List.set_cons_zero, List.set_cons_succ, List.getElem_toArray, List.getElem_cons_zero, List.getElem_cons_succ]
          refine wpAnyH_ready (rs := [8]) (by kernel_rfl) (by simp) ?_
          refine AllReadyH.cons rfl (fun K hK => ?_) AllReadyH.nil
          go_simp
          skip
          refine hK.out _ _ (by (try dsimp only); exact ⟨(box_cell HP.out.x4 0).trans rfl, (box_cell HP.out.x4 1).trans rfl, (box_cell HP.out.x4 2).trans rfl⟩) (fun hHeld => ?_)
          clear hK K
          try simp only [Act.put, List.setIfInBounds_toArray, List.set_cons_zero, List.set_cons_succ, List.getElem_toArray, List.getElem_cons_zero, List.getElem_cons_succ]
          refine wpAnyH_done (by kernel_rfl) ?_ _
          go_wp2
          go_roundw
          case rel => exact ⟨m - 1, _, xs ++ [x], by go_num, by simp; omega, HP.out⟩
          case measure => simp [intOf]; omega
        · go_simp
          refine hK.out _ _ (by (try dsimp only); exact ⟨(box_cell (box_al HS.out.x4) 0).trans rfl, (box_cell (box_al HS.out.x4) 1).trans rfl, (box_cell (box_al HS.out.x4) 2).trans rfl⟩) (fun hHeld => ?_)
          clear hK K
          try simp only [Act.put, List.setIfInBounds_toArray, List.set_cons_zero, List.set_cons_succ, List.getElem_toArray, List.getElem_cons_zero, List.getElem_cons_succ]
          have e0 := (box_cell (box_al (o' := .cells #[.int .i64 x.day, .int .i64 x.ref, .string x.text, .slice x.a x.n x.cap] 34) HS.out.x7) 0).trans rfl
          refine wpAnyH_ready (rs := [1]) (by kernel_rfl) (by simp) ?_
          refine AllReadyH.cons rfl (fun K hK => ?_) AllReadyH.nil
          go_simp
          skip
          refine hK.out _ _ (by (try dsimp only); exact hHeld) (fun hHeld => ?_)
          clear hK K
          try simp only [Act.put, List.setIfInBounds_toArray, List.set_cons_zero, List.set_cons_succ, List.getElem_toArray, List.getElem_cons_zero, List.getElem_cons_succ]
          obtain ⟨v1, w6, hrun, hown6, hg6, hat6⟩ := Own.appendRunF (w := w2.alloc (.cells #[.int .i64 x.day, .int .i64 x.ref, .string x.text, .slice x.a x.n x.cap] 34)) flatEV 27 34 27 (g + 1) Try.underlying27 (.agg #[.int .i64 0, .int .i64 0, .string ⟨#[]⟩, .slice none 0 0]) 56 infoEn rfl (by decide) (by decide) HS.out.ens.1.to [x] [.int .i64 x.day, .int .i64 x.ref, .string x.text, .slice x.a x.n x.cap] ⟨w2.heap.size, 0, none⟩ 1 1 rfl (Reps.single ⟨rfl, hxt⟩ rfl) box_cells (by have := HS.out.cur.lt; simp; omega) (by omega)
          obtain ⟨A1, n1, cap1, rfl⟩ := hown6.slc
          obtain ⟨k7, k4, hp⟩ := HS.out.push hg hown6 hg6 hat6 hxl
          have HP := Lib.hid hp
          have e0 := (box_cell k7 0).trans rfl
          have f0 := box_free k7 0
          refine wpAnyH_ready (rs := [6]) (by kernel_rfl) (by simp) ?_
          refine AllReadyH.cons rfl (fun K hK => ?_) AllReadyH.nil
          rw [if_pos (by rfl)]
          refine append_op _ _ _ rfl rfl rfl hrun ?_
          refine hK.out _ _ ⟨(box_cell k4 0).trans rfl, (box_cell k4 1).trans rfl, (box_cell k4 2).trans rfl⟩ (fun hHeld => ?_)
          clear hK K hp hrun hown6 hg6 hat6 k4 k7
          try simp only [Act.put, List.setIfInBounds_toArray, List.set_cons_zero, List.set_cons_succ, List.getElem_toArray, List.getElem_cons_zero, List.getElem_cons_succ]
          first
            | (refine wpAnyH_take (i := 7) (v := undef) rfl (by kernel_rfl) (by kernel_rfl) (by kernel_rfl) (fun _ _ _ h => h) (Or.inr ⟨by rfl, rfl⟩) (by assumption) ?_)
            | (refine wpAnyH_take (i := 7) (v := ?_) rfl (by kernel_rfl) (by kernel_rfl) (by kernel_rfl) (fun _ _ _ h => h) (Or.inl ⟨by rfl, ?_⟩) (by assumption) ?_; rotate_left; (intro wH hSw; (try dsimp only at hSw); go_simp; try with_reducible rfl))
          try simp only [Act.put, List.setIfInBounds_toArray, List.set_cons_zero, List.set_cons_succ, List.getElem_toArray, List.getElem_cons_zero, List.getElem_cons_succ]
          refine wpAnyH_ready (rs := [8]) (by kernel_rfl) (by simp) ?_
          refine AllReadyH.cons rfl (fun K hK => ?_) AllReadyH.nil
          go_simp
          skip
          refine hK.out _ _ (by (try dsimp only); exact ⟨(box_cell HP.out.x4 0).trans rfl, (box_cell HP.out.x4 1).trans rfl, (box_cell HP.out.x4 2).trans rfl⟩) (fun hHeld => ?_)
          clear hK K
          try simp only [Act.put, List.setIfInBounds_toArray, List.set_cons_zero, List.set_cons_succ, List.getElem_toArray, List.getElem_cons_zero, List.getElem_cons_succ]
          refine wpAnyH_done (by kernel_rfl) ?_ _
          go_wp2
          go_roundw
          case rel => exact ⟨m - 1, _, xs ++ [x], by go_num, by simp; omega, HP.out⟩
          case measure => simp [intOf]; omega
    · have hm1 : ¬ (0 : Int) < m := by omega
      have c0 := (box_cell HS.out.x7 0).trans rfl
      obtain ⟨es, hes, hsl⟩ := HS.out.ens.read
      have hlen : es.length = n0 := by have := HS.out.ens.len; omega
      have hhd := fun w => spec_HeadOf_c (S := fun k => g < k) a cap es w
      rw [hlen] at hhd
      have HH := Lib.hid hhd
      clear hhd hlen hes
      go_wp2_with (go_at_call 170; refine (HH.out _ hsl).mono ?_; rintro e w2 ⟨rfl, hb2⟩; have HS := Lib.hid (HS.out.dr hg ⟨HS.out.cur.kept (fun k hk => hb2.block k (by have := HS.out.cur.lt; omega)), ⟨grown_of_below hb2 _⟩⟩); have c0 := (box_cell HS.out.x7 0).trans rfl; have c1 := (box_cell HS.out.x7 1).trans rfl; have f1 := box_free HS.out.x7 1; have d0 := (box_cell HS.out.x6 0).trans rfl; have d1 := (box_cell HS.out.x6 1).trans rfl; have g0 := box_free HS.out.x6 0; have g1 := box_free HS.out.x6 1)
      refine bodyPost_ret (results_cell_row rfl _ _ (w.heap.size + 1) 29 #[_, _] (0, 0) _ rfl (heap_setCell_same _ _ 1 _ _ _ (heap_setCell_same _ _ 0 _ _ _ ((heap_setCell_other _ _ _ _ (by show w.heap.size + 1 ≠ w.heap.size + 2; omega)).trans HS.out.x6))) Try.underlying29 rfl (by kernel_rfl)) rfl ?_
      have hlast := HS.out.last hg (.int .i64 (headOf es)) (.slice a n0 cap) (.int .i64 (headOf es))
      exact ⟨⟨a, n0, cap, headOf es, xs, rfl, by omega, hlast.1⟩, hlast.2⟩
end Go.Proofs.Ythgnfpbbhiegfaa
