/- The walk of the program's copyLedger. -/
import Derived.Test.YthgnfpbbhiegfaaPost
import Derived.Test.YthgnfpbbhiegfaaOwnS
namespace Go.Proofs.Ythgnfpbbhiegfaa
open Go.RowKit
theorem infoEn : (Try.prog.info? 34).map (fun i => (i.zero, i.size, i.bytes)) = some (some (.agg #[.int .i64 0, .int .i64 0, .string ⟨#[]⟩, .slice none 0 0]), 4, 56) := by kernel_rfl
theorem bel_set {w W : World} {a : Addr} {v : Value} (h : Below w.heap.size w W) (ha : w.heap.size ≤ a.block) : Below w.heap.size w (W.setCell a v) := h.setCell ha v
/-- The first k entries, and empty ones. -/
def cpTo (es : List En) (k : Nat) : List En := es.take k ++ List.replicate (es.length - k) (⟨0, 0, ⟨#[]⟩, []⟩ : En)
theorem cpTo_len (es : List En) (k : Nat) (h : k ≤ es.length) : (cpTo es k).length = es.length := by simp [cpTo]; omega
theorem cpTo_set (es : List En) (k : Nat) (h : k < es.length) : (cpTo es k).set k (el es k) = cpTo es (k + 1) := by
  unfold cpTo
  rw [List.set_append_right _ _ (by rw [List.length_take]; omega), List.length_take, Nat.min_eq_left (by omega), Nat.sub_self]
  obtain ⟨m, hm⟩ : ∃ m, es.length - k = m + 1 := ⟨es.length - k - 1, by omega⟩
  rw [hm, List.replicate_succ, List.set_cons_zero, show es.length - (k + 1) = m by omega, List.take_add_one, List.getElem?_eq_getElem h, Option.toList_some, el_eq es k h, List.append_assoc]
  rfl
set_option linter.unusedSimpArgs false in
set_option maxRecDepth 100000 in
set_option maxHeartbeats 2000000 in
theorem copyLedger_c {S : Nat → Prop} (A0 : Option Addr) (c0 : Nat) (l : Le) (w : World) (hs : Sl cEn w S A0 l.entries) (hn : l.entries.length ≤ 1000) (h60 : ∀ j, j < l.entries.length → (el l.entries j).lines.length ≤ 60) :
    Calls Try.prog 85 #[.agg #[.slice A0 l.entries.length c0, .int .i64 l.head]] w fun r w' => ∃ g, r = .returned (.agg #[.slice (some ⟨g, 0, none⟩) l.entries.length l.entries.length, .int .i64 l.head]) ∧ w.heap.size ≤ g ∧ OwnS (fun k => w.heap.size ≤ k ∧ k ≠ g) cEn 34 w' w.heap.size (.slice (some ⟨g, 0, none⟩) l.entries.length l.entries.length) l.entries ∧ Below w.heap.size w w' := by
  have hl := hs.1
  go_enter Try.func85, Try.ntmps85
  go_upto_region 1 with (fail)
  obtain ⟨W0, hW0, hsz, x0, x1, b0⟩ : ∃ W0 : World, W0 = (w.alloc (.cells #[.slice A0 l.entries.length c0, .int .i64 l.head] 29)).alloc (.cells #[.slice none 0 0, .int .i64 0] 29) ∧ W0.heap.size = w.heap.size + 2 ∧ W0.heap[w.heap.size]? = some (.cells #[.slice A0 l.entries.length c0, .int .i64 l.head] 29 (0, 0)) ∧ W0.heap[w.heap.size + 1]? = some (.cells #[.slice none 0 0, .int .i64 0] 29 (0, 0)) ∧ Bel w W0 := ⟨_, rfl, by simp, new_box2a _ _ _, new_box2b _ _ _, inferInstance⟩
  rw [← hW0]
  clear hW0
  have X0 := Lib.hid x0
  have X1 := Lib.hid x1
  have HSZ := Lib.hid hsz
  have y0 := (box_cell x0 0).trans rfl
  have y1 := (box_cell x0 1).trans rfl
  clear x0 x1 hsz
  obtain ⟨W1, r1, o1, g1⟩ := OwnS.makeRun (w := W0.drew) (fun _ => False) cEn 27 34 W0.heap.size Try.underlying27 (.agg #[.int .i64 0, .int .i64 0, .string ⟨#[]⟩, .slice none 0 0]) 56 infoEn rfl (⟨0, 0, ⟨#[]⟩, []⟩ : En) (fun _ _ => En_mk (by decide) (Nat.le_refl _) Sl.nil) l.entries.length (by omega) (by omega) (Nat.le_refl _)
  obtain ⟨V1, s1, p1, q1⟩ := OwnS.makeRun (w := (W0.alloc (.cells #[.slice none 0 0, .int .i64 0] 29)).drew) (fun _ => False) cEn 27 34 W0.heap.size Try.underlying27 (.agg #[.int .i64 0, .int .i64 0, .string ⟨#[]⟩, .slice none 0 0]) 56 infoEn rfl (⟨0, 0, ⟨#[]⟩, []⟩ : En) (fun _ _ => En_mk (by decide) (Nat.le_refl _) Sl.nil) l.entries.length (by omega) (by omega) (by simp)
  have e1 : W0.drew.heap.size = W0.heap.size := rfl
  have e2 : ((W0.alloc (.cells #[.slice none 0 0, .int .i64 0] 29)).drew).heap.size = W0.heap.size + 1 := by simp
  rw [e1] at r1 o1
  rw [e2] at s1 p1
  clear e1 e2
  go_cut [3] (fun v wc => ∃ gt gs : Nat, v = .pointer (some ⟨gt, 0, none⟩) ∧ W0.heap.size ≤ gt ∧ W0.heap.size ≤ gs ∧ gs ≠ gt ∧ wc.heap[gt]? = some (.cells #[.slice (some ⟨gs, 0, none⟩) l.entries.length l.entries.length, .int .i64 l.head] 29 (0, 0)) ∧ OwnS (fun k => wc.heap.size ≤ k) cEn 34 wc W0.heap.size (.slice (some ⟨gs, 0, none⟩) l.entries.length l.entries.length) (List.replicate l.entries.length (⟨0, 0, ⟨#[]⟩, []⟩ : En)) ∧ Bel W0 wc)
  have b1 : Bel W0 W1 := ⟨(Bel.out : Below W0.heap.size W0 W0.drew).grown g1 (Nat.le_refl _) (by simp)⟩
  have c1 : Bel W0 V1 := ⟨(Bel.out : Below W0.heap.size W0 ((W0.alloc (.cells #[.slice none 0 0, .int .i64 0] 29)).drew)).grown q1 (by simp) (by simp)⟩
  have lt1 : W0.heap.size < W1.heap.size := (o1.own.lt _ rfl).2
  have v0 : V1.heap[W0.heap.size]? = some (.cells #[.slice none 0 0, .int .i64 0] 29) := (q1.block W0.heap.size (by simp) (by simp)).trans (heap_alloc_new _ _)
  have lt2 : W0.heap.size + 1 < V1.heap.size := (p1.own.lt _ rfl).2
  have u0 := box_cell v0 0
  have u1 := box_cell v0 1
  have fr0 := box_free v0 0
  have fr1 := box_free v0 1
  case first =>
    refine wp_region_held_drew (S := fun wq => wq.cell? ⟨w.heap.size, 0, none⟩ = some (.slice A0 l.entries.length c0) ∧ wq.cell? ⟨w.heap.size, 1, none⟩ = some (.int .i64 l.head)) (by kernel_rfl) ⟨y0, y1⟩ (fun hHeld => ?_)
    first
      | (refine wpAnyH_take (i := 0) (v := undef) rfl (by kernel_rfl) (by kernel_rfl) (by kernel_rfl) (fun _ _ _ h => h) (Or.inr ⟨by rfl, rfl⟩) (by assumption) ?_)
      | (refine wpAnyH_take (i := 0) (v := ?_) rfl (by kernel_rfl) (by kernel_rfl) (by kernel_rfl) (fun _ _ _ h => h) (Or.inl ⟨by rfl, ?_⟩) (by assumption) ?_; rotate_left; (intro wH hSw; (try dsimp only at hSw); go_simp; try with_reducible rfl))
    try simp only [Act.put, List.setIfInBounds_toArray, List.set_cons_zero, List.set_cons_succ, List.getElem_toArray, List.getElem_cons_zero, List.getElem_cons_succ]
    first
      | (refine wpAnyH_take (i := 1) (v := undef) rfl (by kernel_rfl) (by kernel_rfl) (by kernel_rfl) (fun _ _ _ h => h) (Or.inr ⟨by rfl, rfl⟩) (by assumption) ?_)
      | (refine wpAnyH_take (i := 1) (v := ?_) rfl (by kernel_rfl) (by kernel_rfl) (by kernel_rfl) (fun _ _ _ h => h) (Or.inl ⟨by rfl, ?_⟩) (by assumption) ?_; rotate_left; (intro wH hSw; (try dsimp only at hSw); go_simp; try with_reducible rfl))
    try simp only [Act.put, List.setIfInBounds_toArray, List.set_cons_zero, List.set_cons_succ, List.getElem_toArray, List.getElem_cons_zero, List.getElem_cons_succ]
    first
      | (refine wpAnyH_take (i := 2) (v := undef) rfl (by kernel_rfl) (by kernel_rfl) (by kernel_rfl) (fun _ _ _ h => h) (Or.inr ⟨by rfl, rfl⟩) (by assumption) ?_)
      | (refine wpAnyH_take (i := 2) (v := ?_) rfl (by kernel_rfl) (by kernel_rfl) (by kernel_rfl) (fun _ _ _ h => h) (Or.inl ⟨by rfl, ?_⟩) (by assumption) ?_; rotate_left; (intro wH hSw; (try dsimp only at hSw); go_simp; try with_reducible rfl))
    try simp only [Act.put, List.setIfInBounds_toArray, List.set_cons_zero, List.set_cons_succ, List.getElem_toArray, List.getElem_cons_zero, List.getElem_cons_succ]
    first
      | (refine wpAnyH_take (i := 3) (v := undef) rfl (by kernel_rfl) (by kernel_rfl) (by kernel_rfl) (fun _ _ _ h => h) (Or.inr ⟨by rfl, rfl⟩) (by assumption) ?_)
      | (refine wpAnyH_take (i := 3) (v := ?_) rfl (by kernel_rfl) (by kernel_rfl) (by kernel_rfl) (fun _ _ _ h => h) (Or.inl ⟨by rfl, ?_⟩) (by assumption) ?_; rotate_left; (intro wH hSw; (try dsimp only at hSw); go_simp; try with_reducible rfl))
    try simp only [Act.put, List.setIfInBounds_toArray, List.set_cons_zero, List.set_cons_succ, List.getElem_toArray, List.getElem_cons_zero, List.getElem_cons_succ]
    first
      | (refine wpAnyH_take (i := 4) (v := undef) rfl (by kernel_rfl) (by kernel_rfl) (by kernel_rfl) (fun _ _ _ h => h) (Or.inr ⟨by rfl, rfl⟩) (by assumption) ?_)
      | (refine wpAnyH_take (i := 4) (v := ?_) rfl (by kernel_rfl) (by kernel_rfl) (by kernel_rfl) (fun _ _ _ h => h) (Or.inl ⟨by rfl, ?_⟩) (by assumption) ?_; rotate_left; (intro wH hSw; (try dsimp only at hSw); go_simp; try with_reducible rfl))
    try simp only [Act.put, List.setIfInBounds_toArray, List.set_cons_zero, List.set_cons_succ, List.getElem_toArray, List.getElem_cons_zero, List.getElem_cons_succ]
    refine wpAnyH_ready (rs := [5, 7]) (by kernel_rfl) (by simp) ?_
    refine AllReadyH.cons rfl (fun K hK => ?_) (AllReadyH.cons rfl (fun K hK => ?_) AllReadyH.nil)
    · go_simp
      refine hK.out _ _ (by (try dsimp only); exact ⟨(box_cell (box_below X0.out Bel.out) 0).trans rfl, (box_cell (box_below X0.out Bel.out) 1).trans rfl⟩) (fun hHeld => ?_)
      clear hK K
      try simp only [Act.put, List.setIfInBounds_toArray, List.set_cons_zero, List.set_cons_succ, List.getElem_toArray, List.getElem_cons_zero, List.getElem_cons_succ]
      first
        | (refine wpAnyH_take (i := 6) (v := undef) rfl (by kernel_rfl) (by kernel_rfl) (by kernel_rfl) (fun _ _ _ h => h) (Or.inr ⟨by rfl, rfl⟩) (by assumption) ?_)
        | (refine wpAnyH_take (i := 6) (v := ?_) rfl (by kernel_rfl) (by kernel_rfl) (by kernel_rfl) (fun _ _ _ h => h) (Or.inl ⟨by rfl, ?_⟩) (by assumption) ?_; rotate_left; (intro wH hSw; (try dsimp only at hSw); go_simp; try with_reducible rfl))
      try simp only [Act.put, List.setIfInBounds_toArray, List.set_cons_zero, List.set_cons_succ, List.getElem_toArray, List.getElem_cons_zero, List.getElem_cons_succ]
      refine wpAnyH_ready (rs := [7]) (by kernel_rfl) (by simp) ?_
      refine AllReadyH.cons rfl (fun K hK => ?_) AllReadyH.nil
      go_simp
      skip
      refine hK.out _ _ (by (try dsimp only); exact ⟨(box_cell (box_below X0.out Bel.out) 0).trans rfl, (box_cell (box_below X0.out Bel.out) 1).trans rfl⟩) (fun hHeld => ?_)
      clear hK K
      try simp only [Act.put, List.setIfInBounds_toArray, List.set_cons_zero, List.set_cons_succ, List.getElem_toArray, List.getElem_cons_zero, List.getElem_cons_succ]
      refine wpAnyH_ready (rs := [8]) (by kernel_rfl) (by simp) ?_
      refine AllReadyH.cons rfl (fun K hK => ?_) AllReadyH.nil
      go_simp
      skip
      refine hK.out _ _ (by (try dsimp only); exact ⟨(box_cell (box_below X0.out Bel.out) 0).trans rfl, (box_cell (box_below X0.out Bel.out) 1).trans rfl⟩) (fun hHeld => ?_)
      clear hK K
      try simp only [Act.put, List.setIfInBounds_toArray, List.set_cons_zero, List.set_cons_succ, List.getElem_toArray, List.getElem_cons_zero, List.getElem_cons_succ]
      refine wpAnyH_done (by kernel_rfl) ?_ _
      go_wp2
      go_meet
      refine ⟨W1.heap.size, W0.heap.size, rfl, b1.out.size, Nat.le_refl _, by omega, heap_alloc_new _ _, ?_, inferInstance⟩
      exact (o1.to (w1 := W1.alloc _)).mono (fun _ h => h.elim)
    · go_simp
      refine hK.out _ _ (by (try dsimp only); exact ⟨(box_cell (box_below X0.out Bel.out) 0).trans rfl, (box_cell (box_below X0.out Bel.out) 1).trans rfl⟩) (fun hHeld => ?_)
      clear hK K
      try simp only [Act.put, List.setIfInBounds_toArray, List.set_cons_zero, List.set_cons_succ, List.getElem_toArray, List.getElem_cons_zero, List.getElem_cons_succ]
      refine wpAnyH_ready (rs := [5]) (by kernel_rfl) (by simp) ?_
      refine AllReadyH.cons rfl (fun K hK => ?_) AllReadyH.nil
      go_simp
      skip
      refine hK.out _ _ (by (try dsimp only); exact ⟨(box_cell (box_below X0.out Bel.out) 0).trans rfl, (box_cell (box_below X0.out Bel.out) 1).trans rfl⟩) (fun hHeld => ?_)
      clear hK K
      try simp only [Act.put, List.setIfInBounds_toArray, List.set_cons_zero, List.set_cons_succ, List.getElem_toArray, List.getElem_cons_zero, List.getElem_cons_succ]
      first
        | (refine wpAnyH_take (i := 6) (v := undef) rfl (by kernel_rfl) (by kernel_rfl) (by kernel_rfl) (fun _ _ _ h => h) (Or.inr ⟨by rfl, rfl⟩) (by assumption) ?_)
        | (refine wpAnyH_take (i := 6) (v := ?_) rfl (by kernel_rfl) (by kernel_rfl) (by kernel_rfl) (fun _ _ _ h => h) (Or.inl ⟨by rfl, ?_⟩) (by assumption) ?_; rotate_left; (intro wH hSw; (try dsimp only at hSw); go_simp; try with_reducible rfl))
      try simp only [Act.put, List.setIfInBounds_toArray, List.set_cons_zero, List.set_cons_succ, List.getElem_toArray, List.getElem_cons_zero, List.getElem_cons_succ]
      refine wpAnyH_ready (rs := [8]) (by kernel_rfl) (by simp) ?_
      refine AllReadyH.cons rfl (fun K hK => ?_) AllReadyH.nil
      go_simp
      have hb : Below W0.heap.size W0 ((V1.setCell ⟨W0.heap.size, 0, none⟩ (.slice (some ⟨W0.heap.size + 1, 0, none⟩) l.entries.length l.entries.length)).setCell ⟨W0.heap.size, 1, none⟩ (.int .i64 l.head)) := (c1.out.setCell (by simp) _).setCell (by simp) _
      refine hK.out _ _ ⟨(box_cell (box_below X0.out hb) 0).trans rfl, (box_cell (box_below X0.out hb) 1).trans rfl⟩ (fun hHeld => ?_)
      clear hK K
      try simp only [Act.put, List.setIfInBounds_toArray, List.set_cons_zero, List.set_cons_succ, List.getElem_toArray, List.getElem_cons_zero, List.getElem_cons_succ]
      refine wpAnyH_done (by kernel_rfl) ?_ _
      go_wp2
      go_meet
      refine ⟨W0.heap.size, W0.heap.size + 1, rfl, Nat.le_refl _, by omega, by omega, heap_setCell_same _ _ 1 _ _ _ (heap_setCell_same _ _ 0 _ _ _ v0), ?_, ⟨hb⟩⟩
      have p2 : OwnS (fun _ => False) cEn 34 V1 W0.heap.size (.slice (some ⟨W0.heap.size + 1, 0, none⟩) l.entries.length l.entries.length) (List.replicate l.entries.length (⟨0, 0, ⟨#[]⟩, []⟩ : En)) := p1
      exact ((p2.set _ (by simp) (by simp [Value.ownBlock])).set _ (by simp) (by simp [Value.ownBlock])).mono (fun _ h => h.elim)
  case rest => 
    obtain ⟨gt, gs, rfl, h1, h2, h3, hgt, hown, bc⟩ := hcut
    clear o1 p1 g1 q1 r1 s1
    have HG := Lib.hid hgt
    have HO := Lib.hid hown
    have gtl := box_lt hgt
    have gsl := (hown.own.lt _ rfl).2
    have y0 := (box_cell (box_below X0.out bc.out) 0).trans rfl
    clear hgt hown
    obtain ⟨W2, hW2⟩ : ∃ W2 : World, W2 = wc := ⟨_, rfl⟩
    rw [← hW2] at HG HO gtl gsl bc y0 ⊢
    clear hW2
    go_wp2
    go_loopw [16] (fun v wq => ∃ k : Nat, k ≤ l.entries.length ∧ v = .int .i64 k ∧ Below W0.heap.size W0 wq ∧ W2.heap.size ≤ wq.heap.size ∧ wq.heap[gt]? = some (.cells #[.slice (some ⟨gs, 0, none⟩) l.entries.length l.entries.length, .int .i64 l.head] 29 (0, 0)) ∧ OwnS (fun k => W2.heap.size ≤ k) cEn 34 wq W0.heap.size (.slice (some ⟨gs, 0, none⟩) l.entries.length l.entries.length) (cpTo l.entries k)) (fun v _ => l.entries.length - (intOf v).toNat)
    case atStart => exact ⟨0, Nat.zero_le _, rfl, bc.out, Nat.le_refl _, HG.out, by simpa [cpTo] using HO.out⟩
    case round =>
      clear HG HO y0
      obtain ⟨wo, rfl⟩ : ∃ wo : World, wo = wr := ⟨_, rfl⟩
      obtain ⟨k, hk, rfl, hB, hsz, hgt, hown⟩ := hrel
      have HG := Lib.hid hgt
      have HO := Lib.hid hown
      clear hgt hown
      have bo : Bel W0 wo := ⟨hB⟩
      by_cases hlt : k < l.entries.length
      · obtain ⟨ad, A3, c3, rfl, l0, l1, l2, l3, hz, h3', hsl⟩ := at_En ((hs.to (w1 := W0)).to (w1 := wo)) k hlt
        have i0 : (0 : Int) ≤ (k : Int) := Int.natCast_nonneg k
        have i1 : (k : Int) < (l.entries.length : Int) := by omega
        go_upto_region 5 with (fail)
        obtain ⟨W1, hW1, hx1, b1⟩ : ∃ W1 : World, W1 = wo.alloc (.cells #[.int .i64 (el l.entries k).day, .int .i64 (el l.entries k).ref, .string (el l.entries k).text, .slice A3 (el l.entries k).lines.length c3] 34) ∧ W1.heap[wo.heap.size]? = some (.cells #[.int .i64 (el l.entries k).day, .int .i64 (el l.entries k).ref, .string (el l.entries k).text, .slice A3 (el l.entries k).lines.length c3] 34 (0, 0)) ∧ Bel wo W1 := ⟨_, rfl, heap_alloc_new _ _, inferInstance⟩
        rw [← hW1]
        clear hW1 l0 l1 l2 l3
        have m0 := (box_cell hx1 0).trans rfl
        have m1 := (box_cell hx1 1).trans rfl
        have m2 := (box_cell hx1 2).trans rfl
        have m3 := (box_cell hx1 3).trans rfl
        have n0 := (box_cell (box_below HG.out b1.out) 0).trans rfl
        have bw : Bel W0 W1 := ⟨below_step bo.out b1.out⟩
        have hsz1 := b1.out.size
        have HX1 := Lib.hid hx1
        have HG1 := Lib.hid (box_below HG.out b1.out)
        have HO1 := Lib.hid (HO.out.to (w1 := W1))
        clear hx1 HG HO
        refine wp_region_held_drew (S := fun wq => wq.cell? ⟨gt, 0, none⟩ = some (.slice (some ⟨gs, 0, none⟩) l.entries.length l.entries.length) ∧ wq.cell? ⟨wo.heap.size, 0, none⟩ = some (.int .i64 (el l.entries k).day) ∧ wq.cell? ⟨wo.heap.size, 1, none⟩ = some (.int .i64 (el l.entries k).ref) ∧ wq.cell? ⟨wo.heap.size, 2, none⟩ = some (.string (el l.entries k).text) ∧ wq.cell? ⟨wo.heap.size, 3, none⟩ = some (.slice A3 (el l.entries k).lines.length c3)) (by kernel_rfl) ⟨n0, m0, m1, m2, m3⟩ (fun hHeld => ?_)
        first
          | (refine wpAnyH_take (i := 0) (v := undef) rfl (by kernel_rfl) (by kernel_rfl) (by kernel_rfl) (fun _ _ _ h => h) (Or.inr ⟨by rfl, rfl⟩) (by assumption) ?_)
          | (refine wpAnyH_take (i := 0) (v := ?_) rfl (by kernel_rfl) (by kernel_rfl) (by kernel_rfl) (fun _ _ _ h => h) (Or.inl ⟨by rfl, ?_⟩) (by assumption) ?_; rotate_left; (intro wH hSw; (try dsimp only at hSw); go_simp; try with_reducible rfl))
        try simp only [Act.put, List.setIfInBounds_toArray, List.set_cons_zero, List.set_cons_succ, List.getElem_toArray, List.getElem_cons_zero, List.getElem_cons_succ]
        first
          | (refine wpAnyH_take (i := 1) (v := undef) rfl (by kernel_rfl) (by kernel_rfl) (by kernel_rfl) (fun _ _ _ h => h) (Or.inr ⟨by rfl, rfl⟩) (by assumption) ?_)
          | (refine wpAnyH_take (i := 1) (v := ?_) rfl (by kernel_rfl) (by kernel_rfl) (by kernel_rfl) (fun _ _ _ h => h) (Or.inl ⟨by rfl, ?_⟩) (by assumption) ?_; rotate_left; (intro wH hSw; (try dsimp only at hSw); go_simp; try with_reducible rfl))
        try simp only [Act.put, List.setIfInBounds_toArray, List.set_cons_zero, List.set_cons_succ, List.getElem_toArray, List.getElem_cons_zero, List.getElem_cons_succ]
        first
          | (refine wpAnyH_take (i := 2) (v := undef) rfl (by kernel_rfl) (by kernel_rfl) (by kernel_rfl) (fun _ _ _ h => h) (Or.inr ⟨by rfl, rfl⟩) (by assumption) ?_)
          | (refine wpAnyH_take (i := 2) (v := ?_) rfl (by kernel_rfl) (by kernel_rfl) (by kernel_rfl) (fun _ _ _ h => h) (Or.inl ⟨by rfl, ?_⟩) (by assumption) ?_; rotate_left; (intro wH hSw; (try dsimp only at hSw); go_simp; try with_reducible rfl))
        try simp only [Act.put, List.setIfInBounds_toArray, List.set_cons_zero, List.set_cons_succ, List.getElem_toArray, List.getElem_cons_zero, List.getElem_cons_succ]
        first
          | (refine wpAnyH_take (i := 3) (v := undef) rfl (by kernel_rfl) (by kernel_rfl) (by kernel_rfl) (fun _ _ _ h => h) (Or.inr ⟨by rfl, rfl⟩) (by assumption) ?_)
          | (refine wpAnyH_take (i := 3) (v := ?_) rfl (by kernel_rfl) (by kernel_rfl) (by kernel_rfl) (fun _ _ _ h => h) (Or.inl ⟨by rfl, ?_⟩) (by assumption) ?_; rotate_left; (intro wH hSw; (try dsimp only at hSw); go_simp; try with_reducible rfl))
        try simp only [Act.put, List.setIfInBounds_toArray, List.set_cons_zero, List.set_cons_succ, List.getElem_toArray, List.getElem_cons_zero, List.getElem_cons_succ]
        refine wpAnyH_ready (rs := [4]) (by kernel_rfl) (by simp) ?_
        refine AllReadyH.cons rfl (fun K hK => ?_) AllReadyH.nil
        go_simp
        (go_at_call 78; refine (copyEntry_c _ _ _ _ (hsl.to (w1 := W1)).to (h60 k hlt)).mono ?_; rintro r w2 ⟨g2, rfl, hg2, hown2, hb2⟩; have b2 : Bel W1 w2 := Bel.step hb2)
        refine hK.out _ _ (by (try dsimp only); exact ⟨(box_cell (box_below HG1.out Bel.out) 0).trans rfl, (box_cell (box_below HX1.out Bel.out) 0).trans rfl, (box_cell (box_below HX1.out Bel.out) 1).trans rfl, (box_cell (box_below HX1.out Bel.out) 2).trans rfl, (box_cell (box_below HX1.out Bel.out) 3).trans rfl⟩) (fun hHeld => ?_)
        clear hK K
        try simp only [Act.put, List.setIfInBounds_toArray, List.set_cons_zero, List.set_cons_succ, List.getElem_toArray, List.getElem_cons_zero, List.getElem_cons_succ]
        first
          | (refine wpAnyH_take (i := 5) (v := undef) rfl (by kernel_rfl) (by kernel_rfl) (by kernel_rfl) (fun _ _ _ h => h) (Or.inr ⟨by rfl, rfl⟩) (by assumption) ?_)
          | (refine wpAnyH_take (i := 5) (v := ?_) rfl (by kernel_rfl) (by kernel_rfl) (by kernel_rfl) (fun _ _ _ h => h) (Or.inl ⟨by rfl, ?_⟩) (by assumption) ?_; rotate_left; (intro wH hSw; (try dsimp only at hSw); go_simp; try with_reducible rfl))
        try simp only [Act.put, List.setIfInBounds_toArray, List.set_cons_zero, List.set_cons_succ, List.getElem_toArray, List.getElem_cons_zero, List.getElem_cons_succ]
        have o2 := HO1.out.to (w1 := w2)
        have hlen : k < (cpTo l.entries k).length := by rw [cpTo_len _ _ hk]; exact hlt
        have ho2 := o2.sl (S' := fun _ => True) (fun _ _ => trivial) (fun _ _ => trivial)
        obtain ⟨adr, Ar, cr, he, k0, k1, k2, k3, -, -, -⟩ := at_En ho2 k hlen
        cases he
        simp only [add_base] at k0 k1 k2 k3
        have f0 := o2.own.free (k * 4)
        have f1 := o2.own.free (k * 4 + 1)
        have f2 := o2.own.free (k * 4 + 2)
        have f3 := o2.own.free (k * 4 + 3)
        obtain ⟨s1, s2⟩ := o2.store4 rfl k hlen (.int .i64 (el l.entries k).day) (.int .i64 (el l.entries k).ref) (.string (el l.entries k).text) (.slice (some ⟨g2, 0, none⟩) (el l.entries k).lines.length (el l.entries k).lines.length) (el l.entries k) (by show ¬ (W2.heap.size ≤ gs); omega) (En_mk hz (Nat.le_refl _) (hown2.sl (fun j hj => by have h : W1.heap.size ≤ j := hj; show W2.heap.size ≤ j; omega) (fun _ _ h => Ln_any h)))
        have hs2 := b2.out.size
        have hgtl : gt < w2.heap.size := by omega
        have hxl : wo.heap.size < w2.heap.size := Nat.lt_of_lt_of_le (box_lt HX1.out) hs2
        have e1 := Lib.hid ((s2.block gt hgtl (by simp; omega)).trans (box_below HG1.out b2.out))
        have e2 := Lib.hid ((s2.block wo.heap.size hxl (by simp; omega)).trans (box_below HX1.out b2.out))
        have S1 := Lib.hid s1
        have S2 := Lib.hid s2
        clear s1 s2 o2 ho2 hown2
        refine wpAnyH_ready (rs := [6]) (by kernel_rfl) (by simp) ?_
        refine AllReadyH.cons rfl (fun K hK => ?_) AllReadyH.nil
        go_simp
        refine hK.out _ _ ⟨(box_cell e1.out 0).trans rfl, (box_cell e2.out 0).trans rfl, (box_cell e2.out 1).trans rfl, (box_cell e2.out 2).trans rfl, (box_cell e2.out 3).trans rfl⟩ (fun hHeld => ?_)
        clear hK K k0 k1 k2 k3 f0 f1 f2 f3
        refine wpAnyH_done (by kernel_rfl) ?_ _
        go_wp2
        have bw2 := below_step bw.out b2.out
        go_roundw
        case rel => exact ⟨k + 1, by omega, by go_num, bw2.grown S2.out bw2.size (fun j hj => by cases hj; omega), by have := S2.out.size; omega, e1.out, by rw [← cpTo_set _ _ hlt]; exact S1.out⟩
        case measure => simp [intOf]; omega
      · have ek : k = l.entries.length := by omega
        subst ek
        have n0 := (box_cell HG.out 0).trans rfl
        have n1 := (box_cell HG.out 1).trans rfl
        have hx1 := box_below X1.out bo.out
        have H1 := Lib.hid hx1
        have t0 := (box_cell hx1 0).trans rfl
        have t1 := (box_cell hx1 1).trans rfl
        have f0 := box_free hx1 0
        have f1 := box_free hx1 1
        have hsz0 := Lib.hid HSZ.out
        clear hx1
        go_wp2
        refine bodyPost_ret (results_cell_row rfl _ _ (w.heap.size + 1) 29 #[.slice (some ⟨gs, 0, none⟩) l.entries.length l.entries.length, .int .i64 l.head] (0, 0) _ rfl (heap_setCell_same _ _ 1 _ _ _ (heap_setCell_same _ _ 0 _ _ _ H1.out)) Try.underlying29 rfl (by kernel_rfl)) rfl ?_
        have hz0 := hsz0.out
        refine ⟨gs, rfl, by omega, ?_, ((below_step b0.out bo.out).setCell (by simp) _).setCell (by simp) _⟩
        have o := HO.out
        have e : cpTo l.entries l.entries.length = l.entries := by simp [cpTo]
        rw [e] at o
        have o2 := (o.set (g := w.heap.size + 1) (i := 0) (.slice (some ⟨gs, 0, none⟩) l.entries.length l.entries.length) (by show ¬ (W2.heap.size ≤ w.heap.size + 1); omega) (by simp [Value.ownBlock]; omega)).set (g := w.heap.size + 1) (i := 1) (.int .i64 l.head) (by show ¬ (W2.heap.size ≤ w.heap.size + 1); omega) (by simp [Value.ownBlock]; omega)
        exact (o2.mono (fun j hj => by have h : W2.heap.size ≤ j := hj; constructor <;> omega)).lower (by omega)
end Go.Proofs.Ythgnfpbbhiegfaa
