/- The walk of the function that spoils a ledger. -/
import Derived.Test.YthgnfpbbhiegfaaDrawL
namespace Go.Proofs.Ythgnfpbbhiegfaa
open Go.RowKit
/-- W stands some steps behind w, which wrote the cursor, and rows of lines and of entries. -/
structure LM (g : Nat) (w W : World) : Prop where
  os : W.os = w.os
  tape : W.tape = w.tape
  output : W.output = w.output
  size : w.heap.size ≤ W.heap.size
  block : ∀ k, k < w.heap.size → k ≠ g → (∀ cur fr, w.heap[k]? ≠ some (.cells cur 130 fr)) → (∀ cur fr, w.heap[k]? ≠ some (.cells cur 34 fr)) → W.heap[k]? = w.heap[k]?
  low : ∀ k, k < g → W.heap[k]? = w.heap[k]?
theorem LM.trans {g : Nat} {a b c : World} (h : LM g a b) (k : LM g b c) : LM g a c where
  os := k.os.trans h.os
  tape := k.tape.trans h.tape
  output := k.output.trans h.output
  size := Nat.le_trans h.size k.size
  block := fun i hi hg hn hm => by
    have h1 := h.block i hi hg hn hm
    exact (k.block i (Nat.lt_of_lt_of_le hi h.size) hg (by rw [h1]; exact hn) (by rw [h1]; exact hm)).trans h1
  low := fun i hi => (k.low i hi).trans (h.low i hi)
theorem LM.lk {g : Nat} {w W : World} (h : LK g w W) : LM g w W := ⟨h.os, h.tape, h.output, h.size, fun k hk hne hn _ => h.block k hk hne hn, h.low⟩
theorem LM.boxset {g : Nat} {w W : World} (h : LM g w W) (hg : g < w.heap.size) {b : Nat} (i : Nat) (u : Value) (hb : w.heap.size ≤ b) : LM g w (W.setCell ⟨b, i, none⟩ u) where
  os := h.os
  tape := h.tape
  output := h.output
  size := by simpa [World.setCell] using h.size
  block := fun k hk hne hn hm => (Below.heap_setCell _ _ _ _ (by show k ≠ b; omega)).trans (h.block k hk hne hn hm)
  low := fun k hk => (Below.heap_setCell _ _ _ _ (by show k ≠ b; omega)).trans (h.low k hk)
/-- A store into a row of entries. -/
theorem LM.ent {g b : Nat} {w : World} {cur : Array Value} {fr : Nat × Nat} (hb : w.heap[b]? = some (.cells cur 34 fr)) (hgb : g < b) (i : Nat) (u : Value) : LM g w (w.setCell ⟨b, i, none⟩ u) where
  os := rfl
  tape := rfl
  output := rfl
  size := by simp [World.setCell]
  block := fun k hk hne hn hm => Below.heap_setCell _ _ _ _ (fun e => hm cur fr (by rw [e]; exact hb))
  low := fun k hk => Below.heap_setCell _ _ _ _ (by show k ≠ b; omega)
theorem box_lm {g j : Nat} {w W : World} {cur : Array Value} {t : TypeId} {fr : Nat × Nat} (hx : w.heap[j]? = some (.cells cur t fr)) (hk : LM g w W) (hj : j ≠ g) (ht : t ≠ 130) (ht2 : t ≠ 34) : W.heap[j]? = some (.cells cur t fr) :=
  (hk.block j (box_lt hx) hj (fun cur' fr' e' => by rw [hx] at e'; injection e' with e'; injection e' with _ e' _; exact ht e') (fun cur' fr' e' => by rw [hx] at e'; injection e' with e'; injection e' with _ e' _; exact ht2 e')).trans hx
theorem Own.lm {α : Type} {c : Cod α} {e : TypeId} {w W : World} {g : Nat} {v : Value} {xs : List α} (h : Own c e w (g + 1) v xs) (hf : Flat c) (hk : LM g w W) (he : e ≠ 130) (he2 : e ≠ 34) : Own c e W (g + 1) v xs := by
  rcases h.split with ⟨rfl, rfl⟩ | ⟨b, cap, cur, rfl, hb, hh, hc⟩
  · exact Own.nil
  · exact h.same hf ((box_lm hh hk (by omega) he he2).trans hh.symm)
/-- Element k of a row of entries, and its lines. -/
theorem EnsT.at {g : Nat} {w : World} {A : Option Addr} {n cap : Nat} {xs : List EV} (h : EnsT g w (.slice A n cap) xs) (k : Nat) (hk : k < n) : ∃ (b : Nat) (x : EV) (ls : List Ln) (cur : Array Value), A = some ⟨b, 0, none⟩ ∧ g < b ∧ w.heap[b]? = some (.cells cur 34 (0, 0)) ∧ w.cell? ⟨b, k * 4, none⟩ = some (.int .i64 x.day) ∧ w.cell? ⟨b, k * 4 + 1, none⟩ = some (.int .i64 x.ref) ∧ w.cell? ⟨b, k * 4 + 2, none⟩ = some (.string x.text) ∧ w.cell? ⟨b, k * 4 + 3, none⟩ = some (.slice x.a x.n x.cap) ∧ x.text.size ≤ 140737488355328 ∧ ls.length = x.n ∧ Own cLn 130 w (g + 1) (.slice x.a x.n x.cap) ls := by
  have hn := h.len
  obtain ⟨ad, cs, e, hr, hc⟩ := h.1.reads.get k (by omega)
  obtain ⟨ls, hl, ho⟩ := h.2 xs[k] (List.getElem_mem _)
  obtain ⟨rfl, hz⟩ := hr
  rcases h.1.split with ⟨hv, -⟩ | ⟨b, cap', cur, hv, hb, hh, -⟩
  · injection hv
    omega
  · injection hv with hA
    subst hA
    injection e with e
    subst e
    have h0 := hc 0 _ rfl
    have h1 := hc 1 _ rfl
    have h2 := hc 2 _ rfl
    have h3 := hc 3 _ rfl
    simp only [add_base] at h0 h1 h2 h3
    exact ⟨b, xs[k], ls, cur, rfl, by omega, hh, h0, h1, h2, h3, hz, hl, ho⟩
/-- An element stored. -/
theorem EnsT.store {g b n cap : Nat} {w : World} {xs : List EV} (h : EnsT g w (.slice (some ⟨b, 0, none⟩) n cap) xs) (k : Nat) (hk : k < n) (x : EV) (hz : x.text.size ≤ 140737488355328) (hx : ∃ ls : List Ln, ls.length = x.n ∧ Own cLn 130 w (g + 1) (.slice x.a x.n x.cap) ls) :
    EnsT g ((((w.setCell ⟨b, k * 4, none⟩ (.int .i64 x.day)).setCell ⟨b, k * 4 + 1, none⟩ (.int .i64 x.ref)).setCell ⟨b, k * 4 + 2, none⟩ (.string x.text)).setCell ⟨b, k * 4 + 3, none⟩ (.slice x.a x.n x.cap)) (.slice (some ⟨b, 0, none⟩) n cap) (xs.set k x) ∧ LM g w ((((w.setCell ⟨b, k * 4, none⟩ (.int .i64 x.day)).setCell ⟨b, k * 4 + 1, none⟩ (.int .i64 x.ref)).setCell ⟨b, k * 4 + 2, none⟩ (.string x.text)).setCell ⟨b, k * 4 + 3, none⟩ (.slice x.a x.n x.cap)) := by
  have hn := h.len
  obtain ⟨cur, hb⟩ := h.1.type
  have hgb : g < b := by have := (h.1.lt b rfl).1; omega
  have ho : OwnS (fun _ => False) cEV 34 w (g + 1) (.slice (some ⟨b, 0, none⟩) n cap) xs := by
    obtain ⟨ds, h1, h2⟩ := h.1
    exact ⟨ds, h1, h2.imp (fun _ _ h => h)⟩
  obtain ⟨h1, h2⟩ := ho.store4 rfl k (by omega) (.int .i64 x.day) (.int .i64 x.ref) (.string x.text) (.slice x.a x.n x.cap) x (fun h => h) ⟨rfl, hz⟩
  have key : ∀ y : EV, (∃ ls : List Ln, ls.length = y.n ∧ Own cLn 130 w (g + 1) (.slice y.a y.n y.cap) ls) → ∃ ls : List Ln, ls.length = y.n ∧ Own cLn 130 ((((w.setCell ⟨b, k * 4, none⟩ (.int .i64 x.day)).setCell ⟨b, k * 4 + 1, none⟩ (.int .i64 x.ref)).setCell ⟨b, k * 4 + 2, none⟩ (.string x.text)).setCell ⟨b, k * 4 + 3, none⟩ (.slice x.a x.n x.cap)) (g + 1) (.slice y.a y.n y.cap) ls := fun y hy => by
    obtain ⟨ls, hl, ho⟩ := hy
    exact ⟨ls, hl, ho.kept flatLn h2 (fun j hj => by cases hj; exact ho.ne hb (by decide))⟩
  refine ⟨⟨h1.own, fun y hy => ?_⟩, ?_⟩
  · rcases List.mem_or_eq_of_mem_set hy with hy | rfl
    · exact key y (h.2 y hy)
    · exact key _ hx
  · have hne : ∀ (W : World) (k' : Nat) (u : Value), (∃ cur, W.heap[b]? = some (.cells cur 34 (0, 0))) → (∃ cur, (W.setCell ⟨b, k', none⟩ u).heap[b]? = some (.cells cur 34 (0, 0))) := fun W k' u ⟨cur, hW⟩ => ⟨_, heap_setCell_same _ _ k' _ _ _ hW⟩
    have s0 := LM.ent hb hgb (k * 4) (.int .i64 x.day)
    obtain ⟨c1, q1⟩ := hne w (k * 4) (.int .i64 x.day) ⟨cur, hb⟩
    obtain ⟨c2, q2⟩ := hne _ (k * 4 + 1) (.int .i64 x.ref) ⟨c1, q1⟩
    obtain ⟨c3, q3⟩ := hne _ (k * 4 + 2) (.string x.text) ⟨c2, q2⟩
    exact ((s0.trans (LM.ent q1 hgb (k * 4 + 1) (.int .i64 x.ref))).trans (LM.ent q2 hgb (k * 4 + 2) (.string x.text))).trans (LM.ent q3 hgb (k * 4 + 3) (.slice x.a x.n x.cap))
/-- A ledger that is being spoiled: its box, the result's box, its entries. -/
structure SlS (g : Nat) (w wq : World) (A : Option Addr) (n cap : Nat) (h : Int) (xs : List EV) : Prop where
  x3 : wq.heap[w.heap.size]? = some (.cells #[.slice A n cap, .int .i64 h] 29 (0, 0))
  x4 : wq.heap[w.heap.size + 1]? = some (.cells #[.slice none 0 0, .int .i64 0] 29 (0, 0))
  cur : Cur wq g
  lm : LM g w wq
  ens : EnsT g wq (.slice A n cap) xs
theorem SlS.dr {g : Nat} {w wq w1 : World} {A : Option Addr} {n cap : Nat} {h : Int} {xs : List EV} (s : SlS g w wq A n cap h xs) (hg : g < w.heap.size) (hd : Dr g wq w1) : SlS g w w1 A n cap h xs where
  x3 := box_gro s.x3 (by omega) hd.2
  x4 := box_gro s.x4 (by omega) hd.2
  cur := hd.1
  lm := s.lm.trans (LM.lk (LK.gro hd.2 s.cur.lt))
  ens := s.ens.dr s.cur.lt hd.2
theorem SlS.put {g : Nat} {w wq : World} {A : Option Addr} {n cap : Nat} {h : Int} {xs : List EV} (s : SlS g w wq A n cap h xs) (hg : g < w.heap.size) (y : Int) : SlS g w (wq.setCell ⟨w.heap.size, 1, none⟩ (.int .i64 y)) A n cap y xs where
  x3 := heap_setCell_same _ _ 1 _ _ _ s.x3
  x4 := (heap_setCell_other _ _ _ _ (by show w.heap.size + 1 ≠ w.heap.size; omega)).trans s.x4
  cur := s.cur.set _ (by show g < w.heap.size; omega)
  lm := s.lm.boxset hg 1 _ (Nat.le_refl _)
  ens := s.ens.setB s.x3 (by decide) (by decide) 1 _
theorem SlS.last {g : Nat} {w wq : World} {A : Option Addr} {n cap : Nat} {h : Int} {xs : List EV} (s : SlS g w wq A n cap h xs) (hg : g < w.heap.size) (u0 u1 : Value) :
    EnsT g ((wq.setCell ⟨w.heap.size + 1, 0, none⟩ u0).setCell ⟨w.heap.size + 1, 1, none⟩ u1) (.slice A n cap) xs ∧ Cur ((wq.setCell ⟨w.heap.size + 1, 0, none⟩ u0).setCell ⟨w.heap.size + 1, 1, none⟩ u1) g ∧ LM g w ((wq.setCell ⟨w.heap.size + 1, 0, none⟩ u0).setCell ⟨w.heap.size + 1, 1, none⟩ u1) := by
  have k7 : (wq.setCell ⟨w.heap.size + 1, 0, none⟩ u0).heap[w.heap.size + 1]? = some (.cells #[u0, .int .i64 0] 29 (0, 0)) := heap_setCell_same _ _ 0 _ _ _ s.x4
  have hb : g < w.heap.size + 1 := by omega
  exact ⟨(s.ens.setB s.x4 (by decide) (by decide) 0 u0).setB k7 (by decide) (by decide) 1 u1, (s.cur.set _ hb).set _ hb, (s.lm.boxset hg 0 u0 (by omega)).boxset hg 1 u1 (by omega)⟩
/-- An entry spoiled, and stored. -/
theorem SlS.ent {g b n cap k : Nat} {w wq w2 : World} {h : Int} {xs : List EV} (s : SlS g w wq (some ⟨b, 0, none⟩) n cap h xs) (hg : g < w.heap.size) (hk : k < n) (hc : Cur w2 g) (hlk : LK g wq w2) (x : EV) (hz : x.text.size ≤ 140737488355328) (hx : ∃ ls : List Ln, ls.length = x.n ∧ Own cLn 130 w2 (g + 1) (.slice x.a x.n x.cap) ls) :
    SlS g w ((((w2.setCell ⟨b, k * 4, none⟩ (.int .i64 x.day)).setCell ⟨b, k * 4 + 1, none⟩ (.int .i64 x.ref)).setCell ⟨b, k * 4 + 2, none⟩ (.string x.text)).setCell ⟨b, k * 4 + 3, none⟩ (.slice x.a x.n x.cap)) (some ⟨b, 0, none⟩) n cap h (xs.set k x) := by
  obtain ⟨h1, h2⟩ := (s.ens.lk hlk).store k hk x hz hx
  have hgb : g < b := by have := (s.ens.1.lt b rfl).1; omega
  exact ⟨box_lm (box_lk s.x3 hlk (by omega) (by decide)) h2 (by omega) (by decide) (by decide), box_lm (box_lk s.x4 hlk (by omega) (by decide)) h2 (by omega) (by decide) (by decide), ((((hc.set _ hgb).set _ hgb).set _ hgb).set _ hgb), (s.lm.trans (LM.lk hlk)).trans h2, h1⟩
set_option linter.unusedSimpArgs false in
set_option maxRecDepth 100000 in
set_option maxHeartbeats 4000000 in
theorem l5SpoilLedger_c (A : Option Addr) (n cap : Nat) (h : Int) (xs : List EV) (g : Nat) (w : World) (hc : Cur w g) (he : EnsT g w (.slice A n cap) xs) :
    Calls Try.prog 71 #[.pointer (some ⟨g, 0, none⟩), .agg #[.slice A n cap, .int .i64 h]] w fun e w' => (∃ (h' : Int) (xs' : List EV), e = .returned (.agg #[.slice A n cap, .int .i64 h']) ∧ EnsT g w' (.slice A n cap) xs') ∧ Cur w' g ∧ LM g w w' := by
  have hg := hc.lt
  go_enter Try.func71, Try.ntmps71
  go_upto_region 1 with (fail)
  obtain ⟨W0, hW0, hst⟩ : ∃ W0 : World, W0 = (w.alloc (.cells #[.slice A n cap, .int .i64 h] 29)).alloc (.cells #[.slice none 0 0, .int .i64 0] 29) ∧ SlS g w W0 A n cap h xs := ⟨_, rfl, new_box2a _ _ _, new_box2b _ _ _, hc.to, LM.lk (LK.gro (g := g) inferInstance hg), he.dr hg inferInstance⟩
  rw [← hW0]
  have HS := Lib.hid hst
  clear hW0 hst
  go_upto_if 7 with ((go_at_call 101; refine (l1Once_c _ g _ HS.out.cur).mono ?_; rintro e w2 ⟨⟨bo, rfl⟩, hd⟩; have HS := Lib.hid (HS.out.dr hg hd); clear hd; have c0 := (box_cell HS.out.x3 0).trans rfl; have c1 := (box_cell HS.out.x3 1).trans rfl; have f1 := box_free HS.out.x3 1))
  go_cut [] (fun wc => ∃ h : Int, SlS g w wc A n cap h xs)
  case first =>
    cases bo
    · go_wp2
      go_meet
      exact ⟨h, HS.out⟩
    · go_upto_region 2 with (fail)
      refine wp_region_held_drew (S := fun _ => True) (by kernel_rfl) trivial (fun hHeld => ?_)
      first
        | (refine wpAnyH_take (i := 0) (v := undef) rfl (by kernel_rfl) (by kernel_rfl) (by kernel_rfl) (fun _ _ _ h => h) (Or.inr ⟨by rfl, rfl⟩) (by assumption) ?_)
        | (refine wpAnyH_take (i := 0) (v := ?_) rfl (by kernel_rfl) (by kernel_rfl) (by kernel_rfl) (fun _ _ _ h => h) (Or.inl ⟨by rfl, ?_⟩) (by assumption) ?_; rotate_left; (intro wH hSw; (try dsimp only at hSw); go_simp; try with_reducible rfl))
      try simp only [Act.put, List.setIfInBounds_toArray, List.set_cons_zero, List.set_cons_succ, List.getElem_toArray, List.getElem_cons_zero, List.getElem_cons_succ]
      first
        | (refine wpAnyH_take (i := 2) (v := undef) rfl (by kernel_rfl) (by kernel_rfl) (by kernel_rfl) (fun _ _ _ h => h) (Or.inr ⟨by rfl, rfl⟩) (by assumption) ?_)
        | (refine wpAnyH_take (i := 2) (v := ?_) rfl (by kernel_rfl) (by kernel_rfl) (by kernel_rfl) (fun _ _ _ h => h) (Or.inl ⟨by rfl, ?_⟩) (by assumption) ?_; rotate_left; (intro wH hSw; (try dsimp only at hSw); go_simp; try with_reducible rfl))
      try simp only [Act.put, List.setIfInBounds_toArray, List.set_cons_zero, List.set_cons_succ, List.getElem_toArray, List.getElem_cons_zero, List.getElem_cons_succ]
      first
        | (refine wpAnyH_take (i := 3) (v := undef) rfl (by kernel_rfl) (by kernel_rfl) (by kernel_rfl) (fun _ _ _ h => h) (Or.inr ⟨by rfl, rfl⟩) (by assumption) ?_)
        | (refine wpAnyH_take (i := 3) (v := ?_) rfl (by kernel_rfl) (by kernel_rfl) (by kernel_rfl) (fun _ _ _ h => h) (Or.inl ⟨by rfl, ?_⟩) (by assumption) ?_; rotate_left; (intro wH hSw; (try dsimp only at hSw); go_simp; try with_reducible rfl))
      try simp only [Act.put, List.setIfInBounds_toArray, List.set_cons_zero, List.set_cons_succ, List.getElem_toArray, List.getElem_cons_zero, List.getElem_cons_succ]
      have HS0 := HS
      refine wpAnyH_ready (rs := [1, 4]) (by kernel_rfl) (by simp) ?_
      refine AllReadyH.cons rfl (fun K hK => ?_) (AllReadyH.cons rfl (fun K hK => ?_) AllReadyH.nil)
      · go_simp
        refine hK.out _ _ trivial (fun hHeld => ?_)
        clear hK K
        try simp only [Act.put, List.setIfInBounds_toArray, List.set_cons_zero, List.set_cons_succ, List.getElem_toArray, List.getElem_cons_zero, List.getElem_cons_succ]
        refine wpAnyH_ready (rs := [4]) (by kernel_rfl) (by simp) ?_
        refine AllReadyH.cons rfl (fun K hK => ?_) AllReadyH.nil
        go_simp
        skip
        refine hK.out _ _ (by (try dsimp only); first | done | exact trivial) (fun hHeld => ?_)
        clear hK K
        try simp only [Act.put, List.setIfInBounds_toArray, List.set_cons_zero, List.set_cons_succ, List.getElem_toArray, List.getElem_cons_zero, List.getElem_cons_succ]
        first
          | (refine wpAnyH_take (i := 5) (v := undef) rfl (by kernel_rfl) (by kernel_rfl) (by kernel_rfl) (fun _ _ _ h => h) (Or.inr ⟨by rfl, rfl⟩) (by assumption) ?_)
          | (refine wpAnyH_take (i := 5) (v := ?_) rfl (by kernel_rfl) (by kernel_rfl) (by kernel_rfl) (fun _ _ _ h => h) (Or.inl ⟨by rfl, ?_⟩) (by assumption) ?_; rotate_left; (intro wH hSw; (try dsimp only at hSw); go_simp; try with_reducible rfl))
        try simp only [Act.put, List.setIfInBounds_toArray, List.set_cons_zero, List.set_cons_succ, List.getElem_toArray, List.getElem_cons_zero, List.getElem_cons_succ]
        refine wpAnyH_ready (rs := [6]) (by kernel_rfl) (by simp) ?_
        refine AllReadyH.cons rfl (fun K hK => ?_) AllReadyH.nil
        go_simp
        skip
        refine hK.out _ _ (by (try dsimp only); first | done | exact trivial) (fun hHeld => ?_)
        clear hK K
        try simp only [Act.put, List.setIfInBounds_toArray, List.set_cons_zero, List.set_cons_succ, List.getElem_toArray, List.getElem_cons_zero, List.getElem_cons_succ]
        refine wpAnyH_ready (rs := [7]) (by kernel_rfl) (by simp) ?_
        refine AllReadyH.cons rfl (fun K hK => ?_) AllReadyH.nil
        go_simp
        (go_at_call 102; refine (l1PickInt_c _ _ [1, IntKind.i64.wrap (-h)] g _ HS0.out.cur.to (show Sl cInt (w2.alloc (.cells #[.int .i64 1, .int .i64 (IntKind.i64.wrap (-h))] 3)) (fun k => w2.heap.size ≤ k) (some ⟨w2.heap.size, 0, none⟩) [1, IntKind.i64.wrap (-h)] from lit_int _ _ [1, IntKind.i64.wrap (-h)] (by simp)).to (fun k hk => Nat.ne_of_gt (Nat.lt_of_lt_of_le HS0.out.cur.lt hk)) (by simp)).mono ?_; rintro e w4 ⟨⟨y, rfl⟩, hd⟩; have HS := Lib.hid (HS0.out.dr hg ⟨hd.1, Gro.trans inferInstance hd.2⟩); have c0 := (box_cell HS.out.x3 0).trans rfl; have c1 := (box_cell HS.out.x3 1).trans rfl; have f1 := box_free HS.out.x3 1)
        refine hK.out _ _ (by (try dsimp only); first | done | exact trivial) (fun hHeld => ?_)
        clear hK K
        try simp only [Act.put, List.setIfInBounds_toArray, List.set_cons_zero, List.set_cons_succ, List.getElem_toArray, List.getElem_cons_zero, List.getElem_cons_succ]
        first
          | (refine wpAnyH_take (i := 8) (v := undef) rfl (by kernel_rfl) (by kernel_rfl) (by kernel_rfl) (fun _ _ _ h => h) (Or.inr ⟨by rfl, rfl⟩) (by assumption) ?_)
          | (refine wpAnyH_take (i := 8) (v := ?_) rfl (by kernel_rfl) (by kernel_rfl) (by kernel_rfl) (fun _ _ _ h => h) (Or.inl ⟨by rfl, ?_⟩) (by assumption) ?_; rotate_left; (intro wH hSw; (try dsimp only at hSw); go_simp; try with_reducible rfl))
        try simp only [Act.put, List.setIfInBounds_toArray, List.set_cons_zero, List.set_cons_succ, List.getElem_toArray, List.getElem_cons_zero, List.getElem_cons_succ]
        first
          | (refine wpAnyH_take (i := 9) (v := undef) rfl (by kernel_rfl) (by kernel_rfl) (by kernel_rfl) (fun _ _ _ h => h) (Or.inr ⟨by rfl, rfl⟩) (by assumption) ?_)
          | (refine wpAnyH_take (i := 9) (v := ?_) rfl (by kernel_rfl) (by kernel_rfl) (by kernel_rfl) (fun _ _ _ h => h) (Or.inl ⟨by rfl, ?_⟩) (by assumption) ?_; rotate_left; (intro wH hSw; (try dsimp only at hSw); go_simp; try with_reducible rfl))
        try simp only [Act.put, List.setIfInBounds_toArray, List.set_cons_zero, List.set_cons_succ, List.getElem_toArray, List.getElem_cons_zero, List.getElem_cons_succ]
        refine wpAnyH_ready (rs := [10]) (by kernel_rfl) (by simp) ?_
        refine AllReadyH.cons rfl (fun K hK => ?_) AllReadyH.nil
        go_simp
        skip
        refine hK.out _ _ (by (try dsimp only); first | done | exact trivial) (fun hHeld => ?_)
        clear hK K
        try simp only [Act.put, List.setIfInBounds_toArray, List.set_cons_zero, List.set_cons_succ, List.getElem_toArray, List.getElem_cons_zero, List.getElem_cons_succ]
        refine wpAnyH_done (by kernel_rfl) ?_ _
        go_wp2
        go_meet
        exact ⟨_, HS.out.put hg _⟩
      · go_simp
        refine hK.out _ _ trivial (fun hHeld => ?_)
        clear hK K
        try simp only [Act.put, List.setIfInBounds_toArray, List.set_cons_zero, List.set_cons_succ, List.getElem_toArray, List.getElem_cons_zero, List.getElem_cons_succ]
        first
          | (refine wpAnyH_take (i := 5) (v := undef) rfl (by kernel_rfl) (by kernel_rfl) (by kernel_rfl) (fun _ _ _ h => h) (Or.inr ⟨by rfl, rfl⟩) (by assumption) ?_)
          | (refine wpAnyH_take (i := 5) (v := ?_) rfl (by kernel_rfl) (by kernel_rfl) (by kernel_rfl) (fun _ _ _ h => h) (Or.inl ⟨by rfl, ?_⟩) (by assumption) ?_; rotate_left; (intro wH hSw; (try dsimp only at hSw); go_simp; try with_reducible rfl))
        try simp only [Act.put, List.setIfInBounds_toArray, List.set_cons_zero, List.set_cons_succ, List.getElem_toArray, List.getElem_cons_zero, List.getElem_cons_succ]
        refine wpAnyH_ready (rs := [1, 6]) (by kernel_rfl) (by simp) ?_
        refine AllReadyH.cons rfl (fun K hK => ?_) (AllReadyH.cons rfl (fun K hK => ?_) AllReadyH.nil)
        · go_simp
          refine hK.out _ _ trivial (fun hHeld => ?_)
          clear hK K
          try simp only [Act.put, List.setIfInBounds_toArray, List.set_cons_zero, List.set_cons_succ, List.getElem_toArray, List.getElem_cons_zero, List.getElem_cons_succ]
          refine wpAnyH_ready (rs := [6]) (by kernel_rfl) (by simp) ?_
          refine AllReadyH.cons rfl (fun K hK => ?_) AllReadyH.nil
          go_simp
          skip
          refine hK.out _ _ (by (try dsimp only); first | done | exact trivial) (fun hHeld => ?_)
          clear hK K
          try simp only [Act.put, List.setIfInBounds_toArray, List.set_cons_zero, List.set_cons_succ, List.getElem_toArray, List.getElem_cons_zero, List.getElem_cons_succ]
          refine wpAnyH_ready (rs := [7]) (by kernel_rfl) (by simp) ?_
          refine AllReadyH.cons rfl (fun K hK => ?_) AllReadyH.nil
          go_simp
          (go_at_call 102; refine (l1PickInt_c _ _ [1, IntKind.i64.wrap (-h)] g _ HS0.out.cur.to (show Sl cInt (w2.alloc (.cells #[.int .i64 1, .int .i64 (IntKind.i64.wrap (-h))] 3)) (fun k => w2.heap.size ≤ k) (some ⟨w2.heap.size, 0, none⟩) [1, IntKind.i64.wrap (-h)] from lit_int _ _ [1, IntKind.i64.wrap (-h)] (by simp)).to (fun k hk => Nat.ne_of_gt (Nat.lt_of_lt_of_le HS0.out.cur.lt hk)) (by simp)).mono ?_; rintro e w4 ⟨⟨y, rfl⟩, hd⟩; have HS := Lib.hid (HS0.out.dr hg ⟨hd.1, Gro.trans inferInstance hd.2⟩); have c0 := (box_cell HS.out.x3 0).trans rfl; have c1 := (box_cell HS.out.x3 1).trans rfl; have f1 := box_free HS.out.x3 1)
          refine hK.out _ _ (by (try dsimp only); first | done | exact trivial) (fun hHeld => ?_)
          clear hK K
          try simp only [Act.put, List.setIfInBounds_toArray, List.set_cons_zero, List.set_cons_succ, List.getElem_toArray, List.getElem_cons_zero, List.getElem_cons_succ]
          first
            | (refine wpAnyH_take (i := 8) (v := undef) rfl (by kernel_rfl) (by kernel_rfl) (by kernel_rfl) (fun _ _ _ h => h) (Or.inr ⟨by rfl, rfl⟩) (by assumption) ?_)
            | (refine wpAnyH_take (i := 8) (v := ?_) rfl (by kernel_rfl) (by kernel_rfl) (by kernel_rfl) (fun _ _ _ h => h) (Or.inl ⟨by rfl, ?_⟩) (by assumption) ?_; rotate_left; (intro wH hSw; (try dsimp only at hSw); go_simp; try with_reducible rfl))
          try simp only [Act.put, List.setIfInBounds_toArray, List.set_cons_zero, List.set_cons_succ, List.getElem_toArray, List.getElem_cons_zero, List.getElem_cons_succ]
          first
            | (refine wpAnyH_take (i := 9) (v := undef) rfl (by kernel_rfl) (by kernel_rfl) (by kernel_rfl) (fun _ _ _ h => h) (Or.inr ⟨by rfl, rfl⟩) (by assumption) ?_)
            | (refine wpAnyH_take (i := 9) (v := ?_) rfl (by kernel_rfl) (by kernel_rfl) (by kernel_rfl) (fun _ _ _ h => h) (Or.inl ⟨by rfl, ?_⟩) (by assumption) ?_; rotate_left; (intro wH hSw; (try dsimp only at hSw); go_simp; try with_reducible rfl))
          try simp only [Act.put, List.setIfInBounds_toArray, List.set_cons_zero, List.set_cons_succ, List.getElem_toArray, List.getElem_cons_zero, List.getElem_cons_succ]
          refine wpAnyH_ready (rs := [10]) (by kernel_rfl) (by simp) ?_
          refine AllReadyH.cons rfl (fun K hK => ?_) AllReadyH.nil
          go_simp
          skip
          refine hK.out _ _ (by (try dsimp only); first | done | exact trivial) (fun hHeld => ?_)
          clear hK K
          try simp only [Act.put, List.setIfInBounds_toArray, List.set_cons_zero, List.set_cons_succ, List.getElem_toArray, List.getElem_cons_zero, List.getElem_cons_succ]
          refine wpAnyH_done (by kernel_rfl) ?_ _
          go_wp2
          go_meet
          exact ⟨_, HS.out.put hg _⟩
        · go_simp
          refine hK.out _ _ trivial (fun hHeld => ?_)
          clear hK K
          try simp only [Act.put, List.setIfInBounds_toArray, List.set_cons_zero, List.set_cons_succ, List.getElem_toArray, List.getElem_cons_zero, List.getElem_cons_succ]
          have c1 := (box_cell (box_al (o' := .cells #[.int .i64 1, .int .i64 (IntKind.i64.wrap (-h))] 3) HS.out.x3) 1).trans rfl
          refine wpAnyH_ready (rs := [1, 7]) (by kernel_rfl) (by simp) ?_
          refine AllReadyH.cons rfl (fun K hK => ?_) (AllReadyH.cons rfl (fun K hK => ?_) AllReadyH.nil)
          · go_simp
            refine hK.out _ _ trivial (fun hHeld => ?_)
            clear hK K
            try simp only [Act.put, List.setIfInBounds_toArray, List.set_cons_zero, List.set_cons_succ, List.getElem_toArray, List.getElem_cons_zero, List.getElem_cons_succ]
            refine wpAnyH_ready (rs := [7]) (by kernel_rfl) (by simp) ?_
            refine AllReadyH.cons rfl (fun K hK => ?_) AllReadyH.nil
            go_simp
            (go_at_call 102; refine (l1PickInt_c _ _ [1, IntKind.i64.wrap (-h)] g _ HS0.out.cur.to (show Sl cInt (w2.alloc (.cells #[.int .i64 1, .int .i64 (IntKind.i64.wrap (-h))] 3)) (fun k => w2.heap.size ≤ k) (some ⟨w2.heap.size, 0, none⟩) [1, IntKind.i64.wrap (-h)] from lit_int _ _ [1, IntKind.i64.wrap (-h)] (by simp)).to (fun k hk => Nat.ne_of_gt (Nat.lt_of_lt_of_le HS0.out.cur.lt hk)) (by simp)).mono ?_; rintro e w4 ⟨⟨y, rfl⟩, hd⟩; have HS := Lib.hid (HS0.out.dr hg ⟨hd.1, Gro.trans inferInstance hd.2⟩); have c0 := (box_cell HS.out.x3 0).trans rfl; have c1 := (box_cell HS.out.x3 1).trans rfl; have f1 := box_free HS.out.x3 1)
            refine hK.out _ _ (by (try dsimp only); first | done | exact trivial) (fun hHeld => ?_)
            clear hK K
            try simp only [Act.put, List.setIfInBounds_toArray, List.set_cons_zero, List.set_cons_succ, List.getElem_toArray, List.getElem_cons_zero, List.getElem_cons_succ]
            first
              | (refine wpAnyH_take (i := 8) (v := undef) rfl (by kernel_rfl) (by kernel_rfl) (by kernel_rfl) (fun _ _ _ h => h) (Or.inr ⟨by rfl, rfl⟩) (by assumption) ?_)
              | (refine wpAnyH_take (i := 8) (v := ?_) rfl (by kernel_rfl) (by kernel_rfl) (by kernel_rfl) (fun _ _ _ h => h) (Or.inl ⟨by rfl, ?_⟩) (by assumption) ?_; rotate_left; (intro wH hSw; (try dsimp only at hSw); go_simp; try with_reducible rfl))
            try simp only [Act.put, List.setIfInBounds_toArray, List.set_cons_zero, List.set_cons_succ, List.getElem_toArray, List.getElem_cons_zero, List.getElem_cons_succ]
            first
              | (refine wpAnyH_take (i := 9) (v := undef) rfl (by kernel_rfl) (by kernel_rfl) (by kernel_rfl) (fun _ _ _ h => h) (Or.inr ⟨by rfl, rfl⟩) (by assumption) ?_)
              | (refine wpAnyH_take (i := 9) (v := ?_) rfl (by kernel_rfl) (by kernel_rfl) (by kernel_rfl) (fun _ _ _ h => h) (Or.inl ⟨by rfl, ?_⟩) (by assumption) ?_; rotate_left; (intro wH hSw; (try dsimp only at hSw); go_simp; try with_reducible rfl))
            try simp only [Act.put, List.setIfInBounds_toArray, List.set_cons_zero, List.set_cons_succ, List.getElem_toArray, List.getElem_cons_zero, List.getElem_cons_succ]
            refine wpAnyH_ready (rs := [10]) (by kernel_rfl) (by simp) ?_
            refine AllReadyH.cons rfl (fun K hK => ?_) AllReadyH.nil
            go_simp
            skip
            refine hK.out _ _ (by (try dsimp only); first | done | exact trivial) (fun hHeld => ?_)
            clear hK K
            try simp only [Act.put, List.setIfInBounds_toArray, List.set_cons_zero, List.set_cons_succ, List.getElem_toArray, List.getElem_cons_zero, List.getElem_cons_succ]
            refine wpAnyH_done (by kernel_rfl) ?_ _
            go_wp2
            go_meet
            exact ⟨_, HS.out.put hg _⟩
          · go_simp
            (go_at_call 102; refine (l1PickInt_c _ _ [1, IntKind.i64.wrap (-h)] g _ HS0.out.cur.to (show Sl cInt (w2.alloc (.cells #[.int .i64 1, .int .i64 (IntKind.i64.wrap (-h))] 3)) (fun k => w2.heap.size ≤ k) (some ⟨w2.heap.size, 0, none⟩) [1, IntKind.i64.wrap (-h)] from lit_int _ _ [1, IntKind.i64.wrap (-h)] (by simp)).to (fun k hk => Nat.ne_of_gt (Nat.lt_of_lt_of_le HS0.out.cur.lt hk)) (by simp)).mono ?_; rintro e w4 ⟨⟨y, rfl⟩, hd⟩; have HS := Lib.hid (HS0.out.dr hg ⟨hd.1, Gro.trans inferInstance hd.2⟩); have c0 := (box_cell HS.out.x3 0).trans rfl; have c1 := (box_cell HS.out.x3 1).trans rfl; have f1 := box_free HS.out.x3 1)
            refine hK.out _ _ trivial (fun hHeld => ?_)
            clear hK K
            try simp only [Act.put, List.setIfInBounds_toArray, List.set_cons_zero, List.set_cons_succ, List.getElem_toArray, List.getElem_cons_zero, List.getElem_cons_succ]
            refine wpAnyH_ready (rs := [1]) (by kernel_rfl) (by simp) ?_
            refine AllReadyH.cons rfl (fun K hK => ?_) AllReadyH.nil
            go_simp
            skip
            refine hK.out _ _ (by (try dsimp only); first | done | exact trivial) (fun hHeld => ?_)
            clear hK K
            try simp only [Act.put, List.setIfInBounds_toArray, List.set_cons_zero, List.set_cons_succ, List.getElem_toArray, List.getElem_cons_zero, List.getElem_cons_succ]
            first
              | (refine wpAnyH_take (i := 8) (v := undef) rfl (by kernel_rfl) (by kernel_rfl) (by kernel_rfl) (fun _ _ _ h => h) (Or.inr ⟨by rfl, rfl⟩) (by assumption) ?_)
              | (refine wpAnyH_take (i := 8) (v := ?_) rfl (by kernel_rfl) (by kernel_rfl) (by kernel_rfl) (fun _ _ _ h => h) (Or.inl ⟨by rfl, ?_⟩) (by assumption) ?_; rotate_left; (intro wH hSw; (try dsimp only at hSw); go_simp; try with_reducible rfl))
            try simp only [Act.put, List.setIfInBounds_toArray, List.set_cons_zero, List.set_cons_succ, List.getElem_toArray, List.getElem_cons_zero, List.getElem_cons_succ]
            first
              | (refine wpAnyH_take (i := 9) (v := undef) rfl (by kernel_rfl) (by kernel_rfl) (by kernel_rfl) (fun _ _ _ h => h) (Or.inr ⟨by rfl, rfl⟩) (by assumption) ?_)
              | (refine wpAnyH_take (i := 9) (v := ?_) rfl (by kernel_rfl) (by kernel_rfl) (by kernel_rfl) (fun _ _ _ h => h) (Or.inl ⟨by rfl, ?_⟩) (by assumption) ?_; rotate_left; (intro wH hSw; (try dsimp only at hSw); go_simp; try with_reducible rfl))
            try simp only [Act.put, List.setIfInBounds_toArray, List.set_cons_zero, List.set_cons_succ, List.getElem_toArray, List.getElem_cons_zero, List.getElem_cons_succ]
            refine wpAnyH_ready (rs := [10]) (by kernel_rfl) (by simp) ?_
            refine AllReadyH.cons rfl (fun K hK => ?_) AllReadyH.nil
            go_simp
            skip
            refine hK.out _ _ (by (try dsimp only); first | done | exact trivial) (fun hHeld => ?_)
            clear hK K
            try simp only [Act.put, List.setIfInBounds_toArray, List.set_cons_zero, List.set_cons_succ, List.getElem_toArray, List.getElem_cons_zero, List.getElem_cons_succ]
            refine wpAnyH_done (by kernel_rfl) ?_ _
            go_wp2
            go_meet
            exact ⟨_, HS.out.put hg _⟩
  case rest =>
    obtain ⟨h, hst⟩ := hcut
    obtain ⟨W1, hW1⟩ : ∃ W1 : World, W1 = wc := ⟨_, rfl⟩
    rw [← hW1] at hst ⊢
    have HS := Lib.hid hst
    clear hW1 hst
    have c0 := (box_cell HS.out.x3 0).trans rfl; have c1 := (box_cell HS.out.x3 1).trans rfl; have f1 := box_free HS.out.x3 1
    go_upto_region 3 with (fail)
    go_cut [25] (fun v wc => ∃ b : Bool, v = .bool b ∧ (b = true → 0 < n) ∧ SlS g w wc A n cap h xs)
    case first =>
      go_wp2_with ((go_at_call 101; refine (l1Once_c _ g _ HS.out.cur).mono ?_; rintro e w2 ⟨⟨bo, rfl⟩, hd⟩; have HS := Lib.hid (HS.out.dr hg hd); clear hd; have c0 := (box_cell HS.out.x3 0).trans rfl; have c1 := (box_cell HS.out.x3 1).trans rfl; have f1 := box_free HS.out.x3 1))
      all_goals
        go_meet
      all_goals first
        | exact ⟨_, rfl, fun hb => by simp at hb; omega, HS.out⟩
        | exact ⟨_, rfl, fun hb => by simp at hb, HS.out⟩
    case rest =>
      obtain ⟨b', rfl, hb', hst⟩ := hcut
      obtain ⟨W2, hW2⟩ : ∃ W2 : World, W2 = wc := ⟨_, rfl⟩
      rw [← hW2] at hst ⊢
      have HS := Lib.hid hst
      clear hW2 hst
      have c0 := (box_cell HS.out.x3 0).trans rfl; have c1 := (box_cell HS.out.x3 1).trans rfl; have f1 := box_free HS.out.x3 1
      go_upto_if 25 with (fail)
      go_cut [] (fun wc => ∃ (h : Int) (xs : List EV), SlS g w wc A n cap h xs)
      case first =>
        cases b'
        · go_wp2
          go_meet
          exact ⟨_, _, HS.out⟩
        · have hn0 := hb' rfl
          go_upto_region 5 with (go_at_call 73; refine (l1Below_c _ g _ HS.out.cur).mono ?_; rintro e w2 ⟨⟨k, rfl, hk⟩, hd⟩; have HS := Lib.hid (HS.out.dr hg hd); have hk := hk (by omega); have c0 := (box_cell HS.out.x3 0).trans rfl; have c1 := (box_cell HS.out.x3 1).trans rfl; have f1 := box_free HS.out.x3 1)
          obtain ⟨b, x, ls, cur, rfl, hgb, hbh, l0, l1, l2, l3, hz, hls, hown⟩ := HS.out.ens.at k (by omega)
          have hkn : k < n := by omega
          have hnc := HS.out.ens.len.2
          refine wp_region_held_drew (S := fun wq => wq.cell? ⟨w.heap.size, 0, none⟩ = some (.slice (some ⟨b, 0, none⟩) n cap)) (by kernel_rfl) c0 (fun hHeld => ?_)
          first
            | (refine wpAnyH_take (i := 0) (v := undef) rfl (by kernel_rfl) (by kernel_rfl) (by kernel_rfl) (fun _ _ _ h => h) (Or.inr ⟨by rfl, rfl⟩) (by assumption) ?_)
            | (refine wpAnyH_take (i := 0) (v := ?_) rfl (by kernel_rfl) (by kernel_rfl) (by kernel_rfl) (fun _ _ _ h => h) (Or.inl ⟨by rfl, ?_⟩) (by assumption) ?_; rotate_left; (intro wH hSw; (try dsimp only at hSw); go_simp; try with_reducible rfl))
          try simp only [Act.put, List.setIfInBounds_toArray, List.set_cons_zero, List.set_cons_succ, List.getElem_toArray, List.getElem_cons_zero, List.getElem_cons_succ]
          first
            | (refine wpAnyH_take (i := 1) (v := undef) rfl (by kernel_rfl) (by kernel_rfl) (by kernel_rfl) (fun _ _ _ h => h) (Or.inr ⟨by rfl, rfl⟩) (by assumption) ?_)
            | (refine wpAnyH_take (i := 1) (v := ?_) rfl (by kernel_rfl) (by kernel_rfl) (by kernel_rfl) (fun _ _ _ h => h) (Or.inl ⟨by rfl, ?_⟩) (by assumption) ?_; rotate_left; (intro wH hSw; (try dsimp only at hSw); go_simp; try with_reducible rfl))
          try simp only [Act.put, List.setIfInBounds_toArray, List.set_cons_zero, List.set_cons_succ, List.getElem_toArray, List.getElem_cons_zero, List.getElem_cons_succ]
          first
            | (refine wpAnyH_take (i := 2) (v := undef) rfl (by kernel_rfl) (by kernel_rfl) (by kernel_rfl) (fun _ _ _ h => h) (Or.inr ⟨by rfl, rfl⟩) (by assumption) ?_)
            | (refine wpAnyH_take (i := 2) (v := ?_) rfl (by kernel_rfl) (by kernel_rfl) (by kernel_rfl) (fun _ _ _ h => h) (Or.inl ⟨by rfl, ?_⟩) (by assumption) ?_; rotate_left; (intro wH hSw; (try dsimp only at hSw); go_simp; try with_reducible rfl))
          try simp only [Act.put, List.setIfInBounds_toArray, List.set_cons_zero, List.set_cons_succ, List.getElem_toArray, List.getElem_cons_zero, List.getElem_cons_succ]
          first
            | (refine wpAnyH_take (i := 3) (v := undef) rfl (by kernel_rfl) (by kernel_rfl) (by kernel_rfl) (fun _ _ _ h => h) (Or.inr ⟨by rfl, rfl⟩) (by assumption) ?_)
            | (refine wpAnyH_take (i := 3) (v := ?_) rfl (by kernel_rfl) (by kernel_rfl) (by kernel_rfl) (fun _ _ _ h => h) (Or.inl ⟨by rfl, ?_⟩) (by assumption) ?_; rotate_left; (intro wH hSw; (try dsimp only at hSw); go_simp; try with_reducible rfl))
          try simp only [Act.put, List.setIfInBounds_toArray, List.set_cons_zero, List.set_cons_succ, List.getElem_toArray, List.getElem_cons_zero, List.getElem_cons_succ]
          first
            | (refine wpAnyH_take (i := 4) (v := undef) rfl (by kernel_rfl) (by kernel_rfl) (by kernel_rfl) (fun _ _ _ h => h) (Or.inr ⟨by rfl, rfl⟩) (by assumption) ?_)
            | (refine wpAnyH_take (i := 4) (v := ?_) rfl (by kernel_rfl) (by kernel_rfl) (by kernel_rfl) (fun _ _ _ h => h) (Or.inl ⟨by rfl, ?_⟩) (by assumption) ?_; rotate_left; (intro wH hSw; (try dsimp only at hSw); go_simp; try with_reducible rfl))
          try simp only [Act.put, List.setIfInBounds_toArray, List.set_cons_zero, List.set_cons_succ, List.getElem_toArray, List.getElem_cons_zero, List.getElem_cons_succ]
          first
            | (refine wpAnyH_take (i := 5) (v := undef) rfl (by kernel_rfl) (by kernel_rfl) (by kernel_rfl) (fun _ _ _ h => h) (Or.inr ⟨by rfl, rfl⟩) (by assumption) ?_)
            | (refine wpAnyH_take (i := 5) (v := ?_) rfl (by kernel_rfl) (by kernel_rfl) (by kernel_rfl) (fun _ _ _ h => h) (Or.inl ⟨by rfl, ?_⟩) (by assumption) ?_; rotate_left; (intro wH hSw; (try dsimp only at hSw); go_simp; try with_reducible rfl))
          try simp only [Act.put, List.setIfInBounds_toArray, List.set_cons_zero, List.set_cons_succ, List.getElem_toArray, List.getElem_cons_zero, List.getElem_cons_succ]
          first
            | (refine wpAnyH_take (i := 6) (v := undef) rfl (by kernel_rfl) (by kernel_rfl) (by kernel_rfl) (fun _ _ _ h => h) (Or.inr ⟨by rfl, rfl⟩) (by assumption) ?_)
            | (refine wpAnyH_take (i := 6) (v := ?_) rfl (by kernel_rfl) (by kernel_rfl) (by kernel_rfl) (fun _ _ _ h => h) (Or.inl ⟨by rfl, ?_⟩) (by assumption) ?_; rotate_left; (intro wH hSw; (try dsimp only at hSw); go_simp; try with_reducible rfl))
          try simp only [Act.put, List.setIfInBounds_toArray, List.set_cons_zero, List.set_cons_succ, List.getElem_toArray, List.getElem_cons_zero, List.getElem_cons_succ]
          first
            | (refine wpAnyH_take (i := 7) (v := undef) rfl (by kernel_rfl) (by kernel_rfl) (by kernel_rfl) (fun _ _ _ h => h) (Or.inr ⟨by rfl, rfl⟩) (by assumption) ?_)
            | (refine wpAnyH_take (i := 7) (v := ?_) rfl (by kernel_rfl) (by kernel_rfl) (by kernel_rfl) (fun _ _ _ h => h) (Or.inl ⟨by rfl, ?_⟩) (by assumption) ?_; rotate_left; (intro wH hSw; (try dsimp only at hSw); go_simp; try with_reducible rfl))
          try simp only [Act.put, List.setIfInBounds_toArray, List.set_cons_zero, List.set_cons_succ, List.getElem_toArray, List.getElem_cons_zero, List.getElem_cons_succ]
          refine wpAnyH_ready (rs := [8]) (by kernel_rfl) (by simp) ?_
          refine AllReadyH.cons rfl (fun K hK => ?_) AllReadyH.nil
          go_simp
          skip
          refine hK.out _ _ (by (try dsimp only); exact hHeld) (fun hHeld => ?_)
          clear hK K
          try simp only [Act.put, List.setIfInBounds_toArray, List.set_cons_zero, List.set_cons_succ, List.getElem_toArray, List.getElem_cons_zero, List.getElem_cons_succ]
          refine wpAnyH_ready (rs := [9]) (by kernel_rfl) (by simp) ?_
          refine AllReadyH.cons rfl (fun K hK => ?_) AllReadyH.nil
          go_simp
          (go_at_call 169; refine (l5SpoilEntry_c _ _ _ _ _ _ ls g _ HS.out.cur.to hz hown.to).mono ?_; rintro e w4 ⟨⟨y, rfl, hyz, hyl⟩, hcw, hlk⟩; have hlk2 := (LK.gro (g := g) (w := w2) (W := w2.drew) inferInstance HS.out.cur.lt).trans hlk; have HB := Lib.hid (box_lk HS.out.x3 hlk2 (by omega) (by decide)); have HN := Lib.hid (HS.out.ent hg hkn hcw hlk2 y hyz hyl))
          refine hK.out _ _ (by (try dsimp only); exact (box_cell HB.out 0).trans rfl) (fun hHeld => ?_)
          clear hK K
          try simp only [Act.put, List.setIfInBounds_toArray, List.set_cons_zero, List.set_cons_succ, List.getElem_toArray, List.getElem_cons_zero, List.getElem_cons_succ]
          first
            | (refine wpAnyH_take (i := 10) (v := undef) rfl (by kernel_rfl) (by kernel_rfl) (by kernel_rfl) (fun _ _ _ h => h) (Or.inr ⟨by rfl, rfl⟩) (by assumption) ?_)
            | (refine wpAnyH_take (i := 10) (v := ?_) rfl (by kernel_rfl) (by kernel_rfl) (by kernel_rfl) (fun _ _ _ h => h) (Or.inl ⟨by rfl, ?_⟩) (by assumption) ?_; rotate_left; (intro wH hSw; (try dsimp only at hSw); go_simp; try with_reducible rfl))
          try simp only [Act.put, List.setIfInBounds_toArray, List.set_cons_zero, List.set_cons_succ, List.getElem_toArray, List.getElem_cons_zero, List.getElem_cons_succ]
          obtain ⟨b2, x2, ls2, cur2, e2, -, -, m0, m1, m2, m3, -⟩ := (HS.out.ens.lk hlk2).at k hkn
          cases e2
          have q0 := (HS.out.ens.lk hlk2).1.free (k * 4)
          have q1 := (HS.out.ens.lk hlk2).1.free (k * 4 + 1)
          have q2 := (HS.out.ens.lk hlk2).1.free (k * 4 + 2)
          have q3 := (HS.out.ens.lk hlk2).1.free (k * 4 + 3)
          refine wpAnyH_ready (rs := [11]) (by kernel_rfl) (by simp) ?_
          refine AllReadyH.cons rfl (fun K hK => ?_) AllReadyH.nil
          go_simp
          skip
          refine hK.out _ _ (by (try dsimp only); exact (box_cell HN.out.x3 0).trans rfl) (fun hHeld => ?_)
          clear hK K
          try simp only [Act.put, List.setIfInBounds_toArray, List.set_cons_zero, List.set_cons_succ, List.getElem_toArray, List.getElem_cons_zero, List.getElem_cons_succ]
          refine wpAnyH_done (by kernel_rfl) ?_ _
          have HS := HN
          have c0 := (box_cell HS.out.x3 0).trans rfl; have c1 := (box_cell HS.out.x3 1).trans rfl; have f1 := box_free HS.out.x3 1
          clear m0 m1 m2 m3 q0 q1 q2 q3 l0 l1 l2 l3
          go_wp2_with (first | (go_at_call 101; refine (l1Once_c _ g _ HS.out.cur).mono ?_; rintro e w2 ⟨⟨bo, rfl⟩, hd⟩; have HS := Lib.hid (HS.out.dr hg hd); clear hd; have c0 := (box_cell HS.out.x3 0).trans rfl; have c1 := (box_cell HS.out.x3 1).trans rfl; have f1 := box_free HS.out.x3 1) | (go_at_call 170; go_loud (obtain ⟨es, hes, hsl⟩ := HS.out.ens.read; have hlen : es.length = n := (by have := HS.out.ens.len; omega); have hh := spec_HeadOf_c _ cap es _ hsl; rw [hlen] at hh; refine hh.mono ?_; clear hlen hes hh; rintro e w5 ⟨rfl, hb5⟩; have HS := Lib.hid (HS.out.dr hg ⟨HS.out.cur.kept (fun k hk => hb5.block k (Nat.lt_of_le_of_lt hk HS.out.cur.lt)), ⟨grown_of_below hb5 _⟩⟩); have c0 := (box_cell HS.out.x3 0).trans rfl; have c1 := (box_cell HS.out.x3 1).trans rfl; have f1 := box_free HS.out.x3 1)))
          · go_meet
            exact ⟨_, _, HS.out.put hg _⟩
          · go_meet
            exact ⟨_, _, HS.out⟩
      case rest =>
        obtain ⟨h, xs, hst⟩ := hcut
        obtain ⟨W3, hW3⟩ : ∃ W3 : World, W3 = wc := ⟨_, rfl⟩
        rw [← hW3] at hst ⊢
        have HS := Lib.hid hst
        clear hW3 hst
        have c0 := (box_cell HS.out.x3 0).trans rfl; have c1 := (box_cell HS.out.x3 1).trans rfl; have f1 := box_free HS.out.x3 1
        have d0 := (box_cell HS.out.x4 0).trans rfl
        have d1 := (box_cell HS.out.x4 1).trans rfl
        have g0 := box_free HS.out.x4 0
        have g1 := box_free HS.out.x4 1
        go_wp2
        refine bodyPost_ret (results_cell_row rfl _ _ (w.heap.size + 1) 29 #[_, _] (0, 0) _ rfl (heap_setCell_same _ _ 1 _ _ _ (heap_setCell_same _ _ 0 _ _ _ HS.out.x4)) Try.underlying29 rfl (by kernel_rfl)) rfl ?_
        have hlast := HS.out.last hg (.slice A n cap) (.int .i64 h)
        exact ⟨⟨h, xs, rfl, hlast.1⟩, hlast.2⟩
end Go.Proofs.Ythgnfpbbhiegfaa
