/- The walk of the function that spoils an entry. -/
import Derived.Test.YthgnfpbbhiegfaaDrawE
import Derived.Deep.RegionHeld3
namespace Go.Proofs.Ythgnfpbbhiegfaa
open Go.RowKit
theorem LK.boxset {g : Nat} {w W : World} (h : LK g w W) (hg : g < w.heap.size) {b : Nat} (i : Nat) (u : Value) (hb : w.heap.size ≤ b) : LK g w (W.setCell ⟨b, i, none⟩ u) where
  os := h.os
  tape := h.tape
  output := h.output
  size := by simpa [World.setCell] using h.size
  block := fun k hk hne hn => (Below.heap_setCell _ _ _ _ (by show k ≠ b; omega)).trans (h.block k hk hne hn)
  low := fun k hk => (Below.heap_setCell _ _ _ _ (by show k ≠ b; omega)).trans (h.low k hk)
  lines := fun v ls ho => by
    obtain ⟨l2, e2, h2⟩ := h.lines v ls ho
    exact ⟨l2, e2, h2.setB flatLn i u (fun e => by have := (ho.lt _ e).2; omega)⟩
/-- A row of lines does not lie in a block of another type. -/
theorem Own.ne {α : Type} {c : Cod α} {e : TypeId} {w : World} {base : Nat} {v : Value} {xs : List α} (h : Own c e w base v xs) {j : Nat} {cur : Array Value} {T : TypeId} {fr : Nat × Nat} (hj : w.heap[j]? = some (.cells cur T fr)) (hT : T ≠ e) : v.ownBlock ≠ some j := fun he => by
  rcases h.split with ⟨rfl, -⟩ | ⟨b, cap, cur', rfl, -, hh, -⟩
  · cases he
  · simp only [Value.ownBlock, Option.some.injEq] at he
    subst he
    rw [hh] at hj
    injection hj with hj
    injection hj with _ hj _
    exact hT hj.symm
/-- An entry that is being spoiled: its box, the result's box, its lines. -/
structure SpS (g : Nat) (w wq : World) (d r : Int) (t : ByteArray) (A : Option Addr) (n cap : Nat) (ls : List Ln) : Prop where
  x3 : wq.heap[w.heap.size]? = some (.cells #[.int .i64 d, .int .i64 r, .string t, .slice A n cap] 34 (0, 0))
  x4 : wq.heap[w.heap.size + 1]? = some (.cells #[.int .i64 0, .int .i64 0, .string ⟨#[]⟩, .slice none 0 0] 34 (0, 0))
  ht : t.size ≤ 140737488355328
  cur : Cur wq g
  lk : LK g w wq
  row : Own cLn 130 wq (g + 1) (.slice A n cap) ls
theorem SpS.dr {g : Nat} {w wq w1 : World} {d r : Int} {t : ByteArray} {A : Option Addr} {n cap : Nat} {ls : List Ln} (h : SpS g w wq d r t A n cap ls) (hg : g < w.heap.size) (hd : Dr g wq w1) : SpS g w w1 d r t A n cap ls where
  x3 := box_gro h.x3 (by omega) hd.2
  x4 := box_gro h.x4 (by omega) hd.2
  ht := h.ht
  cur := hd.1
  lk := h.lk.trans (LK.gro hd.2 h.cur.lt)
  row := h.row.gro flatLn hd.2 (by omega)
theorem SpS.line {g : Nat} {w wq : World} {d r : Int} {t : ByteArray} {b n cap : Nat} {ls : List Ln} (h : SpS g w wq d r t (some ⟨b, 0, none⟩) n cap ls) (hg : g < w.heap.size) (i : Nat) (y : Int) : ∃ ls' : List Ln, SpS g w (wq.setCell ⟨b, i, none⟩ (.int .i64 y)) d r t (some ⟨b, 0, none⟩) n cap ls' := by
  have hk := LK.set h.row i y
  obtain ⟨l2, -, h2⟩ := hk.lines _ _ h.row
  have hlt := (h.row.lt b rfl).1
  exact ⟨l2, box_lk h.x3 hk (by omega) (by decide), box_lk h.x4 hk (by omega) (by decide), h.ht, h.cur.set _ (by show g < b; omega), h.lk.trans hk, h2⟩
theorem SpS.put {g : Nat} {w wq : World} {d r d' r' : Int} {t t' : ByteArray} {A A' : Option Addr} {n cap n' cap' : Nat} {ls ls' : List Ln} (h : SpS g w wq d r t A n cap ls) (hg : g < w.heap.size) (i : Nat) (u : Value) (ht : t'.size ≤ 140737488355328)
    (hx : (wq.setCell ⟨w.heap.size, i, none⟩ u).heap[w.heap.size]? = some (.cells #[.int .i64 d', .int .i64 r', .string t', .slice A' n' cap'] 34 (0, 0))) (hr : Own cLn 130 wq (g + 1) (.slice A' n' cap') ls') : SpS g w (wq.setCell ⟨w.heap.size, i, none⟩ u) d' r' t' A' n' cap' ls' where
  x3 := hx
  x4 := (heap_setCell_other _ _ _ _ (by show w.heap.size + 1 ≠ w.heap.size; omega)).trans h.x4
  ht := ht
  cur := h.cur.set _ (by show g < w.heap.size; omega)
  lk := h.lk.boxset hg i u (Nat.le_refl _)
  row := hr.setB flatLn i u (hr.ne h.x3 (by decide))
theorem SpS.start {g : Nat} {w : World} {d r : Int} {t : ByteArray} {A : Option Addr} {n cap : Nat} {ls : List Ln} (hc : Cur w g) (ht : t.size ≤ 140737488355328) (hr : Own cLn 130 w (g + 1) (.slice A n cap) ls) :
    SpS g w ((w.alloc (.cells #[.int .i64 d, .int .i64 r, .string t, .slice A n cap] 34)).alloc (.cells #[.int .i64 0, .int .i64 0, .string ⟨#[]⟩, .slice none 0 0] 34)) d r t A n cap ls where
  x3 := new_box2a _ _ _
  x4 := new_box2b _ _ _
  ht := ht
  cur := hc.to
  lk := LK.gro (g := g) inferInstance hc.lt
  row := hr.to
theorem SpS.last {g : Nat} {w wq : World} {d r : Int} {t : ByteArray} {A : Option Addr} {n cap : Nat} {ls : List Ln} (h : SpS g w wq d r t A n cap ls) (hg : g < w.heap.size) {u0 u1 u2 u3 : Value} :
    (∃ x : EV, Ending.returned (.agg #[.int .i64 d, .int .i64 r, .string t, .slice A n cap]) = .returned (.agg #[.int .i64 x.day, .int .i64 x.ref, .string x.text, .slice x.a x.n x.cap]) ∧ x.text.size ≤ 140737488355328 ∧ ∃ ls : List Ln, ls.length = x.n ∧ Own cLn 130 ((((wq.setCell ⟨w.heap.size + 1, 0, none⟩ u0).setCell ⟨w.heap.size + 1, 1, none⟩ u1).setCell ⟨w.heap.size + 1, 2, none⟩ u2).setCell ⟨w.heap.size + 1, 3, none⟩ u3) (g + 1) (.slice x.a x.n x.cap) ls) ∧
      Cur ((((wq.setCell ⟨w.heap.size + 1, 0, none⟩ u0).setCell ⟨w.heap.size + 1, 1, none⟩ u1).setCell ⟨w.heap.size + 1, 2, none⟩ u2).setCell ⟨w.heap.size + 1, 3, none⟩ u3) g ∧ LK g w ((((wq.setCell ⟨w.heap.size + 1, 0, none⟩ u0).setCell ⟨w.heap.size + 1, 1, none⟩ u1).setCell ⟨w.heap.size + 1, 2, none⟩ u2).setCell ⟨w.heap.size + 1, 3, none⟩ u3) := by
  have hne := h.row.ne h.x4 (by decide)
  have hb : g < w.heap.size + 1 := by omega
  exact ⟨⟨⟨d, r, t, A, n, cap⟩, rfl, h.ht, ls, h.row.num.1, (((h.row.setB flatLn 0 _ hne).setB flatLn 1 _ hne).setB flatLn 2 _ hne).setB flatLn 3 _ hne⟩, (((h.cur.set _ hb).set _ hb).set _ hb).set _ hb, (((h.lk.boxset hg 0 _ (by omega)).boxset hg 1 _ (by omega)).boxset hg 2 _ (by omega)).boxset hg 3 _ (by omega)⟩
/-- A store into the row leaves a box's cell. -/
theorem heap_cell_other {α : Type} {c : Cod α} {e : TypeId} {w : World} {base b n cap j : Nat} {xs : List α} {cur : Array Value} {T : TypeId} {fr : Nat × Nat} (h : Own c e w base (.slice (some ⟨b, 0, none⟩) n cap) xs) (hj : w.heap[j]? = some (.cells cur T fr)) (hT : T ≠ e) (i k : Nat) (u : Value) : (w.setCell ⟨b, i, none⟩ u).cell? ⟨j, k, none⟩ = w.cell? ⟨j, k, none⟩ :=
  cell_same (heap_setCell_other _ _ _ _ (fun e => h.ne hj hT (by have e' : j = b := e; rw [e']; rfl)))
def texts5 : List ByteArray := [⟨#[97, 10, 98]⟩, ⟨#[48, 49, 50, 51, 52, 53, 54, 55, 56, 57, 48, 49, 50, 51, 52, 53, 54, 55, 56, 57, 48, 49, 50, 51, 52, 53, 54, 55, 56, 57, 48, 49, 50, 51, 52, 53, 54, 55, 56, 57]⟩, ⟨#[48, 49, 50, 51, 52, 53, 54, 55, 56, 57, 48, 49, 50, 51, 52, 53, 54, 55, 56, 57, 48, 49, 50, 51, 52, 53, 54, 55, 56, 57, 48, 49, 50, 51, 52, 53, 54, 55, 56, 57, 48]⟩, ⟨#[31]⟩, ⟨#[32]⟩]
theorem texts5_size : ∀ s ∈ texts5, s.size ≤ 140737488355328 := by
  intro s hs
  simp only [texts5, List.mem_cons, List.not_mem_nil, or_false] at hs
  rcases hs with rfl | rfl | rfl | rfl | rfl <;> decide
theorem SpS.c36 {g : Nat} {w wq : World} {d r : Int} {t : ByteArray} {b n cap : Nat} {ls : List Ln} (h : SpS g w wq d r t (some ⟨b, 0, none⟩) n cap ls) (k : Nat) (hk : k < n) :
    wq.cell? ⟨w.heap.size, 3, none⟩ = some (.slice (some ⟨b, 0, none⟩) n cap) ∧ wq.cell? ⟨b, k * 5 + 3, none⟩ = some (.int .i64 (el ls k).amount) ∧ wq.cell? ⟨b, k * 5 + 4, none⟩ = some (.int .i64 (el ls k).base) := by
  obtain ⟨ad, he, l0, l1, l2, l3, l4⟩ := at_Ln h.row.reads k (by have := h.row.num; omega)
  cases he
  simp only [add_base] at l3 l4
  exact ⟨(box_cell h.x3 3).trans rfl, l3, l4⟩
set_option linter.unusedSimpArgs false in
set_option maxRecDepth 100000 in
set_option maxHeartbeats 4000000 in
theorem l5SpoilEntry_c (d r : Int) (t : ByteArray) (A : Option Addr) (n cap : Nat) (ls : List Ln) (g : Nat) (w : World) (hc : Cur w g) (ht : t.size ≤ 140737488355328) (hr : Own cLn 130 w (g + 1) (.slice A n cap) ls) :
    Calls Try.prog 169 #[.pointer (some ⟨g, 0, none⟩), .agg #[.int .i64 d, .int .i64 r, .string t, .slice A n cap]] w fun e w' => (∃ x : EV, e = .returned (.agg #[.int .i64 x.day, .int .i64 x.ref, .string x.text, .slice x.a x.n x.cap]) ∧ x.text.size ≤ 140737488355328 ∧ ∃ ls : List Ln, ls.length = x.n ∧ Own cLn 130 w' (g + 1) (.slice x.a x.n x.cap) ls) ∧ Cur w' g ∧ LK g w w' := by
  have hg := hc.lt
  go_enter Try.func169, Try.ntmps169
  go_upto_region 1 with (fail)
  have hst := SpS.start (d := d) (r := r) hc ht hr
  obtain ⟨W0, hW0⟩ : ∃ W0 : World, W0 = (w.alloc (.cells #[.int .i64 d, .int .i64 r, .string t, .slice A n cap] 34)).alloc (.cells #[.int .i64 0, .int .i64 0, .string ⟨#[]⟩, .slice none 0 0] 34) := ⟨_, rfl⟩
  rw [← hW0] at hst ⊢
  have HS := Lib.hid hst
  clear hW0 hst
  have hbr : (decide (((n : Nat) : Int) = 0)) = decide (n = 0) := by rw [decide_eq_decide]; omega
  clear hbr
  go_cut [14] (fun v wc => ∃ b : Bool, v = .bool b ∧ (b = false → 0 < n) ∧ SpS g w wc d r t A n cap ls)
  case first =>
    go_wp2_with (go_at_call 101; refine (l1Once_c _ g _ HS.out.cur).mono ?_; rintro e w2 ⟨⟨bo, rfl⟩, hd⟩; have HS := Lib.hid (HS.out.dr hg hd); clear hd; have c0 := (box_cell HS.out.x3 0).trans rfl; have c1 := (box_cell HS.out.x3 1).trans rfl; have c2 := (box_cell HS.out.x3 2).trans rfl; have c3 := (box_cell HS.out.x3 3).trans rfl)
    all_goals
      go_meet
    · exact ⟨_, rfl, fun h => by simp at h; omega, HS.out⟩
    · exact ⟨_, rfl, fun h => by simp at h, HS.out⟩
  case rest =>
    obtain ⟨b', rfl, hb', hst⟩ := hcut
    obtain ⟨W1, hW1⟩ : ∃ W1 : World, W1 = wc := ⟨_, rfl⟩
    rw [← hW1] at hst ⊢
    have HS := Lib.hid hst
    clear hW1 hst
    have c0 := (box_cell HS.out.x3 0).trans rfl; have c1 := (box_cell HS.out.x3 1).trans rfl; have c2 := (box_cell HS.out.x3 2).trans rfl; have c3 := (box_cell HS.out.x3 3).trans rfl
    have d0 := (box_cell HS.out.x4 0).trans rfl; have d1 := (box_cell HS.out.x4 1).trans rfl; have d2 := (box_cell HS.out.x4 2).trans rfl; have d3 := (box_cell HS.out.x4 3).trans rfl; have f0 := box_free HS.out.x4 0; have f1 := box_free HS.out.x4 1; have f2 := box_free HS.out.x4 2; have f3 := box_free HS.out.x4 3
    cases b'
    · have hn0 := hb' rfl
      go_upto_block 0 with (go_at_call 73; first | (refine (l1Below_c 9 g _ HK.out.1).mono ?_; rintro e w3 ⟨⟨x, rfl, hx⟩, hd⟩; have HS := Lib.hid (HS.out.dr hg hd); have hx := hx (by omega)) | (refine (l1Below_c _ g _ HS.out.cur).mono ?_; rintro e w2 ⟨⟨k, rfl, hk⟩, hd⟩; have HS := Lib.hid (HS.out.dr hg hd); have HK := Lib.hid hd; have hk := hk (by omega)))
      obtain ⟨b, rfl⟩ : ∃ b, A = some ⟨b, 0, none⟩ := by
        rcases HS.out.row.split with ⟨h1, -⟩ | ⟨b, cap', cur, h1, -⟩
        · injection h1
          omega
        · injection h1 with h1
          exact ⟨b, h1⟩
      go_cut [] (fun wc => ∃ (d r : Int) (t : ByteArray) (A : Option Addr) (n cap : Nat) (ls : List Ln), SpS g w wc d r t A n cap ls)
      case first =>
        have hxx : x = 0 ∨ x = 1 ∨ x = 2 ∨ x = 3 ∨ x = 4 ∨ x = 5 ∨ x = 6 ∨ x = 7 ∨ x = 8 := by omega
        have c0 := (box_cell HS.out.x3 0).trans rfl; have c1 := (box_cell HS.out.x3 1).trans rfl; have c2 := (box_cell HS.out.x3 2).trans rfl; have c3 := (box_cell HS.out.x3 3).trans rfl
        have g0 := box_free HS.out.x3 0; have g1 := box_free HS.out.x3 1; have g2 := box_free HS.out.x3 2; have g3 := box_free HS.out.x3 3
        rcases hxx with rfl | rfl | rfl | rfl | rfl | rfl | rfl | rfl | rfl
        · go_wp2_with (go_at_call 102; refine (l1PickInt_c _ _ [-1, 40001] g _ HS.out.cur.to (lit_int _ _ _ (by decide)) (fun k hk => by have := HS.out.cur.lt; omega) (by decide)).mono ?_; rintro e w4 ⟨⟨y, rfl⟩, hd⟩; have HS := Lib.hid (HS.out.dr hg ⟨hd.1, (Gro.alloc (g := g) _).trans hd.2⟩); have c0 := (box_cell HS.out.x3 0).trans rfl; have c1 := (box_cell HS.out.x3 1).trans rfl; have c2 := (box_cell HS.out.x3 2).trans rfl; have c3 := (box_cell HS.out.x3 3).trans rfl; have g0 := box_free HS.out.x3 0; have g1 := box_free HS.out.x3 1; have g2 := box_free HS.out.x3 2; have g3 := box_free HS.out.x3 3)
          go_meet
          exact ⟨_, _, _, _, _, _, _, HS.out.put hg 0 _ HS.out.ht (heap_setCell_same _ _ 0 _ _ _ HS.out.x3) HS.out.row⟩
        · go_wp2_with (go_at_call 102; refine (l1PickInt_c _ _ [-1, 1000, 1001] g _ HS.out.cur.to (lit_int _ _ _ (by decide)) (fun k hk => by have := HS.out.cur.lt; omega) (by decide)).mono ?_; rintro e w4 ⟨⟨y, rfl⟩, hd⟩; have HS := Lib.hid (HS.out.dr hg ⟨hd.1, (Gro.alloc (g := g) _).trans hd.2⟩); have c0 := (box_cell HS.out.x3 0).trans rfl; have c1 := (box_cell HS.out.x3 1).trans rfl; have c2 := (box_cell HS.out.x3 2).trans rfl; have c3 := (box_cell HS.out.x3 3).trans rfl; have g0 := box_free HS.out.x3 0; have g1 := box_free HS.out.x3 1; have g2 := box_free HS.out.x3 2; have g3 := box_free HS.out.x3 3)
          go_meet
          exact ⟨_, _, _, _, _, _, _, HS.out.put hg 1 _ HS.out.ht (heap_setCell_same _ _ 1 _ _ _ HS.out.x3) HS.out.row⟩
        · go_wp2_with (go_at_call 100; refine (l1Pick_c _ _ texts5 g _ HS.out.cur.to (lit_str _ _ texts5 (by decide) texts5_size) (fun k hk => by have := HS.out.cur.lt; omega) (by decide)).mono ?_; rintro e w4 ⟨⟨y, rfl, hy⟩, hd⟩; have HS := Lib.hid (HS.out.dr hg ⟨hd.1, (Gro.alloc (g := g) _).trans hd.2⟩); have c0 := (box_cell HS.out.x3 0).trans rfl; have c1 := (box_cell HS.out.x3 1).trans rfl; have c2 := (box_cell HS.out.x3 2).trans rfl; have c3 := (box_cell HS.out.x3 3).trans rfl; have g0 := box_free HS.out.x3 0; have g1 := box_free HS.out.x3 1; have g2 := box_free HS.out.x3 2; have g3 := box_free HS.out.x3 3)
          go_meet
          exact ⟨_, _, _, _, _, _, _, HS.out.put hg 2 _ (texts5_size _ hy) (heap_setCell_same _ _ 2 _ _ _ HS.out.x3) HS.out.row⟩
        · go_upto_region 12 with (fail)
          refine wp_region_held_drew (S := fun wq => wq.cell? ⟨w.heap.size, 3, none⟩ = some (.slice (some ⟨b, 0, none⟩) n cap)) (by kernel_rfl) c3 (fun hHeld => ?_)
          first
            | (refine wpAnyH_take (i := 0) (v := undef) rfl (by kernel_rfl) (by kernel_rfl) (by kernel_rfl) (fun _ _ _ h => h) (Or.inr ⟨by rfl, rfl⟩) (by assumption) ?_)
            | (refine wpAnyH_take (i := 0) (v := ?_) rfl (by kernel_rfl) (by kernel_rfl) (by kernel_rfl) (fun _ _ _ h => h) (Or.inl ⟨by rfl, ?_⟩) (by assumption) ?_; rotate_left; (intro wH hSw; (try dsimp only at hSw); go_simp; try with_reducible rfl))
          try simp only [Act.put, List.setIfInBounds_toArray, List.set_cons_zero, List.set_cons_succ, List.getElem_toArray, List.getElem_cons_zero, List.getElem_cons_succ]
          first
            | (refine wpAnyH_take (i := 1) (v := undef) rfl (by kernel_rfl) (by kernel_rfl) (by kernel_rfl) (fun _ _ _ h => h) (Or.inr ⟨by rfl, rfl⟩) (by assumption) ?_)
            | (refine wpAnyH_take (i := 1) (v := ?_) rfl (by kernel_rfl) (by kernel_rfl) (by kernel_rfl) (fun _ _ _ h => h) (Or.inl ⟨by rfl, ?_⟩) (by assumption) ?_; rotate_left; (intro wH hSw; (try dsimp only at hSw); go_simp; try with_reducible rfl))
          try simp only [Act.put, List.setIfInBounds_toArray, List.set_cons_zero, List.set_cons_succ, List.getElem_toArray, List.getElem_cons_zero, List.getElem_cons_succ]
          first
            | (refine wpAnyH_take (i := 2) (v := undef) rfl (by kernel_rfl) (by kernel_rfl) (by kernel_rfl) (fun _ _ _ h => h) (Or.inr ⟨by rfl, rfl⟩) (by assumption) ?_)
            | (refine wpAnyH_take (i := 2) (v := ?_) rfl (by kernel_rfl) (by kernel_rfl) (by kernel_rfl) (fun _ _ _ h => h) (Or.inl ⟨by rfl, ?_⟩) (by assumption) ?_; rotate_left; (intro wH hSw; (try dsimp only at hSw); go_simp; try with_reducible rfl))
          try simp only [Act.put, List.setIfInBounds_toArray, List.set_cons_zero, List.set_cons_succ, List.getElem_toArray, List.getElem_cons_zero, List.getElem_cons_succ]
          first
            | (refine wpAnyH_take (i := 3) (v := undef) rfl (by kernel_rfl) (by kernel_rfl) (by kernel_rfl) (fun _ _ _ h => h) (Or.inr ⟨by rfl, rfl⟩) (by assumption) ?_)
            | (refine wpAnyH_take (i := 3) (v := ?_) rfl (by kernel_rfl) (by kernel_rfl) (by kernel_rfl) (fun _ _ _ h => h) (Or.inl ⟨by rfl, ?_⟩) (by assumption) ?_; rotate_left; (intro wH hSw; (try dsimp only at hSw); go_simp; try with_reducible rfl))
          try simp only [Act.put, List.setIfInBounds_toArray, List.set_cons_zero, List.set_cons_succ, List.getElem_toArray, List.getElem_cons_zero, List.getElem_cons_succ]
          refine wpAnyH_ready (rs := [4]) (by kernel_rfl) (by simp) ?_
          refine AllReadyH.cons rfl (fun K hK => ?_) AllReadyH.nil
          go_simp
          (go_at_call 73; refine (l1Below_c _ g _ HS.out.cur.to).mono ?_; rintro e w4 ⟨⟨y, rfl, -⟩, hd⟩; have HS := Lib.hid (HS.out.dr hg ⟨hd.1, Gro.trans inferInstance hd.2⟩))
          refine hK.out _ _ (by (try dsimp only); exact (box_cell HS.out.x3 3).trans rfl) (fun hHeld => ?_)
          clear hK K
          try simp only [Act.put, List.setIfInBounds_toArray, List.set_cons_zero, List.set_cons_succ, List.getElem_toArray, List.getElem_cons_zero, List.getElem_cons_succ]
          first
            | (refine wpAnyH_take (i := 5) (v := undef) rfl (by kernel_rfl) (by kernel_rfl) (by kernel_rfl) (fun _ _ _ h => h) (Or.inr ⟨by rfl, rfl⟩) (by assumption) ?_)
            | (refine wpAnyH_take (i := 5) (v := ?_) rfl (by kernel_rfl) (by kernel_rfl) (by kernel_rfl) (fun _ _ _ h => h) (Or.inl ⟨by rfl, ?_⟩) (by assumption) ?_; rotate_left; (intro wH hSw; (try dsimp only at hSw); go_simp; try with_reducible rfl))
          try simp only [Act.put, List.setIfInBounds_toArray, List.set_cons_zero, List.set_cons_succ, List.getElem_toArray, List.getElem_cons_zero, List.getElem_cons_succ]
          first
            | (refine wpAnyH_take (i := 6) (v := undef) rfl (by kernel_rfl) (by kernel_rfl) (by kernel_rfl) (fun _ _ _ h => h) (Or.inr ⟨by rfl, rfl⟩) (by assumption) ?_)
            | (refine wpAnyH_take (i := 6) (v := ?_) rfl (by kernel_rfl) (by kernel_rfl) (by kernel_rfl) (fun _ _ _ h => h) (Or.inl ⟨by rfl, ?_⟩) (by assumption) ?_; rotate_left; (intro wH hSw; (try dsimp only at hSw); go_simp; try with_reducible rfl))
          try simp only [Act.put, List.setIfInBounds_toArray, List.set_cons_zero, List.set_cons_succ, List.getElem_toArray, List.getElem_cons_zero, List.getElem_cons_succ]
          first
            | (refine wpAnyH_take (i := 7) (v := undef) rfl (by kernel_rfl) (by kernel_rfl) (by kernel_rfl) (fun _ _ _ h => h) (Or.inr ⟨by rfl, rfl⟩) (by assumption) ?_)
            | (refine wpAnyH_take (i := 7) (v := ?_) rfl (by kernel_rfl) (by kernel_rfl) (by kernel_rfl) (fun _ _ _ h => h) (Or.inl ⟨by rfl, ?_⟩) (by assumption) ?_; rotate_left; (intro wH hSw; (try dsimp only at hSw); go_simp; try with_reducible rfl))
          try simp only [Act.put, List.setIfInBounds_toArray, List.set_cons_zero, List.set_cons_succ, List.getElem_toArray, List.getElem_cons_zero, List.getElem_cons_succ]
          obtain ⟨ad, he, l0, l1, l2, l3, l4⟩ := at_Ln HS.out.row.reads k (by have := HS.out.row.num; omega)
          cases he
          simp only [add_base] at l0 l1 l2 l3 l4
          have fr := HS.out.row.free (k * 5)
          refine wpAnyH_ready (rs := [8]) (by kernel_rfl) (by simp) ?_
          refine AllReadyH.cons rfl (fun K hK => ?_) AllReadyH.nil
          go_simp
          skip
          refine hK.out _ _ (by (try dsimp only); exact (heap_cell_other HS.out.row (HS.out.x3) (by decide) _ _ _).trans ((box_cell HS.out.x3 3).trans rfl)) (fun hHeld => ?_)
          clear hK K
          try simp only [Act.put, List.setIfInBounds_toArray, List.set_cons_zero, List.set_cons_succ, List.getElem_toArray, List.getElem_cons_zero, List.getElem_cons_succ]
          refine wpAnyH_done (by kernel_rfl) ?_ _
          go_wp2
          go_meet
          obtain ⟨ls', hls⟩ := HS.out.line hg (k * 5) _
          exact ⟨_, _, _, _, _, _, ls', hls⟩
        · go_upto_region 14 with (fail)
          refine wp_region_held_drew (S := fun wq => wq.cell? ⟨w.heap.size, 3, none⟩ = some (.slice (some ⟨b, 0, none⟩) n cap)) (by kernel_rfl) c3 (fun hHeld => ?_)
          first
            | (refine wpAnyH_take (i := 0) (v := undef) rfl (by kernel_rfl) (by kernel_rfl) (by kernel_rfl) (fun _ _ _ h => h) (Or.inr ⟨by rfl, rfl⟩) (by assumption) ?_)
            | (refine wpAnyH_take (i := 0) (v := ?_) rfl (by kernel_rfl) (by kernel_rfl) (by kernel_rfl) (fun _ _ _ h => h) (Or.inl ⟨by rfl, ?_⟩) (by assumption) ?_; rotate_left; (intro wH hSw; (try dsimp only at hSw); go_simp; try with_reducible rfl))
          try simp only [Act.put, List.setIfInBounds_toArray, List.set_cons_zero, List.set_cons_succ, List.getElem_toArray, List.getElem_cons_zero, List.getElem_cons_succ]
          first
            | (refine wpAnyH_take (i := 1) (v := undef) rfl (by kernel_rfl) (by kernel_rfl) (by kernel_rfl) (fun _ _ _ h => h) (Or.inr ⟨by rfl, rfl⟩) (by assumption) ?_)
            | (refine wpAnyH_take (i := 1) (v := ?_) rfl (by kernel_rfl) (by kernel_rfl) (by kernel_rfl) (fun _ _ _ h => h) (Or.inl ⟨by rfl, ?_⟩) (by assumption) ?_; rotate_left; (intro wH hSw; (try dsimp only at hSw); go_simp; try with_reducible rfl))
          try simp only [Act.put, List.setIfInBounds_toArray, List.set_cons_zero, List.set_cons_succ, List.getElem_toArray, List.getElem_cons_zero, List.getElem_cons_succ]
          first
            | (refine wpAnyH_take (i := 2) (v := undef) rfl (by kernel_rfl) (by kernel_rfl) (by kernel_rfl) (fun _ _ _ h => h) (Or.inr ⟨by rfl, rfl⟩) (by assumption) ?_)
            | (refine wpAnyH_take (i := 2) (v := ?_) rfl (by kernel_rfl) (by kernel_rfl) (by kernel_rfl) (fun _ _ _ h => h) (Or.inl ⟨by rfl, ?_⟩) (by assumption) ?_; rotate_left; (intro wH hSw; (try dsimp only at hSw); go_simp; try with_reducible rfl))
          try simp only [Act.put, List.setIfInBounds_toArray, List.set_cons_zero, List.set_cons_succ, List.getElem_toArray, List.getElem_cons_zero, List.getElem_cons_succ]
          first
            | (refine wpAnyH_take (i := 3) (v := undef) rfl (by kernel_rfl) (by kernel_rfl) (by kernel_rfl) (fun _ _ _ h => h) (Or.inr ⟨by rfl, rfl⟩) (by assumption) ?_)
            | (refine wpAnyH_take (i := 3) (v := ?_) rfl (by kernel_rfl) (by kernel_rfl) (by kernel_rfl) (fun _ _ _ h => h) (Or.inl ⟨by rfl, ?_⟩) (by assumption) ?_; rotate_left; (intro wH hSw; (try dsimp only at hSw); go_simp; try with_reducible rfl))
          try simp only [Act.put, List.setIfInBounds_toArray, List.set_cons_zero, List.set_cons_succ, List.getElem_toArray, List.getElem_cons_zero, List.getElem_cons_succ]
          refine wpAnyH_ready (rs := [4]) (by kernel_rfl) (by simp) ?_
          refine AllReadyH.cons rfl (fun K hK => ?_) AllReadyH.nil
          go_simp
          (go_at_call 73; refine (l1Below_c _ g _ HS.out.cur.to).mono ?_; rintro e w4 ⟨⟨y, rfl, -⟩, hd⟩; have HS := Lib.hid (HS.out.dr hg ⟨hd.1, Gro.trans inferInstance hd.2⟩))
          refine hK.out _ _ (by (try dsimp only); exact (box_cell HS.out.x3 3).trans rfl) (fun hHeld => ?_)
          clear hK K
          try simp only [Act.put, List.setIfInBounds_toArray, List.set_cons_zero, List.set_cons_succ, List.getElem_toArray, List.getElem_cons_zero, List.getElem_cons_succ]
          first
            | (refine wpAnyH_take (i := 5) (v := undef) rfl (by kernel_rfl) (by kernel_rfl) (by kernel_rfl) (fun _ _ _ h => h) (Or.inr ⟨by rfl, rfl⟩) (by assumption) ?_)
            | (refine wpAnyH_take (i := 5) (v := ?_) rfl (by kernel_rfl) (by kernel_rfl) (by kernel_rfl) (fun _ _ _ h => h) (Or.inl ⟨by rfl, ?_⟩) (by assumption) ?_; rotate_left; (intro wH hSw; (try dsimp only at hSw); go_simp; try with_reducible rfl))
          try simp only [Act.put, List.setIfInBounds_toArray, List.set_cons_zero, List.set_cons_succ, List.getElem_toArray, List.getElem_cons_zero, List.getElem_cons_succ]
          first
            | (refine wpAnyH_take (i := 6) (v := undef) rfl (by kernel_rfl) (by kernel_rfl) (by kernel_rfl) (fun _ _ _ h => h) (Or.inr ⟨by rfl, rfl⟩) (by assumption) ?_)
            | (refine wpAnyH_take (i := 6) (v := ?_) rfl (by kernel_rfl) (by kernel_rfl) (by kernel_rfl) (fun _ _ _ h => h) (Or.inl ⟨by rfl, ?_⟩) (by assumption) ?_; rotate_left; (intro wH hSw; (try dsimp only at hSw); go_simp; try with_reducible rfl))
          try simp only [Act.put, List.setIfInBounds_toArray, List.set_cons_zero, List.set_cons_succ, List.getElem_toArray, List.getElem_cons_zero, List.getElem_cons_succ]
          first
            | (refine wpAnyH_take (i := 7) (v := undef) rfl (by kernel_rfl) (by kernel_rfl) (by kernel_rfl) (fun _ _ _ h => h) (Or.inr ⟨by rfl, rfl⟩) (by assumption) ?_)
            | (refine wpAnyH_take (i := 7) (v := ?_) rfl (by kernel_rfl) (by kernel_rfl) (by kernel_rfl) (fun _ _ _ h => h) (Or.inl ⟨by rfl, ?_⟩) (by assumption) ?_; rotate_left; (intro wH hSw; (try dsimp only at hSw); go_simp; try with_reducible rfl))
          try simp only [Act.put, List.setIfInBounds_toArray, List.set_cons_zero, List.set_cons_succ, List.getElem_toArray, List.getElem_cons_zero, List.getElem_cons_succ]
          obtain ⟨ad, he, l0, l1, l2, l3, l4⟩ := at_Ln HS.out.row.reads k (by have := HS.out.row.num; omega)
          cases he
          simp only [add_base] at l0 l1 l2 l3 l4
          have fr := HS.out.row.free (k * 5 + 1)
          refine wpAnyH_ready (rs := [8]) (by kernel_rfl) (by simp) ?_
          refine AllReadyH.cons rfl (fun K hK => ?_) AllReadyH.nil
          go_simp
          skip
          refine hK.out _ _ (by (try dsimp only); exact (heap_cell_other HS.out.row (HS.out.x3) (by decide) _ _ _).trans ((box_cell HS.out.x3 3).trans rfl)) (fun hHeld => ?_)
          clear hK K
          try simp only [Act.put, List.setIfInBounds_toArray, List.set_cons_zero, List.set_cons_succ, List.getElem_toArray, List.getElem_cons_zero, List.getElem_cons_succ]
          refine wpAnyH_done (by kernel_rfl) ?_ _
          go_wp2
          go_meet
          obtain ⟨ls', hls⟩ := HS.out.line hg (k * 5 + 1) _
          exact ⟨_, _, _, _, _, _, ls', hls⟩
        · go_upto_region 16 with (fail)
          refine wp_region_held_drew (S := fun wq => wq.cell? ⟨w.heap.size, 3, none⟩ = some (.slice (some ⟨b, 0, none⟩) n cap)) (by kernel_rfl) c3 (fun hHeld => ?_)
          first
            | (refine wpAnyH_take (i := 0) (v := undef) rfl (by kernel_rfl) (by kernel_rfl) (by kernel_rfl) (fun _ _ _ h => h) (Or.inr ⟨by rfl, rfl⟩) (by assumption) ?_)
            | (refine wpAnyH_take (i := 0) (v := ?_) rfl (by kernel_rfl) (by kernel_rfl) (by kernel_rfl) (fun _ _ _ h => h) (Or.inl ⟨by rfl, ?_⟩) (by assumption) ?_; rotate_left; (intro wH hSw; (try dsimp only at hSw); go_simp; try with_reducible rfl))
          try simp only [Act.put, List.setIfInBounds_toArray, List.set_cons_zero, List.set_cons_succ, List.getElem_toArray, List.getElem_cons_zero, List.getElem_cons_succ]
          first
            | (refine wpAnyH_take (i := 1) (v := undef) rfl (by kernel_rfl) (by kernel_rfl) (by kernel_rfl) (fun _ _ _ h => h) (Or.inr ⟨by rfl, rfl⟩) (by assumption) ?_)
            | (refine wpAnyH_take (i := 1) (v := ?_) rfl (by kernel_rfl) (by kernel_rfl) (by kernel_rfl) (fun _ _ _ h => h) (Or.inl ⟨by rfl, ?_⟩) (by assumption) ?_; rotate_left; (intro wH hSw; (try dsimp only at hSw); go_simp; try with_reducible rfl))
          try simp only [Act.put, List.setIfInBounds_toArray, List.set_cons_zero, List.set_cons_succ, List.getElem_toArray, List.getElem_cons_zero, List.getElem_cons_succ]
          first
            | (refine wpAnyH_take (i := 2) (v := undef) rfl (by kernel_rfl) (by kernel_rfl) (by kernel_rfl) (fun _ _ _ h => h) (Or.inr ⟨by rfl, rfl⟩) (by assumption) ?_)
            | (refine wpAnyH_take (i := 2) (v := ?_) rfl (by kernel_rfl) (by kernel_rfl) (by kernel_rfl) (fun _ _ _ h => h) (Or.inl ⟨by rfl, ?_⟩) (by assumption) ?_; rotate_left; (intro wH hSw; (try dsimp only at hSw); go_simp; try with_reducible rfl))
          try simp only [Act.put, List.setIfInBounds_toArray, List.set_cons_zero, List.set_cons_succ, List.getElem_toArray, List.getElem_cons_zero, List.getElem_cons_succ]
          first
            | (refine wpAnyH_take (i := 3) (v := undef) rfl (by kernel_rfl) (by kernel_rfl) (by kernel_rfl) (fun _ _ _ h => h) (Or.inr ⟨by rfl, rfl⟩) (by assumption) ?_)
            | (refine wpAnyH_take (i := 3) (v := ?_) rfl (by kernel_rfl) (by kernel_rfl) (by kernel_rfl) (fun _ _ _ h => h) (Or.inl ⟨by rfl, ?_⟩) (by assumption) ?_; rotate_left; (intro wH hSw; (try dsimp only at hSw); go_simp; try with_reducible rfl))
          try simp only [Act.put, List.setIfInBounds_toArray, List.set_cons_zero, List.set_cons_succ, List.getElem_toArray, List.getElem_cons_zero, List.getElem_cons_succ]
          refine wpAnyH_ready (rs := [4]) (by kernel_rfl) (by simp) ?_
          refine AllReadyH.cons rfl (fun K hK => ?_) AllReadyH.nil
          go_simp
          (go_at_call 73; refine (l1Below_c _ g _ HS.out.cur.to).mono ?_; rintro e w4 ⟨⟨y, rfl, -⟩, hd⟩; have HS := Lib.hid (HS.out.dr hg ⟨hd.1, Gro.trans inferInstance hd.2⟩))
          refine hK.out _ _ (by (try dsimp only); exact (box_cell HS.out.x3 3).trans rfl) (fun hHeld => ?_)
          clear hK K
          try simp only [Act.put, List.setIfInBounds_toArray, List.set_cons_zero, List.set_cons_succ, List.getElem_toArray, List.getElem_cons_zero, List.getElem_cons_succ]
          first
            | (refine wpAnyH_take (i := 5) (v := undef) rfl (by kernel_rfl) (by kernel_rfl) (by kernel_rfl) (fun _ _ _ h => h) (Or.inr ⟨by rfl, rfl⟩) (by assumption) ?_)
            | (refine wpAnyH_take (i := 5) (v := ?_) rfl (by kernel_rfl) (by kernel_rfl) (by kernel_rfl) (fun _ _ _ h => h) (Or.inl ⟨by rfl, ?_⟩) (by assumption) ?_; rotate_left; (intro wH hSw; (try dsimp only at hSw); go_simp; try with_reducible rfl))
          try simp only [Act.put, List.setIfInBounds_toArray, List.set_cons_zero, List.set_cons_succ, List.getElem_toArray, List.getElem_cons_zero, List.getElem_cons_succ]
          first
            | (refine wpAnyH_take (i := 6) (v := undef) rfl (by kernel_rfl) (by kernel_rfl) (by kernel_rfl) (fun _ _ _ h => h) (Or.inr ⟨by rfl, rfl⟩) (by assumption) ?_)
            | (refine wpAnyH_take (i := 6) (v := ?_) rfl (by kernel_rfl) (by kernel_rfl) (by kernel_rfl) (fun _ _ _ h => h) (Or.inl ⟨by rfl, ?_⟩) (by assumption) ?_; rotate_left; (intro wH hSw; (try dsimp only at hSw); go_simp; try with_reducible rfl))
          try simp only [Act.put, List.setIfInBounds_toArray, List.set_cons_zero, List.set_cons_succ, List.getElem_toArray, List.getElem_cons_zero, List.getElem_cons_succ]
          first
            | (refine wpAnyH_take (i := 7) (v := undef) rfl (by kernel_rfl) (by kernel_rfl) (by kernel_rfl) (fun _ _ _ h => h) (Or.inr ⟨by rfl, rfl⟩) (by assumption) ?_)
            | (refine wpAnyH_take (i := 7) (v := ?_) rfl (by kernel_rfl) (by kernel_rfl) (by kernel_rfl) (fun _ _ _ h => h) (Or.inl ⟨by rfl, ?_⟩) (by assumption) ?_; rotate_left; (intro wH hSw; (try dsimp only at hSw); go_simp; try with_reducible rfl))
          try simp only [Act.put, List.setIfInBounds_toArray, List.set_cons_zero, List.set_cons_succ, List.getElem_toArray, List.getElem_cons_zero, List.getElem_cons_succ]
          obtain ⟨ad, he, l0, l1, l2, l3, l4⟩ := at_Ln HS.out.row.reads k (by have := HS.out.row.num; omega)
          cases he
          simp only [add_base] at l0 l1 l2 l3 l4
          have fr := HS.out.row.free (k * 5 + 2)
          refine wpAnyH_ready (rs := [8]) (by kernel_rfl) (by simp) ?_
          refine AllReadyH.cons rfl (fun K hK => ?_) AllReadyH.nil
          go_simp
          skip
          refine hK.out _ _ (by (try dsimp only); exact (heap_cell_other HS.out.row (HS.out.x3) (by decide) _ _ _).trans ((box_cell HS.out.x3 3).trans rfl)) (fun hHeld => ?_)
          clear hK K
          try simp only [Act.put, List.setIfInBounds_toArray, List.set_cons_zero, List.set_cons_succ, List.getElem_toArray, List.getElem_cons_zero, List.getElem_cons_succ]
          refine wpAnyH_done (by kernel_rfl) ?_ _
          go_wp2
          go_meet
          obtain ⟨ls', hls⟩ := HS.out.line hg (k * 5 + 2) _
          exact ⟨_, _, _, _, _, _, ls', hls⟩
        · go_upto_region 18 with (fail)
          have l3 := (HS.out.c36 k (by omega)).2.1
          have HS0 := HS
          refine wp_region_held_drew (S := fun wq => wq.cell? ⟨w.heap.size, 3, none⟩ = some (.slice (some ⟨b, 0, none⟩) n cap)) (by kernel_rfl) c3 (fun hHeld => ?_)
          first
            | (refine wpAnyH_take (i := 0) (v := undef) rfl (by kernel_rfl) (by kernel_rfl) (by kernel_rfl) (fun _ _ _ h => h) (Or.inr ⟨by rfl, rfl⟩) (by assumption) ?_)
            | (refine wpAnyH_take (i := 0) (v := ?_) rfl (by kernel_rfl) (by kernel_rfl) (by kernel_rfl) (fun _ _ _ h => h) (Or.inl ⟨by rfl, ?_⟩) (by assumption) ?_; rotate_left; (intro wH hSw; (try dsimp only at hSw); go_simp; try with_reducible rfl))
          try simp only [Act.put, List.setIfInBounds_toArray, List.set_cons_zero, List.set_cons_succ, List.getElem_toArray, List.getElem_cons_zero, List.getElem_cons_succ]
          first
            | (refine wpAnyH_take (i := 1) (v := undef) rfl (by kernel_rfl) (by kernel_rfl) (by kernel_rfl) (fun _ _ _ h => h) (Or.inr ⟨by rfl, rfl⟩) (by assumption) ?_)
            | (refine wpAnyH_take (i := 1) (v := ?_) rfl (by kernel_rfl) (by kernel_rfl) (by kernel_rfl) (fun _ _ _ h => h) (Or.inl ⟨by rfl, ?_⟩) (by assumption) ?_; rotate_left; (intro wH hSw; (try dsimp only at hSw); go_simp; try with_reducible rfl))
          try simp only [Act.put, List.setIfInBounds_toArray, List.set_cons_zero, List.set_cons_succ, List.getElem_toArray, List.getElem_cons_zero, List.getElem_cons_succ]
          first
            | (refine wpAnyH_take (i := 2) (v := undef) rfl (by kernel_rfl) (by kernel_rfl) (by kernel_rfl) (fun _ _ _ h => h) (Or.inr ⟨by rfl, rfl⟩) (by assumption) ?_)
            | (refine wpAnyH_take (i := 2) (v := ?_) rfl (by kernel_rfl) (by kernel_rfl) (by kernel_rfl) (fun _ _ _ h => h) (Or.inl ⟨by rfl, ?_⟩) (by assumption) ?_; rotate_left; (intro wH hSw; (try dsimp only at hSw); go_simp; try with_reducible rfl))
          try simp only [Act.put, List.setIfInBounds_toArray, List.set_cons_zero, List.set_cons_succ, List.getElem_toArray, List.getElem_cons_zero, List.getElem_cons_succ]
          first
            | (refine wpAnyH_take (i := 3) (v := undef) rfl (by kernel_rfl) (by kernel_rfl) (by kernel_rfl) (fun _ _ _ h => h) (Or.inr ⟨by rfl, rfl⟩) (by assumption) ?_)
            | (refine wpAnyH_take (i := 3) (v := ?_) rfl (by kernel_rfl) (by kernel_rfl) (by kernel_rfl) (fun _ _ _ h => h) (Or.inl ⟨by rfl, ?_⟩) (by assumption) ?_; rotate_left; (intro wH hSw; (try dsimp only at hSw); go_simp; try with_reducible rfl))
          try simp only [Act.put, List.setIfInBounds_toArray, List.set_cons_zero, List.set_cons_succ, List.getElem_toArray, List.getElem_cons_zero, List.getElem_cons_succ]
          first
            | (refine wpAnyH_take (i := 4) (v := undef) rfl (by kernel_rfl) (by kernel_rfl) (by kernel_rfl) (fun _ _ _ h => h) (Or.inr ⟨by rfl, rfl⟩) (by assumption) ?_)
            | (refine wpAnyH_take (i := 4) (v := ?_) rfl (by kernel_rfl) (by kernel_rfl) (by kernel_rfl) (fun _ _ _ h => h) (Or.inl ⟨by rfl, ?_⟩) (by assumption) ?_; rotate_left; (intro wH hSw; (try dsimp only at hSw); go_simp; try with_reducible rfl))
          try simp only [Act.put, List.setIfInBounds_toArray, List.set_cons_zero, List.set_cons_succ, List.getElem_toArray, List.getElem_cons_zero, List.getElem_cons_succ]
          first
            | (refine wpAnyH_take (i := 5) (v := undef) rfl (by kernel_rfl) (by kernel_rfl) (by kernel_rfl) (fun _ _ _ h => h) (Or.inr ⟨by rfl, rfl⟩) (by assumption) ?_)
            | (refine wpAnyH_take (i := 5) (v := ?_) rfl (by kernel_rfl) (by kernel_rfl) (by kernel_rfl) (fun _ _ _ h => h) (Or.inl ⟨by rfl, ?_⟩) (by assumption) ?_; rotate_left; (intro wH hSw; (try dsimp only at hSw); go_simp; try with_reducible rfl))
          try simp only [Act.put, List.setIfInBounds_toArray, List.set_cons_zero, List.set_cons_succ, List.getElem_toArray, List.getElem_cons_zero, List.getElem_cons_succ]
          first
            | (refine wpAnyH_take (i := 6) (v := undef) rfl (by kernel_rfl) (by kernel_rfl) (by kernel_rfl) (fun _ _ _ h => h) (Or.inr ⟨by rfl, rfl⟩) (by assumption) ?_)
            | (refine wpAnyH_take (i := 6) (v := ?_) rfl (by kernel_rfl) (by kernel_rfl) (by kernel_rfl) (fun _ _ _ h => h) (Or.inl ⟨by rfl, ?_⟩) (by assumption) ?_; rotate_left; (intro wH hSw; (try dsimp only at hSw); go_simp; try with_reducible rfl))
          try simp only [Act.put, List.setIfInBounds_toArray, List.set_cons_zero, List.set_cons_succ, List.getElem_toArray, List.getElem_cons_zero, List.getElem_cons_succ]
          first
            | (refine wpAnyH_take (i := 7) (v := undef) rfl (by kernel_rfl) (by kernel_rfl) (by kernel_rfl) (fun _ _ _ h => h) (Or.inr ⟨by rfl, rfl⟩) (by assumption) ?_)
            | (refine wpAnyH_take (i := 7) (v := ?_) rfl (by kernel_rfl) (by kernel_rfl) (by kernel_rfl) (fun _ _ _ h => h) (Or.inl ⟨by rfl, ?_⟩) (by assumption) ?_; rotate_left; (intro wH hSw; (try dsimp only at hSw); go_simp; try with_reducible rfl))
          try simp only [Act.put, List.setIfInBounds_toArray, List.set_cons_zero, List.set_cons_succ, List.getElem_toArray, List.getElem_cons_zero, List.getElem_cons_succ]
          first
            | (refine wpAnyH_take (i := 9) (v := undef) rfl (by kernel_rfl) (by kernel_rfl) (by kernel_rfl) (fun _ _ _ h => h) (Or.inr ⟨by rfl, rfl⟩) (by assumption) ?_)
            | (refine wpAnyH_take (i := 9) (v := ?_) rfl (by kernel_rfl) (by kernel_rfl) (by kernel_rfl) (fun _ _ _ h => h) (Or.inl ⟨by rfl, ?_⟩) (by assumption) ?_; rotate_left; (intro wH hSw; (try dsimp only at hSw); go_simp; try with_reducible rfl))
          try simp only [Act.put, List.setIfInBounds_toArray, List.set_cons_zero, List.set_cons_succ, List.getElem_toArray, List.getElem_cons_zero, List.getElem_cons_succ]
          refine wpAnyH_ready (rs := [8, 10]) (by kernel_rfl) (by simp) ?_
          refine AllReadyH.cons rfl (fun K hK => ?_) (AllReadyH.cons rfl (fun K hK => ?_) AllReadyH.nil)
          · go_simp
            refine hK.out _ _ hHeld (fun hHeld => ?_)
            clear hK K
            try simp only [Act.put, List.setIfInBounds_toArray, List.set_cons_zero, List.set_cons_succ, List.getElem_toArray, List.getElem_cons_zero, List.getElem_cons_succ]
            refine wpAnyH_ready (rs := [10]) (by kernel_rfl) (by simp) ?_
            refine AllReadyH.cons rfl (fun K hK => ?_) AllReadyH.nil
            go_simp
            skip
            refine hK.out _ _ (by (try dsimp only); exact ((HS0.out.dr hg ⟨HS0.out.cur.to, inferInstance⟩).c36 k (by omega)).1) (fun hHeld => ?_)
            clear hK K
            try simp only [Act.put, List.setIfInBounds_toArray, List.set_cons_zero, List.set_cons_succ, List.getElem_toArray, List.getElem_cons_zero, List.getElem_cons_succ]
            refine wpAnyH_ready (rs := [11]) (by kernel_rfl) (by simp) ?_
            refine AllReadyH.cons rfl (fun K hK => ?_) AllReadyH.nil
            go_simp
            (go_at_call 102; refine (l1PickInt_c _ _ [1, -1, 100000000000] g _ HS0.out.cur.to (show Sl cInt (w3.alloc (.cells #[.int .i64 1, .int .i64 (-1), .int .i64 100000000000] 3)) (fun k => w3.heap.size ≤ k) (some ⟨w3.heap.size, 0, none⟩) [1, -1, 100000000000] from lit_int _ _ [1, -1, 100000000000] (by decide)).to (fun k hk => Nat.ne_of_gt (Nat.lt_of_lt_of_le HS0.out.cur.lt hk)) (by decide)).mono ?_; rintro e w4 ⟨⟨y, rfl⟩, hd⟩; have HS := Lib.hid (HS0.out.dr hg ⟨hd.1, Gro.trans inferInstance hd.2⟩); have l3 := (HS.out.c36 k (by omega)).2.1; have fr := HS.out.row.free (k * 5 + 3))
            refine hK.out _ _ (by (try dsimp only); exact (HS.out.c36 k (by omega)).1) (fun hHeld => ?_)
            clear hK K
            try simp only [Act.put, List.setIfInBounds_toArray, List.set_cons_zero, List.set_cons_succ, List.getElem_toArray, List.getElem_cons_zero, List.getElem_cons_succ]
            first
              | (refine wpAnyH_take (i := 12) (v := undef) rfl (by kernel_rfl) (by kernel_rfl) (by kernel_rfl) (fun _ _ _ h => h) (Or.inr ⟨by rfl, rfl⟩) (by assumption) ?_)
              | (refine wpAnyH_take (i := 12) (v := ?_) rfl (by kernel_rfl) (by kernel_rfl) (by kernel_rfl) (fun _ _ _ h => h) (Or.inl ⟨by rfl, ?_⟩) (by assumption) ?_; rotate_left; (intro wH hSw; (try dsimp only at hSw); go_simp; try with_reducible rfl))
            try simp only [Act.put, List.setIfInBounds_toArray, List.set_cons_zero, List.set_cons_succ, List.getElem_toArray, List.getElem_cons_zero, List.getElem_cons_succ]
            first
              | (refine wpAnyH_take (i := 13) (v := undef) rfl (by kernel_rfl) (by kernel_rfl) (by kernel_rfl) (fun _ _ _ h => h) (Or.inr ⟨by rfl, rfl⟩) (by assumption) ?_)
              | (refine wpAnyH_take (i := 13) (v := ?_) rfl (by kernel_rfl) (by kernel_rfl) (by kernel_rfl) (fun _ _ _ h => h) (Or.inl ⟨by rfl, ?_⟩) (by assumption) ?_; rotate_left; (intro wH hSw; (try dsimp only at hSw); go_simp; try with_reducible rfl))
            try simp only [Act.put, List.setIfInBounds_toArray, List.set_cons_zero, List.set_cons_succ, List.getElem_toArray, List.getElem_cons_zero, List.getElem_cons_succ]
            first
              | (refine wpAnyH_take (i := 14) (v := undef) rfl (by kernel_rfl) (by kernel_rfl) (by kernel_rfl) (fun _ _ _ h => h) (Or.inr ⟨by rfl, rfl⟩) (by assumption) ?_)
              | (refine wpAnyH_take (i := 14) (v := ?_) rfl (by kernel_rfl) (by kernel_rfl) (by kernel_rfl) (fun _ _ _ h => h) (Or.inl ⟨by rfl, ?_⟩) (by assumption) ?_; rotate_left; (intro wH hSw; (try dsimp only at hSw); go_simp; try with_reducible rfl))
            try simp only [Act.put, List.setIfInBounds_toArray, List.set_cons_zero, List.set_cons_succ, List.getElem_toArray, List.getElem_cons_zero, List.getElem_cons_succ]
            refine wpAnyH_ready (rs := [15]) (by kernel_rfl) (by simp) ?_
            refine AllReadyH.cons rfl (fun K hK => ?_) AllReadyH.nil
            go_simp
            skip
            refine hK.out _ _ (by (try dsimp only); exact (heap_cell_other HS.out.row HS.out.x3 (by decide) _ _ _).trans ((box_cell HS.out.x3 3).trans rfl)) (fun hHeld => ?_)
            clear hK K
            try simp only [Act.put, List.setIfInBounds_toArray, List.set_cons_zero, List.set_cons_succ, List.getElem_toArray, List.getElem_cons_zero, List.getElem_cons_succ]
            refine wpAnyH_done (by kernel_rfl) ?_ _
            go_wp2
            go_meet
            obtain ⟨ls', hls⟩ := HS.out.line hg (k * 5 + 3) _
            exact ⟨_, _, _, _, _, _, ls', hls⟩
          · go_simp
            refine hK.out _ _ (by (try dsimp only); exact ((HS0.out.dr hg ⟨HS0.out.cur.to, inferInstance⟩).c36 k (by omega)).1) (fun hHeld => ?_)
            clear hK K
            try simp only [Act.put, List.setIfInBounds_toArray, List.set_cons_zero, List.set_cons_succ, List.getElem_toArray, List.getElem_cons_zero, List.getElem_cons_succ]
            have l3b := ((HS0.out.dr hg (⟨HS0.out.cur.to, inferInstance⟩ : Dr g w3 ((w3.alloc (.cells #[.int .i64 1, .int .i64 (-1), .int .i64 100000000000] 3)).drew))).c36 k (by omega)).2.1
            refine wpAnyH_ready (rs := [8, 11]) (by kernel_rfl) (by simp) ?_
            refine AllReadyH.cons rfl (fun K hK => ?_) (AllReadyH.cons rfl (fun K hK => ?_) AllReadyH.nil)
            · go_simp
              refine hK.out _ _ hHeld (fun hHeld => ?_)
              clear hK K
              try simp only [Act.put, List.setIfInBounds_toArray, List.set_cons_zero, List.set_cons_succ, List.getElem_toArray, List.getElem_cons_zero, List.getElem_cons_succ]
              refine wpAnyH_ready (rs := [11]) (by kernel_rfl) (by simp) ?_
              refine AllReadyH.cons rfl (fun K hK => ?_) AllReadyH.nil
              go_simp
              (go_at_call 102; refine (l1PickInt_c _ _ [1, -1, 100000000000] g _ HS0.out.cur.to (show Sl cInt (w3.alloc (.cells #[.int .i64 1, .int .i64 (-1), .int .i64 100000000000] 3)) (fun k => w3.heap.size ≤ k) (some ⟨w3.heap.size, 0, none⟩) [1, -1, 100000000000] from lit_int _ _ [1, -1, 100000000000] (by decide)).to (fun k hk => Nat.ne_of_gt (Nat.lt_of_lt_of_le HS0.out.cur.lt hk)) (by decide)).mono ?_; rintro e w4 ⟨⟨y, rfl⟩, hd⟩; have HS := Lib.hid (HS0.out.dr hg ⟨hd.1, Gro.trans inferInstance hd.2⟩); have l3 := (HS.out.c36 k (by omega)).2.1; have fr := HS.out.row.free (k * 5 + 3))
              refine hK.out _ _ (by (try dsimp only); exact (HS.out.c36 k (by omega)).1) (fun hHeld => ?_)
              clear hK K
              try simp only [Act.put, List.setIfInBounds_toArray, List.set_cons_zero, List.set_cons_succ, List.getElem_toArray, List.getElem_cons_zero, List.getElem_cons_succ]
              first
                | (refine wpAnyH_take (i := 12) (v := undef) rfl (by kernel_rfl) (by kernel_rfl) (by kernel_rfl) (fun _ _ _ h => h) (Or.inr ⟨by rfl, rfl⟩) (by assumption) ?_)
                | (refine wpAnyH_take (i := 12) (v := ?_) rfl (by kernel_rfl) (by kernel_rfl) (by kernel_rfl) (fun _ _ _ h => h) (Or.inl ⟨by rfl, ?_⟩) (by assumption) ?_; rotate_left; (intro wH hSw; (try dsimp only at hSw); go_simp; try with_reducible rfl))
              try simp only [Act.put, List.setIfInBounds_toArray, List.set_cons_zero, List.set_cons_succ, List.getElem_toArray, List.getElem_cons_zero, List.getElem_cons_succ]
              first
                | (refine wpAnyH_take (i := 13) (v := undef) rfl (by kernel_rfl) (by kernel_rfl) (by kernel_rfl) (fun _ _ _ h => h) (Or.inr ⟨by rfl, rfl⟩) (by assumption) ?_)
                | (refine wpAnyH_take (i := 13) (v := ?_) rfl (by kernel_rfl) (by kernel_rfl) (by kernel_rfl) (fun _ _ _ h => h) (Or.inl ⟨by rfl, ?_⟩) (by assumption) ?_; rotate_left; (intro wH hSw; (try dsimp only at hSw); go_simp; try with_reducible rfl))
              try simp only [Act.put, List.setIfInBounds_toArray, List.set_cons_zero, List.set_cons_succ, List.getElem_toArray, List.getElem_cons_zero, List.getElem_cons_succ]
              first
                | (refine wpAnyH_take (i := 14) (v := undef) rfl (by kernel_rfl) (by kernel_rfl) (by kernel_rfl) (fun _ _ _ h => h) (Or.inr ⟨by rfl, rfl⟩) (by assumption) ?_)
                | (refine wpAnyH_take (i := 14) (v := ?_) rfl (by kernel_rfl) (by kernel_rfl) (by kernel_rfl) (fun _ _ _ h => h) (Or.inl ⟨by rfl, ?_⟩) (by assumption) ?_; rotate_left; (intro wH hSw; (try dsimp only at hSw); go_simp; try with_reducible rfl))
              try simp only [Act.put, List.setIfInBounds_toArray, List.set_cons_zero, List.set_cons_succ, List.getElem_toArray, List.getElem_cons_zero, List.getElem_cons_succ]
              refine wpAnyH_ready (rs := [15]) (by kernel_rfl) (by simp) ?_
              refine AllReadyH.cons rfl (fun K hK => ?_) AllReadyH.nil
              go_simp
              skip
              refine hK.out _ _ (by (try dsimp only); exact (heap_cell_other HS.out.row HS.out.x3 (by decide) _ _ _).trans ((box_cell HS.out.x3 3).trans rfl)) (fun hHeld => ?_)
              clear hK K
              try simp only [Act.put, List.setIfInBounds_toArray, List.set_cons_zero, List.set_cons_succ, List.getElem_toArray, List.getElem_cons_zero, List.getElem_cons_succ]
              refine wpAnyH_done (by kernel_rfl) ?_ _
              go_wp2
              go_meet
              obtain ⟨ls', hls⟩ := HS.out.line hg (k * 5 + 3) _
              exact ⟨_, _, _, _, _, _, ls', hls⟩
            · go_simp
              (go_at_call 102; refine (l1PickInt_c _ _ [1, -1, 100000000000] g _ HS0.out.cur.to (show Sl cInt (w3.alloc (.cells #[.int .i64 1, .int .i64 (-1), .int .i64 100000000000] 3)) (fun k => w3.heap.size ≤ k) (some ⟨w3.heap.size, 0, none⟩) [1, -1, 100000000000] from lit_int _ _ [1, -1, 100000000000] (by decide)).to (fun k hk => Nat.ne_of_gt (Nat.lt_of_lt_of_le HS0.out.cur.lt hk)) (by decide)).mono ?_; rintro e w4 ⟨⟨y, rfl⟩, hd⟩; have HS := Lib.hid (HS0.out.dr hg ⟨hd.1, Gro.trans inferInstance hd.2⟩); have l3 := (HS.out.c36 k (by omega)).2.1; have fr := HS.out.row.free (k * 5 + 3))
              refine hK.out _ _ (by (try dsimp only); exact (HS.out.c36 k (by omega)).1) (fun hHeld => ?_)
              clear hK K
              try simp only [Act.put, List.setIfInBounds_toArray, List.set_cons_zero, List.set_cons_succ, List.getElem_toArray, List.getElem_cons_zero, List.getElem_cons_succ]
              refine wpAnyH_ready (rs := [8]) (by kernel_rfl) (by simp) ?_
              refine AllReadyH.cons rfl (fun K hK => ?_) AllReadyH.nil
              go_simp
              skip
              refine hK.out _ _ (by (try dsimp only); exact hHeld) (fun hHeld => ?_)
              clear hK K
              try simp only [Act.put, List.setIfInBounds_toArray, List.set_cons_zero, List.set_cons_succ, List.getElem_toArray, List.getElem_cons_zero, List.getElem_cons_succ]
              first
                | (refine wpAnyH_take (i := 12) (v := undef) rfl (by kernel_rfl) (by kernel_rfl) (by kernel_rfl) (fun _ _ _ h => h) (Or.inr ⟨by rfl, rfl⟩) (by assumption) ?_)
                | (refine wpAnyH_take (i := 12) (v := ?_) rfl (by kernel_rfl) (by kernel_rfl) (by kernel_rfl) (fun _ _ _ h => h) (Or.inl ⟨by rfl, ?_⟩) (by assumption) ?_; rotate_left; (intro wH hSw; (try dsimp only at hSw); go_simp; try with_reducible rfl))
              try simp only [Act.put, List.setIfInBounds_toArray, List.set_cons_zero, List.set_cons_succ, List.getElem_toArray, List.getElem_cons_zero, List.getElem_cons_succ]
              first
                | (refine wpAnyH_take (i := 13) (v := undef) rfl (by kernel_rfl) (by kernel_rfl) (by kernel_rfl) (fun _ _ _ h => h) (Or.inr ⟨by rfl, rfl⟩) (by assumption) ?_)
                | (refine wpAnyH_take (i := 13) (v := ?_) rfl (by kernel_rfl) (by kernel_rfl) (by kernel_rfl) (fun _ _ _ h => h) (Or.inl ⟨by rfl, ?_⟩) (by assumption) ?_; rotate_left; (intro wH hSw; (try dsimp only at hSw); go_simp; try with_reducible rfl))
              try simp only [Act.put, List.setIfInBounds_toArray, List.set_cons_zero, List.set_cons_succ, List.getElem_toArray, List.getElem_cons_zero, List.getElem_cons_succ]
              first
                | (refine wpAnyH_take (i := 14) (v := undef) rfl (by kernel_rfl) (by kernel_rfl) (by kernel_rfl) (fun _ _ _ h => h) (Or.inr ⟨by rfl, rfl⟩) (by assumption) ?_)
                | (refine wpAnyH_take (i := 14) (v := ?_) rfl (by kernel_rfl) (by kernel_rfl) (by kernel_rfl) (fun _ _ _ h => h) (Or.inl ⟨by rfl, ?_⟩) (by assumption) ?_; rotate_left; (intro wH hSw; (try dsimp only at hSw); go_simp; try with_reducible rfl))
              try simp only [Act.put, List.setIfInBounds_toArray, List.set_cons_zero, List.set_cons_succ, List.getElem_toArray, List.getElem_cons_zero, List.getElem_cons_succ]
              refine wpAnyH_ready (rs := [15]) (by kernel_rfl) (by simp) ?_
              refine AllReadyH.cons rfl (fun K hK => ?_) AllReadyH.nil
              go_simp
              skip
              refine hK.out _ _ (by (try dsimp only); exact (heap_cell_other HS.out.row HS.out.x3 (by decide) _ _ _).trans ((box_cell HS.out.x3 3).trans rfl)) (fun hHeld => ?_)
              clear hK K
              try simp only [Act.put, List.setIfInBounds_toArray, List.set_cons_zero, List.set_cons_succ, List.getElem_toArray, List.getElem_cons_zero, List.getElem_cons_succ]
              refine wpAnyH_done (by kernel_rfl) ?_ _
              go_wp2
              go_meet
              obtain ⟨ls', hls⟩ := HS.out.line hg (k * 5 + 3) _
              exact ⟨_, _, _, _, _, _, ls', hls⟩
        · go_upto_region 20 with (fail)
          have l4 := (HS.out.c36 k (by omega)).2.2
          have fr := HS.out.row.free (k * 5 + 4)
          refine wp_region_held_drew (S := fun wq => wq.cell? ⟨w.heap.size, 3, none⟩ = some (.slice (some ⟨b, 0, none⟩) n cap)) (by kernel_rfl) c3 (fun hHeld => ?_)
          first
            | (refine wpAnyH_take (i := 0) (v := undef) rfl (by kernel_rfl) (by kernel_rfl) (by kernel_rfl) (fun _ _ _ h => h) (Or.inr ⟨by rfl, rfl⟩) (by assumption) ?_)
            | (refine wpAnyH_take (i := 0) (v := ?_) rfl (by kernel_rfl) (by kernel_rfl) (by kernel_rfl) (fun _ _ _ h => h) (Or.inl ⟨by rfl, ?_⟩) (by assumption) ?_; rotate_left; (intro wH hSw; (try dsimp only at hSw); go_simp; try with_reducible rfl))
          try simp only [Act.put, List.setIfInBounds_toArray, List.set_cons_zero, List.set_cons_succ, List.getElem_toArray, List.getElem_cons_zero, List.getElem_cons_succ]
          first
            | (refine wpAnyH_take (i := 1) (v := undef) rfl (by kernel_rfl) (by kernel_rfl) (by kernel_rfl) (fun _ _ _ h => h) (Or.inr ⟨by rfl, rfl⟩) (by assumption) ?_)
            | (refine wpAnyH_take (i := 1) (v := ?_) rfl (by kernel_rfl) (by kernel_rfl) (by kernel_rfl) (fun _ _ _ h => h) (Or.inl ⟨by rfl, ?_⟩) (by assumption) ?_; rotate_left; (intro wH hSw; (try dsimp only at hSw); go_simp; try with_reducible rfl))
          try simp only [Act.put, List.setIfInBounds_toArray, List.set_cons_zero, List.set_cons_succ, List.getElem_toArray, List.getElem_cons_zero, List.getElem_cons_succ]
          first
            | (refine wpAnyH_take (i := 2) (v := undef) rfl (by kernel_rfl) (by kernel_rfl) (by kernel_rfl) (fun _ _ _ h => h) (Or.inr ⟨by rfl, rfl⟩) (by assumption) ?_)
            | (refine wpAnyH_take (i := 2) (v := ?_) rfl (by kernel_rfl) (by kernel_rfl) (by kernel_rfl) (fun _ _ _ h => h) (Or.inl ⟨by rfl, ?_⟩) (by assumption) ?_; rotate_left; (intro wH hSw; (try dsimp only at hSw); go_simp; try with_reducible rfl))
          try simp only [Act.put, List.setIfInBounds_toArray, List.set_cons_zero, List.set_cons_succ, List.getElem_toArray, List.getElem_cons_zero, List.getElem_cons_succ]
          first
            | (refine wpAnyH_take (i := 3) (v := undef) rfl (by kernel_rfl) (by kernel_rfl) (by kernel_rfl) (fun _ _ _ h => h) (Or.inr ⟨by rfl, rfl⟩) (by assumption) ?_)
            | (refine wpAnyH_take (i := 3) (v := ?_) rfl (by kernel_rfl) (by kernel_rfl) (by kernel_rfl) (fun _ _ _ h => h) (Or.inl ⟨by rfl, ?_⟩) (by assumption) ?_; rotate_left; (intro wH hSw; (try dsimp only at hSw); go_simp; try with_reducible rfl))
          try simp only [Act.put, List.setIfInBounds_toArray, List.set_cons_zero, List.set_cons_succ, List.getElem_toArray, List.getElem_cons_zero, List.getElem_cons_succ]
          first
            | (refine wpAnyH_take (i := 4) (v := undef) rfl (by kernel_rfl) (by kernel_rfl) (by kernel_rfl) (fun _ _ _ h => h) (Or.inr ⟨by rfl, rfl⟩) (by assumption) ?_)
            | (refine wpAnyH_take (i := 4) (v := ?_) rfl (by kernel_rfl) (by kernel_rfl) (by kernel_rfl) (fun _ _ _ h => h) (Or.inl ⟨by rfl, ?_⟩) (by assumption) ?_; rotate_left; (intro wH hSw; (try dsimp only at hSw); go_simp; try with_reducible rfl))
          try simp only [Act.put, List.setIfInBounds_toArray, List.set_cons_zero, List.set_cons_succ, List.getElem_toArray, List.getElem_cons_zero, List.getElem_cons_succ]
          first
            | (refine wpAnyH_take (i := 5) (v := undef) rfl (by kernel_rfl) (by kernel_rfl) (by kernel_rfl) (fun _ _ _ h => h) (Or.inr ⟨by rfl, rfl⟩) (by assumption) ?_)
            | (refine wpAnyH_take (i := 5) (v := ?_) rfl (by kernel_rfl) (by kernel_rfl) (by kernel_rfl) (fun _ _ _ h => h) (Or.inl ⟨by rfl, ?_⟩) (by assumption) ?_; rotate_left; (intro wH hSw; (try dsimp only at hSw); go_simp; try with_reducible rfl))
          try simp only [Act.put, List.setIfInBounds_toArray, List.set_cons_zero, List.set_cons_succ, List.getElem_toArray, List.getElem_cons_zero, List.getElem_cons_succ]
          first
            | (refine wpAnyH_take (i := 6) (v := undef) rfl (by kernel_rfl) (by kernel_rfl) (by kernel_rfl) (fun _ _ _ h => h) (Or.inr ⟨by rfl, rfl⟩) (by assumption) ?_)
            | (refine wpAnyH_take (i := 6) (v := ?_) rfl (by kernel_rfl) (by kernel_rfl) (by kernel_rfl) (fun _ _ _ h => h) (Or.inl ⟨by rfl, ?_⟩) (by assumption) ?_; rotate_left; (intro wH hSw; (try dsimp only at hSw); go_simp; try with_reducible rfl))
          try simp only [Act.put, List.setIfInBounds_toArray, List.set_cons_zero, List.set_cons_succ, List.getElem_toArray, List.getElem_cons_zero, List.getElem_cons_succ]
          first
            | (refine wpAnyH_take (i := 7) (v := undef) rfl (by kernel_rfl) (by kernel_rfl) (by kernel_rfl) (fun _ _ _ h => h) (Or.inr ⟨by rfl, rfl⟩) (by assumption) ?_)
            | (refine wpAnyH_take (i := 7) (v := ?_) rfl (by kernel_rfl) (by kernel_rfl) (by kernel_rfl) (fun _ _ _ h => h) (Or.inl ⟨by rfl, ?_⟩) (by assumption) ?_; rotate_left; (intro wH hSw; (try dsimp only at hSw); go_simp; try with_reducible rfl))
          try simp only [Act.put, List.setIfInBounds_toArray, List.set_cons_zero, List.set_cons_succ, List.getElem_toArray, List.getElem_cons_zero, List.getElem_cons_succ]
          refine wpAnyH_ready (rs := [8]) (by kernel_rfl) (by simp) ?_
          refine AllReadyH.cons rfl (fun K hK => ?_) AllReadyH.nil
          go_simp
          skip
          refine hK.out _ _ (by (try dsimp only); exact hHeld) (fun hHeld => ?_)
          clear hK K
          try simp only [Act.put, List.setIfInBounds_toArray, List.set_cons_zero, List.set_cons_succ, List.getElem_toArray, List.getElem_cons_zero, List.getElem_cons_succ]
          first
            | (refine wpAnyH_take (i := 9) (v := undef) rfl (by kernel_rfl) (by kernel_rfl) (by kernel_rfl) (fun _ _ _ h => h) (Or.inr ⟨by rfl, rfl⟩) (by assumption) ?_)
            | (refine wpAnyH_take (i := 9) (v := ?_) rfl (by kernel_rfl) (by kernel_rfl) (by kernel_rfl) (fun _ _ _ h => h) (Or.inl ⟨by rfl, ?_⟩) (by assumption) ?_; rotate_left; (intro wH hSw; (try dsimp only at hSw); go_simp; try with_reducible rfl))
          try simp only [Act.put, List.setIfInBounds_toArray, List.set_cons_zero, List.set_cons_succ, List.getElem_toArray, List.getElem_cons_zero, List.getElem_cons_succ]
          first
            | (refine wpAnyH_take (i := 10) (v := undef) rfl (by kernel_rfl) (by kernel_rfl) (by kernel_rfl) (fun _ _ _ h => h) (Or.inr ⟨by rfl, rfl⟩) (by assumption) ?_)
            | (refine wpAnyH_take (i := 10) (v := ?_) rfl (by kernel_rfl) (by kernel_rfl) (by kernel_rfl) (fun _ _ _ h => h) (Or.inl ⟨by rfl, ?_⟩) (by assumption) ?_; rotate_left; (intro wH hSw; (try dsimp only at hSw); go_simp; try with_reducible rfl))
          try simp only [Act.put, List.setIfInBounds_toArray, List.set_cons_zero, List.set_cons_succ, List.getElem_toArray, List.getElem_cons_zero, List.getElem_cons_succ]
          first
            | (refine wpAnyH_take (i := 11) (v := undef) rfl (by kernel_rfl) (by kernel_rfl) (by kernel_rfl) (fun _ _ _ h => h) (Or.inr ⟨by rfl, rfl⟩) (by assumption) ?_)
            | (refine wpAnyH_take (i := 11) (v := ?_) rfl (by kernel_rfl) (by kernel_rfl) (by kernel_rfl) (fun _ _ _ h => h) (Or.inl ⟨by rfl, ?_⟩) (by assumption) ?_; rotate_left; (intro wH hSw; (try dsimp only at hSw); go_simp; try with_reducible rfl))
          try simp only [Act.put, List.setIfInBounds_toArray, List.set_cons_zero, List.set_cons_succ, List.getElem_toArray, List.getElem_cons_zero, List.getElem_cons_succ]
          refine wpAnyH_ready (rs := [12]) (by kernel_rfl) (by simp) ?_
          refine AllReadyH.cons rfl (fun K hK => ?_) AllReadyH.nil
          go_simp
          skip
          refine hK.out _ _ (by (try dsimp only); exact (heap_cell_other HS.out.row HS.out.x3 (by decide) _ _ _).trans ((box_cell HS.out.x3 3).trans rfl)) (fun hHeld => ?_)
          clear hK K
          try simp only [Act.put, List.setIfInBounds_toArray, List.set_cons_zero, List.set_cons_succ, List.getElem_toArray, List.getElem_cons_zero, List.getElem_cons_succ]
          refine wpAnyH_done (by kernel_rfl) ?_ _
          go_wp2
          go_meet
          obtain ⟨ls', hls⟩ := (HS.out.dr hg (⟨HS.out.cur.to, inferInstance⟩ : Dr g w3 w3.drew)).line hg (k * 5 + 4) _
          exact ⟨_, _, _, _, _, _, ls', hls⟩
        · have hkc : k ≤ cap := by have := HS.out.row.num; omega
          go_wp2
          go_meet
          have hrow := HS.out.row.first k (by have := HS.out.row.num; omega)
          exact ⟨_, _, _, _, _, _, _, HS.out.put hg 3 _ HS.out.ht (heap_setCell_same _ _ 3 _ _ _ HS.out.x3) hrow⟩
      case rest =>
        obtain ⟨d', r', t', A', n', cap', ls', hst⟩ := hcut
        obtain ⟨W2, hW2⟩ : ∃ W2 : World, W2 = wc := ⟨_, rfl⟩
        rw [← hW2] at hst ⊢
        have HS := Lib.hid hst
        clear hW2 hst
        have c0 := (box_cell HS.out.x3 0).trans rfl; have c1 := (box_cell HS.out.x3 1).trans rfl; have c2 := (box_cell HS.out.x3 2).trans rfl; have c3 := (box_cell HS.out.x3 3).trans rfl
        have d0 := (box_cell HS.out.x4 0).trans rfl; have d1 := (box_cell HS.out.x4 1).trans rfl; have d2 := (box_cell HS.out.x4 2).trans rfl; have d3 := (box_cell HS.out.x4 3).trans rfl; have f0 := box_free HS.out.x4 0; have f1 := box_free HS.out.x4 1; have f2 := box_free HS.out.x4 2; have f3 := box_free HS.out.x4 3
        go_wp2
        refine bodyPost_ret (results_cell_row rfl _ _ (w.heap.size + 1) 34 #[_, _, _, _] (0, 0) _ rfl (heap_setCell_same _ _ 3 _ _ _ (heap_setCell_same _ _ 2 _ _ _ (heap_setCell_same _ _ 1 _ _ _ (heap_setCell_same _ _ 0 _ _ _ HS.out.x4)))) Try.underlying34 rfl (by kernel_rfl)) rfl ?_
        exact HS.out.last hg
    · go_wp2
      refine bodyPost_ret (results_cell_row rfl _ _ (w.heap.size + 1) 34 #[_, _, _, _] (0, 0) _ rfl (heap_setCell_same _ _ 3 _ _ _ (heap_setCell_same _ _ 2 _ _ _ (heap_setCell_same _ _ 1 _ _ _ (heap_setCell_same _ _ 0 _ _ _ HS.out.x4)))) Try.underlying34 rfl (by kernel_rfl)) rfl ?_
      exact HS.out.last hg
end Go.Proofs.Ythgnfpbbhiegfaa
