/- The walks of the functions that draw a frame, a leaf, an entry. -/
import Derived.Test.YthgnfpbbhiegfaaDrawC
import Derived.Test.YthgnfpbbhiegfaaPost
namespace Go.Proofs.Ythgnfpbbhiegfaa
open Go.RowKit
theorem Own.slc {α : Type} {c : Cod α} {e : TypeId} {w : World} {base : Nat} {v : Value} {xs : List α} (h : Own c e w base v xs) : ∃ A n cap, v = .slice A n cap := by
  obtain ⟨A, cap, h, -⟩ := h.slice
  exact ⟨A, _, cap, h⟩
theorem Own.num {α : Type} {c : Cod α} {e : TypeId} {w : World} {base : Nat} {A : Option Addr} {n cap : Nat} {xs : List α} (h : Own c e w base (.slice A n cap) xs) : xs.length = n ∧ n ≤ cap := by
  obtain ⟨A', cap', h, hc⟩ := h.slice
  injection h with _ h1 h2
  omega
theorem push_len {ls : List Ln} {x : Ln} {n : Nat} (h : ls.length ≤ n) (hn : n ≤ 20) : (ls.length + [x].length) * 40 ≤ 140737488355328 := by
  simp only [List.length_cons, List.length_nil]
  omega
theorem Dr.set {g : Nat} {w W : World} (h : Dr g w W) (hg : g < w.heap.size) {b : Nat} (i : Nat) (u : Value) (hb : w.heap.size ≤ b) : Dr g w (W.setCell ⟨b, i, none⟩ u) := ⟨h.1.set _ (by show g < b; omega), h.2.set _ (.inl hb)⟩
theorem Own.setB {α : Type} {c : Cod α} {e : TypeId} {W : World} {base : Nat} {v : Value} {xs : List α} (h : Own c e W base v xs) (hf : Flat c) {b : Nat} (i : Nat) (u : Value) (hb : v.ownBlock ≠ some b) : Own c e (W.setCell ⟨b, i, none⟩ u) base v xs :=
  h.kept hf (set_grown _ _ _ _) (fun j hj e => hb (by rw [e, hj]))
set_option maxRecDepth 100000 in
theorem l5DrawFrame_c (g : Nat) (w : World) (hc : Cur w g) : Calls Try.prog 70 #[.pointer (some ⟨g, 0, none⟩)] w fun e w' => (∃ (A : Option Addr) (c : Nat) (f : Fr), e = .returned (.agg #[.slice A f.chart.length c, .int .i64 f.dims, .int .i64 f.curs]) ∧ f.chart.length ≤ c ∧ Own cAc 115 w' (g + 1) (.slice A f.chart.length c) f.chart ∧ (3 ≤ f.chart.length ∧ f.chart.length ≤ 9)) ∧ Dr g w w' := by
  have hg := hc.lt
  go_enter Try.func70, Try.ntmps70
  go_upto_region 1 with (fail)
  obtain ⟨W0, hW0, hx0, b0, hsz⟩ : ∃ W0 : World, W0 = w.alloc (.cells #[.slice none 0 0, .int .i64 0, .int .i64 0] 26) ∧ W0.heap[w.heap.size]? = some (.cells #[.slice none 0 0, .int .i64 0, .int .i64 0] 26 (0, 0)) ∧ Gro g w W0 ∧ W0.heap.size = w.heap.size + 1 := ⟨_, rfl, heap_alloc_new _ _, inferInstance, by simp⟩
  have hc0 : Cur W0 g := by rw [hW0]; exact hc.to
  rw [← hW0]
  clear hW0
  have X0 := Lib.hid hx0
  have HSZ := Lib.hid hsz
  clear hx0 hsz
  go_wp2_with (first | (go_at_call 168; refine (l4DrawChart_c g _ hc0).mono ?_; rintro e w1 ⟨⟨A, c, l, rfl, hlc, hown, hl⟩, hd1⟩; have HD := Lib.hid hd1; have HO := Lib.hid hown; clear hown hd1) | (go_at_call 73; refine (l1Below_c _ g _ HD.out.1).mono ?_; rintro e w2 ⟨⟨x, rfl, hx⟩, hd2⟩; have HD2 := HD; have HO := Lib.hid (HO.out.gro flatAc hd2.2 (by have := HSZ.out; omega)); have HD := Lib.hid (HD2.out.trans hd2); have z := box_gro X0.out (by omega) HD.out.2; have HZ := Lib.hid z; have z0 := (box_cell z 0).trans rfl; have z1 := (box_cell z 1).trans rfl; have z2 := (box_cell z 2).trans rfl; have f0 := box_free z 0; have f1 := box_free z 1; have f2 := box_free z 2; clear hd2 z HD2))
  have hsz := HSZ.out
  refine bodyPost_ret (results_cell_row rfl _ _ w.heap.size 26 #[_, _, _] (0, 0) _ rfl (heap_setCell_same _ _ 2 _ _ _ (heap_setCell_same _ _ 1 _ _ _ (heap_setCell_same _ _ 0 _ _ _ HZ.out))) Try.underlying26 rfl (by kernel_rfl)) rfl ?_
  have hd : Dr g w _ := ⟨HD.out.1, b0.trans HD.out.2⟩
  have ho := HO.out
  have hne : (Value.slice A l.length c).ownBlock ≠ some w.heap.size := fun e => by have := (ho.lt _ e).1; omega
  exact ⟨⟨A, c, ⟨l, _, _⟩, rfl, hlc, (((ho.lower (by omega)).setB flatAc 0 _ hne).setB flatAc 1 _ hne).setB flatAc 2 _ hne, hl⟩, ((hd.set hg 0 _ (Nat.le_refl _)).set hg 1 _ (Nat.le_refl _)).set hg 2 _ (Nat.le_refl _)⟩
set_option maxRecDepth 100000 in
theorem l5DrawLeaf_c {S : Nat → Prop} (A : Option Addr) (c : Nat) (l : List Ac) (g : Nat) (w : World) (hc : Cur w g) (hs : Sl cAc w S A l) (hS : ∀ k, S k → k ≠ g) (hl : 0 < l.length ∧ l.length ≤ 100) : Calls Try.prog 244 #[.pointer (some ⟨g, 0, none⟩), .slice A l.length c] w fun e w' => (∃ x : Nat, e = .returned (.int .i64 x)) ∧ Dr g w w' := by
  go_enter Try.func244, Try.ntmps244
  go_wp2_with (go_at_call 73; refine (l1Below_c _ g _ hc).mono ?_; rintro e w1 ⟨⟨x, rfl, hx⟩, hd⟩)
  have hx := hx (by omega)
  go_loopw [6] (fun v wq => ∃ k : Nat, k ≤ l.length ∧ v = .int .i64 k ∧ Dr g w wq) (fun v _ => l.length - (intOf v).toNat)
  case atStart => exact ⟨0, Nat.zero_le _, rfl, hd⟩
  case round =>
    clear hd
    obtain ⟨wo, rfl⟩ : ∃ wo : World, wo = wr := ⟨_, rfl⟩
    obtain ⟨k, hk, rfl, hd⟩ := hrel
    by_cases hlt : k < l.length
    · have hn : (1 : Int) ≤ l.length := by omega
      go_wp2_with (go_at_call 165; refine (spec_Leaf_c _ _ _ _ _ (hs.gro hd.2 hS)).mono ?_; rintro e w2 ⟨rfl, hb2⟩; have hd2 : Dr g w w2 := ⟨hd.1.kept (fun k hk => hb2.block k (by have := hd.1.lt; omega)), hd.2.trans ⟨grown_of_below hb2 _⟩⟩)
      · go_ret
        exact ⟨⟨(x + k) % l.length, ret_i (by simp)⟩, hd2⟩
      · go_roundw
        case rel => exact ⟨k + 1, by omega, by go_num, hd2⟩
        case measure => simp [intOf]; omega
    · have e : k = l.length := by omega
      subst e
      go_wp2
      go_ret
      exact ⟨⟨x, rfl⟩, hd⟩
/-- An entry that is being drawn: the frame, the result's box, the entry's box, its lines. -/
structure EnS (g : Nat) (w wq : World) (A : Option Addr) (c : Nat) (f : Fr) (d r : Int) (t : ByteArray) (v : Value) (ls : List Ln) (n b5 : Nat) : Prop where
  x3 : wq.heap[w.heap.size]? = some (.cells #[.slice A f.chart.length c, .int .i64 f.dims, .int .i64 f.curs] 26 (0, 0))
  x4 : wq.heap[w.heap.size + 1]? = some (.cells #[.int .i64 0, .int .i64 0, .string ⟨#[]⟩, .slice none 0 0] 34 (0, 0))
  x5 : wq.heap[b5]? = some (.cells #[.int .i64 d, .int .i64 r, .string t, v] 34 (0, 0))
  ht : t.size ≤ 140737488355328
  cur : Cur wq g
  gro : Gro g w wq
  row : Own cLn 130 wq (g + 1) v ls
  new : ∀ j, v.ownBlock = some j → w.heap.size + 2 ≤ j
  len : ls.length ≤ n
  hb : w.heap.size + 2 ≤ b5
theorem EnS.dr {g : Nat} {w wq w1 : World} {A : Option Addr} {c : Nat} {f : Fr} {d r : Int} {t : ByteArray} {v : Value} {ls : List Ln} {n b5 : Nat} (h : EnS g w wq A c f d r t v ls n b5) (hg : g < w.heap.size) (hd : Dr g wq w1) : EnS g w w1 A c f d r t v ls n b5 where
  x3 := box_gro h.x3 (by omega) hd.2
  x4 := box_gro h.x4 (by omega) hd.2
  x5 := box_gro h.x5 (by have := h.hb; omega) hd.2
  ht := h.ht
  cur := hd.1
  gro := h.gro.trans hd.2
  row := h.row.gro flatLn hd.2 (by omega)
  new := h.new
  len := h.len
  hb := h.hb
theorem EnS.drew {g : Nat} {w wq : World} {A : Option Addr} {c : Nat} {f : Fr} {d r : Int} {t : ByteArray} {v : Value} {ls : List Ln} {n b5 : Nat} (h : EnS g w wq A c f d r t v ls n b5) (hg : g < w.heap.size) (k : Nat) : EnS g w (wq.drewN k) A c f d r t v ls n b5 := h.dr hg ⟨h.cur.to, inferInstance⟩
/-- What an append to the lines leaves. -/
theorem EnS.push {g : Nat} {w wq w1 : World} {A : Option Addr} {c : Nat} {f : Fr} {d r : Int} {t : ByteArray} {v v1 : Value} {ls : List Ln} {n b5 : Nat} {x : Ln} {o : Obj} (h : EnS g w wq A c f d r t v ls n b5) (hg : g < w.heap.size)
    (hown : Own cLn 130 w1 (g + 1) v1 (ls ++ [x])) (hgr : (wq.alloc o).grownBy w1 v.ownBlock) (hat : v1.ownBlock = v.ownBlock ∨ v1.ownBlock = some (wq.alloc o).heap.size) :
    w1.heap[b5]? = some (.cells #[.int .i64 d, .int .i64 r, .string t, v] 34 (0, 0)) ∧ EnS g w (w1.setCell ⟨b5, 3, none⟩ v1) A c f d r t v1 (ls ++ [x]) (n + 1) b5 := by
  have s1 := h.gro.size
  have hlt := h.row.lt
  have keep : ∀ (j : Nat) (o' : Obj), wq.heap[j]? = some o' → v.ownBlock ≠ some j → w1.heap[j]? = some o' := fun j o' hj hne => (hgr.block j (by have := box_lt hj; simp; omega) (fun e => hne e.symm)).trans (box_al hj)
  have ne : ∀ (j : Nat) (cur : Array Value) (T : TypeId) (fr : Nat × Nat), wq.heap[j]? = some (.cells cur T fr) → T ≠ 130 → v.ownBlock ≠ some j := fun j cur T fr hj hT e => by
    rcases h.row.split with ⟨rfl, -⟩ | ⟨b, cap, cur', rfl, -, hh, -⟩
    · cases e
    · simp only [Value.ownBlock, Option.some.injEq] at e
      subst e
      rw [hh] at hj
      injection hj with hj
      injection hj with _ hj _
      exact hT hj.symm
  have k3 := keep _ _ h.x3 (ne _ _ _ _ h.x3 (by decide))
  have k4 := keep _ _ h.x4 (ne _ _ _ _ h.x4 (by decide))
  have k5 := keep _ _ h.x5 (ne _ _ _ _ h.x5 (by decide))
  have hb := h.hb
  have l5 := box_lt h.x5
  have hv1 : ∀ j, v1.ownBlock = some j → w.heap.size + 2 ≤ j := fun j e => by
    rcases hat with hat | hat
    · exact h.new j (hat ▸ e)
    · rw [hat] at e
      simp at e
      omega
  have n1 : v1.ownBlock ≠ some b5 := fun e => by
    rcases hat with hat | hat
    · exact ne _ _ _ _ h.x5 (by decide) (hat ▸ e)
    · rw [hat] at e
      simp at e
      omega
  have hc1 : Cur w1 g := (h.cur.to (W := wq.alloc o)).row hgr (fun j hj => by have := h.new j hj; omega)
  have hgi : Gro g w wq := h.gro
  have hg1 : Gro g w w1 := Gro.row hgr (fun j hj => by have := h.new j hj; omega)
  exact ⟨k5, (heap_setCell_other _ _ _ _ (by show w.heap.size ≠ b5; omega)).trans k3, (heap_setCell_other _ _ _ _ (by show w.heap.size + 1 ≠ b5; omega)).trans k4, heap_setCell_same _ _ 3 _ _ _ k5, h.ht, hc1.set _ (by show g < b5; omega), hg1.set _ (.inl (by show w.heap.size ≤ b5; omega)), hown.setB flatLn 3 _ n1, hv1, by rw [List.length_append]; have := h.len; simp; omega, h.hb⟩
theorem EnS.start {g : Nat} {w W0 wq : World} {A : Option Addr} {c : Nat} {f : Fr} (hg : g < w.heap.size) (hx3 : W0.heap[w.heap.size]? = some (.cells #[.slice A f.chart.length c, .int .i64 f.dims, .int .i64 f.curs] 26 (0, 0))) (hx4 : W0.heap[w.heap.size + 1]? = some (.cells #[.int .i64 0, .int .i64 0, .string ⟨#[]⟩, .slice none 0 0] 34 (0, 0))) (hsz : W0.heap.size = w.heap.size + 2)
    (h0 : Gro g w W0) (hd : Dr g W0 wq) (t : ByteArray) (ht : t.size ≤ 140737488355328) (d r : Int) : EnS g w (wq.alloc (.cells #[.int .i64 d, .int .i64 r, .string t, .slice none 0 0] 34)) A c f d r t (.slice none 0 0) [] 0 wq.heap.size where
  x3 := box_al (box_gro hx3 (by omega) hd.2)
  x4 := box_al (box_gro hx4 (by omega) hd.2)
  x5 := heap_alloc_new _ _
  ht := ht
  cur := hd.1.to
  gro := (h0.trans hd.2).trans inferInstance
  row := Own.nil
  new := fun j hj => by cases hj
  len := Nat.le_refl _
  hb := by have := hd.2.size; omega
def texts4 : List ByteArray := [⟨#[]⟩, ⟨#[103, 111, 111, 100, 115]⟩, ⟨#[119, 97, 103, 101, 115, 32, 51]⟩, ⟨#[97, 32, 98, 32, 99]⟩]
theorem texts4_size : ∀ s ∈ texts4, s.size ≤ 140737488355328 := by
  intro s hs
  simp only [texts4, List.mem_cons, List.not_mem_nil, or_false] at hs
  rcases hs with rfl | rfl | rfl | rfl <;> decide
set_option maxRecDepth 100000 in
set_option maxHeartbeats 4000000 in
theorem l5DrawEntry_c {S : Nat → Prop} (A : Option Addr) (c : Nat) (f : Fr) (g : Nat) (w : World) (hc : Cur w g) (hs : Sl cAc w S A f.chart) (hS : ∀ k, S k → k ≠ g) (hl : 0 < f.chart.length ∧ f.chart.length ≤ 100) :
    Calls Try.prog 171 #[.pointer (some ⟨g, 0, none⟩), .agg #[.slice A f.chart.length c, .int .i64 f.dims, .int .i64 f.curs]] w fun e w' => (∃ x : EV, e = .returned (.agg #[.int .i64 x.day, .int .i64 x.ref, .string x.text, .slice x.a x.n x.cap]) ∧ x.text.size ≤ 140737488355328 ∧ ∃ ls : List Ln, ls.length = x.n ∧ Own cLn 130 w' (g + 1) (.slice x.a x.n x.cap) ls) ∧ Dr g w w' := by
  have hg := hc.lt
  go_enter Try.func171, Try.ntmps171
  go_upto_region 1 with (fail)
  obtain ⟨W0, hW0, x3, x4, b0, hsz, hc0⟩ : ∃ W0 : World, W0 = (w.alloc (.cells #[.slice A f.chart.length c, .int .i64 f.dims, .int .i64 f.curs] 26)).alloc (.cells #[.int .i64 0, .int .i64 0, .string ⟨#[]⟩, .slice none 0 0] 34) ∧ W0.heap[w.heap.size]? = some (.cells #[.slice A f.chart.length c, .int .i64 f.dims, .int .i64 f.curs] 26 (0, 0)) ∧ W0.heap[w.heap.size + 1]? = some (.cells #[.int .i64 0, .int .i64 0, .string ⟨#[]⟩, .slice none 0 0] 34 (0, 0)) ∧ Gro g w W0 ∧ W0.heap.size = w.heap.size + 2 ∧ Cur W0 g := ⟨_, rfl, new_box2a _ _ _, new_box2b _ _ _, inferInstance, by simp, hc.to⟩
  rw [← hW0]
  clear hW0
  have X3 := Lib.hid x3
  have X4 := Lib.hid x4
  have HSZ := Lib.hid hsz
  have HD : Dr g W0 W0 := ⟨hc0, inferInstance⟩
  clear x3 x4 hsz
  go_upto_region 2 with (first | (go_at_call 73; refine (l1Below_c _ g _ HD.1).mono ?_; rintro e w' ⟨⟨x, rfl, -⟩, hd⟩; have HD := HD.trans hd; clear hd) | (go_at_call 100; refine (l1Pick_c _ _ texts4 g _ HD.1.to (lit_str _ _ texts4 (by decide) texts4_size) (fun k hk => by have := HD.1.lt; omega) (by decide)).mono ?_; rintro e w' ⟨⟨s, rfl, hs4⟩, hd⟩; have HD := HD.trans ⟨hd.1, (Gro.alloc (g := g) (W := _) _).trans hd.2⟩))
  have hsz' : s.size ≤ 140737488355328 := texts4_size s hs4
  have HE := EnS.start hg X3.out X4.out HSZ.out b0 HD s hsz'
  go_wp2_with (go_at_call 73; refine (l1Below_c _ g _ (HE _ _).cur).mono ?_; rintro e w2 ⟨⟨x6, rfl, hx6⟩, hd⟩; have HS := Lib.hid ((HE _ _).dr hg hd); have hx6 := hx6 (by omega))
  clear HE HD
  go_loopw [6] (fun v wq => ∃ (m : Nat) (d r : Int) (t : ByteArray) (vl : Value) (ls : List Ln), v = .int .i64 m ∧ m ≤ 3 ∧ EnS g w wq A c f d r t vl ls (9 - 3 * m) w'.heap.size) (fun v _ => (intOf v).toNat)
  case atStart => 
    have h := HS.out
    exact ⟨1 + x6, _, _, _, _, _, by go_num, by omega, ⟨h.x3, h.x4, h.x5, h.ht, h.cur, h.gro, h.row, h.new, by simp, h.hb⟩⟩
  case round =>
    clear HS
    obtain ⟨wo, rfl⟩ : ∃ wo : World, wo = wr := ⟨_, rfl⟩
    obtain ⟨m, d, r, t, vl, ls, rfl, hm3, hst⟩ := hrel
    obtain ⟨b5, hb5⟩ : ∃ b5, b5 = w'.heap.size := ⟨_, rfl⟩
    rw [← hb5] at hst ⊢
    obtain ⟨a, n0, cap, rfl⟩ := hst.row.slc
    have HS := Lib.hid hst
    clear hst hb5
    by_cases hm : 0 < m
    · have hm1 : (0 : Int) < m := by omega
      have c1 := (box_cell HS.out.x3 1).trans rfl
      have c2 := (box_cell HS.out.x3 2).trans rfl
      go_wp2_with (first | (go_at_call 73; refine (l1Below_c _ g _ HS.out.cur).mono ?_; rintro e w2 ⟨⟨x, rfl, -⟩, hd⟩; have HS := Lib.hid (HS.out.dr hg hd); clear hd; have c0 := (box_cell HS.out.x3 0).trans rfl; have c1 := (box_cell HS.out.x3 1).trans rfl; have c2 := (box_cell HS.out.x3 2).trans rfl; have c3 := (box_cell HS.out.x5 3).trans rfl) | (go_at_call 244; refine (l5DrawLeaf_c _ _ _ g _ HS.out.cur (hs.gro HS.out.gro hS) hS hl).mono ?_; rintro e w2 ⟨⟨x, rfl⟩, hd⟩; have HS := Lib.hid (HS.out.dr hg hd); clear hd; have c0 := (box_cell HS.out.x3 0).trans rfl; have c1 := (box_cell HS.out.x3 1).trans rfl; have c2 := (box_cell HS.out.x3 2).trans rfl; have c3 := (box_cell HS.out.x5 3).trans rfl) | (go_at_call 101; refine (l1Once_c _ g _ HS.out.cur).mono ?_; rintro e w2 ⟨⟨bo, rfl⟩, hd⟩; have HS := Lib.hid (HS.out.dr hg hd); clear hd; have c0 := (box_cell HS.out.x3 0).trans rfl; have c1 := (box_cell HS.out.x3 1).trans rfl; have c2 := (box_cell HS.out.x3 2).trans rfl; have c3 := (box_cell HS.out.x5 3).trans rfl) | (at_builtin; refine Own.append cLn 32 130 (g + 1) rfl _ _ rfl Try.underlying32 (.agg #[.int .i64 0, .int .i64 0, .int .i64 0, .int .i64 0, .int .i64 0]) 40 infoLn rfl (by decide) (by decide) _ _ rfl HS.out.row.to [⟨_, _, _, _, _⟩] [_, _, _, _, _] ⟨_, 0, none⟩ 1 rfl (Reps.single Ln_mk rfl) (box_cells' (by simp)) (by have := HS.out.cur.lt; simp at this ⊢; omega) (push_len HS.out.len (by omega)) ?_; intro v1 w5 hown5 hg5 hat5; obtain ⟨A1, n1, cap1, rfl⟩ := hown5.slc; obtain ⟨x5, hp⟩ := EnS.push HS.out hg hown5 hg5 hat5; have HS := Lib.hid hp; have d3 := (box_cell x5 3).trans rfl; have f3 := box_free x5 3; have c0 := (box_cell HS.out.x3 0).trans rfl; have c1 := (box_cell HS.out.x3 1).trans rfl; have c2 := (box_cell HS.out.x3 2).trans rfl; have c3 := (box_cell HS.out.x5 3).trans rfl; clear x5 hp hown5 hg5 hat5))
      all_goals
        go_roundw
        case rel =>
          have h := HS.out
          exact ⟨m - 1, d, r, t, _, _, by go_num, by omega, ⟨h.x3, h.x4, h.x5, h.ht, h.cur, h.gro, h.row, h.new, by have := h.len; omega, h.hb⟩⟩
        case measure => simp [intOf]; omega
    · have hm1 : ¬ (0 : Int) < m := by omega
      have c0 := (box_cell HS.out.x5 0).trans rfl
      have c1 := (box_cell HS.out.x5 1).trans rfl
      have c2 := (box_cell HS.out.x5 2).trans rfl
      have c3 := (box_cell HS.out.x5 3).trans rfl
      have d0 := (box_cell HS.out.x4 0).trans rfl
      have d1 := (box_cell HS.out.x4 1).trans rfl
      have d2 := (box_cell HS.out.x4 2).trans rfl
      have d3 := (box_cell HS.out.x4 3).trans rfl
      have f0 := box_free HS.out.x4 0
      have f1 := box_free HS.out.x4 1
      have f2 := box_free HS.out.x4 2
      have f3 := box_free HS.out.x4 3
      go_wp2
      refine bodyPost_ret (results_cell_row rfl _ _ (w.heap.size + 1) 34 #[_, _, _, _] (0, 0) _ rfl (heap_setCell_same _ _ 3 _ _ _ (heap_setCell_same _ _ 2 _ _ _ (heap_setCell_same _ _ 1 _ _ _ (heap_setCell_same _ _ 0 _ _ _ HS.out.x4)))) Try.underlying34 rfl (by kernel_rfl)) rfl ?_
      have h := HS.out
      have hne : (Value.slice a n0 cap).ownBlock ≠ some (w.heap.size + 1) := fun e => by have := h.new _ e; omega
      have hd : Dr g w wo := ⟨h.cur, h.gro⟩
      exact ⟨⟨⟨d, r, t, a, n0, cap⟩, rfl, h.ht, ls, h.row.num.1, (((h.row.setB flatLn 0 _ hne).setB flatLn 1 _ hne).setB flatLn 2 _ hne).setB flatLn 3 _ hne⟩, (((hd.set hg 0 _ (by omega)).set hg 1 _ (by omega)).set hg 2 _ (by omega)).set hg 3 _ (by omega)⟩
end Go.Proofs.Ythgnfpbbhiegfaa
