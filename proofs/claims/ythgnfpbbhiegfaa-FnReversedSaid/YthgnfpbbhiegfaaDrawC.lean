/- The walk of the function that draws a chart. -/
import Derived.Test.YthgnfpbbhiegfaaDraw2
import Derived.Test.YthgnfpbbhiegfaaFrame
import Derived.Deep.DeepCutAuto
import Derived.Deep.CutBlock
namespace Go.Proofs.Ythgnfpbbhiegfaa
open Go.RowKit
theorem infoAc : (Try.prog.info? 115).map (fun i => (i.zero, i.size, i.bytes)) = some (some (.agg #[.string ⟨#[]⟩, .int .i64 0, .int .i64 0]), 3, 32) := by kernel_rfl
theorem dec_snoc {l : List Ac} {x : Ac} (h : Dec l l.length) (hx : x.parent < l.length) : Dec (l ++ [x]) (l ++ [x]).length := by
  intro j hj
  rw [List.length_append] at hj
  unfold par
  by_cases e : j < l.length
  · have := h j e
    unfold par at this
    rw [el_eq _ _ (by rw [List.length_append]; omega), List.getElem_append_left e, ← el_eq l j e]
    exact this
  · simp at hj
    obtain rfl : j = l.length := by omega
    rw [el_eq _ _ (by simp), List.getElem_append_right (Nat.le_refl _)]
    simpa using hx
/-- The head of a round: what has been drawn. -/
structure ChR (g : Nat) (w wq : World) (v : Value) (l : List Ac) : Prop where
  cur : Cur wq g
  gro : Gro g w wq
  row : Own cAc 115 wq w.heap.size v l
  dec : Dec l l.length
/-- In a round: the account that is being made, in block b. -/
structure ChS (g : Nat) (w wq : World) (v : Value) (l : List Ac) (b : Nat) (s : ByteArray) (p y : Int) : Prop where
  box : wq.heap[b]? = some (.cells #[.string s, .int .i64 p, .int .i64 y] 115 (0, 0))
  hs : s.size ≤ 140737488355328
  cur : Cur wq g
  gro : Gro g w wq
  row : Own cAc 115 wq w.heap.size v l
  hb : w.heap.size ≤ b
  ne : v.ownBlock ≠ some b
theorem ChR.make {g : Nat} {w wr w2 : World} {v : Value} {l : List Ac} (h : ChR g w wr v l) (hg : g < w.heap.size) (hd : Dr g wr w2) {s : ByteArray} (hs : s.size ≤ 140737488355328) (p y : Int) :
    ChS g w (w2.alloc (.cells #[.string s, .int .i64 p, .int .i64 y] 115)) v l w2.heap.size s p y where
  box := heap_alloc_new _ _
  hs := hs
  cur := hd.1.to
  gro := (h.gro.trans hd.2).trans inferInstance
  row := (h.row.gro flatAc hd.2 hg).to
  hb := Nat.le_trans h.gro.size hd.2.size
  ne := fun e => by have := ((h.row.gro flatAc hd.2 hg).lt _ e).2; omega
theorem ChS.dr {g : Nat} {w wq w1 : World} {v : Value} {l : List Ac} {b : Nat} {s : ByteArray} {p y : Int} (h : ChS g w wq v l b s p y) (hg : g < w.heap.size) (hd : Dr g wq w1) : ChS g w w1 v l b s p y where
  box := box_gro h.box (by have := h.hb; omega) hd.2
  hs := h.hs
  cur := hd.1
  gro := h.gro.trans hd.2
  row := h.row.gro flatAc hd.2 hg
  hb := h.hb
  ne := h.ne
theorem ChS.drew {g : Nat} {w wq : World} {v : Value} {l : List Ac} {b : Nat} {s : ByteArray} {p y : Int} (h : ChS g w wq v l b s p y) (n : Nat) (hg : g < w.heap.size) : ChS g w (wq.drewN n) v l b s p y := h.dr hg ⟨h.cur.to, inferInstance⟩
theorem ChS.put {g : Nat} {w wq : World} {v : Value} {l : List Ac} {b : Nat} {s s' : ByteArray} {p y p' y' : Int} (h : ChS g w wq v l b s p y) (hg : g < w.heap.size) (i : Nat) (u : Value) (hs' : s'.size ≤ 140737488355328)
    (hx : (wq.setCell ⟨b, i, none⟩ u).heap[b]? = some (.cells #[.string s', .int .i64 p', .int .i64 y'] 115 (0, 0))) : ChS g w (wq.setCell ⟨b, i, none⟩ u) v l b s' p' y' where
  box := hx
  hs := hs'
  cur := h.cur.set _ (by have := h.hb; show g < b; omega)
  gro := h.gro.set _ (.inl h.hb)
  row := h.row.kept flatAc (set_grown _ _ _ _) (fun j hj e => h.ne (by rw [e, hj]))
  hb := h.hb
  ne := h.ne
set_option maxRecDepth 100000 in
set_option maxHeartbeats 4000000 in
theorem l4DrawChart_c (g : Nat) (w : World) (hc : Cur w g) : Calls Try.prog 168 #[.pointer (some ⟨g, 0, none⟩), .int .i64 7] w fun e w' => (∃ (A : Option Addr) (c : Nat) (l : List Ac), e = .returned (.slice A l.length c) ∧ l.length ≤ c ∧ Own cAc 115 w' w.heap.size (.slice A l.length c) l ∧ (3 ≤ l.length ∧ l.length ≤ 9)) ∧ Dr g w w' := by
  have hg := hc.lt
  go_enter Try.func168, Try.ntmps168
  go_wp2_with (go_at_call 73; refine (l1Below_c 7 g _ hc.to).mono ?_; rintro e w1 ⟨⟨x, rfl, hx⟩, hd⟩)
  have hx := hx (by omega)
  have h0 : ChR g w w1 (.slice (some ⟨w.heap.size, 0, none⟩) 0 0) [] := ⟨hd.1, (Gro.alloc (g := g) (w := w) (W := w) _).trans hd.2, (Own.lit (c := cAc) (e := 115) (base := w.heap.size) (xs := []) [] (Nat.le_refl _) (by simp) Reps.none).gro flatAc hd.2 hg, fun j hj => absurd hj (Nat.not_lt_zero j)⟩
  have H0 := Lib.hid h0
  clear h0 hd
  go_loopw [5, 6] (fun v n wq => ∃ (l : List Ac) (m : Nat), n = .int .i64 m ∧ l.length + m = 3 + x ∧ ChR g w wq v l) (fun _ n _ => (intOf n).toNat)
  case atStart => exact ⟨[], 3 + x, by go_num, by simp, H0.out⟩
  case round =>
    clear H0
    obtain ⟨wo, rfl⟩ : ∃ wo : World, wo = wr := ⟨_, rfl⟩
    obtain ⟨l, m, rfl, hlm, hch⟩ := hrel
    obtain ⟨A, c, rfl, hcap⟩ := hch.row.slice
    have HCH := Lib.hid hch
    clear hch
    by_cases hm : 0 < m
    · go_upto_block 2 with (first | (go_at_call 241; refine (l1DrawName_c g _ HCH.out.cur).mono ?_; rintro e w2 ⟨⟨s, rfl, hs⟩, hd2⟩) | (go_at_call 73; refine (l1Below_c 5 g _ hd2.1).mono ?_; rintro e w3 ⟨⟨y, rfl, hy⟩, hd3⟩; have hy := hy (by omega)))
      have hst := HCH.out.make hg (hd2.trans hd3) hs (-1) (1 + (y : Int))
      obtain ⟨b, hb⟩ : ∃ b, b = w3.heap.size := ⟨_, rfl⟩
      obtain ⟨W1, hW1⟩ : ∃ W1 : World, W1 = w3.alloc (.cells #[.string s, .int .i64 (-1), .int .i64 (1 + y)] 115) := ⟨_, rfl⟩
      rw [← hW1, ← hb] at hst
      rw [← hW1, ← hb]
      have HST := Lib.hid hst
      have hl9 : l.length ≤ 9 := by omega
      clear hW1 hb hst hd2 hd3
      go_cut [] (fun wc => ∃ s' : ByteArray, ChS g w wc (.slice A l.length c) l b s' (-1) (1 + y))
      case first =>
        go_wp2
        go_loopw [9] (fun k wq => ∃ (j : Nat) (s' : ByteArray), j ≤ l.length ∧ k = .int .i64 j ∧ ChS g w wq (.slice A l.length c) l b s' (-1) (1 + y)) (fun k _ => l.length - (intOf k).toNat)
        case atStart => exact ⟨0, s, Nat.zero_le _, rfl, HST.out⟩
        case round =>
          clear HST
          obtain ⟨wp, rfl⟩ : ∃ wp : World, wp = wr := ⟨_, rfl⟩
          obtain ⟨j, s', hj, rfl, hst⟩ := hrel
          have HST := Lib.hid hst
          have c0 := (box_cell hst.box 0).trans rfl
          have f0 := box_free hst.box 0
          clear hst
          by_cases hlt : j < l.length
          · obtain ⟨ad, e, l0, -, -, hz⟩ := at_Ac HST.out.row.reads j hlt
            cases e
            have hds := dtx_size 0 l.length
            have hdn : ¬ 9223372036854775807 < 1 + (dtx 0 l.length).size := by omega
            go_wp2
            go_quiet (fail)
            go_wp2_with (go_at_call 84; refine (l1Text_c 0 l.length _ (by omega) (by omega)).mono ?_; rintro e w' ⟨rfl, n, rfl⟩)
            · go_roundw
              case rel =>
                refine ⟨j + 1, _, by omega, by go_num, (HST.out.drew _ hg).put hg 0 (.string (⟨#[110]⟩ ++ dtx 0 l.length)) ?_ (heap_setCell_same _ _ 0 _ _ _ HST.out.box)⟩
                rw [ByteArray.size_append]
                show 1 + _ ≤ _
                omega
              case measure => simp [intOf]; omega
            · go_roundw
              case rel => exact ⟨j + 1, s', by omega, by go_num, HST.out.drew _ hg⟩
              case measure => simp [intOf]; omega
          · have ej : j = l.length := by omega
            subst ej
            go_wp2
            go_meet
            exact ⟨s', HST.out⟩
      case rest =>
        obtain ⟨s', hst⟩ := hcut
        obtain ⟨W2, hW2⟩ : ∃ W2 : World, W2 = wc := ⟨_, rfl⟩
        rw [← hW2] at hst ⊢
        have HST2 := Lib.hid hst
        clear hW2 hst HST
        go_upto_region 12 with (fail)
        have h0d : decide ((l.length : Int) > 0) = decide (0 < l.length) := by rw [decide_eq_decide]; omega
        go_cut [52] (fun v wc => ∃ b' : Bool, v = .bool b' ∧ (b' = true → 0 < l.length) ∧ ChS g w wc (.slice A l.length c) l b s' (-1) (1 + y))
        case first =>
          by_cases hl0 : 0 < l.length
          · have hl1 : (0 : Int) < l.length := by omega
            go_wp2_with (go_at_call 101; refine (l1Once_c 3 g _ HST2.out.cur).mono ?_; rintro e w3 ⟨⟨b3, rfl⟩, hd3⟩)
            go_meet
            exact ⟨_, rfl, fun _ => hl0, HST2.out.dr hg hd3⟩
          · have hl1 : ¬ (0 : Int) < l.length := by omega
            go_wp2
            go_meet
            exact ⟨_, rfl, fun h => by simp at h, HST2.out⟩
        case rest =>
          obtain ⟨b', rfl, hb', hst⟩ := hcut
          obtain ⟨W3, hW3⟩ : ∃ W3 : World, W3 = wc := ⟨_, rfl⟩
          rw [← hW3] at hst ⊢
          have HST3 := Lib.hid hst
          clear hW3 hst HST2
          go_upto_if 52 with (fail)
          go_cut [] (fun wc => ∃ (s2 : ByteArray) (p2 y2 : Int), p2 < l.length ∧ ChS g w wc (.slice A l.length c) l b s2 p2 y2)
          case first =>
            cases b'
            · go_wp2
              go_meet
              exact ⟨s', -1, _, by omega, HST3.out⟩
            · have hl0 := hb' rfl
              have hl1 : (0 : Int) < l.length := by omega
              obtain ⟨ad, e, -⟩ := at_Ac HST3.out.row.reads 0 hl0
              cases e
              go_upto_block 4 with (go_at_call 73; refine (l1Below_c 3 g _ HST3.out.cur).mono ?_; rintro e w4 ⟨⟨up, rfl, hup⟩, hd4⟩; have hup := hup (by omega))
              have HST4 := Lib.hid (HST3.out.dr hg hd4)
              have HDEC := Lib.hid HCH.out.dec
              go_cut [10] (fun v wc => ∃ on : Nat, v = .int .i64 on ∧ on < l.length ∧ wc = w4)
              case first =>
                go_wp2
                go_loop [10, 11] (fun a b => ∃ on u : Nat, a = .int .i64 on ∧ b = .int .i64 u ∧ u ≤ 3 ∧ on < l.length) (fun _ b => (intOf b).toNat)
                case atStart => exact ⟨l.length - 1, up, by go_num, rfl, by omega, by omega⟩
                case round =>
                  obtain ⟨on, u, rfl, rfl, hu3, hon⟩ := hrel
                  obtain ⟨ad', e, -, l1, -, -⟩ := at_Ac HST4.out.row.reads on hon
                  cases e
                  have hpd := HDEC.out on hon
                  unfold par at hpd
                  by_cases hu : 0 < u
                  · have hu1 : (0 : Int) < u := by omega
                    by_cases hp0 : 0 ≤ (el l on).parent
                    · obtain ⟨q, hq⟩ : ∃ q : Nat, (el l on).parent = q := ⟨(el l on).parent.toNat, by omega⟩
                      rw [hq] at l1 hpd hp0
                      clear hq
                      go_wp2
                      go_round
                      case rel => exact ⟨q, u - 1, rfl, by go_num, by omega, by omega⟩
                      case measure => simp [intOf]; omega
                    · have hp1 : ¬ (0 : Int) ≤ (el l on).parent := hp0
                      go_wp2
                      go_meet
                      exact ⟨on, rfl, hon, rfl⟩
                  · have hu1 : ¬ (0 : Int) < u := by omega
                    go_wp2
                    go_meet
                    exact ⟨on, rfl, hon, rfl⟩
              case rest =>
                obtain ⟨on, rfl, hon, rfl⟩ := hcut
                have HRD := Lib.hid HST4.out.row.reads
                obtain ⟨ad', e, -, -, l2, -⟩ := at_Ac HRD.out on hon
                cases e
                have b0 := (box_cell HST4.out.box 0).trans rfl
                have b1 := (box_cell HST4.out.box 1).trans rfl
                have b2 := (box_cell HST4.out.box 2).trans rfl
                have f1 := box_free HST4.out.box 1
                have f2 := box_free HST4.out.box 2
                go_wp2_with (go_at_call 242; refine (l4Deep_c _ _ _ on _ HRD.out hon (HDEC.out.less (by omega))).mono ?_; rintro e w' ⟨rfl, rfl⟩)
                · go_meet
                  refine ⟨s', on, (el l on).kind, by omega, ?_⟩
                  have q1 := HST4.out.put hg 1 (.int .i64 on) HST4.out.hs (heap_setCell_same _ _ 1 _ _ _ HST4.out.box)
                  exact q1.put hg 2 (.int .i64 (el l on).kind) q1.hs (heap_setCell_same _ _ 2 _ _ _ q1.box)
                · go_meet
                  exact ⟨s', -1, _, by omega, HST4.out⟩
          case rest =>
            obtain ⟨s2, p2, y2, hp2, hst⟩ := hcut
            obtain ⟨W4, hW4⟩ : ∃ W4 : World, W4 = wc := ⟨_, rfl⟩
            rw [← hW4] at hst ⊢
            have HST4 := Lib.hid hst
            have t0 := (box_cell hst.box 0).trans rfl
            have t1 := (box_cell hst.box 1).trans rfl
            have t2 := (box_cell hst.box 2).trans rfl
            clear hW4 hst HST3
            go_wp2_with (at_builtin; refine Own.append cAc 24 115 w.heap.size rfl _ _ rfl Try.underlying24 (.agg #[.string ⟨#[]⟩, .int .i64 0, .int .i64 0]) 32 infoAc rfl (by decide) (by decide) _ _ rfl HST4.out.row.to [(⟨s2, p2, y2⟩ : Ac)] [.string s2, .int .i64 p2, .int .i64 y2] ⟨W4.heap.size, 0, none⟩ 1 rfl (Reps.single (Ac_mk HST4.out.hs) rfl) box_cells (Nat.le_trans HST4.out.gro.size (Bel.size W4 _)) (by simp; omega) ?_; intro v1 w5 hown5 hg5 hat5)
            go_roundw
            case rel =>
              refine ⟨l ++ [⟨s2, p2, y2⟩], m - 1, by go_num, by simp; omega, ?_⟩
              have hst := HST4.out
              have lt4 := hst.row.lt
              have hgg := hst.gro.size
              have hgi : Gro g w W4 := hst.gro
              exact ⟨hst.cur.to.row hg5 (fun j hj => by have := (lt4 j hj).1; omega), Gro.row hg5 (fun j hj => (lt4 j hj).1), hown5, dec_snoc HCH.out.dec hp2⟩
            case measure => simp [intOf]; omega
    · have em : m = 0 := by omega
      subst em
      go_wp2
      go_ret
      have hch := HCH.out
      exact ⟨⟨A, c, l, rfl, hcap, hch.row, by omega⟩, hch.cur, hch.gro⟩
end Go.Proofs.Ythgnfpbbhiegfaa
