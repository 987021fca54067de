/- The walk of the law: an entry of a drawn right ledger and its reverse leave every account's balance as it was. -/
import Derived.Test.YthgnfpbbhiegfaaLawP
import Derived.Test.YthgnfpbbhiegfaaDrawR
import Derived.Test.YthgnfpbbhiegfaaRevS
import Derived.Test.YthgnfpbbhiegfaaPost2
import Derived.Test.YthgnfpbbhiegfaaRevP
import Derived.IntWalk
namespace Go.Proofs.Ythgnfpbbhiegfaa
open Go.RowKit
theorem big_c (A : Option Addr) (n cap : Nat) (w : World) (hn : n ≤ 9223372036854775807) : Calls Try.prog 10 #[.slice A n cap] w fun e w' => e = .returned (.bool (decide (1048576 < n))) ∧ w = w' := by
  go_enter Try.func10, Try.ntmps10
  go_wp2
  go_ret
  refine ⟨ret_b ?_, rfl⟩
  rw [decide_eq_decide]
  omega
/-- The frame's and the ledger's boxes, and what they lead to. -/
structure LwS (w wq : World) (A : Option Addr) (c : Nat) (f : Fr) (A1 : Option Addr) (c1 : Nat) (l : Le) (b3 b4 : Nat) : Prop where
  x3 : wq.heap[b3]? = some (.cells #[.slice A f.chart.length c, .int .i64 f.dims, .int .i64 f.curs] 26 (0, 0))
  x4 : wq.heap[b4]? = some (.cells #[.slice A1 l.entries.length c1, .int .i64 l.head] 29 (0, 0))
  hs : Sl cAc wq (fun k => k < wq.heap.size) A f.chart
  he : Sl cEn wq (fun k => k < wq.heap.size) A1 l.entries
  bel : Below w.heap.size w wq
theorem LwS.to {w wq W : World} {A : Option Addr} {c : Nat} {f : Fr} {A1 : Option Addr} {c1 : Nat} {l : Le} {b3 b4 : Nat} (h : LwS w wq A c f A1 c1 l b3 b4) (hb : Below wq.heap.size wq W) : LwS w W A c f A1 c1 l b3 b4 where
  x3 := box_below h.x3 hb
  x4 := box_below h.x4 hb
  hs := (h.hs.below (by decide) hb).mono (fun k hk => Nat.lt_of_lt_of_le hk hb.size)
  he := (h.he.below (by decide) hb).mono (fun k hk => Nat.lt_of_lt_of_le hk hb.size)
  bel := below_step h.bel hb
/-- With the ledger behind the posting. -/
structure LwT (w wq : World) (A : Option Addr) (c : Nat) (f : Fr) (A1 : Option Addr) (c1 : Nat) (l : Le) (b3 b4 : Nat) (A3 : Option Addr) (c3 : Nat) (h3 : Int) (e : En) (b11 : Nat) : Prop where
  s : LwS w wq A c f A1 c1 l b3 b4
  x11 : wq.heap[b11]? = some (.cells #[.slice A3 (l.entries.length + 1) c3, .int .i64 h3] 29 (0, 0))
  h11 : Sl cEn wq (fun k => k < wq.heap.size) A3 (l.entries ++ [e])
theorem LwT.to {w wq W : World} {A : Option Addr} {c : Nat} {f : Fr} {A1 : Option Addr} {c1 : Nat} {l : Le} {b3 b4 : Nat} {A3 : Option Addr} {c3 : Nat} {h3 : Int} {e : En} {b11 : Nat} (h : LwT w wq A c f A1 c1 l b3 b4 A3 c3 h3 e b11) (hb : Below wq.heap.size wq W) : LwT w W A c f A1 c1 l b3 b4 A3 c3 h3 e b11 where
  s := h.s.to hb
  x11 := box_below h.x11 hb
  h11 := (h.h11.below (by decide) hb).mono (fun k hk => Nat.lt_of_lt_of_le hk hb.size)
set_option linter.unusedSimpArgs false in
set_option maxRecDepth 100000 in
set_option maxHeartbeats 4000000 in
theorem FnReversed_c {S : Nat → Prop} (A0 : Option Addr) (cap0 : Nat) (code : List Int) (w : World) (hs : Sl cU8 w S A0 code) (hb : ∀ j, j < code.length → 0 ≤ code.getD j 0 ∧ code.getD j 0 ≤ 255) :
    Calls Try.prog 3 #[.slice A0 code.length cap0] w fun e w' => e = .returned (.bool true) ∧ Below w.heap.size w w' := by
  have hl := hs.1
  by_cases hbig : 1048576 < code.length
  · go_enter Try.func3, Try.ntmps3
    go_wp2_with (go_at_call 10; refine (big_c _ _ _ _ hl).mono ?_; rintro e w' ⟨rfl, rfl⟩; rw [decide_eq_true hbig])
    go_ret
    exact ⟨rfl, Below.refl _ _⟩
  have HBY := Lib.hid hb
  clear hb
  go_enter Try.func3, Try.ntmps3
  go_upto_region 4 with (first | (go_at_call 10; refine (big_c _ _ _ _ hl).mono ?_; rintro e w' ⟨rfl, rfl⟩; rw [decide_eq_false hbig]) | (go_at_call 11; refine (DrawReverse_c _ _ _ _ hs (by omega) HBY.out).mono ?_; rintro e w1 ⟨⟨A, c, f, A1, c1, l, at', day, rfl, hsc, hse, hl6, hlc⟩, hb1⟩))
  obtain ⟨b3, e3⟩ : ∃ b3, b3 = w1.heap.size := ⟨_, rfl⟩
  obtain ⟨W1, hW1, hst⟩ : ∃ W1 : World, W1 = (w1.alloc (.cells #[.slice A f.chart.length c, .int .i64 f.dims, .int .i64 f.curs] 26)).alloc (.cells #[.slice A1 l.entries.length c1, .int .i64 l.head] 29) ∧ LwS w W1 A c f A1 c1 l b3 (b3 + 1) := ⟨_, rfl, by
    rw [e3]
    refine ⟨new_box2a _ _ _, new_box2b _ _ _, ?_, ?_, (hb1.alloc hb1.size _).alloc (by have := hb1.size; simp; omega) _⟩
    · exact ((hsc.bound (by decide)).mono (fun k hk => by have := hk.2; simp; omega)).to
    · exact ((hse.bound (by decide)).mono (fun k hk => by have := hk.2; simp; omega)).to⟩
  rw [← hW1, ← e3]
  have HL := Lib.hid hst
  clear hW1 e3 hst hsc hse hb1
  have c0 := (box_cell HL.out.x3 0).trans rfl; have c1' := (box_cell HL.out.x3 1).trans rfl; have c2 := (box_cell HL.out.x3 2).trans rfl; have d0 := (box_cell HL.out.x4 0).trans rfl; have d1 := (box_cell HL.out.x4 1).trans rfl
  cases hrev : revB f l at' day
  · have HR := Lib.hid hrev
    clear hrev
    go_upto_region 5 with (go_at_call 12; refine (Reverse_no _ _ _ _ _ _ _ _ _ HL.out.hs HL.out.he HR.out).mono ?_; rintro r w2 ⟨rfl, hb2⟩)
    have HL := Lib.hid ((HL.out.to hb2).to (W := w2.alloc (.cells #[.int .i64 0, .int .i64 0, .string ⟨#[]⟩, .slice none 0 0] 34)) Bel.out)
    obtain ⟨W2, hW2⟩ : ∃ W2 : World, W2 = w2.alloc (.cells #[.int .i64 0, .int .i64 0, .string ⟨#[]⟩, .slice none 0 0] 34) := ⟨_, rfl⟩
    rw [← hW2] at HL ⊢
    clear hW2
    clear c0 c1' c2 d0 d1
    have c0 := (box_cell HL.out.x3 0).trans rfl; have c1' := (box_cell HL.out.x3 1).trans rfl; have c2 := (box_cell HL.out.x3 2).trans rfl; have d0 := (box_cell HL.out.x4 0).trans rfl; have d1 := (box_cell HL.out.x4 1).trans rfl
    go_wp2_with (go_at_call 13; refine (spec_Reverse_no _ _ _ _ _ _ _ _ _ HL.out.hs HL.out.he HR.out).mono ?_; rintro r w3 ⟨rfl, hb3⟩)
    go_ret
    exact ⟨rfl, (below_step HL.out.bel hb3).alloc (by have := HL.out.bel.size; have := hb3.size; omega) _⟩
  · have hr := hrev
    unfold revB at hr
    simp only [Bool.and_eq_true, decide_eq_true_eq] at hr
    obtain ⟨⟨⟨hled, ha0⟩, ha1⟩, hday⟩ := hr
    obtain ⟨k, rfl⟩ := Int.eq_ofNat_of_zero_le ha0
    have hk : k < l.entries.length := by omega
    clear hrev ha0 ha1
    go_upto_region 5 with (go_at_call 12; refine (Reverse_yes _ _ _ _ _ _ _ _ _ HL.out.hs HL.out.he hled hk hday).mono ?_; rintro r w2 ⟨⟨t, A2, c2', rfl, htx, hsl⟩, hb2⟩)
    have hz : t.size ≤ 140737488355328 := by
      have h := htx
      unfold textB at h
      rw [Bool.and_eq_true, decide_eq_true_eq] at h
      omega
    have hin : entInB f (el l.entries k) = true := by
      have := (ledB_t hled).2.2.2 k hk
      unfold entB at this
      rw [Bool.and_eq_true] at this
      exact this.2
    obtain ⟨e, he⟩ : ∃ e : En, e = ⟨day, (k : Int) + 1, t, (el l.entries k).lines.map negL⟩ := ⟨_, rfl⟩
    have hpost : ∀ w', Sl cAc w' (fun j => j < w'.heap.size) A f.chart → Sl cEn w' (fun j => j < w'.heap.size) A1 l.entries → Sl cLn w' (fun j => j < w'.heap.size) A2 ((el l.entries k).lines.map negL) → Calls Try.prog 14 #[.agg #[.slice A f.chart.length c, .int .i64 f.dims, .int .i64 f.curs], .agg #[.slice A1 l.entries.length c1, .int .i64 l.head], .agg #[.int .i64 day, .int .i64 ((k : Int) + 1), .string t, .slice A2 (el l.entries k).lines.length c2']] w' fun r w'' => (∃ A3 c3 h3, r = .returned (.tuple #[.agg #[.slice A3 (l.entries.length + 1) c3, .int .i64 h3], .int .i64 0]) ∧ Sl cEn w'' (fun j => w'.heap.size ≤ j) A3 (l.entries ++ [e])) ∧ Below w'.heap.size w' w'' := by
      intro w' h1 h2 h3
      have h := Post_c A c f A1 c1 l A2 c2' e w' h1 h2 (by rw [he]; exact h3) (by rw [he]; exact hz) hled (by rw [he]; exact entInB_neg hin hday (inB_mk (by omega)) htx) (by omega)
      rw [show e.lines.length = (el l.entries k).lines.length by rw [he]; exact List.length_map ..] at h
      rw [show e.day = day by rw [he], show e.ref = (k : Int) + 1 by rw [he], show e.text = t by rw [he]] at h
      exact h
    have HP := Lib.hid hpost
    have HTXT := Lib.hid htx
    have HE := Lib.hid he
    obtain ⟨b7, e7⟩ : ∃ b7, b7 = w2.heap.size := ⟨_, rfl⟩
    obtain ⟨W2, hW2, hx7, hsl2, hb2b⟩ : ∃ W2 : World, W2 = w2.alloc (.cells #[.int .i64 day, .int .i64 ((k : Int) + 1), .string t, .slice A2 (el l.entries k).lines.length c2'] 34) ∧ W2.heap[b7]? = some (.cells #[.int .i64 day, .int .i64 ((k : Int) + 1), .string t, .slice A2 (el l.entries k).lines.length c2'] 34 (0, 0)) ∧ Sl cLn W2 (fun j => j < W2.heap.size) A2 ((el l.entries k).lines.map negL) ∧ Below w2.heap.size w2 W2 := ⟨_, rfl, by rw [e7]; exact heap_alloc_new _ _, ((hsl.bound (by decide)).mono (fun j hj => by have := hj.2; simp; omega)).to, Bel.out⟩
    rw [← hW2, ← e7]
    have HL := Lib.hid ((HL.out.to hb2).to hb2b)
    have X7 := Lib.hid hx7
    have S7 := Lib.hid hsl2
    clear hW2 e7 hx7 hsl2 hb2b hb2 hsl hpost he hz htx
    clear c0 c1' c2 d0 d1
    have c0 := (box_cell HL.out.x3 0).trans rfl; have c1' := (box_cell HL.out.x3 1).trans rfl; have c2 := (box_cell HL.out.x3 2).trans rfl; have d0 := (box_cell HL.out.x4 0).trans rfl; have d1 := (box_cell HL.out.x4 1).trans rfl
    go_upto_region 6 with (go_at_call 13; refine (spec_Reverse_yes _ _ _ _ _ _ _ _ _ HL.out.hs HL.out.he hled hk hday).mono ?_; rintro r w3 ⟨⟨q1, q2, q3, q4, q5, q6, rfl⟩, hb3⟩)
    obtain ⟨W3, hW3, hb3b⟩ : ∃ W3 : World, W3 = w3.alloc (.cells #[.int .i64 q1, .int .i64 q2, .string q3, .slice q4 q5 q6] 34) ∧ Below w3.heap.size w3 W3 := ⟨_, rfl, Bel.out⟩
    rw [← hW3]
    have hb23 := below_step hb3 hb3b
    have HL := Lib.hid (HL.out.to hb23)
    have X7 := Lib.hid (box_below X7.out hb23)
    have S7 := Lib.hid ((S7.out.below (by decide) hb23).mono (fun j hj => Nat.lt_of_lt_of_le hj hb23.size))
    clear hW3 hb3b hb3 hb23
    clear c0 c1' c2 d0 d1
    have c0 := (box_cell HL.out.x3 0).trans rfl; have c1' := (box_cell HL.out.x3 1).trans rfl; have c2 := (box_cell HL.out.x3 2).trans rfl; have d0 := (box_cell HL.out.x4 0).trans rfl; have d1 := (box_cell HL.out.x4 1).trans rfl
    have e0 := (box_cell X7.out 0).trans rfl
    have e1 := (box_cell X7.out 1).trans rfl
    have e2 := (box_cell X7.out 2).trans rfl
    have e3 := (box_cell X7.out 3).trans rfl
    go_upto_region 9 with (go_at_call 14; refine (HP.out _ HL.out.hs HL.out.he S7.out).mono ?_; rintro r w4 ⟨⟨A3, c3, h3, rfl, hs3⟩, hb4⟩)
    obtain ⟨gn, hgn⟩ : ∃ gn : List En, gn = l.entries.take k ++ l.entries.drop (k + 1) := ⟨_, rfl⟩
    obtain ⟨X, hX⟩ : ∃ X : Int → Int → Int, ∀ a c, X a c = balSum a (-1) c 0 40000 Ln.amount gn gn.length := ⟨_, fun _ _ => rfl⟩
    obtain ⟨Y, hY⟩ : ∃ Y : Int → Int → Int, ∀ a c, Y a c = balSum a (-1) c 0 40000 Ln.base gn gn.length := ⟨_, fun _ _ => rfl⟩
    have hall : ∀ x ∈ l.entries, okE x := fun x hx => by
      obtain ⟨j, hj, rfl⟩ := List.getElem_of_mem hx
      have := (ledB_t hled).2.2.2 j hj
      unfold entB at this
      rw [Bool.and_eq_true, el_eq _ _ hj] at this
      exact entIn_ok this.2
    have hdk : dayB (el l.entries k).day = true := (entIn_t hin).1
    have HBAL : Hid (∀ a c w', Sl cEn w' (fun j => j < w'.heap.size) A3 (l.entries ++ [e]) → Calls Try.prog 15 #[.agg #[.slice A3 (l.entries.length + 1) c3, .int .i64 h3], .int .i64 a, .int .i64 (-1), .int .i64 c, .int .i64 0, .int .i64 40000] w' fun r w'' => r = .returned (.tuple #[.int .i64 (X a c), .int .i64 (Y a c)]) ∧ Below w'.heap.size w' w'') := Lib.hid (by
      intro a c w' h
      have hb := Balance_c A3 c3 ⟨l.entries ++ [e], h3⟩ a (-1) c 0 40000 w' h (Mild.of (by simp; omega) (fun x hx => by
        rcases List.mem_append.1 hx with hx | hx
        · exact hall x hx
        · obtain rfl := List.mem_singleton.1 hx
          rw [HE.out]
          exact entIn_ok (f := f) (entInB_neg hin hday (inB_mk (by omega)) HTXT.out)))
      rw [hX, hY, hgn, ← bal_rev (g := Ln.amount) (fun _ => rfl) hk hdk hday (ref := (k : Int) + 1) (t := t), ← bal_rev (g := Ln.base) (fun _ => rfl) hk hdk hday (ref := (k : Int) + 1) (t := t), ← HE.out]
      simpa using hb)
    have HBAL2 : Hid (∀ a c w' A4 c4, Sl cEn w' (fun j => j < w'.heap.size) A4 gn → Calls Try.prog 15 #[.agg #[.slice A4 gn.length c4, .int .i64 0], .int .i64 a, .int .i64 (-1), .int .i64 c, .int .i64 0, .int .i64 40000] w' fun r w'' => r = .returned (.tuple #[.int .i64 (X a c), .int .i64 (Y a c)]) ∧ Below w'.heap.size w' w'') := Lib.hid (by
      intro a c w' A4 c4 h
      rw [hX, hY]
      exact Balance_c A4 c4 ⟨gn, 0⟩ a (-1) c 0 40000 w' h (Mild.of (by rw [hgn]; simp; omega) (fun x hx => by
        rw [hgn] at hx
        rcases List.mem_append.1 hx with hx | hx
        · exact hall x (List.mem_of_mem_take hx)
        · exact hall x (List.mem_of_mem_drop hx))))
    have HGN := Lib.hid hgn
    have hfb := frameB_t (ledB_t hled).2.1
    have hcur := hfb.2.2
    have hch := (chartB_t hfb.1).2.1
    clear hX hY hall hdk hgn hfb
    obtain ⟨b11, e11⟩ : ∃ b11, b11 = w4.heap.size := ⟨_, rfl⟩
    obtain ⟨W4, hW4, hst⟩ : ∃ W4 : World, W4 = w4.alloc (.cells #[.slice A3 (l.entries.length + 1) c3, .int .i64 h3] 29) ∧ LwT w W4 A c f A1 c1 l b3 (b3 + 1) A3 c3 h3 e b11 := ⟨_, rfl, (HL.out.to hb4).to Bel.out, by rw [e11]; exact heap_alloc_new _ _, ((hs3.bound (by decide)).mono (fun j hj => by have := hj.2; simp; omega)).to⟩
    rw [← hW4, ← e11]
    have HT := Lib.hid hst
    clear c0 c1' c2 d0 d1
    clear hW4 e11 hst hs3 hb4 e0 e1 e2 e3
    go_wp2
    go_loopw [13] (fun v wq => ∃ a : Nat, a ≤ f.chart.length ∧ v = .int .i64 a ∧ LwT w wq A c f A1 c1 l b3 (b3 + 1) A3 c3 h3 e b11) (fun v _ => f.chart.length - (intOf v).toNat)
    case atStart => exact ⟨0, Nat.zero_le _, rfl, HT.out⟩
    case round =>
      clear HT
      obtain ⟨wo, rfl⟩ : ∃ wo : World, wo = wr := ⟨_, rfl⟩
      obtain ⟨a, ha, rfl, hst⟩ := hrel
      have HT := Lib.hid hst
      have c0 := (box_cell hst.s.x3 0).trans rfl
      clear hst
      by_cases hal : a < f.chart.length
      · have hal' : (a : Int) < f.chart.length := by omega
        go_wp2
        go_loopw [14] (fun v wq => ∃ y : Int, -1 ≤ y ∧ y ≤ f.curs ∧ v = .int .i64 y ∧ LwT w wq A c f A1 c1 l b3 (b3 + 1) A3 c3 h3 e b11) (fun v _ => (f.curs - intOf v).toNat)
        case atStart => exact ⟨-1, by omega, by omega, rfl, HT.out⟩
        case round =>
          clear HT c0
          obtain ⟨wp, rfl⟩ : ∃ wp : World, wp = wr := ⟨_, rfl⟩
          obtain ⟨y, hy0, hy1, rfl, hst⟩ := hrel
          have HT := Lib.hid hst
          have c2 := (box_cell hst.s.x3 2).trans rfl
          have k0 := (box_cell hst.x11 0).trans rfl
          have k1 := (box_cell hst.x11 1).trans rfl
          clear hst
          by_cases hyl : y < f.curs
          · go_upto_region 18 with (go_at_call 15; refine (HBAL.out _ _ _ HT.out.h11).mono ?_; rintro r w5 ⟨rfl, hb5⟩)
            have HT := Lib.hid (HT.out.to hb5)
            have d0 := (box_cell HT.out.s.x4 0).trans rfl
            clear c2 k0 k1 hb5
            go_cut [17] (fun v wc => ∃ (b17 : Nat) (A4 : Option Addr) (c4 : Nat), v = .pointer (some ⟨b17, 0, none⟩) ∧ wc.heap[b17]? = some (.cells #[.slice A4 gn.length c4, .int .i64 0] 29 (0, 0)) ∧ Sl cEn wc (fun j => j < wc.heap.size) A4 gn ∧ Below w5.heap.size w5 wc)
            case first =>
              have hkc : k ≤ c1 := by omega
              have u1 : IntKind.i64.wrap ((k : Int) + 1) = (k : Int) + 1 := IntWalk.i64_in _ (by omega)
              obtain ⟨A5, hrun5, hsl5⟩ := slice_from (S := fun j => j < w5.heap.size) A1 l.entries.length c1 k (by omega) hlc
              have HD := Lib.hid (hsl5 w5 l.entries rfl HT.out.s.he)
              have HK := Lib.hid (HT.out.s.he.take k)
              have HLK : Hid ((l.entries.take k).length = k) := Lib.hid (by rw [List.length_take]; omega)
              have HLD : Hid ((l.entries.drop (k + 1)).length = l.entries.length - (k + 1)) := Lib.hid (List.length_drop ..)
              have HXG : Hid ([] ++ l.entries.take k ++ l.entries.drop (k + 1) = gn) := Lib.hid (by rw [HGN.out]; rfl)
              clear hsl5
              refine wp_region_held_drew (S := fun wq => wq.cell? ⟨b3 + 1, 0, none⟩ = some (.slice A1 l.entries.length c1)) (by kernel_rfl) d0 (fun hHeld => ?_)
              first
                | (refine wpAnyH_take (i := 1) (v := undef) rfl (by kernel_rfl) (by kernel_rfl) (by kernel_rfl) (fun _ _ _ h => h) (Or.inr ⟨by rfl, rfl⟩) (by assumption) ?_)
                | (refine wpAnyH_take (i := 1) (v := ?_) rfl (by kernel_rfl) (by kernel_rfl) (by kernel_rfl) (fun _ _ _ h => h) (Or.inl ⟨by rfl, ?_⟩) (by assumption) ?_; rotate_left; (intro wH hSw; (try dsimp only at hSw); go_simp; try with_reducible rfl))
              try simp only [Act.put, List.setIfInBounds_toArray, List.set_cons_zero, List.set_cons_succ, List.getElem_toArray, List.getElem_cons_zero, List.getElem_cons_succ]
              first
                | (refine wpAnyH_take (i := 2) (v := undef) rfl (by kernel_rfl) (by kernel_rfl) (by kernel_rfl) (fun _ _ _ h => h) (Or.inr ⟨by rfl, rfl⟩) (by assumption) ?_)
                | (refine wpAnyH_take (i := 2) (v := ?_) rfl (by kernel_rfl) (by kernel_rfl) (by kernel_rfl) (fun _ _ _ h => h) (Or.inl ⟨by rfl, ?_⟩) (by assumption) ?_; rotate_left; (intro wH hSw; (try dsimp only at hSw); go_simp; try with_reducible rfl))
              try simp only [Act.put, List.setIfInBounds_toArray, List.set_cons_zero, List.set_cons_succ, List.getElem_toArray, List.getElem_cons_zero, List.getElem_cons_succ]
              first
                | (refine wpAnyH_take (i := 3) (v := undef) rfl (by kernel_rfl) (by kernel_rfl) (by kernel_rfl) (fun _ _ _ h => h) (Or.inr ⟨by rfl, rfl⟩) (by assumption) ?_)
                | (refine wpAnyH_take (i := 3) (v := ?_) rfl (by kernel_rfl) (by kernel_rfl) (by kernel_rfl) (fun _ _ _ h => h) (Or.inl ⟨by rfl, ?_⟩) (by assumption) ?_; rotate_left; (intro wH hSw; (try dsimp only at hSw); go_simp; try with_reducible rfl))
              try simp only [Act.put, List.setIfInBounds_toArray, List.set_cons_zero, List.set_cons_succ, List.getElem_toArray, List.getElem_cons_zero, List.getElem_cons_succ]
              first
                | (refine wpAnyH_take (i := 4) (v := undef) rfl (by kernel_rfl) (by kernel_rfl) (by kernel_rfl) (fun _ _ _ h => h) (Or.inr ⟨by rfl, rfl⟩) (by assumption) ?_)
                | (refine wpAnyH_take (i := 4) (v := ?_) rfl (by kernel_rfl) (by kernel_rfl) (by kernel_rfl) (fun _ _ _ h => h) (Or.inl ⟨by rfl, ?_⟩) (by assumption) ?_; rotate_left; (intro wH hSw; (try dsimp only at hSw); go_simp; try with_reducible rfl))
              try simp only [Act.put, List.setIfInBounds_toArray, List.set_cons_zero, List.set_cons_succ, List.getElem_toArray, List.getElem_cons_zero, List.getElem_cons_succ]
              first
                | (refine wpAnyH_take (i := 6) (v := undef) rfl (by kernel_rfl) (by kernel_rfl) (by kernel_rfl) (fun _ _ _ h => h) (Or.inr ⟨by rfl, rfl⟩) (by assumption) ?_)
                | (refine wpAnyH_take (i := 6) (v := ?_) rfl (by kernel_rfl) (by kernel_rfl) (by kernel_rfl) (fun _ _ _ h => h) (Or.inl ⟨by rfl, ?_⟩) (by assumption) ?_; rotate_left; (intro wH hSw; (try dsimp only at hSw); go_simp; try with_reducible rfl))
              try simp only [Act.put, List.setIfInBounds_toArray, List.set_cons_zero, List.set_cons_succ, List.getElem_toArray, List.getElem_cons_zero, List.getElem_cons_succ]
              first
                | (refine wpAnyH_take (i := 7) (v := undef) rfl (by kernel_rfl) (by kernel_rfl) (by kernel_rfl) (fun _ _ _ h => h) (Or.inr ⟨by rfl, rfl⟩) (by assumption) ?_)
                | (refine wpAnyH_take (i := 7) (v := ?_) rfl (by kernel_rfl) (by kernel_rfl) (by kernel_rfl) (fun _ _ _ h => h) (Or.inl ⟨by rfl, ?_⟩) (by assumption) ?_; rotate_left; (intro wH hSw; (try dsimp only at hSw); go_simp; try with_reducible rfl))
              try simp only [Act.put, List.setIfInBounds_toArray, List.set_cons_zero, List.set_cons_succ, List.getElem_toArray, List.getElem_cons_zero, List.getElem_cons_succ]
              first
                | (refine wpAnyH_take (i := 8) (v := undef) rfl (by kernel_rfl) (by kernel_rfl) (by kernel_rfl) (fun _ _ _ h => h) (Or.inr ⟨by rfl, rfl⟩) (by assumption) ?_)
                | (refine wpAnyH_take (i := 8) (v := ?_) rfl (by kernel_rfl) (by kernel_rfl) (by kernel_rfl) (fun _ _ _ h => h) (Or.inl ⟨by rfl, ?_⟩) (by assumption) ?_; rotate_left; (intro wH hSw; (try dsimp only at hSw); go_simp; try with_reducible rfl))
              try simp only [Act.put, List.setIfInBounds_toArray, List.set_cons_zero, List.set_cons_succ, List.getElem_toArray, List.getElem_cons_zero, List.getElem_cons_succ]
              first
                | (refine wpAnyH_take (i := 9) (v := undef) rfl (by kernel_rfl) (by kernel_rfl) (by kernel_rfl) (fun _ _ _ h => h) (Or.inr ⟨by rfl, rfl⟩) (by assumption) ?_)
                | (refine wpAnyH_take (i := 9) (v := ?_) rfl (by kernel_rfl) (by kernel_rfl) (by kernel_rfl) (fun _ _ _ h => h) (Or.inl ⟨by rfl, ?_⟩) (by assumption) ?_; rotate_left; (intro wH hSw; (try dsimp only at hSw); go_simp; try with_reducible rfl))
              try simp only [Act.put, List.setIfInBounds_toArray, List.set_cons_zero, List.set_cons_succ, List.getElem_toArray, List.getElem_cons_zero, List.getElem_cons_succ]
              first
                | (refine wpAnyH_take (i := 10) (v := undef) rfl (by kernel_rfl) (by kernel_rfl) (by kernel_rfl) (fun _ _ _ h => h) (Or.inr ⟨by rfl, rfl⟩) (by assumption) ?_)
                | (refine wpAnyH_take (i := 10) (v := ?_) rfl (by kernel_rfl) (by kernel_rfl) (by kernel_rfl) (fun _ _ _ h => h) (Or.inl ⟨by rfl, ?_⟩) (by assumption) ?_; rotate_left; (intro wH hSw; (try dsimp only at hSw); go_simp; try with_reducible rfl))
              try simp only [Act.put, List.setIfInBounds_toArray, List.set_cons_zero, List.set_cons_succ, List.getElem_toArray, List.getElem_cons_zero, List.getElem_cons_succ]
              refine wpAnyH_ready (rs := [0, 13]) (by kernel_rfl) (by simp) ?_
              refine AllReadyH.cons rfl (fun K hK => ?_) (AllReadyH.cons rfl (fun K hK => ?_) AllReadyH.nil)
              · go_simp
                have GS := Lib.hid ((GoS.start (W0 := w5) (X := w5) Bel.out).to (W := (w5.alloc (.cells #[] 34)).drew) Bel.out)
                refine hK.out _ _ (by (try dsimp only); exact (box_cell (box_below HT.out.s.x4 GS.out.bel) 0).trans rfl) (fun hHeld => ?_)
                clear hK K
                try simp only [Act.put, List.setIfInBounds_toArray, List.set_cons_zero, List.set_cons_succ, List.getElem_toArray, List.getElem_cons_zero, List.getElem_cons_succ]
                refine wpAnyH_ready (rs := [5, 13]) (by kernel_rfl) (by simp) ?_
                refine AllReadyH.cons rfl (fun K hK => ?_) (AllReadyH.cons rfl (fun K hK => ?_) AllReadyH.nil)
                · obtain ⟨v5, w5', hrun, hg, hbx⟩ := GS.out.app (l.entries.take k) A1 k c1 HLK.out HK.out (by simp; omega)
                  obtain ⟨Av5, nv5, cv5, rfl⟩ := hg.slo
                  have GS := Lib.hid hg
                  rw [if_pos (by rfl)]
                  refine append_op _ _ _ rfl rfl rfl hrun ?_
                  refine hK.out _ _ (by (try dsimp only); exact (box_cell (box_below HT.out.s.x4 GS.out.bel) 0).trans rfl) (fun hHeld => ?_)
                  clear hK K
                  try simp only [Act.put, List.setIfInBounds_toArray, List.set_cons_zero, List.set_cons_succ, List.getElem_toArray, List.getElem_cons_zero, List.getElem_cons_succ]
                  clear hrun hg hbx
                  refine wpAnyH_ready (rs := [11, 13]) (by kernel_rfl) (by simp) ?_
                  refine AllReadyH.cons rfl (fun K hK => ?_) (AllReadyH.cons rfl (fun K hK => ?_) AllReadyH.nil)
                  · obtain ⟨v11, w11', hrun, hg, hbx⟩ := GS.out.app (l.entries.drop (k + 1)) A5 (l.entries.length - (k + 1)) (c1 - (k + 1)) HLD.out HD.out (by have := HLK.out; simp only [List.nil_append]; omega)
                    obtain ⟨Av11, nv11, cv11, rfl⟩ := hg.slo
                    have GS := Lib.hid hg
                    rw [if_pos (by rfl)]
                    refine append_op _ _ _ rfl rfl rfl hrun ?_
                    refine hK.out _ _ (by (try dsimp only); exact (box_cell (box_below HT.out.s.x4 GS.out.bel) 0).trans rfl) (fun hHeld => ?_)
                    clear hK K
                    try simp only [Act.put, List.setIfInBounds_toArray, List.set_cons_zero, List.set_cons_succ, List.getElem_toArray, List.getElem_cons_zero, List.getElem_cons_succ]
                    clear hrun hg hbx
                    first
                      | (refine wpAnyH_take (i := 12) (v := undef) rfl (by kernel_rfl) (by kernel_rfl) (by kernel_rfl) (fun _ _ _ h => h) (Or.inr ⟨by rfl, rfl⟩) (by assumption) ?_)
                      | (refine wpAnyH_take (i := 12) (v := ?_) rfl (by kernel_rfl) (by kernel_rfl) (by kernel_rfl) (fun _ _ _ h => h) (Or.inl ⟨by rfl, ?_⟩) (by assumption) ?_; rotate_left; (intro wH hSw; (try dsimp only at hSw); go_simp; try with_reducible rfl))
                    try simp only [Act.put, List.setIfInBounds_toArray, List.set_cons_zero, List.set_cons_succ, List.getElem_toArray, List.getElem_cons_zero, List.getElem_cons_succ]
                    refine wpAnyH_ready (rs := [13]) (by kernel_rfl) (by simp) ?_
                    refine AllReadyH.cons rfl (fun K hK => ?_) AllReadyH.nil
                    go_simp
                    skip
                    refine hK.out _ _ (by (try dsimp only); exact (box_cell (box_below (box_below HT.out.s.x4 GS.out.bel) Bel.out) 0).trans rfl) (fun hHeld => ?_)
                    clear hK K
                    try simp only [Act.put, List.setIfInBounds_toArray, List.set_cons_zero, List.set_cons_succ, List.getElem_toArray, List.getElem_cons_zero, List.getElem_cons_succ]
                    have GS := Lib.hid (GS.out.to (W := w11'.alloc (.cells #[.slice Av11 nv11 cv11, .int .i64 0] 29)) Bel.out)
                    refine wpAnyH_ready (rs := [14]) (by kernel_rfl) (by simp) ?_
                    refine AllReadyH.cons rfl (fun K hK => ?_) AllReadyH.nil
                    go_simp
                    skip
                    refine hK.out _ _ (by (try dsimp only); exact (box_cell (box_below HT.out.s.x4 GS.out.bel) 0).trans rfl) (fun hHeld => ?_)
                    clear hK K
                    try simp only [Act.put, List.setIfInBounds_toArray, List.set_cons_zero, List.set_cons_succ, List.getElem_toArray, List.getElem_cons_zero, List.getElem_cons_succ]
                    refine wpAnyH_done (by kernel_rfl) ?_ _
                    go_wp2
                    go_meet
                    have hnn := GS.out.own.own.num.1
                    have hrd := GS.out.read
                    rw [HXG.out] at hnn hrd
                    subst hnn
                    exact ⟨_, _, _, rfl, heap_alloc_new _ _, hrd, GS.out.bel⟩
                  · go_simp
                    have HBB := Lib.hid GS.out.bel.size
                    have BX := Lib.hid (heap_alloc_new w5' (.cells #[.slice none 0 0, .int .i64 0] 29))
                    have GS := Lib.hid (GS.out.to (W := w5'.alloc (.cells #[.slice none 0 0, .int .i64 0] 29)) Bel.out)
                    refine hK.out _ _ (by (try dsimp only); exact (box_cell (box_below HT.out.s.x4 GS.out.bel) 0).trans rfl) (fun hHeld => ?_)
                    clear hK K
                    try simp only [Act.put, List.setIfInBounds_toArray, List.set_cons_zero, List.set_cons_succ, List.getElem_toArray, List.getElem_cons_zero, List.getElem_cons_succ]
                    refine wpAnyH_ready (rs := [11]) (by kernel_rfl) (by simp) ?_
                    refine AllReadyH.cons rfl (fun K hK => ?_) AllReadyH.nil
                    obtain ⟨v11, w11', hrun, hg, hbx⟩ := GS.out.app (l.entries.drop (k + 1)) A5 (l.entries.length - (k + 1)) (c1 - (k + 1)) HLD.out HD.out (by have := HLK.out; simp only [List.nil_append]; omega)
                    obtain ⟨Av11, nv11, cv11, rfl⟩ := hg.slo
                    have GS := Lib.hid hg
                    have BX := Lib.hid (hbx _ _ _ BX.out)
                    rw [if_pos (by rfl)]
                    refine append_op _ _ _ rfl rfl rfl hrun ?_
                    refine hK.out _ _ (by (try dsimp only); exact (box_cell (box_below HT.out.s.x4 GS.out.bel) 0).trans rfl) (fun hHeld => ?_)
                    clear hK K
                    try simp only [Act.put, List.setIfInBounds_toArray, List.set_cons_zero, List.set_cons_succ, List.getElem_toArray, List.getElem_cons_zero, List.getElem_cons_succ]
                    clear hrun hg hbx
                    first
                      | (refine wpAnyH_take (i := 12) (v := undef) rfl (by kernel_rfl) (by kernel_rfl) (by kernel_rfl) (fun _ _ _ h => h) (Or.inr ⟨by rfl, rfl⟩) (by assumption) ?_)
                      | (refine wpAnyH_take (i := 12) (v := ?_) rfl (by kernel_rfl) (by kernel_rfl) (by kernel_rfl) (fun _ _ _ h => h) (Or.inl ⟨by rfl, ?_⟩) (by assumption) ?_; rotate_left; (intro wH hSw; (try dsimp only at hSw); go_simp; try with_reducible rfl))
                    try simp only [Act.put, List.setIfInBounds_toArray, List.set_cons_zero, List.set_cons_succ, List.getElem_toArray, List.getElem_cons_zero, List.getElem_cons_succ]
                    have k0 := (box_cell BX.out 0).trans rfl
                    have k1 := (box_cell BX.out 1).trans rfl
                    have m0 := box_free BX.out 0
                    have m1 := box_free BX.out 1
                    have HF := Lib.hid (GS.out.fin HXG.out BX.out HBB.out)
                    refine wpAnyH_ready (rs := [14]) (by kernel_rfl) (by simp) ?_
                    refine AllReadyH.cons rfl (fun K hK => ?_) AllReadyH.nil
                    go_simp
                    skip
                    refine hK.out _ _ (by (try dsimp only); exact (box_cell (box_below HT.out.s.x4 HF.out.2.2) 0).trans rfl) (fun hHeld => ?_)
                    clear hK K
                    try simp only [Act.put, List.setIfInBounds_toArray, List.set_cons_zero, List.set_cons_succ, List.getElem_toArray, List.getElem_cons_zero, List.getElem_cons_succ]
                    refine wpAnyH_done (by kernel_rfl) ?_ _
                    go_wp2
                    go_meet
                    exact ⟨_, _, _, rfl, HF.out.1, HF.out.2.1, HF.out.2.2⟩
                · go_simp
                  have HBB : Hid (w5.heap.size ≤ w5.heap.size + 1) := Lib.hid (by omega)
                  have BX : Hid (((w5.alloc (.cells #[] 34)).alloc (.cells #[.slice none 0 0, .int .i64 0] 29)).drew.heap[w5.heap.size + 1]? = some (.cells #[.slice none 0 0, .int .i64 0] 29)) := Lib.hid (box_at (by simp) _)
                  have GS := Lib.hid ((GoS.start (W0 := w5) (X := w5) Bel.out).to (W := ((w5.alloc (.cells #[] 34)).alloc (.cells #[.slice none 0 0, .int .i64 0] 29)).drew) Bel.out)
                  refine hK.out _ _ (by (try dsimp only); exact (box_cell (box_below HT.out.s.x4 GS.out.bel) 0).trans rfl) (fun hHeld => ?_)
                  clear hK K
                  try simp only [Act.put, List.setIfInBounds_toArray, List.set_cons_zero, List.set_cons_succ, List.getElem_toArray, List.getElem_cons_zero, List.getElem_cons_succ]
                  refine wpAnyH_ready (rs := [5]) (by kernel_rfl) (by simp) ?_
                  refine AllReadyH.cons rfl (fun K hK => ?_) AllReadyH.nil
                  obtain ⟨v5, w5', hrun, hg, hbx⟩ := GS.out.app (l.entries.take k) A1 k c1 HLK.out HK.out (by simp; omega)
                  obtain ⟨Av5, nv5, cv5, rfl⟩ := hg.slo
                  have GS := Lib.hid hg
                  have BX := Lib.hid (hbx _ _ _ BX.out)
                  rw [if_pos (by rfl)]
                  refine append_op _ _ _ rfl rfl rfl hrun ?_
                  refine hK.out _ _ (by (try dsimp only); exact (box_cell (box_below HT.out.s.x4 GS.out.bel) 0).trans rfl) (fun hHeld => ?_)
                  clear hK K
                  try simp only [Act.put, List.setIfInBounds_toArray, List.set_cons_zero, List.set_cons_succ, List.getElem_toArray, List.getElem_cons_zero, List.getElem_cons_succ]
                  clear hrun hg hbx
                  refine wpAnyH_ready (rs := [11]) (by kernel_rfl) (by simp) ?_
                  refine AllReadyH.cons rfl (fun K hK => ?_) AllReadyH.nil
                  obtain ⟨v11, w11', hrun, hg, hbx⟩ := GS.out.app (l.entries.drop (k + 1)) A5 (l.entries.length - (k + 1)) (c1 - (k + 1)) HLD.out HD.out (by have := HLK.out; simp only [List.nil_append]; omega)
                  obtain ⟨Av11, nv11, cv11, rfl⟩ := hg.slo
                  have GS := Lib.hid hg
                  have BX := Lib.hid (hbx _ _ _ BX.out)
                  rw [if_pos (by rfl)]
                  refine append_op _ _ _ rfl rfl rfl hrun ?_
                  refine hK.out _ _ (by (try dsimp only); exact (box_cell (box_below HT.out.s.x4 GS.out.bel) 0).trans rfl) (fun hHeld => ?_)
                  clear hK K
                  try simp only [Act.put, List.setIfInBounds_toArray, List.set_cons_zero, List.set_cons_succ, List.getElem_toArray, List.getElem_cons_zero, List.getElem_cons_succ]
                  clear hrun hg hbx
                  first
                    | (refine wpAnyH_take (i := 12) (v := undef) rfl (by kernel_rfl) (by kernel_rfl) (by kernel_rfl) (fun _ _ _ h => h) (Or.inr ⟨by rfl, rfl⟩) (by assumption) ?_)
                    | (refine wpAnyH_take (i := 12) (v := ?_) rfl (by kernel_rfl) (by kernel_rfl) (by kernel_rfl) (fun _ _ _ h => h) (Or.inl ⟨by rfl, ?_⟩) (by assumption) ?_; rotate_left; (intro wH hSw; (try dsimp only at hSw); go_simp; try with_reducible rfl))
                  try simp only [Act.put, List.setIfInBounds_toArray, List.set_cons_zero, List.set_cons_succ, List.getElem_toArray, List.getElem_cons_zero, List.getElem_cons_succ]
                  have k0 := (box_cell BX.out 0).trans rfl
                  have k1 := (box_cell BX.out 1).trans rfl
                  have m0 := box_free BX.out 0
                  have m1 := box_free BX.out 1
                  have HF := Lib.hid (GS.out.fin HXG.out BX.out HBB.out)
                  refine wpAnyH_ready (rs := [14]) (by kernel_rfl) (by simp) ?_
                  refine AllReadyH.cons rfl (fun K hK => ?_) AllReadyH.nil
                  go_simp
                  skip
                  refine hK.out _ _ (by (try dsimp only); exact (box_cell (box_below HT.out.s.x4 HF.out.2.2) 0).trans rfl) (fun hHeld => ?_)
                  clear hK K
                  try simp only [Act.put, List.setIfInBounds_toArray, List.set_cons_zero, List.set_cons_succ, List.getElem_toArray, List.getElem_cons_zero, List.getElem_cons_succ]
                  refine wpAnyH_done (by kernel_rfl) ?_ _
                  go_wp2
                  go_meet
                  exact ⟨_, _, _, rfl, HF.out.1, HF.out.2.1, HF.out.2.2⟩
              · go_simp
                have HBB : Hid (w5.heap.size ≤ w5.heap.size) := Lib.hid (Nat.le_refl _)
                have BX : Hid (((w5.alloc (.cells #[.slice none 0 0, .int .i64 0] 29)).alloc (.cells #[] 34)).drew.heap[w5.heap.size]? = some (.cells #[.slice none 0 0, .int .i64 0] 29)) := Lib.hid (box_al (heap_alloc_new _ _))
                refine hK.out _ _ (by (try dsimp only); exact (box_cell (box_al HT.out.s.x4) 0).trans rfl) (fun hHeld => ?_)
                clear hK K
                try simp only [Act.put, List.setIfInBounds_toArray, List.set_cons_zero, List.set_cons_succ, List.getElem_toArray, List.getElem_cons_zero, List.getElem_cons_succ]
                have GS : Hid (GoS w5 ((w5.alloc (.cells #[.slice none 0 0, .int .i64 0] 29)).alloc (.cells #[] 34)).drew (.slice (some ⟨w5.heap.size + 1, 0, none⟩) 0 0) []) := Lib.hid (by have h := (GoS.start (W0 := w5) (X := (w5.alloc (.cells #[.slice none 0 0, .int .i64 0] 29))) Bel.out).to (W := ((w5.alloc (.cells #[.slice none 0 0, .int .i64 0] 29)).alloc (.cells #[] 34)).drew) Bel.out; rw [show (w5.alloc (.cells #[.slice none 0 0, .int .i64 0] 29)).heap.size = w5.heap.size + 1 by simp] at h; exact h)
                refine wpAnyH_ready (rs := [0]) (by kernel_rfl) (by simp) ?_
                refine AllReadyH.cons rfl (fun K hK => ?_) AllReadyH.nil
                go_simp
                skip
                refine hK.out _ _ (by (try dsimp only); exact (box_cell (box_below HT.out.s.x4 GS.out.bel) 0).trans rfl) (fun hHeld => ?_)
                clear hK K
                try simp only [Act.put, List.setIfInBounds_toArray, List.set_cons_zero, List.set_cons_succ, List.getElem_toArray, List.getElem_cons_zero, List.getElem_cons_succ]
                refine wpAnyH_ready (rs := [5]) (by kernel_rfl) (by simp) ?_
                refine AllReadyH.cons rfl (fun K hK => ?_) AllReadyH.nil
                obtain ⟨v5, w5', hrun, hg, hbx⟩ := GS.out.app (l.entries.take k) A1 k c1 HLK.out HK.out (by simp; omega)
                obtain ⟨Av5, nv5, cv5, rfl⟩ := hg.slo
                have GS := Lib.hid hg
                have BX := Lib.hid (hbx _ _ _ BX.out)
                rw [if_pos (by rfl)]
                refine append_op _ _ _ rfl rfl rfl hrun ?_
                refine hK.out _ _ (by (try dsimp only); exact (box_cell (box_below HT.out.s.x4 GS.out.bel) 0).trans rfl) (fun hHeld => ?_)
                clear hK K
                try simp only [Act.put, List.setIfInBounds_toArray, List.set_cons_zero, List.set_cons_succ, List.getElem_toArray, List.getElem_cons_zero, List.getElem_cons_succ]
                clear hrun hg hbx
                refine wpAnyH_ready (rs := [11]) (by kernel_rfl) (by simp) ?_
                refine AllReadyH.cons rfl (fun K hK => ?_) AllReadyH.nil
                obtain ⟨v11, w11', hrun, hg, hbx⟩ := GS.out.app (l.entries.drop (k + 1)) A5 (l.entries.length - (k + 1)) (c1 - (k + 1)) HLD.out HD.out (by have := HLK.out; simp only [List.nil_append]; omega)
                obtain ⟨Av11, nv11, cv11, rfl⟩ := hg.slo
                have GS := Lib.hid hg
                have BX := Lib.hid (hbx _ _ _ BX.out)
                rw [if_pos (by rfl)]
                refine append_op _ _ _ rfl rfl rfl hrun ?_
                refine hK.out _ _ (by (try dsimp only); exact (box_cell (box_below HT.out.s.x4 GS.out.bel) 0).trans rfl) (fun hHeld => ?_)
                clear hK K
                try simp only [Act.put, List.setIfInBounds_toArray, List.set_cons_zero, List.set_cons_succ, List.getElem_toArray, List.getElem_cons_zero, List.getElem_cons_succ]
                clear hrun hg hbx
                first
                  | (refine wpAnyH_take (i := 12) (v := undef) rfl (by kernel_rfl) (by kernel_rfl) (by kernel_rfl) (fun _ _ _ h => h) (Or.inr ⟨by rfl, rfl⟩) (by assumption) ?_)
                  | (refine wpAnyH_take (i := 12) (v := ?_) rfl (by kernel_rfl) (by kernel_rfl) (by kernel_rfl) (fun _ _ _ h => h) (Or.inl ⟨by rfl, ?_⟩) (by assumption) ?_; rotate_left; (intro wH hSw; (try dsimp only at hSw); go_simp; try with_reducible rfl))
                try simp only [Act.put, List.setIfInBounds_toArray, List.set_cons_zero, List.set_cons_succ, List.getElem_toArray, List.getElem_cons_zero, List.getElem_cons_succ]
                have k0 := (box_cell BX.out 0).trans rfl
                have k1 := (box_cell BX.out 1).trans rfl
                have m0 := box_free BX.out 0
                have m1 := box_free BX.out 1
                have HF := Lib.hid (GS.out.fin HXG.out BX.out HBB.out)
                refine wpAnyH_ready (rs := [14]) (by kernel_rfl) (by simp) ?_
                refine AllReadyH.cons rfl (fun K hK => ?_) AllReadyH.nil
                go_simp
                skip
                refine hK.out _ _ (by (try dsimp only); exact (box_cell (box_below HT.out.s.x4 HF.out.2.2) 0).trans rfl) (fun hHeld => ?_)
                clear hK K
                try simp only [Act.put, List.setIfInBounds_toArray, List.set_cons_zero, List.set_cons_succ, List.getElem_toArray, List.getElem_cons_zero, List.getElem_cons_succ]
                refine wpAnyH_done (by kernel_rfl) ?_ _
                go_wp2
                go_meet
                exact ⟨_, _, _, rfl, HF.out.1, HF.out.2.1, HF.out.2.2⟩
            case rest =>
              obtain ⟨b17, A4, c4, rfl, hbx, hsl, hb⟩ := hcut
              obtain ⟨W6, hW6⟩ : ∃ W6 : World, W6 = wc := ⟨_, rfl⟩
              rw [← hW6] at hbx hsl hb ⊢
              have HT := Lib.hid (HT.out.to hb)
              have q0 := (box_cell hbx 0).trans rfl
              have q1 := (box_cell hbx 1).trans rfl
              have HSL := Lib.hid hsl
              clear hW6 hbx hsl hb d0
              go_wp2_with (go_at_call 15; refine (HBAL2.out _ _ _ _ _ HSL.out).mono ?_; rintro r w7 ⟨rfl, hb7⟩; have HT := Lib.hid (HT.out.to hb7))
              go_roundw
              case rel => exact ⟨y + 1, by omega, by omega, rfl, HT.out⟩
              case measure => simp [intOf]; omega
          · have hyl' : ¬ y < f.curs := hyl
            go_wp2
            go_roundw
            case rel => exact ⟨a + 1, by omega, by go_num, HT.out⟩
            case measure => simp [intOf]; omega
      · have hal' : ¬ (a : Int) < f.chart.length := by omega
        go_wp2
        go_ret
        exact ⟨rfl, HT.out.s.bel⟩
end Go.Proofs.Ythgnfpbbhiegfaa
