/- The walks of the functions that chain entries (the program's). -/
import Derived.Test.YthgnfpbbhiegfaaHeadP
import Derived.Test.YthgnfpbbhiegfaaOwn2
import Derived.StillTailTactics
namespace Go.Proofs.Ythgnfpbbhiegfaa
open Go.RowKit
/-- A head that is being reckoned: what it is behind a number; whether one was too great. -/
def stepC (s : Int × Bool) (x : Int) : Int × Bool := if inH x then (linkN s.1 x, s.2) else (s.1, true)
def chB (w : World) (g : Nat) (s : Int × Bool) : Prop := w.heap[g]? = some (.cells #[.int .i64 s.1, .bool s.2] 136 (0, 0))
def inCh (s : Int × Bool) : Prop := 0 ≤ s.1 ∧ s.1 < 1099511627791
theorem stepC_in {s : Int × Bool} {x : Int} (h : inCh s) : inCh (stepC s x) := by
  unfold stepC
  split
  · exact linkN_bd
  · exact h
theorem fold_in {xs : List Int} : ∀ {s : Int × Bool}, inCh s → inCh (xs.foldl stepC s) := by
  induction xs with
  | nil => exact fun h => h
  | cons x xs ih => exact fun h => ih (stepC_in h)
theorem chB_lt {w : World} {g : Nat} {s : Int × Bool} (h : chB w g s) : g < w.heap.size := box_lt h
theorem grown_set (w : World) (g i : Nat) (v : Value) : w.grownBy (w.setCell ⟨g, i, none⟩ v) (some g) := ⟨rfl, rfl, rfl, by simp, fun k _ hk => heap_setCell_other w ⟨g, i, none⟩ k v (fun e => hk (by simp [e]))⟩
set_option maxHeartbeats 400000 in
theorem link_c (g : Nat) (s : Int × Bool) (x : Int) (w : World) (h : chB w g s) (hb : inCh s) :
    Calls Try.prog 88 #[.pointer (some ⟨g, 0, none⟩), .int .i64 x] w fun e w' => e = .returned (.tuple #[]) ∧ chB w' g (stepC s x) ∧ w.grownBy w' (some g) := by
  have HB := Lib.hid h
  have y0 := (box_cell h 0).trans rfl
  have y1 := (box_cell h 1).trans rfl
  have f0 := box_free h 0
  have f1 := box_free h 1
  obtain ⟨h1, h2⟩ := hb
  have HL := Lib.hid (linkN_def s.1 x)
  have HS := Lib.hid (show stepC s x = if inH x then (linkN s.1 x, s.2) else (s.1, true) from rfl)
  clear h
  cases hin : inH x
  · have hin2 : (!inB x (-549755813888) 549755813887) = true := by unfold inH at hin; rw [hin]; rfl
    have hs : stepC s x = (s.1, true) := by rw [HS.out, hin]; rfl
    have HV := Lib.hid hs
    clear hs hin HS
    go_enter Try.func88, Try.ntmps88
    go_wp2_with (go_at_call 175; refine (between_c _ _ _ _).mono ?_; rintro e w' ⟨rfl, rfl⟩)
    refine bodyPost_ret (results_none rfl _ _ _) rfl ?_
    exact ⟨rfl, (heap_setCell_same w g 1 _ _ _ HB.out).trans (by rw [HV.out]; rfl), grown_set _ _ _ _⟩
  · have hx := inB_t hin
    have hin2 : (!inB x (-549755813888) 549755813887) = false := by unfold inH at hin; rw [hin]; rfl
    have hs : stepC s x = (linkN s.1 x, s.2) := by rw [HS.out, hin]; rfl
    have HV := Lib.hid hs
    clear hs hin HS
    go_enter Try.func88, Try.ntmps88
    go_wp2_with (go_at_call 175; refine (between_c _ _ _ _).mono ?_; rintro e w' ⟨rfl, rfl⟩)
    refine bodyPost_end (results_none rfl _ _ _) rfl ?_
    refine ⟨rfl, (heap_setCell_same w g 0 _ _ _ HB.out).trans ?_, grown_set _ _ _ _⟩
    rw [HV.out, HL.out]
    rfl
theorem fold_snoc {w : World} {g : Nat} {s : Int × Bool} {xs : List Int} {x : Int} (h : chB w g (stepC (xs.foldl stepC s) x)) : chB w g ((xs ++ [x]).foldl stepC s) := by rw [List.foldl_append]; exact h
theorem chB_alloc {w : World} {g : Nat} {s : Int × Bool} (h : chB w g s) (o : Obj) : chB (w.alloc o) g s := ((Below.refl _ _ |>.alloc (Nat.le_refl w.heap.size) o).block g (chB_lt h)).trans h
theorem Sl.grown {α : Type} {c : Cod α} {w w1 : World} {g : Nat} {A : Option Addr} {xs : List α} (h : Sl c w (fun k => k ≠ g) A xs) (hg : w.grownBy w1 (some g)) (hs : 0 < c.sz := by decide) : Sl c w1 (fun k => k ≠ g) A xs :=
  Sl.mono (fun _ hk => hk.1) (Sl.move (fun k hk => hg.block k hk.2 (fun e => hk.1 (by injection e))) (Sl.bound hs h))
set_option maxRecDepth 100000 in
set_option maxHeartbeats 2000000 in
theorem numbersOf_c (g : Nat) (s : Int × Bool) (A3 : Option Addr) (c3 : Nat) (e : En) (w : World) (h : chB w g s) (hb : inCh s) (hs : Sl cLn w (fun k => k ≠ g) A3 e.lines) (hz : e.text.size ≤ 140737488355328) :
    Calls Try.prog 87 #[.agg #[.int .i64 e.day, .int .i64 e.ref, .string e.text, .slice A3 e.lines.length c3], .func (.func 88) #[.pointer (some ⟨g, 0, none⟩)] #[]] w fun r w' => r = .returned (.tuple #[]) ∧ chB w' g ((numsOf e).foldl stepC s) ∧ w.grownBy w' (some g) := by
  have hl := hs.1
  have glt := chB_lt h
  have IN := Lib.hid hb
  go_enter Try.func87, Try.ntmps87
  go_wp2_with (fail)
  obtain ⟨W0, hW0, hsz, hbx, g0, hch⟩ : ∃ W0 : World, W0 = w.alloc (.cells #[.int .i64 e.day, .int .i64 e.ref, .string e.text, .slice A3 e.lines.length c3] 34) ∧ W0.heap.size = w.heap.size + 1 ∧ W0.heap[w.heap.size]? = some (.cells #[.int .i64 e.day, .int .i64 e.ref, .string e.text, .slice A3 e.lines.length c3] 34) ∧ w.grownBy W0 (some g) ∧ chB W0 g (List.foldl stepC s []) := ⟨_, rfl, by simp, heap_alloc_new _ _, World.grownBy_alloc _ _ _, chB_alloc h _⟩
  rw [← hW0]
  clear hW0
  have X := Lib.hid hbx
  have CH := Lib.hid hch
  have GR := Lib.hid (World.grownBy.refl W0 (some g))
  have HG0 := Lib.hid g0
  have HSZ := Lib.hid hsz
  have y0 := (box_cell X.out 0).trans rfl
  have y1 := (box_cell X.out 1).trans rfl
  have y2 := (box_cell X.out 2).trans rfl
  have y3 := (box_cell X.out 3).trans rfl
  clear hbx hch g0 hsz h hb
  go_wp2_with (go_at_call 88; refine (link_c g _ _ _ CH.out (fold_in IN.out)).mono ?_; rintro r w1 ⟨rfl, hch, hg⟩; have CH := Lib.hid (fold_snoc hch); have GR := Lib.hid (GR.out.trans hg); have xb := (GR.out.block w.heap.size (by have := HSZ.out; omega) (by simp; omega)).trans X.out; have y0 := (box_cell xb 0).trans rfl; have y1 := (box_cell xb 1).trans rfl; have y2 := (box_cell xb 2).trans rfl; have y3 := (box_cell xb 3).trans rfl; clear xb hch hg)
  clear y0 y1 y2 y3
  go_loopw [4] (fun i wq => ∃ k : Nat, k ≤ e.text.size ∧ i = .int .i64 k ∧ chB wq g (([e.day, e.ref, (e.text.size : Int)] ++ bytesTo e.text k).foldl stepC s) ∧ W0.grownBy wq (some g)) (fun i _ => e.text.size - (intOf i).toNat)
  case atStart => exact ⟨0, Nat.zero_le _, rfl, CH.out, GR.out⟩
  case round =>
    clear CH GR
    obtain ⟨wo, rfl⟩ : ∃ wo : World, wo = wr := ⟨_, rfl⟩
    obtain ⟨k, hk, rfl, hch, hg⟩ := hrel
    have CH := Lib.hid hch
    have GR := Lib.hid hg
    clear hch hg
    have xb := (GR.out.block w.heap.size (by have := HSZ.out; omega) (by simp; omega)).trans X.out
    have y2 := (box_cell xb 2).trans rfl
    have y3 := (box_cell xb 3).trans rfl
    clear xb
    by_cases hlt : k < e.text.size
    · have hbt := bt_eq e.text k hlt
      have hbd := bt_bd e.text k
      go_wp2_with (go_at_call 88; refine (link_c g _ _ _ CH.out (fold_in IN.out)).mono ?_; rintro r w1 ⟨rfl, hch, hg⟩; have CH := Lib.hid (fold_snoc hch); have GR := Lib.hid (GR.out.trans hg); have xb := (GR.out.block w.heap.size (by have := HSZ.out; omega) (by simp; omega)).trans X.out; have y0 := (box_cell xb 0).trans rfl; have y1 := (box_cell xb 1).trans rfl; have y2 := (box_cell xb 2).trans rfl; have y3 := (box_cell xb 3).trans rfl; clear xb hch hg)
      go_roundw
      case rel => exact ⟨k + 1, by omega, by go_num, by rw [bytesTo_succ, ← List.append_assoc]; exact CH.out, GR.out⟩
      case measure => simp [intOf]; omega
    · have ek : k = e.text.size := by omega
      clear hlt
      subst ek
      go_wp2_with (go_at_call 88; refine (link_c g _ _ _ CH.out (fold_in IN.out)).mono ?_; rintro r w1 ⟨rfl, hch, hg⟩; have CH := Lib.hid (fold_snoc hch); have GR := Lib.hid (GR.out.trans hg); have xb := (GR.out.block w.heap.size (by have := HSZ.out; omega) (by simp; omega)).trans X.out; have y0 := (box_cell xb 0).trans rfl; have y1 := (box_cell xb 1).trans rfl; have y2 := (box_cell xb 2).trans rfl; have y3 := (box_cell xb 3).trans rfl; clear xb hch hg)
      clear y0 y1
      go_loopw [42] (fun i wq => ∃ k : Nat, k ≤ e.lines.length ∧ i = .int .i64 k ∧ chB wq g (([e.day, e.ref, (e.text.size : Int)] ++ bytesTo e.text e.text.size ++ [(e.lines.length : Int)] ++ linesTo e.lines k).foldl stepC s) ∧ W0.grownBy wq (some g)) (fun i _ => e.lines.length - (intOf i).toNat)
      case atStart => exact ⟨0, Nat.zero_le _, rfl, by simpa [linesTo] using CH.out, GR.out⟩
      case round =>
        clear CH GR y2 y3
        obtain ⟨wp, rfl⟩ : ∃ wp : World, wp = wr := ⟨_, rfl⟩
        obtain ⟨k, hk, rfl, hch, hg⟩ := hrel
        have CH := Lib.hid hch
        have GR := Lib.hid hg
        clear hch hg
        by_cases hlt : k < e.lines.length
        · have i0 : (0 : Int) ≤ (k : Int) := Int.natCast_nonneg k
          have i1 : (k : Int) < (e.lines.length : Int) := by omega
          obtain ⟨ad, rfl, l0, l1, l2, l3, l4⟩ := at_Ln ((hs.grown HG0.out).grown GR.out) k hlt
          go_wp2_with (fail)
          obtain ⟨W1, hW1, hsz1, hbx1, hch1, hg1⟩ : ∃ W1 : World, W1 = wp.alloc (.cells #[.int .i64 (el e.lines k).account, .int .i64 (el e.lines k).dim, .int .i64 (el e.lines k).cur, .int .i64 (el e.lines k).amount, .int .i64 (el e.lines k).base] 130) ∧ W1.heap.size = wp.heap.size + 1 ∧ W1.heap[wp.heap.size]? = some (.cells #[.int .i64 (el e.lines k).account, .int .i64 (el e.lines k).dim, .int .i64 (el e.lines k).cur, .int .i64 (el e.lines k).amount, .int .i64 (el e.lines k).base] 130) ∧ chB W1 g (([e.day, e.ref, (e.text.size : Int)] ++ bytesTo e.text e.text.size ++ [(e.lines.length : Int)] ++ linesTo e.lines k).foldl stepC s) ∧ W0.grownBy W1 (some g) := ⟨_, rfl, by simp, heap_alloc_new _ _, chB_alloc CH.out _, GR.out.trans (World.grownBy_alloc _ _ _)⟩
          have hglt := chB_lt CH.out
          rw [← hW1]
          clear hW1 CH GR
          have XL := Lib.hid hbx1
          have CH := Lib.hid hch1
          have G1 := Lib.hid hg1
          have HS1 := Lib.hid hsz1
          have GR := Lib.hid (World.grownBy.refl W1 (some g))
          clear hbx1 hch1 hg1 hsz1 l0 l1 l2 l3 l4
          have z1 := (box_cell XL.out 1).trans rfl
          have z2 := (box_cell XL.out 2).trans rfl
          have z3 := (box_cell XL.out 3).trans rfl
          have z4 := (box_cell XL.out 4).trans rfl
          go_wp2_with (go_at_call 88; refine (link_c g _ _ _ CH.out (fold_in IN.out)).mono ?_; rintro r w2 ⟨rfl, hch, hg⟩; have CH := Lib.hid (fold_snoc hch); have GR := Lib.hid (GR.out.trans hg); have xb := (GR.out.block wp.heap.size (by have := HS1.out; omega) (by simp; omega)).trans XL.out; have z1 := (box_cell xb 1).trans rfl; have z2 := (box_cell xb 2).trans rfl; have z3 := (box_cell xb 3).trans rfl; have z4 := (box_cell xb 4).trans rfl; clear xb hch hg)
          go_roundw
          case rel => exact ⟨k + 1, by omega, by go_num, by rw [linesTo, ← List.append_assoc]; simpa [lnNums, List.foldl_append] using CH.out, G1.out.trans GR.out⟩
          case measure => simp [intOf]; omega
        · have ek : k = e.lines.length := by omega
          subst ek
          go_wp2
          refine bodyPost_end (results_none rfl _ _ _) rfl ?_
          exact ⟨rfl, CH.out, HG0.out.trans GR.out⟩
def ofS (s : Int × Bool) : Option Int := if s.2 then none else some s.1
theorem ofS_step (s : Int × Bool) (x : Int) : ofS (stepC s x) = (ofS s).bind fun y => if inH x then some (linkN y x) else none := by
  obtain ⟨h, b⟩ := s
  cases b <;> cases hx : inH x <;> simp [ofS, stepC, hx]
theorem goTo_fold (xs : List Int) (s : Int × Bool) : ∀ k, k ≤ xs.length → ofS ((xs.take k).foldl stepC s) = (ofS s).bind fun h => goTo xs h k
  | 0, _ => by cases hs : ofS s <;> simp [goTo, hs]
  | k + 1, hk => by
    rw [List.take_add_one, List.getElem?_eq_getElem (by omega), Option.toList_some, List.foldl_append, List.foldl_cons, List.foldl_nil, ofS_step, goTo_fold xs s k (by omega), ← el_eq xs k (by omega)]
    cases ofS s with
    | none => rfl
    | some h => rfl
def chainTo (s : Int × Bool) (es : List En) : Nat → Int × Bool
  | 0 => s
  | k + 1 => (numsOf (el es k)).foldl stepC (chainTo s es k)
theorem chainTo_in {s : Int × Bool} (h : inCh s) (es : List En) : ∀ k, inCh (chainTo s es k)
  | 0 => h
  | k + 1 => fold_in (chainTo_in h es k)
theorem headTo_chain {es : List En} : ∀ k, (∀ j, j < k → ¬ (60 < (el es j).lines.length ∨ 40 < (el es j).text.size)) → headTo es k = ofS (chainTo (1, false) es k)
  | 0, _ => rfl
  | k + 1, h => by
    have e := goTo_fold (numsOf (el es k)) (chainTo (1, false) es k) (numsOf (el es k)).length (Nat.le_refl _)
    rw [List.take_length] at e
    rw [headTo_succ, headTo_chain k (fun j hj => h j (by omega)), chainTo, e]
    congr 1
    funext y
    unfold stepE
    rw [if_neg (h k (by omega))]
set_option maxRecDepth 100000 in
set_option maxHeartbeats 2000000 in
theorem impl_HeadOf_c {S : Nat → Prop} (A : Option Addr) (c : Nat) (es : List En) (w : World) (hr0 : Sl cEn w S A es) :
    Calls Try.prog 174 #[.slice A es.length c] w fun r w' => r = .returned (.int .i64 (headOf es)) ∧ Below w.heap.size w w' := by
  have hl := hr0.1
  have hr : Sl cEn w (fun k => k ≠ w.heap.size) A es := (hr0.bound (by decide)).mono (fun k hk => by have := hk.2; omega)
  have HDO := Lib.hid (headOf_def es)
  clear hr0
  go_enter Try.func174, Try.ntmps174
  by_cases hlen : 1000 < es.length
  · have hn : (1000 : Int) < es.length := by omega
    have hv := HDO.out
    rw [if_pos hlen] at hv
    have HV := Lib.hid hv
    clear hv
    go_wp2
    go_ret
    exact ⟨by rw [HV.out]; rfl, Bel.out⟩
  · have hn : ¬ (1000 : Int) < es.length := by omega
    have hv := HDO.out
    rw [if_neg hlen] at hv
    have HV := Lib.hid hv
    clear hv HDO
    go_wp2
    go_loopw [16] (fun i wq => ∃ k : Nat, k ≤ es.length ∧ i = .int .i64 k ∧ (∀ j, j < k → ¬ (60 < (el es j).lines.length ∨ 40 < (el es j).text.size)) ∧ chB wq w.heap.size (chainTo (1, false) es k) ∧ Below w.heap.size w wq) (fun i _ => es.length - (intOf i).toNat)
    case atStart => exact ⟨0, Nat.zero_le _, rfl, fun j hj => absurd hj (Nat.not_lt_zero j), heap_alloc_new _ _, Bel.out⟩
    case round =>
      obtain ⟨wo, rfl⟩ : ∃ wo : World, wo = wr := ⟨_, rfl⟩
      obtain ⟨k, hk, rfl, hsm, hch, hB⟩ := hrel
      have HSM := Lib.hid hsm
      have CH := Lib.hid hch
      clear hsm hch
      have bo : Bel w wo := ⟨hB⟩
      by_cases hlt : k < es.length
      · obtain ⟨ad, A3, c3, rfl, l0, l1, l2, l3, hz, h3, hs⟩ := at_En (hr.to (w1 := wo)) k hlt
        have i0 : (0 : Int) ≤ (k : Int) := Int.natCast_nonneg k
        have i1 : (k : Int) < (es.length : Int) := by omega
        by_cases hbig : 60 < (el es k).lines.length ∨ 40 < (el es k).text.size
        · have hno : headOf es = 0 := headOf_none (k := k + 1) hlt (by
            rw [headTo_succ, headTo_chain k HSM.out]
            cases ofS (chainTo (1, false) es k) <;> simp [stepE, hbig])
          have HNO := Lib.hid hno
          clear hno
          have hb' : (60 : Int) < (el es k).lines.length ∨ (¬ (60 : Int) < (el es k).lines.length ∧ (40 : Int) < (el es k).text.size) := by omega
          clear hbig
          rcases hb' with hb' | ⟨hb', hb''⟩
          all_goals
            go_wp2
            go_ret
            exact ⟨by rw [HNO.out]; rfl, Bel.out⟩
        · have hb1 : ¬ (60 : Int) < (el es k).lines.length := by omega
          have hb2 : ¬ (40 : Int) < (el es k).text.size := by omega
          go_wp2_with (go_at_call 87; go_loud (refine (numbersOf_c w.heap.size _ _ _ _ _ (chB_alloc CH.out _) (chainTo_in (by constructor <;> decide) es k) hs.to hz).mono ?_; rintro r w2 ⟨rfl, hch, hg⟩))
          go_roundw
          case rel =>
            refine ⟨k + 1, by omega, by go_num, fun j hj => ?_, hch, (Bel.out : Below w.heap.size w (wo.alloc _)).grown hg Bel.out.size (by simp)⟩
            by_cases e : j = k
            · subst e; exact hbig
            · exact HSM.out j (by omega)
          case measure => simp [intOf]; omega
      · have ek : k = es.length := by omega
        have hv : headOf es = if (chainTo (1, false) es k).2 then 0 else (chainTo (1, false) es k).1 := by
          rw [HV.out, ← ek, headTo_chain k HSM.out]
          unfold ofS
          cases (chainTo (1, false) es k).2 <;> rfl
        have y0 := (box_cell CH.out 0).trans rfl
        have y1 := (box_cell CH.out 1).trans rfl
        have HV2 := Lib.hid hv
        clear hv
        subst ek
        cases hbad : (chainTo (1, false) es es.length).2
        all_goals
          rw [hbad] at y1 HV2
          go_wp2
          go_ret
          exact ⟨by rw [HV2.out]; rfl, hB⟩
end Go.Proofs.Ythgnfpbbhiegfaa
