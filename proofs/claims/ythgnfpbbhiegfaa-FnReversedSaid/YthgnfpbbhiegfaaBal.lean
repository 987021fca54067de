/- The walk of the program's Balance, for ledgers whose amounts are in their bounds. -/
import Derived.Test.YthgnfpbbhiegfaaEntryP
import Derived.Test.YthgnfpbbhiegfaaOwn
import Derived.Deep.DeepCutAuto
namespace Go.Proofs.Ythgnfpbbhiegfaa
open Go.RowKit
def matchB (acc dim cur : Int) (x : Ln) : Bool := (acc == -1 || acc == x.account) && (dim == -1 || dim == x.dim) && (cur == -1 || cur == x.cur)
/-- What g tells of an entry's first k lines that match, if its day does. -/
def entSum (acc dim cur from' to' : Int) (g : Ln → Int) (e : En) (k : Nat) : Int := sumTo (fun x => decide (from' ≤ e.day) && decide (e.day ≤ to') && matchB acc dim cur x) g e.lines k
def balSum (acc dim cur from' to' : Int) (g : Ln → Int) (es : List En) : Nat → Int
  | 0 => 0
  | k + 1 => balSum acc dim cur from' to' g es k + entSum acc dim cur from' to' g (el es k) (el es k).lines.length
/-- Sizes and amounts in bounds. -/
def Mild (es : List En) : Prop := es.length ≤ 1000 ∧ ∀ j, j < es.length → (el es j).lines.length ≤ 60 ∧ ∀ i, i < (el es j).lines.length → amB (el (el es j).lines i).amount = true ∧ amB (el (el es j).lines i).base = true
theorem entSum_bd {acc dim cur from' to' : Int} {g : Ln → Int} {e : En} (k : Nat) (h : ∀ j, j < k → -100000000000 ≤ g (el e.lines j) ∧ g (el e.lines j) ≤ 100000000000) : -(100000000000 * k) ≤ entSum acc dim cur from' to' g e k ∧ entSum acc dim cur from' to' g e k ≤ 100000000000 * k := sumTo_bd (by omega) k h
theorem entSum_succ (acc dim cur from' to' : Int) (g : Ln → Int) (e : En) (k : Nat) : entSum acc dim cur from' to' g e (k + 1) = entSum acc dim cur from' to' g e k + if (decide (from' ≤ e.day) && decide (e.day ≤ to') && matchB acc dim cur (el e.lines k)) = true then g (el e.lines k) else 0 := by simp [entSum, sumTo]
theorem balSum_bd {acc dim cur from' to' : Int} {g : Ln → Int} {es : List En} (hm : ∀ j, j < es.length → (el es j).lines.length ≤ 60 ∧ ∀ i, i < (el es j).lines.length → -100000000000 ≤ g (el (el es j).lines i) ∧ g (el (el es j).lines i) ≤ 100000000000) : ∀ k, k ≤ es.length → -(6000000000000 * k) ≤ balSum acc dim cur from' to' g es k ∧ balSum acc dim cur from' to' g es k ≤ 6000000000000 * k
  | 0, _ => by simp [balSum]
  | k + 1, hk => by
    have h1 := balSum_bd (acc := acc) (dim := dim) (cur := cur) (from' := from') (to' := to') hm k (by omega)
    have h2 := hm k (by omega)
    have h3 := entSum_bd (acc := acc) (dim := dim) (cur := cur) (from' := from') (to' := to') (g := g) (e := el es k) (el es k).lines.length h2.2
    have h4 := h2.1
    unfold balSum
    omega
theorem Mild.amount {es : List En} (h : Mild es) : ∀ j, j < es.length → (el es j).lines.length ≤ 60 ∧ ∀ i, i < (el es j).lines.length → -100000000000 ≤ (el (el es j).lines i).amount ∧ (el (el es j).lines i).amount ≤ 100000000000 := fun j hj => ⟨(h.2 j hj).1, fun i hi => inB_t ((h.2 j hj).2 i hi).1⟩
theorem Mild.base {es : List En} (h : Mild es) : ∀ j, j < es.length → (el es j).lines.length ≤ 60 ∧ ∀ i, i < (el es j).lines.length → -100000000000 ≤ (el (el es j).lines i).base ∧ (el (el es j).lines i).base ≤ 100000000000 := fun j hj => ⟨(h.2 j hj).1, fun i hi => inB_t ((h.2 j hj).2 i hi).2⟩
set_option maxRecDepth 100000 in
set_option maxHeartbeats 4000000 in
theorem Balance_c {S : Nat → Prop} (A0 : Option Addr) (c0 : Nat) (l : Le) (acc dim cur from' to' : Int) (w : World) (hs : Sl cEn w S A0 l.entries) (hm : Mild l.entries) :
    Calls Try.prog 15 #[.agg #[.slice A0 l.entries.length c0, .int .i64 l.head], .int .i64 acc, .int .i64 dim, .int .i64 cur, .int .i64 from', .int .i64 to'] w fun r w' => r = .returned (.tuple #[.int .i64 (balSum acc dim cur from' to' Ln.amount l.entries l.entries.length), .int .i64 (balSum acc dim cur from' to' Ln.base l.entries l.entries.length)]) ∧ Below w.heap.size w w' := by
  have hl := hs.1
  have hn := hm.1
  have hn' : ¬ (1000 : Int) < l.entries.length := by omega
  have HM := Lib.hid hm
  clear hm
  go_enter Try.func15, Try.ntmps15
  go_upto_region 1 with (fail)
  obtain ⟨W0, hW0, x0, b0⟩ : ∃ W0 : World, W0 = w.alloc (.cells #[.slice A0 l.entries.length c0, .int .i64 l.head] 29) ∧ W0.heap[w.heap.size]? = some (.cells #[.slice A0 l.entries.length c0, .int .i64 l.head] 29 (0, 0)) ∧ Bel w W0 := ⟨_, rfl, heap_alloc_new _ _, inferInstance⟩
  rw [← hW0]
  clear hW0
  have y0 := (box_cell x0 0).trans rfl
  clear x0
  go_wp2
  go_loopw [14, 15, 27] (fun v1 v2 i wq => ∃ k : Nat, k ≤ l.entries.length ∧ i = .int .i64 k ∧ v1 = .int .i64 (balSum acc dim cur from' to' Ln.amount l.entries k) ∧ v2 = .int .i64 (balSum acc dim cur from' to' Ln.base l.entries k) ∧ Below W0.heap.size W0 wq) (fun _ _ i _ => l.entries.length - (intOf i).toNat)
  case atStart => exact ⟨0, Nat.zero_le _, rfl, rfl, rfl, Bel.out⟩
  case round =>
    clear y0
    obtain ⟨wo, rfl⟩ : ∃ wo : World, wo = wr := ⟨_, rfl⟩
    obtain ⟨k, hk, rfl, rfl, rfl, hB⟩ := hrel
    have bo : Bel W0 wo := ⟨hB⟩
    by_cases hlt : k < l.entries.length
    · obtain ⟨ad, A3, c3, rfl, l0, l1, l2, l3, hz, h3', hsl⟩ := at_En ((hs.to (w1 := W0)).to (w1 := wo)) k hlt
      have i0 : (0 : Int) ≤ (k : Int) := Int.natCast_nonneg k
      have i1 : (k : Int) < (l.entries.length : Int) := by omega
      have h60 := (HM.out.2 k hlt).1
      have h60' : ¬ (60 : Int) < (el l.entries k).lines.length := by omega
      go_upto_region 7 with (fail)
      obtain ⟨W1, hW1, hx1, b1⟩ : ∃ W1 : World, W1 = wo.alloc (.cells #[.int .i64 (el l.entries k).day, .int .i64 (el l.entries k).ref, .string (el l.entries k).text, .slice A3 (el l.entries k).lines.length c3] 34) ∧ W1.heap[wo.heap.size]? = some (.cells #[.int .i64 (el l.entries k).day, .int .i64 (el l.entries k).ref, .string (el l.entries k).text, .slice A3 (el l.entries k).lines.length c3] 34 (0, 0)) ∧ Bel wo W1 := ⟨_, rfl, heap_alloc_new _ _, inferInstance⟩
      rw [← hW1]
      clear hW1 l0 l1 l2 l3
      have X1 := Lib.hid hx1
      have m3 := (box_cell hx1 3).trans rfl
      have bw : Bel W0 W1 := ⟨below_step bo.out b1.out⟩
      clear hx1
      go_wp2
      go_loopw [14, 15, 38] (fun v1 v2 i wq => ∃ j : Nat, j ≤ (el l.entries k).lines.length ∧ i = .int .i64 j ∧ v1 = .int .i64 (balSum acc dim cur from' to' Ln.amount l.entries k + entSum acc dim cur from' to' Ln.amount (el l.entries k) j) ∧ v2 = .int .i64 (balSum acc dim cur from' to' Ln.base l.entries k + entSum acc dim cur from' to' Ln.base (el l.entries k) j) ∧ Below W1.heap.size W1 wq) (fun _ _ i _ => (el l.entries k).lines.length - (intOf i).toNat)
      case atStart => exact ⟨0, Nat.zero_le _, rfl, by simp [entSum, sumTo], by simp [entSum, sumTo], Bel.out⟩
      case round =>
        clear m3
        obtain ⟨wp, rfl⟩ : ∃ wp : World, wp = wr := ⟨_, rfl⟩
        obtain ⟨j, hj, rfl, rfl, rfl, hB2⟩ := hrel
        have bp : Bel W1 wp := ⟨hB2⟩
        by_cases hjl : j < (el l.entries k).lines.length
        · obtain ⟨ad2, rfl, l0, l1, l2, l3, l4⟩ := at_Ln ((hsl.to (w1 := W1)).to (w1 := wp)) j hjl
          have j0 : (0 : Int) ≤ (j : Int) := Int.natCast_nonneg j
          have j1 : (j : Int) < ((el l.entries k).lines.length : Int) := by omega
          obtain ⟨ha, hb⟩ := (HM.out.2 k hlt).2 j hjl
          have q1 := inB_t ha
          have q2 := inB_t hb
          have s1 := balSum_bd (acc := acc) (dim := dim) (cur := cur) (from' := from') (to' := to') HM.out.amount k hk
          have s2 := balSum_bd (acc := acc) (dim := dim) (cur := cur) (from' := from') (to' := to') HM.out.base k hk
          have s3 := entSum_bd (acc := acc) (dim := dim) (cur := cur) (from' := from') (to' := to') (g := Ln.amount) (e := el l.entries k) j (fun i hi => (HM.out.amount k hlt).2 i (by omega))
          have s4 := entSum_bd (acc := acc) (dim := dim) (cur := cur) (from' := from') (to' := to') (g := Ln.base) (e := el l.entries k) j (fun i hi => (HM.out.base k hlt).2 i (by omega))
          go_upto_region 12 with (fail)
          obtain ⟨W2, hW2, hx2, b2⟩ : ∃ W2 : World, W2 = wp.alloc (.cells #[.int .i64 (el (el l.entries k).lines j).account, .int .i64 (el (el l.entries k).lines j).dim, .int .i64 (el (el l.entries k).lines j).cur, .int .i64 (el (el l.entries k).lines j).amount, .int .i64 (el (el l.entries k).lines j).base] 130) ∧ W2.heap[wp.heap.size]? = some (.cells #[.int .i64 (el (el l.entries k).lines j).account, .int .i64 (el (el l.entries k).lines j).dim, .int .i64 (el (el l.entries k).lines j).cur, .int .i64 (el (el l.entries k).lines j).amount, .int .i64 (el (el l.entries k).lines j).base] 130 (0, 0)) ∧ Bel wp W2 := ⟨_, rfl, heap_alloc_new _ _, inferInstance⟩
          rw [← hW2]
          clear hW2 l0 l1 l2 l3 l4
          have bw2 : Bel W1 W2 := ⟨below_step bp.out b2.out⟩
          have d0 := (box_cell (box_below X1.out bw2.out) 0).trans rfl
          have n0 := (box_cell hx2 0).trans rfl
          have n1 := (box_cell hx2 1).trans rfl
          have n2 := (box_cell hx2 2).trans rfl
          have n3 := (box_cell hx2 3).trans rfl
          have n4 := (box_cell hx2 4).trans rfl
          clear hx2
          go_upto_region 14 with (go_at_call 89; refine (amount_c _ _).mono ?_; rintro e w' ⟨rfl, rfl⟩)
          go_cut [1, 2, 3, 14, 15, 91] (fun va vd vc v1 v2 v wc => va = .int .i64 acc ∧ vd = .int .i64 dim ∧ vc = .int .i64 cur ∧ v1 = .int .i64 (balSum acc dim cur from' to' Ln.amount l.entries k + entSum acc dim cur from' to' Ln.amount (el l.entries k) j) ∧ v2 = .int .i64 (balSum acc dim cur from' to' Ln.base l.entries k + entSum acc dim cur from' to' Ln.base (el l.entries k) j) ∧ v = .bool (decide (from' ≤ (el l.entries k).day) && decide ((el l.entries k).day ≤ to') && matchB acc dim cur (el (el l.entries k).lines j)) ∧ wc = W2)
          case first =>
            go_wp2
            all_goals
              go_meet
              refine ⟨by simp [*], by simp [*], by simp [*], by simp [*], by simp [*], ret_v ?_, rfl⟩
              rw [Bool.eq_iff_iff]
              first | (simp_all [matchB]; done) | (simp [matchB]; omega) | (simp_all [matchB]; omega)
          case rest =>
            obtain ⟨rfl, rfl, rfl, rfl, rfl, rfl, rfl⟩ := hcut
            have t1 := entSum_succ acc dim cur from' to' Ln.amount (el l.entries k) j
            have t2 := entSum_succ acc dim cur from' to' Ln.base (el l.entries k) j
            cases hc : (decide (from' ≤ (el l.entries k).day) && decide ((el l.entries k).day ≤ to') && matchB acc dim cur (el (el l.entries k).lines j))
            all_goals
              rw [hc] at t1 t2
              simp only [if_true, Bool.false_eq_true, if_false] at t1 t2
              have T1 := Lib.hid t1
              have T2 := Lib.hid t2
              clear t1 t2 hc
              go_wp2
              go_roundw
              case rel => exact ⟨j + 1, by omega, by go_num, congrArg (Value.int .i64) (by rw [T1.out]; omega), congrArg (Value.int .i64) (by rw [T2.out]; omega), bw2.out⟩
              case measure => simp [intOf]; omega
        · have ej : j = (el l.entries k).lines.length := by omega
          subst ej
          go_wp2
          go_roundw
          case rel => exact ⟨k + 1, by omega, by go_num, rfl, rfl, below_step bw.out hB2⟩
          case measure => simp [intOf]; omega
    · have ek : k = l.entries.length := by omega
      subst ek
      go_wp2
      go_ret2
      exact ⟨rfl, below_step b0.out hB⟩
end Go.Proofs.Ythgnfpbbhiegfaa
