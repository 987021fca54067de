/- The small functions on numbers and names: what each answers. -/
import Derived.Test.YthgnfpbbhiegfaaTypes
import Derived.Test.YthgnfpbbhiegfaaProg
import Derived.Deep.DeepCutAuto
import Derived.Deep.CutBlock
import Derived.Deep.RegionHeld3
namespace Go.Proofs.Ythgnfpbbhiegfaa
open Go.RowKit

theorem ret_b {a b : Bool} (h : a = b) : Ending.returned (Value.bool a) = Ending.returned (Value.bool b) := by rw [h]
theorem ret_v {a b : Bool} (h : a = b) : Value.bool a = Value.bool b := by rw [h]
theorem ret_i {k : IntKind} {a b : Int} (h : a = b) : Ending.returned (Value.int k a) = Ending.returned (Value.int k b) := by rw [h]
/-- x lies between two bounds. -/
def inB (x lo hi : Int) : Bool := decide (lo ≤ x ∧ x ≤ hi)
theorem inB_t {x lo hi : Int} (h : inB x lo hi = true) : lo ≤ x ∧ x ≤ hi := by simpa [inB] using h
theorem inB_f {x lo hi : Int} (h : inB x lo hi = false) : ¬ (lo ≤ x ∧ x ≤ hi) := by simpa [inB] using h
theorem inB_mk {x lo hi : Int} (h : lo ≤ x ∧ x ≤ hi) : inB x lo hi = true := by simpa [inB] using h
theorem inB_no {x lo hi : Int} (h : ¬ (lo ≤ x ∧ x ≤ hi)) : inB x lo hi = false := by unfold inB; exact decide_eq_false h
def amB (x : Int) : Bool := inB x (-100000000000) 100000000000
def dayB (x : Int) : Bool := inB x 0 40000

theorem l1In_c (x lo hi : Int) (w : World) : Calls Try.prog 81 #[.int .i64 x, .int .i64 lo, .int .i64 hi] w fun e w' => e = .returned (.bool (inB x lo hi)) ∧ w = w' := by
  go_enter Try.func81, Try.ntmps81
  go_wp2
  · go_ret
    exact ⟨ret_b (by simp [inB, *]), rfl⟩
  · go_ret
    exact ⟨ret_b (by simp [inB]; omega), rfl⟩
theorem between_c (x lo hi : Int) (w : World) : Calls Try.prog 175 #[.int .i64 x, .int .i64 lo, .int .i64 hi] w fun e w' => e = .returned (.bool (inB x lo hi)) ∧ w = w' := by
  go_enter Try.func175, Try.ntmps175
  go_wp2
  · go_ret
    exact ⟨ret_b (by simp [inB, *]), rfl⟩
  · go_ret
    exact ⟨ret_b (by simp [inB]; omega), rfl⟩
theorem l1Amount_c (x : Int) (w : World) : Calls Try.prog 122 #[.int .i64 x] w fun e w' => e = .returned (.bool (amB x)) ∧ w = w' := by
  go_enter Try.func122, Try.ntmps122
  go_wp2_with (go_at_call 81; refine (l1In_c _ _ _ _).mono ?_; rintro e w' ⟨rfl, rfl⟩)
  go_ret
  exact ⟨rfl, rfl⟩
theorem amount_c (x : Int) (w : World) : Calls Try.prog 89 #[.int .i64 x] w fun e w' => e = .returned (.bool (amB x)) ∧ w = w' := by
  go_enter Try.func89, Try.ntmps89
  go_wp2_with (go_at_call 175; refine (between_c _ _ _ _).mono ?_; rintro e w' ⟨rfl, rfl⟩)
  go_ret
  exact ⟨rfl, rfl⟩
theorem l2Day_c (x : Int) (w : World) : Calls Try.prog 82 #[.int .i64 x] w fun e w' => e = .returned (.bool (dayB x)) ∧ w = w' := by
  go_enter Try.func82, Try.ntmps82
  go_wp2_with (go_at_call 81; refine (l1In_c _ _ _ _).mono ?_; rintro e w' ⟨rfl, rfl⟩)
  go_ret
  exact ⟨rfl, rfl⟩
theorem isDay_c (x : Int) (w : World) : Calls Try.prog 77 #[.int .i64 x] w fun e w' => e = .returned (.bool (dayB x)) ∧ w = w' := by
  go_enter Try.func77, Try.ntmps77
  go_wp2_with (go_at_call 175; refine (between_c _ _ _ _).mono ?_; rintro e w' ⟨rfl, rfl⟩)
  go_ret
  exact ⟨rfl, rfl⟩
theorem kindOk_c (x : Int) (w : World) : Calls Try.prog 275 #[.int .i64 x] w fun e w' => e = .returned (.bool (inB x 1 5)) ∧ w = w' := by
  go_enter Try.func275, Try.ntmps275
  go_wp2_with (go_at_call 175; refine (between_c _ _ _ _).mono ?_; rintro e w' ⟨rfl, rfl⟩)
  go_ret
  exact ⟨rfl, rfl⟩

/-! Names. -/
def nmB (c : Int) : Bool := decide (97 ≤ c ∧ c ≤ 122) || decide (65 ≤ c ∧ c ≤ 90) || decide (48 ≤ c ∧ c ≤ 57) || decide (c = 45) || decide (c = 95) || decide (c = 46)
/-- Byte k of a text. -/
def bt (s : ByteArray) (k : Nat) : Int := ((s.data.getD k 0).toNat : Int)
theorem bt_eq (s : ByteArray) (k : Nat) (h : k < s.size) : ((s[k]'h).toNat : Int) = bt s k := by
  have h' : k < s.data.size := h
  simp [bt, ByteArray.getElem_eq_getElem_data, Array.getElem?_eq_getElem h']
def nameB (s : ByteArray) : Bool := decide (1 ≤ s.size ∧ s.size ≤ 20) && (List.range s.size).all fun k => nmB (bt s k)
theorem nameB_no {s : ByteArray} (k : Nat) (hk : k < s.size) (h : nmB (bt s k) = false) : nameB s = false := by
  unfold nameB
  rw [Bool.and_eq_false_iff]
  right
  rw [List.all_eq_false]
  exact ⟨k, List.mem_range.2 hk, by simp [h]⟩
theorem nameB_end {s : ByteArray} (h : ∀ j, j < s.size → nmB (bt s j) = true) : nameB s = inB s.size 1 20 := by
  unfold nameB inB
  rw [List.all_eq_true.2 (fun k hk => h k (List.mem_range.1 hk)), Bool.and_true]
  congr 1
  rw [eq_iff_iff]
  omega
theorem nameByte_c (c : Int) (w : World) : Calls Try.prog 247 #[.int .u8 c] w fun e w' => e = .returned (.bool (nmB c)) ∧ w = w' := by
  go_enter Try.func247, Try.ntmps247
  go_wp2
  all_goals
    go_ret
    refine ⟨ret_b ?_, rfl⟩
    rw [Bool.eq_iff_iff]
    simp [nmB]
    try omega
theorem spec_NameOk_c (s : ByteArray) (w : World) (hs : s.size ≤ 140737488355328) : Calls Try.prog 183 #[.string s] w fun e w' => e = .returned (.bool (nameB s)) ∧ w = w' := by
  go_enter Try.func183, Try.ntmps183
  go_wp2
  go_loop [3] (fun i => ∃ k : Nat, k ≤ s.size ∧ i = .int .i64 k ∧ ∀ j, j < k → nmB (bt s j) = true) (fun i => s.size - (intOf i).toNat)
  case atStart => exact ⟨0, Nat.zero_le _, rfl, fun j hj => absurd hj (Nat.not_lt_zero j)⟩
  case round =>
    obtain ⟨k, hk, rfl, hall⟩ := hrel
    have HA := Lib.hid hall
    clear hall
    by_cases hlt : k < s.size
    · have hb := bt_eq s k hlt
      go_upto_region 5 with (fail)
      go_cut [4, 48] (fun _ v wc => v = .bool (!nmB (bt s k)) ∧ wc = w)
      case first =>
        go_wp2
        all_goals
          go_meet
          refine ⟨ret_v ?_, rfl⟩
          rw [Bool.eq_iff_iff]
          simp [nmB]
          try omega
      case rest =>
        obtain ⟨rfl, rfl⟩ := hcut
        cases hn : nmB (bt s k)
        all_goals go_wp2
        · go_ret
          exact ⟨ret_b (nameB_no k hlt hn).symm, rfl⟩
        · go_round
          case rel =>
            refine ⟨k + 1, by omega, by go_num, fun j hj => ?_⟩
            by_cases e : j = k
            · subst e; exact hn
            · exact HA.out j (by omega)
          case measure => simp [intOf]; omega
    · have e : k = s.size := by omega
      subst e
      go_wp2_with (go_at_call 81; refine (l1In_c _ _ _ _).mono ?_; rintro e w' ⟨rfl, rfl⟩)
      go_ret
      exact ⟨ret_b (nameB_end HA.out).symm, rfl⟩
theorem impl_NameOk_c (s : ByteArray) (w : World) (hs : s.size ≤ 140737488355328) : Calls Try.prog 200 #[.string s] w fun e w' => e = .returned (.bool (nameB s)) ∧ w = w' := by
  by_cases h1 : s.size < 1
  · go_enter Try.func200, Try.ntmps200
    go_wp2
    go_ret
    exact ⟨ret_b (by simp [nameB]; omega), rfl⟩
  by_cases h2 : 20 < s.size
  · go_enter Try.func200, Try.ntmps200
    go_wp2
    go_ret
    exact ⟨ret_b (by simp [nameB]; omega), rfl⟩
  have d1 : decide ((s.size : Int) < 1) = false := decide_eq_false (by omega)
  have d2 : decide ((s.size : Int) > 20) = false := decide_eq_false (by omega)
  go_enter Try.func200, Try.ntmps200
  go_wp2
  go_loop [3] (fun i => ∃ k : Nat, k ≤ s.size ∧ i = .int .i64 k ∧ ∀ j, j < k → nmB (bt s j) = true) (fun i => s.size - (intOf i).toNat)
  case atStart => exact ⟨0, Nat.zero_le _, rfl, fun j hj => absurd hj (Nat.not_lt_zero j)⟩
  case round =>
    obtain ⟨k, hk, rfl, hall⟩ := hrel
    have HA := Lib.hid hall
    clear hall
    by_cases hlt : k < s.size
    · have hb := bt_eq s k hlt
      cases hn : nmB (bt s k)
      all_goals go_wp2_with (go_at_call 247; refine (nameByte_c _ _).mono ?_; rintro e w' ⟨rfl, rfl⟩)
      · go_ret
        exact ⟨ret_b (nameB_no k hlt hn).symm, rfl⟩
      · go_round
        case rel =>
          refine ⟨k + 1, by omega, by go_num, fun j hj => ?_⟩
          by_cases e : j = k
          · subst e; exact hn
          · exact HA.out j (by omega)
        case measure => simp [intOf]; omega
    · have e : k = s.size := by omega
      subst e
      go_wp2
      go_ret
      exact ⟨ret_b ((nameB_end HA.out).trans (inB_mk (by omega))).symm, rfl⟩
end Go.Proofs.Ythgnfpbbhiegfaa
