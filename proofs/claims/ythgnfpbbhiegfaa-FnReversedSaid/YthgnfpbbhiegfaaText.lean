/- The walks of the functions that write numbers as texts. -/
import Derived.Test.YthgnfpbbhiegfaaBase
import Derived.Test.YthgnfpbbhiegfaaOwn
import Derived.Laws.BytesArg
namespace Go.Proofs.Ythgnfpbbhiegfaa
open Go.RowKit
/-- A text of one byte. -/
def oneB (x : Int) : ByteArray := ⟨#[UInt8.ofNat x.toNat]⟩
theorem oneB_size (x : Int) : (oneB x).size = 1 := rfl
theorem oneB_bt {x : Int} (h0 : 0 ≤ x) (h1 : x < 256) : bt (oneB x) 0 = x := by
  simp [bt, oneB]
  omega
theorem conv_one (w : World) (x : Int) : (convert 22 9 (.slice (some ⟨w.heap.size, 0, none⟩) 1 1)).run Try.prog (w.alloc (.cells #[.int .u8 x] 5)) = .ok (.string (oneB x)) (w.alloc (.cells #[.int .u8 x] 5)) := by
  have h := run_convert_bytes_arg (P := Try.prog) (w.alloc (.cells #[.int .u8 x] 5)) 22 5 Try.underlying22 Try.underlying5 w.heap.size 0 1 1 [x] rfl (fun i hi => by
    obtain rfl : i = 0 := by omega
    simp) 9 Try.underlying9
  rw [h]
  simp [strOfNums, oneB]
theorem bt_append (a b : ByteArray) (k : Nat) : bt (a ++ b) k = if k < a.size then bt a k else bt b (k - a.size) := by
  unfold bt
  split
  · rename_i h
    have h' : k < a.data.size := h
    simp only [ByteArray.data_append, Array.getD_eq_getD_getElem?, Array.getElem?_append_left h']
  · rename_i h
    have h' : a.data.size ≤ k := Nat.le_of_not_lt h
    have e : a.size = a.data.size := rfl
    simp only [ByteArray.data_append, Array.getD_eq_getD_getElem?, Array.getElem?_append_right h', e]
/-- A text without control characters. -/
def okT (s : ByteArray) : Prop := ∀ j, j < s.size → 32 ≤ bt s j
theorem okT_append {a b : ByteArray} (ha : okT a) (hb : okT b) : okT (a ++ b) := by
  intro j hj
  rw [bt_append]
  rw [ByteArray.size_append] at hj
  split
  · exact ha j (by assumption)
  · exact hb _ (by omega)
theorem okT_one {x : Int} (h0 : 32 ≤ x) (h1 : x < 256) : okT (oneB x) := by
  intro j hj
  rw [oneB_size] at hj
  obtain rfl : j = 0 := by omega
  rw [oneB_bt (by omega) h1]
  exact h0
set_option maxRecDepth 100000 in
theorem decimal_c (n : Nat) (hn : n < 10000000) (w : World) : Calls Try.prog 79 #[.int .i64 n] w fun r w' => (∃ s : ByteArray, r = .returned (.string s) ∧ okT s ∧ s.size ≤ 8) ∧ Below w.heap.size w w' := by
  have h0 : ¬ (n : Int) < 0 := by omega
  have hcv := conv_one
  go_enter Try.func79, Try.ntmps79
  go_wp2
  go_loopw [0, 3] (fun i v wq => ∃ (m k : Nat) (s : ByteArray), i = .int .i64 k ∧ v = .string s ∧ okT s ∧ s.size = m ∧ (1 ≤ m ∧ m ≤ 8) ∧ k * 10 ^ m < 10000000 ∧ Below w.heap.size w wq) (fun i _ _ => (intOf i).toNat)
  case atStart => exact ⟨1, n / 10, _, by simp, rfl, okT_one (by omega) (by omega), oneB_size _, by omega, by omega, Bel.out⟩
  case round =>
    obtain ⟨wo, rfl⟩ : ∃ wo : World, wo = wr := ⟨_, rfl⟩
    obtain ⟨m, k, s, rfl, rfl, hok, hsz, hm, hk, hB⟩ := hrel
    have HO := Lib.hid hok
    have HZ := Lib.hid hsz
    have HK := Lib.hid hk
    have bo : Bel w wo := ⟨hB⟩
    have hm7 : k = 0 ∨ m < 7 := by
      by_cases h : k = 0
      · exact .inl h
      · right
        have h1 : 10 ^ m ≤ k * 10 ^ m := Nat.le_mul_of_pos_left _ (by omega)
        have h2 : 10 ^ m < 10 ^ 7 := by omega
        exact (Nat.pow_lt_pow_iff_right (by decide)).1 h2
    have HM := Lib.hid hm7
    clear hok hsz hk hm7
    by_cases hp : 0 < k
    · have hp' : (0 : Int) < k := by omega
      have hkb : k < 10000000 := by
        have h1 : k ≤ k * 10 ^ m := Nat.le_mul_of_pos_right _ (Nat.pow_pos (by decide))
        have := HK.out
        omega
      have hsum : ¬ 9223372036854775807 < (oneB (48 + (k : Int) % 10)).size + s.size := by rw [oneB_size, HZ.out]; omega
      go_wp2
      go_roundw
      case rel =>
        refine ⟨m + 1, k / 10, oneB (48 + (k : Int) % 10) ++ s, by simp, rfl, okT_append (okT_one (by omega) (by omega)) HO.out, ?_, by have := HM.out; omega, ?_, Bel.out⟩
        · rw [ByteArray.size_append, oneB_size, HZ.out]; omega
        · have h1 : k / 10 * 10 ^ (m + 1) ≤ k * 10 ^ m := by
            rw [Nat.pow_succ, Nat.mul_comm (10 ^ m) 10, ← Nat.mul_assoc]
            exact Nat.mul_le_mul_right _ (Nat.div_mul_le_self k 10)
          have := HK.out
          omega
      case measure => simp [intOf]; omega
    · have hp' : ¬ (0 : Int) < k := by omega
      go_wp2
      go_ret
      exact ⟨⟨s, rfl, HO.out, by rw [HZ.out]; exact hm.2⟩, hB⟩
end Go.Proofs.Ythgnfpbbhiegfaa
