/- The walks of the functions that draw, more: the cursor made, a number as a text. -/
import Derived.Test.YthgnfpbbhiegfaaDraw
import Derived.IntWalk
namespace Go.Proofs.Ythgnfpbbhiegfaa
open Go.RowKit
set_option maxRecDepth 100000 in
theorem l1New_c {S : Nat → Prop} (A : Option Addr) (cap : Nat) (code : List Int) (w : World) (hs : Sl cU8 w S A code) (hl : code.length ≤ 1048576) (hb : ∀ j, j < code.length → 0 ≤ code.getD j 0 ∧ code.getD j 0 ≤ 255) :
    Calls Try.prog 69 #[.slice A code.length cap] w fun e w' => ∃ g, e = .returned (.pointer (some ⟨g, 0, none⟩)) ∧ w.heap.size ≤ g ∧ Cur w' g ∧ Below w.heap.size w w' := by
  have HB := Lib.hid hb
  clear hb
  go_enter Try.func69, Try.ntmps69
  go_wp2
  go_loop [3, 4] (fun a b => ∃ (h : Int) (k : Nat), k ≤ code.length ∧ a = .int .i64 h ∧ b = .int .i64 k) (fun _ b => code.length - (intOf b).toNat)
  case atStart => exact ⟨_, 0, Nat.zero_le _, rfl, rfl⟩
  case round =>
    obtain ⟨h, k, hk, rfl, rfl⟩ := hrel
    by_cases hlt : k < code.length
    · obtain ⟨ad, rfl, hcell⟩ := at_U8 hs k hlt
      have hby := HB.out k hlt
      have he : code.getD k 0 = el code k := rfl
      rw [he] at hby
      clear he
      by_cases h4 : k < 4000
      · go_wp2
        go_round
        case rel => exact ⟨_, k + 1, by omega, rfl, by go_num⟩
        case measure => simp [intOf]; omega
      · go_wp2
        go_ret
        refine ⟨_, rfl, Nat.le_refl _, ⟨_, _, code, 0, h, heap_alloc_new _ _, ?_, hl, HB.out⟩, Bel.out⟩
        exact ((hs.bound (by decide)).mono (fun k hk => hk.2)).to
    · go_wp2
      go_ret
      refine ⟨_, rfl, Nat.le_refl _, ⟨_, _, code, 0, h, heap_alloc_new _ _, ?_, hl, HB.out⟩, Bel.out⟩
      exact ((hs.bound (by decide)).mono (fun k hk => hk.2)).to
def digits10 : ByteArray := ⟨#[48, 49, 50, 51, 52, 53, 54, 55, 56, 57]⟩
/-- A number of at most d + 1 digits as a text. -/
def dtx : Nat → Nat → ByteArray
  | 0, n => digits10.extract n (n + 1)
  | d + 1, n => if n < 10 then digits10.extract n (n + 1) else dtx d (n / 10) ++ digits10.extract (n % 10) (n % 10 + 1)
theorem digit_size (n : Nat) : (digits10.extract n (n + 1)).size ≤ 1 := by simp; omega
theorem dtx_size : ∀ d n, (dtx d n).size ≤ d + 1
  | 0, n => digit_size n
  | d + 1, n => by
    unfold dtx
    split
    · have := digit_size n; omega
    · have h1 := dtx_size d (n / 10)
      have h2 := digit_size (n % 10)
      rw [ByteArray.size_append]
      omega
theorem slice_digit (n : Nat) (h : n < 10) (wx : World) : (Instr.slice 9 (.string ⟨#[48, 49, 50, 51, 52, 53, 54, 55, 56, 57]⟩) (some (.int .i64 (n : Int))) (some (.int .i64 ((n : Int) + 1))) none).run Try.prog wx = .ok (.string (digits10.extract n (n + 1))) wx := by
  have := run_slice_string (P := Try.prog) wx 9 digits10 .i64 .i64 (n : Int) ((n : Int) + 1) Try.underlying9 (by omega) (by omega) (by show (n : Int) + 1 ≤ ((10 : Nat) : Int); omega)
  exact this
theorem bare (d : Nat) : (10 : Nat) ^ (d + 1 + 1) = 10 ^ (d + 1) * 10 := Nat.pow_succ _ _
set_option maxRecDepth 100000 in
theorem l1Text_c : ∀ (d n : Nat) (w : World), d ≤ 10 → n < 10 ^ (d + 1) → Calls Try.prog 84 #[.int .i64 n] w fun e w' => e = .returned (.string (dtx d n)) ∧ ∃ m, w' = w.drewN m := by
  intro d
  induction d with
  | zero =>
    intro n w hd hn
    have h1 : n < 10 := by omega
    have hsl := slice_digit n h1
    go_enter Try.func84, Try.ntmps84
    go_wp2_with fail
    go_ret
    exact ⟨rfl, 0, rfl⟩
  | succ d ih =>
    intro n w hd hn
    by_cases h1 : n < 10
    · have hsl := slice_digit n h1
      have hv : dtx (d + 1) n = digits10.extract n (n + 1) := if_pos h1
      have HV := Lib.hid hv
      clear hv
      go_enter Try.func84, Try.ntmps84
      go_wp2_with fail
      go_ret
      refine ⟨?_, 0, rfl⟩
      rw [HV.out]
      rfl
    · have hsl := slice_digit (n % 10) (by omega)
      have hv : dtx (d + 1) n = dtx d (n / 10) ++ digits10.extract (n % 10) (n % 10 + 1) := if_neg h1
      have HV := Lib.hid hv
      clear hv
      have hb := bare d
      have hq : n / 10 < 10 ^ (d + 1) := by omega
      have HQ := Lib.hid hq
      have e1 : ((n % 10 : Nat) : Int) = (n : Int) % 10 := by omega
      have e2 : ((n / 10 : Nat) : Int) = (n : Int) / 10 := by omega
      have hih := fun w => ih (n / 10) w (by omega) HQ.out
      rw [e1] at hsl
      rw [e2] at hih
      have HI := Lib.hid hih
      clear e1 e2 hih hb hq
      have hnb : n < 100000000000 := Nat.lt_of_lt_of_le hn (Nat.pow_le_pow_right (by decide) (show d + 1 + 1 ≤ 11 by omega))
      have hn1 : (n : Int) ≤ 100000000000 := by omega
      have hs1 := dtx_size d (n / 10)
      have hs2 := digit_size (n % 10)
      go_enter Try.func84, Try.ntmps84
      go_wp2_with fail
      have u1 : IntKind.i64.wrap ((n : Int) / 10) = (n : Int) / 10 := IntWalk.i64_in _ (by omega)
      have u2 : IntKind.i64.wrap ((n : Int) % 10) = (n : Int) % 10 := IntWalk.i64_in _ (by omega)
      have u3 : IntKind.i64.wrap ((n : Int) % 10 + 1) = (n : Int) % 10 + 1 := IntWalk.i64_in _ (by omega)
      have hg : ¬ 9223372036854775807 < (dtx d (n / 10)).size + (digits10.extract (n % 10) (n % 10 + 1)).size := by omega
      clear hn hnb
      go_quiet ((go_at_call 84; exact Calls.quiet_of (HI.out _)))
      clear u1 u2 u3
      go_wp2_with fail
      go_ret
      refine ⟨?_, _, rfl⟩
      rw [HV.out]
      rfl
end Go.Proofs.Ythgnfpbbhiegfaa
