/- The walks of the functions that draw: the cursor, and the small functions over it. -/
import Derived.Test.YthgnfpbbhiegfaaLed
import Derived.Test.YthgnfpbbhiegfaaBase
import Derived.StillTailTactics
namespace Go.Proofs.Ythgnfpbbhiegfaa
open Go.RowKit
/-- A step of a draw. -/
def Dr (g : Nat) (w w' : World) : Prop := Cur w' g ∧ Gro g w w'
theorem and_le (x : Int) (m : Nat) (hm : m < 4611686018427387904) : ∃ n : Nat, bits .and .i64 x (m : Int) = (n : Int) ∧ n ≤ m := by
  have hb : (BitVec.ofInt IntKind.i64.bits (m : Int)).toNat = m := by
    have e : (BitVec.ofInt IntKind.i64.bits (m : Int)).toNat = ((m : Int) % (2 ^ 64 : Nat)).toNat := BitVec.toNat_ofInt _
    rw [e]
    omega
  have hle : (BitVec.ofInt IntKind.i64.bits x &&& BitVec.ofInt IntKind.i64.bits (m : Int)).toNat ≤ m := by
    rw [BitVec.toNat_and, hb]
    exact Nat.and_le_right
  refine ⟨(BitVec.ofInt IntKind.i64.bits x &&& BitVec.ofInt IntKind.i64.bits (m : Int)).toNat, ?_, hle⟩
  show IntKind.i64.wrap _ = _
  rw [IntKind.wrap_i64]
  generalize (BitVec.ofInt IntKind.i64.bits x &&& BitVec.ofInt IntKind.i64.bits (m : Int)).toNat = q at hle
  omega
theorem ret_and (x : Int) : ∃ n : Nat, Ending.returned (.int .i64 (bits .and .i64 x 255)) = .returned (.int .i64 n) ∧ n ≤ 255 := by
  obtain ⟨n, h, hn⟩ := and_le x 255 (by omega)
  exact ⟨n, ret_i h, hn⟩
theorem at_U8 {w : World} {S : Nat → Prop} {A : Option Addr} {xs : List Int} (h : Sl cU8 w S A xs) (k : Nat) (hk : k < xs.length) : ∃ ad, A = some ad ∧ w.cell? (ad.add k) = some (.int .u8 (el xs k)) := by
  obtain ⟨ad, cs, e, hr, hc⟩ := h.get k hk
  obtain rfl : cs = _ := hr
  refine ⟨ad, e, ?_⟩
  have := hc 0 _ rfl
  rw [el_eq xs k hk]
  simpa [cU8, Cod.scalar] using this
theorem Dr.of {g : Nat} {w W : World} {A : Option Addr} {cap : Nat} {code : List Int} {i : Nat} {h : Int} (hs : Sl cU8 w (fun k => k < g) A code) (hl : code.length ≤ 1048576) (hb : ∀ j, j < code.length → 0 ≤ code.getD j 0 ∧ code.getD j 0 ≤ 255)
    (hx : W.heap[g]? = some (.cells #[.slice A code.length cap, .int .i64 i, .int .i64 h] 238 (0, 0))) (hg : Gro g w W) : Dr g w W := ⟨⟨A, cap, code, i, h, hx, hs.gro hg (fun k hk => Nat.ne_of_lt hk), hl, hb⟩, hg⟩
theorem Dr.trans {g : Nat} {a b c : World} (h : Dr g a b) (k : Dr g b c) : Dr g a c := ⟨k.1, h.2.trans k.2⟩
set_option maxRecDepth 100000 in
set_option maxHeartbeats 1000000 in
theorem l1Byte_c (g : Nat) (w : World) (hc : Cur w g) : Calls Try.prog 172 #[.pointer (some ⟨g, 0, none⟩)] w fun e w' => (∃ x : Nat, e = .returned (.int .i64 x) ∧ x ≤ 255) ∧ Dr g w w' := by
  obtain ⟨A, cap, code, i, h, hx, hs, hl, hb⟩ := hc
  have y2 := (box_cell hx 2).trans rfl
  have f2 := box_free hx 2
  have HX := Lib.hid hx
  have HB := Lib.hid hb
  clear hx hb
  go_enter Try.func172, Try.ntmps172
  go_upto_region 2 with (fail)
  generalize wrap64 (wrap64 (h * 6364136223846793005) + 1442695040888963407) = h1
  obtain ⟨W1, hW1, hx1, hg1⟩ : ∃ W1 : World, W1 = w.setCell ⟨g, 2, none⟩ (.int .i64 h1) ∧ W1.heap[g]? = some (.cells #[.slice A code.length cap, .int .i64 i, .int .i64 h1] 238 (0, 0)) ∧ Gro g w W1 := ⟨_, rfl, heap_setCell_same _ _ 2 _ _ _ HX.out, (Gro.refl g w).set _ (.inr rfl)⟩
  rw [← hW1]
  clear hW1 y2 f2
  have y0 := (box_cell hx1 0).trans rfl
  have y1 := (box_cell hx1 1).trans rfl
  have y2 := (box_cell hx1 2).trans rfl
  have f1 := box_free hx1 1
  have HX1 := Lib.hid hx1
  have hs1 := hs.gro hg1 (fun k hk => Nat.ne_of_lt hk)
  clear hx1
  by_cases hlt : i < code.length
  · obtain ⟨ad, rfl, hcell⟩ := at_U8 hs1 i hlt
    have hby := HB.out i hlt
    have he : code.getD i 0 = el code i := rfl
    rw [he] at hby
    clear he
    go_quiet (fail)
    go_wp2
    go_quiet (fail)
    go_wp2
    go_quiet (fail)
    go_wp2
    go_ret
    exact ⟨ret_and _, Dr.of (i := i + 1) hs hl HB.out (heap_setCell_same _ _ 1 _ _ _ HX1.out) (Gro.set inferInstance _ (.inr rfl))⟩
  · have hlt' : ¬ ((i : Int) < code.length) := by omega
    go_quiet (fail)
    go_wp2
    go_quiet (fail)
    go_wp2
    go_ret
    exact ⟨ret_and _, Dr.of hs hl HB.out HX1.out inferInstance⟩
set_option maxRecDepth 100000 in
theorem l1Below_c (n : Int) (g : Nat) (w : World) (hc : Cur w g) : Calls Try.prog 73 #[.pointer (some ⟨g, 0, none⟩), .int .i64 n] w fun e w' => (∃ x : Nat, e = .returned (.int .i64 x) ∧ (0 < n → (x : Int) < n)) ∧ Dr g w w' := by
  by_cases h0 : n ≤ 0
  · go_enter Try.func73, Try.ntmps73
    go_wp2_with fail
    go_ret
    exact ⟨⟨0, rfl, fun h => by omega⟩, hc, Gro.refl _ _⟩
  obtain ⟨m, rfl⟩ : ∃ m : Nat, n = m := ⟨n.toNat, by omega⟩
  have hm : (1 : Int) ≤ m := by omega
  by_cases h1 : (m : Int) ≤ 256
  · go_enter Try.func73, Try.ntmps73
    go_wp2_with (go_at_call 172; refine (l1Byte_c _ _ hc).mono ?_; rintro e w1 ⟨⟨x, rfl, hx⟩, hd⟩)
    go_ret
    refine ⟨⟨x % m, ret_i (by omega), fun _ => ?_⟩, hd⟩
    have := Nat.mod_lt x (show 0 < m by omega)
    omega
  go_enter Try.func73, Try.ntmps73
  go_upto_region 6 with (go_at_call 172; refine (l1Byte_c _ _ hc).mono ?_; rintro e w1 ⟨⟨x1, rfl, hx1⟩, hd1⟩)
  go_upto_region 7 with (go_at_call 172; refine (l1Byte_c _ _ hd1.1).mono ?_; rintro e w2 ⟨⟨x2, rfl, hx2⟩, hd2⟩)
  go_upto_region 8 with (go_at_call 172; refine (l1Byte_c _ _ hd2.1).mono ?_; rintro e w3 ⟨⟨x3, rfl, hx3⟩, hd3⟩)
  go_upto_region 9 with (go_at_call 172; refine (l1Byte_c _ _ hd3.1).mono ?_; rintro e w4 ⟨⟨x4, rfl, hx4⟩, hd4⟩)
  go_wp2
  go_ret
  obtain ⟨q, hq⟩ : ∃ q : Nat, (q : Int) = x1 * 16777216 + x2 * 65536 + x3 * 256 + x4 := ⟨x1 * 16777216 + x2 * 65536 + x3 * 256 + x4, by omega⟩
  refine ⟨⟨q % m, ret_i (by rw [← hq]; simp), fun _ => ?_⟩, ((hd1.trans hd2).trans hd3).trans hd4⟩
  have := Nat.mod_lt q (show 0 < m by omega)
  omega
theorem l1Once_c (n : Int) (g : Nat) (w : World) (hc : Cur w g) : Calls Try.prog 101 #[.pointer (some ⟨g, 0, none⟩), .int .i64 n] w fun e w' => (∃ b : Bool, e = .returned (.bool b)) ∧ Dr g w w' := by
  go_enter Try.func101, Try.ntmps101
  go_wp2_with (go_at_call 73; refine (l1Below_c _ _ _ hc).mono ?_; rintro e w1 ⟨⟨x, rfl, hx⟩, hd⟩)
  go_ret
  exact ⟨⟨_, rfl⟩, hd⟩
theorem l1Pick_c {S : Nat → Prop} (A : Option Addr) (c : Nat) (l : List ByteArray) (g : Nat) (w : World) (hc : Cur w g) (hs : Sl cStr w S A l) (hS : ∀ k, S k → k ≠ g) (hl : 0 < l.length) :
    Calls Try.prog 100 #[.pointer (some ⟨g, 0, none⟩), .slice A l.length c] w fun e w' => (∃ s : ByteArray, e = .returned (.string s) ∧ s ∈ l) ∧ Dr g w w' := by
  have hn := hs.1
  obtain ⟨ad, rfl, -⟩ := at_Str hs 0 hl
  go_enter Try.func100, Try.ntmps100
  go_wp2_with (go_at_call 73; refine (l1Below_c _ _ _ hc).mono ?_; rintro e w1 ⟨⟨x, rfl, hx⟩, hd⟩; have hx' := hx (by omega); obtain ⟨ad', e', hcell, hz⟩ := at_Str (hs.gro hd.2 hS) x (by omega); cases e')
  go_ret
  exact ⟨⟨_, rfl, by rw [el_eq l x (by omega)]; exact List.getElem_mem _⟩, hd⟩
theorem l1PickInt_c {S : Nat → Prop} (A : Option Addr) (c : Nat) (l : List Int) (g : Nat) (w : World) (hc : Cur w g) (hs : Sl cInt w S A l) (hS : ∀ k, S k → k ≠ g) (hl : 0 < l.length) :
    Calls Try.prog 102 #[.pointer (some ⟨g, 0, none⟩), .slice A l.length c] w fun e w' => (∃ y : Int, e = .returned (.int .i64 y)) ∧ Dr g w w' := by
  have hn := hs.1
  obtain ⟨ad, rfl, -⟩ := at_Int hs 0 hl
  go_enter Try.func102, Try.ntmps102
  go_wp2_with (go_at_call 73; refine (l1Below_c _ _ _ hc).mono ?_; rintro e w1 ⟨⟨x, rfl, hx⟩, hd⟩; have hx' := hx (by omega); obtain ⟨ad', e', hcell⟩ := at_Int (hs.gro hd.2 hS) x (by omega); cases e')
  go_ret
  exact ⟨⟨_, rfl⟩, hd⟩
theorem l1Spoil_c {S : Nat → Prop} (A : Option Addr) (c : Nat) (l : List Int) (x : Int) (g : Nat) (w : World) (hc : Cur w g) (hs : Sl cInt w S A l) (hS : ∀ k, S k → k ≠ g) (hl : 0 < l.length) :
    Calls Try.prog 74 #[.pointer (some ⟨g, 0, none⟩), .int .i64 x, .slice A l.length c] w fun e w' => (∃ y : Int, e = .returned (.int .i64 y)) ∧ Dr g w w' := by
  go_enter Try.func74, Try.ntmps74
  go_wp2_with (first | (go_at_call 101; refine (l1Once_c _ _ _ hc).mono ?_; rintro e w1 ⟨⟨b, rfl⟩, hd⟩) | (go_at_call 102; refine (l1PickInt_c _ _ _ _ _ hd.1 (hs.gro hd.2 hS) hS hl).mono ?_; rintro e w2 ⟨⟨_, rfl⟩, hd2⟩))
  · go_ret
    exact ⟨⟨_, rfl⟩, hd.trans hd2⟩
  · go_ret
    exact ⟨⟨_, rfl⟩, hd⟩
/-- A literal of texts, of numbers. -/
theorem lit_str (w : World) (e : TypeId) (ss : List ByteArray) (hm : ss.length ≤ 9223372036854775807) (hz : ∀ s ∈ ss, s.size ≤ 140737488355328) : Sl cStr (w.alloc (.cells (ss.map Value.string).toArray e)) (fun k => w.heap.size ≤ k) (some ⟨w.heap.size, 0, none⟩) ss := by
  refine Own.sl (Own.lit (c := cStr) (e := e) (base := w.heap.size) (ss.map Value.string) (Nat.le_refl _) hm ?_) (fun _ hk => hk) (fun _ _ h => h)
  refine ⟨by simp [cStr], fun j x hj => ?_⟩
  obtain ⟨hl, rfl⟩ := List.getElem?_eq_some_iff.1 hj
  refine ⟨?_, hz _ (List.getElem_mem hl)⟩
  simp only [cStr, Nat.mul_one]
  rw [List.drop_eq_getElem_cons (by simpa using hl)]
  simp
theorem lit_int (w : World) (e : TypeId) (ss : List Int) (hm : ss.length ≤ 9223372036854775807) : Sl cInt (w.alloc (.cells (ss.map (Value.int .i64)).toArray e)) (fun k => w.heap.size ≤ k) (some ⟨w.heap.size, 0, none⟩) ss :=
  Own.sl (Own.lit (c := cInt) (e := e) (base := w.heap.size) (ss.map (Value.int .i64)) (Nat.le_refl _) hm (reps_ints ss)) (fun _ hk => hk) (fun _ _ h => h)
def names15 : List ByteArray := [⟨#[98, 97, 110, 107]⟩, ⟨#[99, 97, 115, 104]⟩, ⟨#[115, 97, 108, 101, 115]⟩, ⟨#[115, 116, 111, 99, 107]⟩, ⟨#[97]⟩, ⟨#[98]⟩, ⟨#[99, 45, 49]⟩, ⟨#[100, 117, 101, 115]⟩, ⟨#[116, 97, 120, 46, 100, 117, 101]⟩, ⟨#[82, 50]⟩, ⟨#[103, 111, 111, 100, 115]⟩, ⟨#[119, 97, 103, 101, 115]⟩, ⟨#[114, 101, 110, 116]⟩, ⟨#[120, 95, 121]⟩, ⟨#[112, 108, 97, 110, 116]⟩]
theorem names15_size : ∀ s ∈ names15, s.size ≤ 140737488355328 := by
  intro s hs
  simp only [names15, List.mem_cons, List.not_mem_nil, or_false] at hs
  rcases hs with rfl | rfl | rfl | rfl | rfl | rfl | rfl | rfl | rfl | rfl | rfl | rfl | rfl | rfl | rfl <;> decide
set_option maxRecDepth 100000 in
theorem l1DrawName_c (g : Nat) (w : World) (hc : Cur w g) : Calls Try.prog 241 #[.pointer (some ⟨g, 0, none⟩)] w fun e w' => (∃ s : ByteArray, e = .returned (.string s) ∧ s.size ≤ 140737488355328) ∧ Dr g w w' := by
  have hlt := hc.lt
  go_enter Try.func241, Try.ntmps241
  go_wp2_with (go_at_call 100; refine (l1Pick_c _ _ names15 g _ hc.to (lit_str w _ names15 (by decide) names15_size) (fun k hk => by omega) (by decide)).mono ?_; rintro e w1 ⟨⟨s, rfl, hs⟩, hd⟩)
  go_ret
  exact ⟨⟨_, rfl, names15_size _ hs⟩, hd.1, (Gro.alloc (g := g) (w := w) (W := w) _).trans hd.2⟩
set_option maxRecDepth 100000 in
theorem l2BadDay_c (x : Int) (g : Nat) (w : World) (hc : Cur w g) : Calls Try.prog 75 #[.pointer (some ⟨g, 0, none⟩), .int .i64 x] w fun e w' => (∃ y : Int, e = .returned (.int .i64 y)) ∧ Dr g w w' := by
  have hlt := hc.lt
  go_enter Try.func75, Try.ntmps75
  go_wp2_with (go_at_call 74; refine (l1Spoil_c _ _ [-1, 40001, -9223372036854775808] _ g _ hc.to (lit_int w _ _ (by decide)) (fun k hk => by omega) (by decide)).mono ?_; rintro e w1 ⟨⟨s, rfl⟩, hd⟩)
  go_ret
  exact ⟨⟨_, rfl⟩, hd.1, (Gro.alloc (g := g) (w := w) (W := w) _).trans hd.2⟩
end Go.Proofs.Ythgnfpbbhiegfaa
