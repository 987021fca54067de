/- Steps that write one block of what was there (a cursor's), and what is carried over them. Over any program. -/
import Derived.Test.YthgnfpbbhiegfaaOwnS
import Derived.Maps.Range
import Derived.Maps.RangeWalk
namespace Go.Proofs.Ythgnfpbbhiegfaa
open Go.RowKit
theorem grown_of_below {w w1 : World} (h : Below w.heap.size w w1) (row : Option Nat) : w.grownBy w1 row := ⟨h.os, h.tape, h.output, h.size, fun i hi _ => h.block i hi⟩
/-- W stands some steps behind w, which wrote block g alone of what w held. -/
class Gro (g : Nat) (w W : World) : Prop where
  out : w.grownBy W (some g)
instance Gro.refl (g : Nat) (w : World) : Gro g w w := ⟨World.grownBy.refl _ _⟩
instance Gro.alloc {g : Nat} {w W : World} [h : Gro g w W] (o : Obj) : Gro g w (W.alloc o) := ⟨h.out.trans (World.grownBy_alloc _ _ _)⟩
instance Gro.drewN {g : Nat} {w W : World} [h : Gro g w W] (n : Nat) : Gro g w (W.drewN n) := ⟨⟨h.out.os, h.out.tape, h.out.output, h.out.size, h.out.block⟩⟩
instance Gro.drew {g : Nat} {w W : World} [h : Gro g w W] : Gro g w W.drew := ⟨⟨h.out.os, h.out.tape, h.out.output, h.out.size, h.out.block⟩⟩
theorem Gro.step {g : Nat} {w W w1 : World} [h : Gro g w W] (k : W.grownBy w1 (some g)) : Gro g w w1 := ⟨h.out.trans k⟩
theorem Gro.bel {g : Nat} {w W w1 : World} [h : Gro g w W] (k : Below W.heap.size W w1) : Gro g w w1 := ⟨h.out.trans (grown_of_below k _)⟩
/-- A step that writes a row that there was not. -/
theorem Gro.row {g : Nat} {w W w1 : World} [h : Gro g w W] {row : Option Nat} (k : W.grownBy w1 row) (hr : ∀ j, row = some j → w.heap.size ≤ j) : Gro g w w1 := ⟨h.out.andThen k (fun j hj => .inl (hr j hj))⟩
theorem Gro.set {g : Nat} {w W : World} (h : Gro g w W) {a : Addr} (u : Value) (ha : w.heap.size ≤ a.block ∨ a.block = g) : Gro g w (W.setCell a u) :=
  ⟨h.out.andThen (row' := some a.block) ⟨rfl, rfl, rfl, by simp [World.setCell], fun k hk hne => Below.heap_setCell _ _ _ _ (fun e => hne (by rw [e]))⟩ (fun j hj => by
    injection hj with hj
    subst hj
    rcases ha with ha | ha
    · exact .inl ha
    · exact .inr (by rw [ha]))⟩
theorem set_grown (w : World) (g i : Nat) (v : Value) : w.grownBy (w.setCell ⟨g, i, none⟩ v) (some g) := ⟨rfl, rfl, rfl, by simp, fun k _ hk => heap_setCell_other w ⟨g, i, none⟩ k v (fun e => hk (by simp [e]))⟩
theorem box_al {W : World} {g : Nat} {o o' : Obj} (h : W.heap[g]? = some o) : (W.alloc o').heap[g]? = some o := ((Below.refl _ _ |>.alloc (Nat.le_refl W.heap.size) o').block g (box_lt h)).trans h
theorem Gro.size {g : Nat} {w W : World} (h : Gro g w W) : w.heap.size ≤ W.heap.size := h.out.size
theorem Gro.trans {g : Nat} {a b c : World} (h : Gro g a b) (k : Gro g b c) : Gro g a c := ⟨h.out.trans k.out⟩
theorem box_gro {g j : Nat} {w W : World} {o : Obj} (hx : w.heap[j]? = some o) (hj : j ≠ g) (h : Gro g w W) : W.heap[j]? = some o := (h.out.block j (box_lt hx) (fun e => hj (by injection e))).trans hx
section
variable {α : Type} {c : Cod α} {w W : World} {S : Nat → Prop} {A : Option Addr} {xs : List α} {g : Nat}
/-- What is read above block g, or below it, is read there still. -/
theorem Sl.gro (h : Sl c w S A xs) (hg : Gro g w W) (hS : ∀ k, S k → k ≠ g) (hs : 0 < c.sz := by decide) : Sl c W S A xs :=
  Sl.mono (fun _ hk => hk.1) (Sl.move (fun k hk => hg.out.block k hk.2 (fun e => hS k hk.1 (by injection e))) (Sl.bound hs h))
/-- A codec whose cells tell all: no block is read through them. -/
def Flat (c : Cod α) : Prop := ∀ {w w1 : World} {S S1 : Nat → Prop} {x : α} {cs : List Value}, c.rd w S x cs → c.rd w1 S1 x cs
theorem Own.kept {e : TypeId} {base : Nat} {v : Value} {row : Option Nat} (h : Own c e w base v xs) (hf : Flat c) (hg : w.grownBy W row) (hr : ∀ j, row = some j → v.ownBlock ≠ some j) : Own c e W base v xs := by
  obtain ⟨cs, ho, hR⟩ := h
  refine ⟨cs, ho.kept hg ?_, hR.imp (fun x d hx => hf hx)⟩
  cases hv : v.ownBlock with
  | none => exact .inl rfl
  | some b =>
    refine .inr (fun e => ?_)
    cases hrow : row with
    | none => rw [hrow] at e; cases e
    | some j => exact hr j hrow (hv.trans (e.trans hrow))
theorem Own.gro {e : TypeId} {base : Nat} {v : Value} (h : Own c e w base v xs) (hf : Flat c) (hg : Gro g w W) (hb : g < base) : Own c e W base v xs :=
  h.kept hf hg.out (fun j hj e => by cases hj; have := (h.lt _ e).1; omega)
/-- A row's store, as cells. -/
theorem Own.type {e : TypeId} {base n cap b : Nat} {o : Option Nat} (h : Own c e w base (.slice (some ⟨b, 0, o⟩) n cap) xs) : ∃ cur, w.heap[b]? = some (.cells cur e (0, 0)) := by
  obtain ⟨cs, ⟨_, h2⟩, _⟩ := h
  rcases h2 with ⟨hv, _⟩ | ⟨g', cap', cur, hv, _, hh, _⟩
  · cases hv
  · cases hv
    exact ⟨cur, hh⟩
/-- A row's first elements. -/
theorem Own.first {e : TypeId} {base : Nat} {A : Option Addr} {n cap : Nat} (h : Own c e w base (.slice A n cap) xs) (k : Nat) (hk : k ≤ xs.length) : Own c e w base (.slice A k cap) (xs.take k) := by
  obtain ⟨cs, ⟨h1, h2⟩, hr⟩ := h
  have hl : (xs.take k).length = k := by rw [List.length_take]; omega
  have hle : k * c.sz ≤ xs.length * c.sz := Nat.mul_le_mul_right _ hk
  refine ⟨cs.take (k * c.sz), ⟨by rw [List.length_take, h1, hl]; omega, ?_⟩, ?_⟩
  · rcases h2 with ⟨hv, h0⟩ | ⟨g', cap', cur, hv, hg, hh, hc, hm, hz, ht⟩
    · injection hv with e1 e2 e3
      subst e1 e2 e3
      refine .inl ⟨by rw [show k = 0 by omega], by omega⟩
    · injection hv with e1 e2 e3
      subst e1 e3
      refine .inr ⟨g', cap, cur, by rw [hl], hg, hh, by omega, hm, hz, ?_⟩
      rw [← ht, List.take_take, hl, Nat.min_eq_left hle]
  · refine ⟨by rw [List.length_take, h1, hl]; omega, fun j x hj => ?_⟩
    rw [List.getElem?_take] at hj
    split at hj
    · rename_i hjk
      have hw := hr.2 j x hj
      have hjs : j * c.sz + c.sz ≤ k * c.sz := by rw [← Nat.succ_mul]; exact Nat.mul_le_mul_right _ hjk
      have hob : (Value.slice A n cap).ownBlock = (Value.slice A k cap).ownBlock := by cases A <;> rfl
      rw [List.drop_take, List.take_take, Nat.min_eq_left (by omega), ← hob]
      exact hw
    · cases hj
end
/-- The cursor of a draw: its block, and the bytes that it goes over (they lie ahead of it). -/
def Cur (w : World) (g : Nat) : Prop := ∃ (A : Option Addr) (cap : Nat) (code : List Int) (i : Nat) (h : Int), w.heap[g]? = some (.cells #[.slice A code.length cap, .int .i64 i, .int .i64 h] 238 (0, 0)) ∧ Sl cU8 w (fun k => k < g) A code ∧ code.length ≤ 1048576 ∧ ∀ j, j < code.length → 0 ≤ code.getD j 0 ∧ code.getD j 0 ≤ 255
theorem Cur.lt {w : World} {g : Nat} (h : Cur w g) : g < w.heap.size := by
  obtain ⟨A, cap, code, i, x, hx, -⟩ := h
  exact box_lt hx
theorem Cur.kept {w W : World} {g : Nat} (h : Cur w g) (hk : ∀ k, k ≤ g → W.heap[k]? = w.heap[k]?) : Cur W g := by
  obtain ⟨A, cap, code, i, x, hx, hs, r⟩ := h
  exact ⟨A, cap, code, i, x, (hk g (Nat.le_refl _)).trans hx, hs.move (fun k hk' => hk k (by omega)), r⟩
theorem Cur.to {w W : World} {g : Nat} (h : Cur w g) [hb : Bel w W] : Cur W g := h.kept (fun k hk => hb.out.block k (by have := h.lt; omega))
theorem Cur.set {w : World} {g : Nat} (h : Cur w g) {a : Addr} (u : Value) (ha : g < a.block) : Cur (w.setCell a u) g := h.kept (fun k hk => Below.heap_setCell _ _ _ _ (by omega))
theorem Cur.row {w W : World} {g : Nat} (h : Cur w g) {row : Option Nat} (hg : w.grownBy W row) (hr : ∀ j, row = some j → g < j) : Cur W g := h.kept (fun k hk => hg.block k (by have := h.lt; omega) (fun e => by have := hr k e.symm; omega))
end Go.Proofs.Ythgnfpbbhiegfaa
