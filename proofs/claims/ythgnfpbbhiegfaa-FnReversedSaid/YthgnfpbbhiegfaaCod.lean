/- How data lie in memory: a codec says which cells read as a datum, and through which blocks (a footprint). Plain Lean over the model's worlds; no function of the program. -/
import Derived.WalkKit
import Derived.Below
import Derived.OwnWalk
import Derived.Maps.AppendAt
import Derived.Deep.QuietTactic
import Derived.BigQuiet
import Derived.Lib.Hide
import Derived.KernelRfl
namespace Go.Proofs.Ythgnfpbbhiegfaa
open Go.RowKit

theorem cell_same {w w1 : World} {a : Addr} (h : w1.heap[a.block]? = w.heap[a.block]?) : w1.cell? a = w.cell? a := by simp [World.cell?, h]

theorem new_box2a (w : World) (o1 o2 : Obj) : ((w.alloc o1).alloc o2).heap[w.heap.size]? = some o1 := by
  show ((w.heap.push o1).push o2)[w.heap.size]? = some o1
  rw [Array.getElem?_push_lt (by simp)]
  simp
theorem new_box2b (w : World) (o1 o2 : Obj) : ((w.alloc o1).alloc o2).heap[w.heap.size + 1]? = some o2 := by
  show ((w.heap.push o1).push o2)[w.heap.size + 1]? = some o2
  rw [← Array.size_push (xs := w.heap) o1]
  exact Array.getElem?_push_size
theorem quiet_left {P : Program} {f : FuncId} {args : Array Value} {w : World} {n : Nat} {v : Value}
    (h : Calls P f args (w.drewN n) fun e w' => e = .returned v ∧ w.drewN n = w') : Calls P f args (w.drewN n) fun e w'' => e = .returned v ∧ ∃ m, w'' = w.drewN m :=
  h.mono fun _ _ ⟨he, hm⟩ => ⟨he, n, hm.symm⟩
theorem quiet_add_left {P : Program} {f : FuncId} {args : Array Value} {w : World} {a n : Nat} {v : Value}
    (h : Calls P f args (w.drewN (a + n)) fun e w' => e = .returned v ∧ w.drewN (a + n) = w') :
    Calls P f args (w.drewN (a + n)) fun e w'' => e = .returned v ∧ ∃ m, w'' = w.drewN (a + m) :=
  h.mono fun _ _ ⟨he, hm⟩ => ⟨he, n, hm.symm⟩
theorem box_cell {w : World} {g : Nat} {t : TypeId} {cs : Array Value} (h : w.heap[g]? = some (.cells cs t (0, 0))) (i : Nat) : w.cell? ⟨g, i, none⟩ = cs[i]? := cell_of_row w g i cs t (0, 0) h
theorem box_free {w : World} {g : Nat} {t : TypeId} {cs : Array Value} (h : w.heap[g]? = some (.cells cs t (0, 0))) (i : Nat) : w.frozen? ⟨g, i, none⟩ = false := by simp [World.frozen?, h]
theorem box_lt {w : World} {g : Nat} {o : Obj} (h : w.heap[g]? = some o) : g < w.heap.size := (Array.getElem?_eq_some_iff.1 h).1
theorem box_below {w w1 : World} {g : Nat} {o : Obj} (h : w.heap[g]? = some o) (hb : Below w.heap.size w w1) : w1.heap[g]? = some o := (hb.block g (box_lt h)).trans h
theorem below_drewN {B : Nat} {w W : World} (h : Below B w W) (n : Nat) : Below B w (W.drewN n) := ⟨h.os, h.tape, h.output, h.size, h.block⟩
/-- A step behind steps. -/
theorem below_step {w W w2 : World} (h : Below w.heap.size w W) (k : Below W.heap.size W w2) : Below w.heap.size w w2 :=
  h.trans ⟨k.os, k.tape, k.output, k.size, fun i hi => k.block i (Nat.lt_of_lt_of_le hi h.size)⟩
theorem bcell {W w1 : World} (hb : Below W.heap.size W w1) : (∀ b o, b < W.heap.size → w1.cell? ⟨b, o, none⟩ = W.cell? ⟨b, o, none⟩) ∧ (∀ b o, b < W.heap.size → w1.frozen? ⟨b, o, none⟩ = W.frozen? ⟨b, o, none⟩) :=
  ⟨fun b o h => hb.cell (p := ⟨b, o, none⟩) h, fun b o h => hb.frozen (p := ⟨b, o, none⟩) h⟩
/-- W stands some steps behind w: what w held is as it was. -/
class Bel (w W : World) : Prop where
  out : Below w.heap.size w W
instance Bel.refl (w : World) : Bel w w := ⟨Below.refl _ _⟩
instance Bel.alloc {w W : World} [h : Bel w W] (o : Obj) : Bel w (W.alloc o) := ⟨h.out.alloc h.out.size o⟩
instance Bel.drewN {w W : World} [h : Bel w W] (n : Nat) : Bel w (W.drewN n) := ⟨below_drewN h.out n⟩
instance Bel.drew {w W : World} [h : Bel w W] : Bel w W.drew := ⟨⟨h.out.os, h.out.tape, h.out.output, h.out.size, h.out.block⟩⟩
theorem Bel.step {w W w1 : World} [h : Bel w W] (hb : Below W.heap.size W w1) : Bel w w1 := ⟨below_step h.out hb⟩
theorem Bel.size (w W : World) [h : Bel w W] : w.heap.size ≤ W.heap.size := h.out.size
/-- A codec: the cells 'cs' read as 'x' in the world, through blocks that are in S. -/
structure Cod (α : Type) where
  sz : Nat
  rd : World → (Nat → Prop) → α → List Value → Prop
  len : ∀ {w S x cs}, rd w S x cs → cs.length = sz
  one : ∀ {w S x cs}, rd w S x cs → ∀ u ∈ cs, u.oneCell' = true
  mono : ∀ {w S S' x cs}, (∀ k, S k → S' k) → rd w S x cs → rd w S' x cs
  bound : ∀ {w : World} {S x cs}, rd w S x cs → rd w (fun k => S k ∧ k < w.heap.size) x cs
  move : ∀ {w w1 : World} {S x cs}, (∀ k, S k → w1.heap[k]? = w.heap[k]?) → rd w S x cs → rd w1 S x cs

/-- A slice whose address is A reads as the list. -/
def Sl {α : Type} (c : Cod α) (w : World) (S : Nat → Prop) (A : Option Addr) (xs : List α) : Prop :=
  xs.length ≤ 9223372036854775807 ∧ (0 < xs.length → ∃ ad, A = some ad ∧ S ad.block ∧ ∀ j x, xs[j]? = some x → ∃ cs, c.rd w S x cs ∧ ∀ i u, cs[i]? = some u → w.cell? (ad.add (j * c.sz + i)) = some u)

section
variable {α : Type} {c : Cod α} {w w1 : World} {S S' : Nat → Prop} {A : Option Addr} {xs : List α}
theorem add_block (a : Addr) (i : Nat) : (a.add i).block = a.block := by unfold Addr.add; split <;> rfl
theorem Sl.nil : Sl c w S A [] := ⟨by simp, fun h => by simp at h⟩
theorem Sl.mono (hS : ∀ k, S k → S' k) (h : Sl c w S A xs) : Sl c w S' A xs :=
  ⟨h.1, fun hp => by
    obtain ⟨ad, e, hb, hc⟩ := h.2 hp
    exact ⟨ad, e, hS _ hb, fun j x hj => by
      obtain ⟨cs, hr, hcell⟩ := hc j x hj
      exact ⟨cs, c.mono hS hr, hcell⟩⟩⟩
theorem Sl.move (hm : ∀ k, S k → w1.heap[k]? = w.heap[k]?) (h : Sl c w S A xs) : Sl c w1 S A xs :=
  ⟨h.1, fun hp => by
    obtain ⟨ad, e, hb, hc⟩ := h.2 hp
    exact ⟨ad, e, hb, fun j x hj => by
      obtain ⟨cs, hr, hcell⟩ := hc j x hj
      exact ⟨cs, c.move hm hr, fun i u hu => (cell_same (by rw [add_block]; exact hm _ hb)).trans (hcell i u hu)⟩⟩⟩
/-- What is read through cells lies in blocks that there are (elements without cells there are none of). -/
theorem Sl.bound (hs : 0 < c.sz) (h : Sl c w S A xs) : Sl c w (fun k => S k ∧ k < w.heap.size) A xs :=
  ⟨h.1, fun hp => by
    obtain ⟨ad, e, hb, hc⟩ := h.2 hp
    refine ⟨ad, e, ⟨hb, ?_⟩, fun j x hj => ?_⟩
    · obtain ⟨cs, hr, hcell⟩ := hc 0 _ (List.getElem?_eq_getElem hp)
      have hl := c.len hr
      have h0 := hcell 0 _ (List.getElem?_eq_getElem (by omega))
      have := World.block_lt_of_cell? w _ h0
      rwa [add_block] at this
    · obtain ⟨cs, hr, hcell⟩ := hc j x hj
      exact ⟨cs, c.bound hr, hcell⟩⟩
theorem Sl.below (hs : 0 < c.sz) (hb : Below w.heap.size w w1) (h : Sl c w S A xs) : Sl c w1 S A xs :=
  Sl.mono (fun _ hk => hk.1) (Sl.move (fun k hk => hb.block k hk.2) (Sl.bound hs h))
theorem Cod.below {x : α} {cs : List Value} (hb : Below w.heap.size w w1) (h : c.rd w S x cs) : c.rd w1 S x cs :=
  c.mono (fun _ hk => hk.1) (c.move (fun k hk => hb.block k hk.2) (c.bound h))
theorem Sl.to [hb : Bel w w1] (h : Sl c w S A xs) (hs : 0 < c.sz := by decide) : Sl c w1 S A xs := h.below hs hb.out
/-- Element k. -/
theorem Sl.get (h : Sl c w S A xs) (k : Nat) (hk : k < xs.length) : ∃ ad cs, A = some ad ∧ c.rd w S xs[k] cs ∧ ∀ i u, cs[i]? = some u → w.cell? (ad.add (k * c.sz + i)) = some u := by
  obtain ⟨ad, e, _, hc⟩ := h.2 (by omega)
  obtain ⟨cs, hr, hcell⟩ := hc k _ (List.getElem?_eq_getElem hk)
  exact ⟨ad, cs, e, hr, hcell⟩
end

/-- A scalar of one cell. -/
def Cod.scalar {α : Type} (enc : α → Value) (h1 : ∀ x, (enc x).oneCell' = true) : Cod α where
  sz := 1
  rd := fun _ _ x cs => cs = [enc x]
  len := by rintro _ _ _ _ rfl; rfl
  one := by rintro _ _ _ _ rfl u hu; obtain rfl := List.mem_singleton.1 hu; exact h1 _
  mono := fun _ h => h
  bound := fun h => h
  move := fun _ h => h
def cInt : Cod Int := Cod.scalar (Value.int .i64) (fun _ => rfl)
def cU8 : Cod Int := Cod.scalar (Value.int .u8) (fun _ => rfl)
def cBool : Cod Bool := Cod.scalar Value.bool (fun _ => rfl)
/-- A text; it is not too long for a memory. -/
def cStr : Cod ByteArray where
  sz := 1
  rd := fun _ _ x cs => cs = [.string x] ∧ x.size ≤ 140737488355328
  len := by rintro _ _ _ _ ⟨rfl, _⟩; rfl
  one := by rintro _ _ _ _ ⟨rfl, _⟩ u hu; obtain rfl := List.mem_singleton.1 hu; rfl
  mono := fun _ h => h
  bound := fun h => h
  move := fun _ h => h
/-- A slice inside a value. -/
def Cod.slice {α : Type} (c : Cod α) (hs : 0 < c.sz) : Cod (List α) where
  sz := 1
  rd := fun w S xs cs => ∃ A cap, cs = [.slice A xs.length cap] ∧ xs.length ≤ cap ∧ Sl c w S A xs
  len := by rintro _ _ _ _ ⟨_, _, rfl, _⟩; rfl
  one := by rintro _ _ _ _ ⟨_, _, rfl, _⟩ u hu; obtain rfl := List.mem_singleton.1 hu; rfl
  mono := by rintro _ _ _ _ _ hS ⟨A, cap, rfl, hc, h⟩; exact ⟨A, cap, rfl, hc, h.mono hS⟩
  bound := by rintro _ _ _ _ ⟨A, cap, rfl, hc, h⟩; exact ⟨A, cap, rfl, hc, h.bound hs⟩
  move := by rintro _ _ _ _ _ hm ⟨A, cap, rfl, hc, h⟩; exact ⟨A, cap, rfl, hc, h.move hm⟩
def Cod.pair {α β : Type} (a : Cod α) (b : Cod β) : Cod (α × β) where
  sz := a.sz + b.sz
  rd := fun w S x cs => ∃ c0 c1, cs = c0 ++ c1 ∧ a.rd w S x.1 c0 ∧ b.rd w S x.2 c1
  len := by rintro _ _ _ _ ⟨_, _, rfl, h0, h1⟩; rw [List.length_append, a.len h0, b.len h1]
  one := by
    rintro _ _ _ _ ⟨_, _, rfl, h0, h1⟩ u hu
    rcases List.mem_append.1 hu with hu | hu
    · exact a.one h0 u hu
    · exact b.one h1 u hu
  mono := by rintro _ _ _ _ _ hS ⟨c0, c1, rfl, h0, h1⟩; exact ⟨c0, c1, rfl, a.mono hS h0, b.mono hS h1⟩
  bound := by rintro _ _ _ _ ⟨c0, c1, rfl, h0, h1⟩; exact ⟨c0, c1, rfl, a.bound h0, b.bound h1⟩
  move := by rintro _ _ _ _ _ hm ⟨c0, c1, rfl, h0, h1⟩; exact ⟨c0, c1, rfl, a.move hm h0, b.move hm h1⟩
def Cod.iso {α β : Type} (d : Cod α) (f : β → α) : Cod β where
  sz := d.sz
  rd := fun w S x cs => d.rd w S (f x) cs
  len := d.len
  one := d.one
  mono := d.mono
  bound := d.bound
  move := d.move

/-! Rows of the call's own. -/
def Reps {α : Type} (R : α → List Value → Prop) (size : Nat) (xs : List α) (cs : List Value) : Prop :=
  cs.length = xs.length * size ∧ ∀ j x, xs[j]? = some x → R x ((cs.drop (j * size)).take size)
theorem Reps.none {α : Type} {R : α → List Value → Prop} {size : Nat} : Reps R size [] [] := ⟨by simp, fun j x h => by simp at h⟩
theorem Reps.imp {α : Type} {R R' : α → List Value → Prop} {size : Nat} {xs : List α} {cs : List Value} (h : Reps R size xs cs) (hR : ∀ x c, R x c → R' x c) : Reps R' size xs cs := ⟨h.1, fun j x hj => hR _ _ (h.2 j x hj)⟩
theorem Reps.append {α : Type} {R : α → List Value → Prop} {size : Nat} {xs ys : List α} {cs ds : List Value} (h : Reps R size xs cs) (h' : Reps R size ys ds) : Reps R size (xs ++ ys) (cs ++ ds) := by
  refine ⟨by rw [List.length_append, h.1, h'.1, List.length_append, Nat.add_mul], fun j q hq => ?_⟩
  rcases Nat.lt_or_ge j xs.length with hj | hj
  · rw [List.getElem?_append_left hj] at hq
    have h1 : j * size + size ≤ cs.length := by rw [h.1, ← Nat.succ_mul]; exact Nat.mul_le_mul_right _ hj
    rw [List.drop_append_of_le_length (by omega), List.take_append_of_le_length (by rw [List.length_drop]; omega)]
    exact h.2 j q hq
  · rw [List.getElem?_append_right hj] at hq
    have h2 := h'.2 _ q hq
    have e : j * size = cs.length + (j - xs.length) * size := by
      rw [h.1, ← Nat.add_mul]
      congr 1
      omega
    rw [e, List.drop_append, List.drop_eq_nil_of_le (by omega), List.nil_append]
    simpa using h2
theorem Reps.single {α : Type} {R : α → List Value → Prop} {size : Nat} {x : α} {c : List Value} (hx : R x c) (hc : c.length = size) : Reps R size [x] c := by
  refine ⟨by simp [hc], fun j q hq => ?_⟩
  cases j with
  | zero =>
    obtain rfl : x = q := by simpa using hq
    rw [Nat.zero_mul, List.drop_zero, ← hc, List.take_length]
    exact hx
  | succ j => simp at hq
/-- v is a slice over a row of the call's own (a block from base on, of element type e) that reads as the list; what its elements lead to lies in other blocks. -/
def Own {α : Type} (c : Cod α) (e : TypeId) (w : World) (base : Nat) (v : Value) (xs : List α) : Prop :=
  ∃ cs, w.ownsRow base e c.sz v xs.length cs ∧ Reps (c.rd w (fun k => some k ≠ v.ownBlock)) c.sz xs cs
section
variable {α : Type} {c : Cod α} {e : TypeId} {w w1 : World} {base : Nat} {v : Value} {xs : List α}
theorem Own.nil : Own c e w base (.slice none 0 0) ([] : List α) := ⟨[], World.ownsRow_nil w base e c.sz, Reps.none⟩
theorem Own.lt (h : Own c e w base v xs) : ∀ k, v.ownBlock = some k → base ≤ k ∧ k < w.heap.size := by
  obtain ⟨cs, ho, _⟩ := h
  exact ho.lt
theorem Own.below (h : Own c e w base v xs) (hb : Below w.heap.size w w1) : Own c e w1 base v xs := by
  obtain ⟨cs, ho, hr⟩ := h
  exact ⟨cs, ho.kept (w' := w1) (row := none) ⟨hb.os, hb.tape, hb.output, hb.size, fun i hi _ => hb.block i hi⟩ (by cases v.ownBlock <;> simp), hr.imp (fun _ _ hx => Cod.below hb hx)⟩
theorem Own.lower {b : Nat} (h : Own c e w base v xs) (hb : b ≤ base) : Own c e w b v xs := by
  obtain ⟨cs, ⟨h1, h2⟩, hr⟩ := h
  refine ⟨cs, ⟨h1, ?_⟩, hr⟩
  rcases h2 with h2 | ⟨g, cap, cur, rfl, hg, r⟩
  · exact .inl h2
  · exact .inr ⟨g, cap, cur, rfl, Nat.le_trans hb hg, r⟩
theorem Own.slice (h : Own c e w base v xs) : ∃ A cap, v = .slice A xs.length cap ∧ xs.length ≤ cap := by
  obtain ⟨cs, ⟨_, h2⟩, _⟩ := h
  rcases h2 with ⟨rfl, h0⟩ | ⟨g, cap, cur, rfl, _, _, hc, _⟩
  · exact ⟨none, 0, by rw [h0], by omega⟩
  · exact ⟨_, cap, rfl, hc⟩
/-- It is read as any slice is. -/
theorem Own.sl {S : Nat → Prop} {A : Option Addr} {n cap : Nat} (h : Own c e w base (.slice A n cap) xs) (hS : ∀ k, base ≤ k → S k) (hS2 : ∀ x cs, c.rd w (fun k => some k ≠ (Value.slice A n cap).ownBlock) x cs → c.rd w S x cs) : Sl c w S A xs := by
  obtain ⟨cs, ⟨hl, h2⟩, hr⟩ := h
  rcases h2 with ⟨hv, h0⟩ | ⟨g, cap', cur, hv, hg, hh, hc, hm, hsz, htake⟩
  · obtain rfl := List.eq_nil_of_length_eq_zero h0
    exact Sl.nil
  · refine ⟨by simp only [maxLen] at hm; omega, fun hp => ?_⟩
    injection hv with hA _ _
    subst hA
    refine ⟨_, rfl, hS _ hg, fun j x hj => ⟨_, hS2 _ _ (hr.2 j x hj), fun i u hu => ?_⟩⟩
    have hadd : (⟨g, 0, none⟩ : Addr).add (j * c.sz + i) = ⟨g, j * c.sz + i, none⟩ := by unfold Addr.add; split <;> simp_all
    rw [hadd, cell_of_row w g _ cur e (0, 0) hh]
    rw [← htake, List.getElem?_take] at hu
    split at hu
    · rw [List.getElem?_drop, List.getElem?_take] at hu
      split at hu
      · simpa using hu
      · cases hu
    · cases hu
theorem Own.reads {A : Option Addr} {n cap : Nat} (h : Own c e w base (.slice A n cap) xs) : Sl c w (fun _ => True) A xs := h.sl (fun _ _ => trivial) (fun _ _ hx => c.mono (fun _ _ => trivial) hx)
end
end Go.Proofs.Ythgnfpbbhiegfaa
