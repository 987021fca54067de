/- Rows of the call's own, more: a row made whole, a store into an element, a slice's cells as one list, appending a slice. Over any program. -/
import Derived.Test.YthgnfpbbhiegfaaOwn
namespace Go.Proofs.Ythgnfpbbhiegfaa
open Go.RowKit
section
variable {α : Type} {c : Cod α} {e : TypeId} {w w1 W : World} {base : Nat} {v : Value} {xs : List α} {S : Nat → Prop} {A : Option Addr}
theorem list_window {β : Type} (xs : List β) (u : β) (s k j i : Nat) (hi : i < s) (h : k ≠ j) : (((xs.set (k * s + i) u).drop (j * s)).take s) = ((xs.drop (j * s)).take s) := by
  apply List.ext_getElem?
  intro t
  by_cases ht : t < s
  · rw [List.getElem?_take, if_pos ht, List.getElem?_take, if_pos ht, List.getElem?_drop, List.getElem?_drop, List.getElem?_set_ne]
    intro he
    rcases Nat.lt_or_gt_of_ne h with h | h
    · have : k * s + s ≤ j * s := by rw [← Nat.succ_mul]; exact Nat.mul_le_mul_right _ h
      omega
    · have : j * s + s ≤ k * s := by rw [← Nat.succ_mul]; exact Nat.mul_le_mul_right _ h
      omega
  · rw [List.getElem?_take, if_neg ht, List.getElem?_take, if_neg ht]
theorem list_window_at {β : Type} (xs : List β) (u : β) (s k i : Nat) : (((xs.set (k * s + i) u).drop (k * s)).take s) = ((xs.drop (k * s)).take s).set i u := by
  rw [List.drop_set, if_neg (by omega), Nat.add_sub_cancel_left, List.take_set]
/-- A store into one cell of an element. -/
theorem Own.store {g n cap : Nat} (h : Own c e w base (.slice (some ⟨g, 0, none⟩) n cap) xs) (k : Nat) (hk : k < xs.length) (i : Nat) (hi : i < c.sz) (u : Value) (y : α)
    (hy : ∀ cs, c.rd w (fun j => some j ≠ some g) xs[k] cs → c.rd w (fun j => some j ≠ some g) y (cs.set i u)) :
    Own c e (w.setCell ⟨g, k * c.sz + i, none⟩ u) base (.slice (some ⟨g, 0, none⟩) n cap) (xs.set k y) ∧ w.grownBy (w.setCell ⟨g, k * c.sz + i, none⟩ u) (some g) := by
  obtain ⟨cs, hown, hr⟩ := h
  have hn : n = xs.length := by
    rcases hown.2 with ⟨hv, h0⟩ | ⟨g', cap', cur, hv, _⟩
    · simp at hv
    · injection hv
  subst hn
  obtain ⟨h1, h2⟩ := hown.stored (k * c.sz + i) u
  refine ⟨⟨_, by rw [List.length_set]; exact h1, ?_⟩, h2⟩
  refine ⟨by rw [List.length_set, List.length_set]; exact hr.1, fun j x hj => ?_⟩
  rw [List.getElem?_set] at hj
  have hm : ∀ (z : α) (ds : List Value), c.rd w (fun k => some k ≠ some g) z ds → c.rd (w.setCell ⟨g, k * c.sz + i, none⟩ u) (fun k => some k ≠ some g) z ds := fun z ds hz => by
    have hz1 := c.bound hz
    refine c.mono (fun k hk => hk.1) (c.move (fun k hk => h2.block k hk.2 (fun e => hk.1 ?_)) hz1)
    exact e
  split at hj
  · rename_i he
    subst he
    obtain rfl : y = x := by simpa using hj
    rw [list_window_at]
    exact hm _ _ (hy _ (hr.2 _ _ (List.getElem?_eq_getElem hk)))
  · rename_i he
    rw [list_window _ _ _ _ _ _ hi he]
    exact hm _ _ (hr.2 j x hj)
theorem add_base (g j : Nat) : (⟨g, 0, none⟩ : Addr).add j = ⟨g, j, none⟩ := by unfold Addr.add; split <;> simp_all
/-- A store into a row of numbers. -/
theorem Own.storeInt {g n cap : Nat} {is : List Int} (h : Own cInt e w base (.slice (some ⟨g, 0, none⟩) n cap) is) (k : Nat) (hk : k < is.length) (x : Int) :
    Own cInt e (w.setCell ⟨g, k, none⟩ (.int .i64 x)) base (.slice (some ⟨g, 0, none⟩) n cap) (is.set k x) ∧ w.grownBy (w.setCell ⟨g, k, none⟩ (.int .i64 x)) (some g) := by
  have h1 := h.store k hk 0 (by decide) (.int .i64 x) x (fun cs hc => by have hc' : cs = [Value.int .i64 is[k]] := hc; rw [hc']; rfl)
  have e : k * cInt.sz + 0 = k := by show k * 1 + 0 = k; omega
  rwa [e] at h1
theorem Own.free {g n cap : Nat} (h : Own c e w base (.slice (some ⟨g, 0, none⟩) n cap) xs) (j : Nat) : w.frozen? ⟨g, j, none⟩ = false := by
  obtain ⟨cs, ⟨_, h2⟩, _⟩ := h
  rcases h2 with ⟨h', _⟩ | ⟨g', cap', cur, h', _, hg, _⟩
  · simp at h'
  · simp only [Value.slice.injEq, Option.some.injEq, Addr.mk.injEq, and_true] at h'
    obtain ⟨rfl, -⟩ := h'
    exact frozen_of_row w g j cur e hg
/-- What is carried over a write of another block. -/
theorem Own.grown {g n cap : Nat} {row : Option Nat} (h : Own c e w base (.slice (some ⟨g, 0, none⟩) n cap) xs) (hg : w.grownBy w1 row) (hr : row ≠ some g) (hs : ∀ x cs, c.rd w (fun k => some k ≠ some g) x cs → c.rd w1 (fun k => some k ≠ some g) x cs) : Own c e w1 base (.slice (some ⟨g, 0, none⟩) n cap) xs := by
  obtain ⟨cs, ho, hR⟩ := h
  exact ⟨cs, ho.kept hg (.inr (fun e => hr (by simpa [Value.ownBlock] using e.symm))), hR.imp (fun x d hx => hs x d hx)⟩
/-- A slice's cells, as one list. -/
theorem Sl.cells (h : Sl c w S A xs) : ∃ cs, Reps (c.rd w S) c.sz xs cs ∧ ∀ j u, cs[j]? = some u → ∃ ad, A = some ad ∧ w.cell? (ad.add j) = some u := by
  obtain ⟨hl, h⟩ := h
  by_cases hp : 0 < xs.length
  · obtain ⟨ad, hA, -, hc⟩ := h hp
    have key : ∀ n, n ≤ xs.length → ∃ cs, Reps (c.rd w S) c.sz (xs.take n) cs ∧ ∀ j u, cs[j]? = some u → w.cell? (ad.add j) = some u := by
      intro n
      induction n with
      | zero => exact fun _ => ⟨[], Reps.none, fun j u hu => by simp at hu⟩
      | succ n ih =>
        intro hn
        obtain ⟨cs, h1, h2⟩ := ih (by omega)
        obtain ⟨ds, hd, hcell⟩ := hc n _ (List.getElem?_eq_getElem (by omega))
        refine ⟨cs ++ ds, ?_, fun j u hu => ?_⟩
        · rw [List.take_add_one, List.getElem?_eq_getElem (by omega), Option.toList_some]
          exact h1.append (Reps.single hd (c.len hd))
        · have hlen : cs.length = n * c.sz := by rw [h1.1, List.length_take, Nat.min_eq_left (by omega)]
          rcases Nat.lt_or_ge j cs.length with hj | hj
          · rw [List.getElem?_append_left hj] at hu
            exact h2 j u hu
          · rw [List.getElem?_append_right hj] at hu
            have := hcell _ u hu
            rwa [show n * c.sz + (j - cs.length) = j by omega] at this
    obtain ⟨cs, h1, h2⟩ := key xs.length (Nat.le_refl _)
    rw [List.take_length] at h1
    exact ⟨cs, h1, fun j u hu => ⟨ad, hA, h2 j u hu⟩⟩
  · have : xs = [] := List.eq_nil_of_length_eq_zero (by omega)
    subst this
    exact ⟨[], Reps.none, fun j u hu => by simp at hu⟩
theorem madeCells_window (z : Array Value) (n j : Nat) (hj : j < n) : (((madeCells z (n * z.size)).toList.drop (j * z.size)).take z.size) = z.toList := by
  apply List.ext_getElem?
  intro t
  by_cases ht : t < z.size
  · have h1 : j * z.size + t < n * z.size := by
      have : j * z.size + z.size ≤ n * z.size := by rw [← Nat.succ_mul]; exact Nat.mul_le_mul_right _ hj
      omega
    rw [List.getElem?_take, if_pos ht, List.getElem?_drop]
    have h2 : (j * z.size + t) % z.size = t := by rw [Nat.add_comm, Nat.add_mul_mod_self_right]; exact Nat.mod_eq_of_lt ht
    simp [madeCells, h1, h2, ht]
  · rw [List.getElem?_take, if_neg ht]
    simp
    omega
end
section
variable {α : Type} {c : Cod α} {w : World} {P : Program} {ops : Array Oper} {rest : List Oper} {o : Oper} {a : Act} {Q : Exit → Act → World → Prop}
/-- 'make([]T, n)'. -/
theorem Own.make (c : Cod α) (t e : TypeId) (base : Nat) (hg : o.guard = none) (l k : Operand) (hop : o.op = Op.makeSlice t l k) (ht : P.underlying t = some (.slice e)) (z : Value) (bytes : Nat)
    (hinfo : (P.info? e).map (fun i => (i.zero, i.size, i.bytes)) = some (some z, c.sz, bytes)) (hz : z.cells.size = c.sz) (d : α) (hd : ∀ W S, c.rd W S d z.cells.toList)
    (kl kc : IntKind) (n : Nat) (hl : a.eval l = .int kl (n : Int)) (hc : a.eval k = .int kc (n : Int)) (b2 : bytes * n ≤ 281474976710656) (b3 : n ≤ 9223372036854775807) (b4 : base ≤ w.heap.size)
    (h : ∀ w1, Own c e w1 base (.slice (some ⟨w.heap.size, 0, none⟩) n n) (List.replicate n d) → w.grownBy w1 none → wpList P ops Q rest (a.put o.dst (.slice (some ⟨w.heap.size, 0, none⟩) n n)) w1) :
    wpList P ops Q (o :: rest) a w := by
  obtain ⟨i0, hi, hzz⟩ := Option.map_eq_some_iff.1 hinfo
  simp only [Prod.mk.injEq] at hzz
  obtain ⟨hz0, hz1, hz2⟩ := hzz
  refine wpList_make_full w hg l k t hop base e i0 z c.sz ht hi hz0 hz1 kl kc n n n hl hc rfl rfl (by rw [hz2]; exact b2) (by simp only [maxLen]; omega) b4 ?_
  intro w1 hown hgr
  refine h w1 ⟨_, by rw [List.length_replicate]; exact hown, ?_⟩ hgr
  refine ⟨?_, fun j x hj => ?_⟩
  · rw [List.length_replicate, Array.length_toList, ← hz, size_madeCells]
  · obtain ⟨hj1, rfl⟩ := List.getElem?_eq_some_iff.1 hj
    rw [List.length_replicate] at hj1
    rw [List.getElem_replicate, ← hz, madeCells_window _ _ _ hj1]
    exact hd _ _
theorem run_append_none_any {P : Program} (w : World) (base : Nat) (t ty e : TypeId) (i : TypeInfo) (size cap : Nat) (ht : P.underlying t = some (.slice e)) (hi : P.info? e = some i)
    (v : Value) (n : Nat) (xs : List Value) (hown : w.ownsRow base e size v n xs) :
    (Builtin.append_ #[t, t] ty #[v, .slice none 0 cap]).run P w = .ok v w := by
  rcases hown.2 with ⟨rfl, rfl⟩ | ⟨g, cap, cur, rfl, _, _, hnc, _⟩
  · simp [Builtin.append_, run_underlying ht, sizeOf, typeInfo, hi, Builtin.lenOf, Builtin.firstCells]
  · simp [Builtin.append_, run_underlying ht, sizeOf, typeInfo, hi, Builtin.lenOf, Builtin.firstCells, hnc, storeCells]
/-- 'append(v, ys...)', ys a slice that is read (nil or not). -/
theorem Own.appendAll (c : Cod α) (t e : TypeId) (base : Nat) (hgd : o.guard = none) (s x : Operand)
    (ho : o.op = .call { callee := .builtin .append, args := #[s, x], argTypes := #[t, t] })
    (ht : P.underlying t = some (.slice e)) (z : Value) (bytes : Nat) (hinfo : (P.info? e).map (fun i => (i.zero, i.size, i.bytes)) = some (some z, c.sz, bytes)) (hz : z.cells.size = c.sz) (hs0 : 0 < c.sz) (hb0 : 0 < bytes)
    (v : Value) (xs : List α) (hs : a.eval s = v) (HO : Own c e w base v xs) (ys : List α) (A : Option Addr) (cap : Nat) (hx : a.eval x = .slice A ys.length cap)
    (hsl : Sl c w (fun k => some k ≠ v.ownBlock) A ys) (hbase : base ≤ w.heap.size) (hl : (xs.length + ys.length) * bytes ≤ 140737488355328)
    (h : ∀ v1 w1, Own c e w1 base v1 (xs ++ ys) → w.grownBy w1 v.ownBlock → (v1.ownBlock = v.ownBlock ∨ v1.ownBlock = some w.heap.size) → wpList P ops Q rest (a.put o.dst v1) w1) :
    wpList P ops Q (o :: rest) a w := by
  cases A with
  | some ad =>
    obtain ⟨cs, hr, hcell⟩ := hsl.cells
    exact Own.append c t e base hgd s x ho ht z bytes hinfo hz hs0 hb0 v xs hs HO ys cs ad cap hx hr (fun j u hu => by obtain ⟨ad', he, hc⟩ := hcell j u hu; cases he; exact hc) hbase hl h
  | none =>
    have hys : ys = [] := by
      by_cases hp : 0 < ys.length
      · obtain ⟨ad, he, _⟩ := hsl.2 hp
        cases he
      · exact List.eq_nil_of_length_eq_zero (by omega)
    subst hys
    obtain ⟨i0, hi, hzz⟩ := Option.map_eq_some_iff.1 hinfo
    obtain ⟨ds, hown, hr⟩ := HO
    refine wpList_plain hgd fun K hK => ?_
    have hrun := run_append_none_any (P := P) w base t o.type e i0 c.sz cap ht hi v xs.length ds hown
    unfold Oper.wp
    simp [execOp, ho, resolve, invoke, builtin, hs, hx, hrun, Result.andThen]
    exact hK _ _ (h v w ⟨ds, by simpa using hown, by simpa using hr⟩ (World.grownBy.refl _ _) (.inl rfl))
end
end Go.Proofs.Ythgnfpbbhiegfaa
