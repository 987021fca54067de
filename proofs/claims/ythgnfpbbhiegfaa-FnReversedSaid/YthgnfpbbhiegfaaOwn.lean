/- Rows of the call's own: what append, a literal, a read and a store make of them. Over any program. -/
import Derived.Test.YthgnfpbbhiegfaaTypes
namespace Go.Proofs.Ythgnfpbbhiegfaa
open Go.RowKit
section
variable {α : Type} {c : Cod α} {e : TypeId} {w w1 W : World} {base : Nat} {v : Value} {xs : List α}
theorem Reps.one {R : α → List Value → Prop} {size : Nat} {cs : List Value} (h : Reps R size xs cs) (hR : ∀ x c, R x c → c.length = size ∧ ∀ u ∈ c, u.oneCell' = true) : ∀ u ∈ cs, u.oneCell' = true := by
  intro u hu
  obtain ⟨i, hi, rfl⟩ := List.getElem_of_mem hu
  have hl := h.1
  by_cases h0 : size = 0
  · subst h0; omega
  have hj : i / size < xs.length := by
    rw [hl] at hi
    exact Nat.div_lt_of_lt_mul (by rw [Nat.mul_comm]; exact hi)
  have h1 := hR _ _ (h.2 _ _ (List.getElem?_eq_getElem hj))
  refine h1.2 _ ?_
  have hm : i % size < size := Nat.mod_lt _ (by omega)
  have hd : i / size * size + i % size = i := by rw [Nat.mul_comm]; exact Nat.div_add_mod i size
  refine List.mem_iff_getElem?.2 ⟨i % size, ?_⟩
  rw [List.getElem?_take, if_pos hm, List.getElem?_drop, hd, List.getElem?_eq_getElem hi]
/-- What lay in other blocks than the row is read as before when the row is written, or moves to a new block. -/
theorem rd_grown {x : α} {cs : List Value} (h : c.rd W (fun k => some k ≠ v.ownBlock) x cs) {v1 : Value} (hg : W.grownBy w1 v.ownBlock) (hat : v1.ownBlock = v.ownBlock ∨ v1.ownBlock = some W.heap.size) : c.rd w1 (fun k => some k ≠ v1.ownBlock) x cs := by
  have h1 := c.bound h
  have h2 : c.rd w1 (fun k => some k ≠ v.ownBlock ∧ k < W.heap.size) x cs := c.move (fun k hk => hg.block k hk.2 hk.1) h1
  refine c.mono (fun k hk => ?_) h2
  rcases hat with hat | hat
  · rw [hat]; exact hk.1
  · rw [hat]
    intro he
    injection he with he
    omega
theorem Own.to [hb : Bel w w1] (h : Own c e w base v xs) : Own c e w1 base v xs := h.below hb.out
section
variable {P : Program} {ops : Array Oper} {rest : List Oper} {o : Oper} {a : Act} {Q : Exit → Act → World → Prop}
theorem Bel.grown [h : Bel w W] (hg : W.grownBy w1 v.ownBlock) (ho : Own c e W base v xs) (hb : w.heap.size ≤ base) : Bel w w1 :=
  ⟨h.out.grown hg h.out.size (fun k hk => Nat.le_trans hb (ho.lt k hk).1)⟩
/-- 'v = append(v, ys..)'. -/
theorem Own.append (c : Cod α) (t e : TypeId) (base : Nat) (hgd : o.guard = none) (s x : Operand)
    (ho : o.op = .call { callee := .builtin .append, args := #[s, x], argTypes := #[t, t] })
    (ht : P.underlying t = some (.slice e)) (z : Value) (bytes : Nat) (hinfo : (P.info? e).map (fun i => (i.zero, i.size, i.bytes)) = some (some z, c.sz, bytes)) (hz : z.cells.size = c.sz) (hs0 : 0 < c.sz) (hb0 : 0 < bytes)
    (v : Value) (xs : List α) (hs : a.eval s = v) (HO : Own c e W base v xs) (ys : List α) (cs : List Value) (ad : Addr) (cap : Nat) (hx : a.eval x = .slice (some ad) ys.length cap)
    (hcs : Reps (c.rd W (fun k => some k ≠ v.ownBlock)) c.sz ys cs) (hcells : ∀ j u, cs[j]? = some u → W.cell? (ad.add j) = some u) (hbase : base ≤ W.heap.size) (hl : (xs.length + ys.length) * bytes ≤ 140737488355328)
    (h : ∀ v1 w1, Own c e w1 base v1 (xs ++ ys) → W.grownBy w1 v.ownBlock → (v1.ownBlock = v.ownBlock ∨ v1.ownBlock = some W.heap.size) → wpList P ops Q rest (a.put o.dst v1) w1) :
    wpList P ops Q (o :: rest) a W := by
  obtain ⟨i0, hi, hzz⟩ := Option.map_eq_some_iff.1 hinfo
  simp only [Prod.mk.injEq] at hzz
  obtain ⟨hz0, hz1, hz2⟩ := hzz
  obtain ⟨ds, hown, hr⟩ := HO
  have hlen : xs.length + ys.length ≤ 140737488355328 := Nat.le_trans (Nat.le_mul_of_pos_right _ hb0) hl
  refine wpList_append_own_at W hgd s x t ho base e i0 z c.sz bytes ht hi hz0 hz1 hz2 hz hs0 v xs.length ds hs hown ad ys.length cap cs hx hcs.1 hcells
    (hcs.one (fun _ _ hx => ⟨c.len hx, c.one hx⟩)) (by simp only [maxLen]; omega) hl hbase ?_
  intro v1 w1 hown1 hg _ hat
  refine h v1 w1 ⟨ds ++ cs, by rw [List.length_append]; exact hown1, ?_⟩ hg hat
  exact (hr.imp (fun _ _ hx => rd_grown hx hg hat)).append (hcs.imp (fun _ _ hx => rd_grown hx hg hat))
end
/-- A literal's block. -/
theorem Own.lit (cs : List Value) (hb : base ≤ w.heap.size) (hm : xs.length ≤ 9223372036854775807) (hr : Reps (c.rd w (fun _ => True)) c.sz xs cs) :
    Own c e (w.alloc (.cells cs.toArray e)) base (.slice (some ⟨w.heap.size, 0, none⟩) xs.length xs.length) xs := by
  refine ⟨cs, ?_, hr.imp (fun x d hx => ?_)⟩
  · have h := World.ownsRow_lit (base := base) (e := e) (size := c.sz) w cs.toArray xs.length hb (by simpa [maxLen] using hm) (by simp [hr.1])
    simpa using h
  · have h1 : c.rd (w.alloc (.cells cs.toArray e)) (fun k => True ∧ k < w.heap.size) x d := c.move (fun k hk => (Below.refl _ _ |>.alloc (Nat.le_refl w.heap.size) _).block k hk.2) (c.bound hx)
    refine c.mono (fun k hk => ?_) h1
    simp only [Value.ownBlock]
    intro he
    injection he with he
    omega
end
/-- Numbers as the cells of a row. -/
theorem reps_ints {w : World} {S : Nat → Prop} (xs : List Int) : Reps (cInt.rd w S) cInt.sz xs (xs.map (Value.int .i64)) := by
  refine ⟨by simp [cInt, Cod.scalar], fun j x hj => ?_⟩
  obtain ⟨hl, rfl⟩ := List.getElem?_eq_some_iff.1 hj
  show _ = [_]
  simp only [cInt, Cod.scalar, Nat.mul_one]
  rw [List.drop_eq_getElem_cons (by simpa using hl)]
  simp
theorem box_cells {w : World} {cs : Array Value} {t : TypeId} (j : Nat) (u : Value) (h : cs.toList[j]? = some u) : (w.alloc (.cells cs t)).cell? ((⟨w.heap.size, 0, none⟩ : Addr).add j) = some u := by
  have ha : (⟨w.heap.size, 0, none⟩ : Addr).add j = ⟨w.heap.size, j, none⟩ := by unfold Addr.add; split <;> simp_all
  rw [ha]
  simpa using h
theorem box_cells' {w : World} {cs : Array Value} {t : TypeId} {n : Nat} (hn : w.heap.size = n) (j : Nat) (u : Value) (h : cs.toList[j]? = some u) : (w.alloc (.cells cs t)).cell? ((⟨n, 0, none⟩ : Addr).add j) = some u := by
  subst hn
  exact box_cells j u h
end Go.Proofs.Ythgnfpbbhiegfaa
