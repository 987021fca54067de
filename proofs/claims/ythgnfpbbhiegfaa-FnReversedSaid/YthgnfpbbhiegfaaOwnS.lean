/- Rows of the call's own whose elements lead into blocks of S alone. Over any program. -/
import Derived.Test.YthgnfpbbhiegfaaOwn2
namespace Go.Proofs.Ythgnfpbbhiegfaa
open Go.RowKit
def OwnS {α : Type} (S : Nat → Prop) (c : Cod α) (e : TypeId) (w : World) (base : Nat) (v : Value) (xs : List α) : Prop :=
  ∃ cs, w.ownsRow base e c.sz v xs.length cs ∧ Reps (c.rd w (fun k => S k ∧ some k ≠ v.ownBlock)) c.sz xs cs
section
variable {α : Type} {S S' : Nat → Prop} {c : Cod α} {e : TypeId} {w w1 W : World} {base : Nat} {v : Value} {xs : List α} {A : Option Addr}
theorem OwnS.own (h : OwnS S c e w base v xs) : Own c e w base v xs := by
  obtain ⟨cs, h1, h2⟩ := h
  exact ⟨cs, h1, h2.imp (fun x d hx => c.mono (fun k hk => hk.2) hx)⟩
theorem OwnS.mono (hS : ∀ k, S k → S' k) (h : OwnS S c e w base v xs) : OwnS S' c e w base v xs := by
  obtain ⟨cs, h1, h2⟩ := h
  exact ⟨cs, h1, h2.imp (fun x d hx => c.mono (fun k hk => ⟨hS k hk.1, hk.2⟩) hx)⟩
theorem OwnS.bound (h : OwnS S c e w base v xs) : OwnS (fun k => S k ∧ k < w.heap.size) c e w base v xs := by
  obtain ⟨cs, h1, h2⟩ := h
  exact ⟨cs, h1, h2.imp (fun x d hx => c.mono (fun k hk => ⟨⟨hk.1.1, hk.2⟩, hk.1.2⟩) (c.bound hx))⟩
theorem OwnS.lower {b : Nat} (h : OwnS S c e w base v xs) (hb : b ≤ base) : OwnS S c e w b v xs := by
  obtain ⟨cs, ⟨h1, h2⟩, hr⟩ := h
  refine ⟨cs, ⟨h1, ?_⟩, hr⟩
  rcases h2 with h2 | ⟨g, cap, cur, rfl, hg, r⟩
  · exact .inl h2
  · exact .inr ⟨g, cap, cur, rfl, Nat.le_trans hb hg, r⟩
theorem OwnS.grown {row : Option Nat} (h : OwnS S c e w base v xs) (hg : w.grownBy w1 row) (hr : ∀ j, row = some j → ¬ S j ∧ v.ownBlock ≠ some j) : OwnS S c e w1 base v xs := by
  obtain ⟨cs, ho, hR⟩ := h
  refine ⟨cs, ho.kept hg ?_, hR.imp (fun x d hx => ?_)⟩
  · cases hv : v.ownBlock with
    | none => exact .inl rfl
    | some b =>
      refine .inr (fun e => ?_)
      rw [← hv] at e
      cases hrow : row with
      | none => rw [hrow, hv] at e; cases e
      | some j => exact (hr j hrow).2 (e.trans hrow)
  · have h1 := c.bound hx
    exact c.mono (fun k hk => hk.1) (c.move (fun k hk => hg.block k hk.2 (fun e => (hr k e.symm).1 hk.1.1)) h1)
theorem OwnS.below (h : OwnS S c e w base v xs) (hb : Below w.heap.size w w1) : OwnS S c e w1 base v xs :=
  h.grown (row := none) ⟨hb.os, hb.tape, hb.output, hb.size, fun i hi _ => hb.block i hi⟩ (fun j hj => by cases hj)
theorem OwnS.to [hb : Bel w w1] (h : OwnS S c e w base v xs) : OwnS S c e w1 base v xs := h.below hb.out
theorem OwnS.set (h : OwnS S c e w base v xs) {g i : Nat} (u : Value) (hS : ¬ S g) (hv : v.ownBlock ≠ some g) : OwnS S c e (w.setCell ⟨g, i, none⟩ u) base v xs :=
  h.grown (row := some g) ⟨rfl, rfl, rfl, by simp, fun k _ hk => heap_setCell_other w ⟨g, i, none⟩ k u (fun e => hk (by simp [e]))⟩ (fun j hj => by cases hj; exact ⟨hS, hv⟩)
/-- It is read as any slice is. -/
theorem OwnS.sl {n cap : Nat} (h : OwnS S c e w base (.slice A n cap) xs) (hb : ∀ k, base ≤ k → S' k) (hS : ∀ k, S k → S' k) : Sl c w S' A xs := by
  obtain ⟨cs, ⟨hl, h2⟩, hr⟩ := h
  rcases h2 with ⟨hv, h0⟩ | ⟨g, cap', cur, hv, hg, hh, hc, hm, hsz, htake⟩
  · obtain rfl := List.eq_nil_of_length_eq_zero h0
    exact Sl.nil
  · refine ⟨by simp only [maxLen] at hm; omega, fun hp => ?_⟩
    injection hv with hA _ _
    subst hA
    refine ⟨_, rfl, hb _ hg, fun j x hj => ⟨_, c.mono (fun k hk => hS k hk.1) (hr.2 j x hj), fun i u hu => ?_⟩⟩
    rw [add_base, cell_of_row w g _ cur e (0, 0) hh]
    rw [← htake, List.getElem?_take] at hu
    split at hu
    · rw [List.getElem?_drop, List.getElem?_take] at hu
      split at hu
      · simpa using hu
      · cases hu
    · cases hu
/-- A whole element of four cells is stored. -/
theorem OwnS.store4 {g n cap : Nat} (h : OwnS S c e w base (.slice (some ⟨g, 0, none⟩) n cap) xs) (h4 : c.sz = 4) (k : Nat) (hk : k < xs.length) (d0 d1 d2 d3 : Value) (x : α) (hS : ¬ S g)
    (hx : c.rd w S x [d0, d1, d2, d3]) :
    OwnS S c e ((((w.setCell ⟨g, k * 4, none⟩ d0).setCell ⟨g, k * 4 + 1, none⟩ d1).setCell ⟨g, k * 4 + 2, none⟩ d2).setCell ⟨g, k * 4 + 3, none⟩ d3) base (.slice (some ⟨g, 0, none⟩) n cap) (xs.set k x) ∧
      w.grownBy ((((w.setCell ⟨g, k * 4, none⟩ d0).setCell ⟨g, k * 4 + 1, none⟩ d1).setCell ⟨g, k * 4 + 2, none⟩ d2).setCell ⟨g, k * 4 + 3, none⟩ d3) (some g) := by
  obtain ⟨cs, hown, hr⟩ := h
  have hn : n = xs.length := by
    rcases hown.2 with ⟨hv, h0⟩ | ⟨g', cap', cur, hv, _⟩
    · simp at hv
    · injection hv
  subst hn
  rw [h4] at hown hr
  obtain ⟨a0, b0⟩ := hown.stored (k * 4) d0
  obtain ⟨a1, b1⟩ := a0.stored (k * 4 + 1) d1
  obtain ⟨a2, b2⟩ := a1.stored (k * 4 + 2) d2
  obtain ⟨a3, b3⟩ := a2.stored (k * 4 + 3) d3
  have hgr := ((b0.trans b1).trans b2).trans b3
  have hm : ∀ (z : α) (ds : List Value), c.rd w (fun k => S k ∧ some k ≠ some g) z ds → c.rd ((((w.setCell ⟨g, k * 4, none⟩ d0).setCell ⟨g, k * 4 + 1, none⟩ d1).setCell ⟨g, k * 4 + 2, none⟩ d2).setCell ⟨g, k * 4 + 3, none⟩ d3) (fun k => S k ∧ some k ≠ some g) z ds := fun z ds hz => by
    have hz1 := c.bound hz
    exact c.mono (fun k hk => hk.1) (c.move (fun k hk => hgr.block k hk.2 hk.1.2) hz1)
  refine ⟨⟨_, by rw [List.length_set, h4]; exact a3, ?_⟩, hgr⟩
  rw [h4]
  refine ⟨by simp only [List.length_set]; exact hr.1, fun j y hj => ?_⟩
  rw [List.getElem?_set] at hj
  split at hj
  · rename_i he
    subst he
    obtain rfl : x = y := by simpa using hj
    have hw : ((cs.drop (k * 4)).take 4).length = 4 := by
      have h1 : k * 4 + 4 ≤ cs.length := by rw [hr.1]; omega
      rw [List.length_take, List.length_drop]
      omega
    have w0 := list_window_at cs d0 4 k 0
    rw [Nat.add_zero] at w0
    rw [list_window_at, list_window_at, list_window_at, w0]
    have hfin : ∀ l : List Value, l.length = 4 → (((l.set 0 d0).set 1 d1).set 2 d2).set 3 d3 = [d0, d1, d2, d3] := by
      intro l hl
      match l, hl with
      | [_, _, _, _], _ => rfl
    rw [hfin _ hw]
    refine hm _ _ (c.mono (fun j hj => ⟨hj, fun e => ?_⟩) hx)
    injection e with e
    subst e
    exact hS hj
  · rename_i he
    have w0 := list_window cs d0 4 k j 0 (by omega) he
    rw [Nat.add_zero] at w0
    rw [list_window _ _ _ _ _ _ (by omega) he, list_window _ _ _ _ _ _ (by omega) he, list_window _ _ _ _ _ _ (by omega) he, w0]
    exact hm _ _ (hr.2 j y hj)
end
section
variable {α : Type} {S : Nat → Prop} {c : Cod α} {w : World} {P : Program} {ops : Array Oper} {rest : List Oper} {o : Oper} {a : Act} {Q : Exit → Act → World → Prop}
/-- 'make([]T, n)', as a run. -/
theorem OwnS.makeRun (S : Nat → Prop) (c : Cod α) (t e : TypeId) (base : Nat) (ht : P.underlying t = some (.slice e)) (z : Value) (bytes : Nat)
    (hinfo : (P.info? e).map (fun i => (i.zero, i.size, i.bytes)) = some (some z, c.sz, bytes)) (hz : z.cells.size = c.sz) (d : α) (hd : ∀ W S, c.rd W S d z.cells.toList)
    (n : Nat) (b2 : bytes * n ≤ 281474976710656) (b3 : n ≤ 9223372036854775807) (b4 : base ≤ w.heap.size) :
    ∃ w1, (Instr.makeSlice t (.int .i64 (n : Int)) (.int .i64 (n : Int))).run P w = .ok (.slice (some ⟨w.heap.size, 0, none⟩) n n) w1 ∧ OwnS S c e w1 base (.slice (some ⟨w.heap.size, 0, none⟩) n n) (List.replicate n d) ∧ w.grownBy w1 none := by
  obtain ⟨i0, hi, hzz⟩ := Option.map_eq_some_iff.1 hinfo
  simp only [Prod.mk.injEq] at hzz
  obtain ⟨hz0, hz1, hz2⟩ := hzz
  obtain ⟨w1, hrun, hown, hgr⟩ := run_make_full (P := P) w base t e i0 z c.sz ht hi hz0 hz1 .i64 .i64 n (by rw [hz2]; exact b2) (by simp only [maxLen]; omega) b4
  refine ⟨w1, hrun, ⟨_, by rw [List.length_replicate]; exact hown, ?_⟩, hgr⟩
  refine ⟨?_, fun j x hj => ?_⟩
  · rw [List.length_replicate, Array.length_toList, ← hz, size_madeCells]
  · obtain ⟨hj1, rfl⟩ := List.getElem?_eq_some_iff.1 hj
    rw [List.length_replicate] at hj1
    rw [List.getElem_replicate, ← hz, madeCells_window _ _ _ hj1]
    exact hd _ _
theorem rd_grownS {x : α} {cs : List Value} {v v1 : Value} {w1 : World} (h : c.rd w (fun k => S k ∧ some k ≠ v.ownBlock) x cs) (hg : w.grownBy w1 v.ownBlock) (hat : v1.ownBlock = v.ownBlock ∨ v1.ownBlock = some w.heap.size) : c.rd w1 (fun k => S k ∧ some k ≠ v1.ownBlock) x cs := by
  have h1 := c.bound h
  have h2 : c.rd w1 (fun k => (S k ∧ some k ≠ v.ownBlock) ∧ k < w.heap.size) x cs := c.move (fun k hk => hg.block k hk.2 hk.1.2) h1
  refine c.mono (fun k hk => ⟨hk.1.1, ?_⟩) h2
  rcases hat with hat | hat
  · rw [hat]; exact hk.1.2
  · rw [hat]
    intro he
    injection he with he
    omega
/-- 'append(v, ys..)', as a run: ys a row in memory. -/
theorem OwnS.appendRun (t e ty : TypeId) (base : Nat) (ht : P.underlying t = some (.slice e)) (z : Value) (bytes : Nat) (hinfo : (P.info? e).map (fun i => (i.zero, i.size, i.bytes)) = some (some z, c.sz, bytes)) (hz : z.cells.size = c.sz) (hs0 : 0 < c.sz) (hb0 : 0 < bytes)
    {v : Value} {xs : List α} (HO : OwnS S c e w base v xs) (ys : List α) (cs : List Value) (ad : Addr) (m cap : Nat) (hm : ys.length = m)
    (hcs : Reps (c.rd w (fun k => S k ∧ some k ≠ v.ownBlock)) c.sz ys cs) (hcells : ∀ j u, cs[j]? = some u → w.cell? (ad.add j) = some u) (hbase : base ≤ w.heap.size) (hl : (xs.length + m) * bytes ≤ 140737488355328) :
    ∃ v1 w1, (Builtin.append_ #[t, t] ty #[v, .slice (some ad) m cap]).run P w = .ok v1 w1 ∧ OwnS S c e w1 base v1 (xs ++ ys) ∧ w.grownBy w1 v.ownBlock ∧ (v1.ownBlock = v.ownBlock ∨ v1.ownBlock = some w.heap.size) := by
  subst hm
  obtain ⟨i0, hi, hzz⟩ := Option.map_eq_some_iff.1 hinfo
  simp only [Prod.mk.injEq] at hzz
  obtain ⟨hz0, hz1, hz2⟩ := hzz
  obtain ⟨ds, hown, hr⟩ := HO
  have hlen : xs.length + ys.length ≤ 140737488355328 := Nat.le_trans (Nat.le_mul_of_pos_right _ hb0) hl
  obtain ⟨v1, w1, hrun, h2, h3, -, h5⟩ := run_append_own_at (P := P) w base t ty e i0 z c.sz bytes ht hi hz0 hz1 hz2 hz hs0 v xs.length ds hown ad ys.length cap cs hcs.1 hcells
    (hcs.one (fun _ _ hx => ⟨c.len hx, c.one hx⟩)) (by simp only [maxLen]; omega) hl hbase
  refine ⟨v1, w1, hrun, ⟨ds ++ cs, by rw [List.length_append]; exact h2, ?_⟩, h3, h5⟩
  exact (hr.imp (fun _ _ hx => rd_grownS hx h3 h5)).append (hcs.imp (fun _ _ hx => rd_grownS hx h3 h5))
end
end Go.Proofs.Ythgnfpbbhiegfaa
