/- A ledger without one of its entries, put together by two appends: in memory. -/
import Derived.Test.YthgnfpbbhiegfaaDrawL
namespace Go.Proofs.Ythgnfpbbhiegfaa
open Go.RowKit
theorem addr_add (ad : Addr) (x y : Nat) : (ad.add x).add y = ad.add (x + y) := by
  unfold Addr.add
  by_cases hx : x = 0
  · subst hx; simp
  · by_cases hy : y = 0
    · subst hy; simp
    · simp [hx, hy, Nat.add_assoc]
theorem Sl.take {α : Type} {c : Cod α} {w : World} {S : Nat → Prop} {A : Option Addr} {xs : List α} (h : Sl c w S A xs) (k : Nat) : Sl c w S A (xs.take k) := by
  refine ⟨by have := h.1; rw [List.length_take]; omega, fun hp => ?_⟩
  rw [List.length_take] at hp
  obtain ⟨ad, e, hb, hc⟩ := h.2 (by omega)
  refine ⟨ad, e, hb, fun j x hj => ?_⟩
  rw [List.getElem?_take] at hj
  split at hj
  · exact hc j x hj
  · cases hj
theorem Sl.drop {α : Type} {c : Cod α} {w : World} {S : Nat → Prop} {ad : Addr} {xs : List α} (h : Sl c w S (some ad) xs) (k : Nat) : Sl c w S (some (ad.add (k * c.sz))) (xs.drop k) := by
  refine ⟨by have := h.1; rw [List.length_drop]; omega, fun hp => ?_⟩
  rw [List.length_drop] at hp
  obtain ⟨ad', e, hb, hc⟩ := h.2 (by omega)
  cases e
  refine ⟨_, rfl, by rw [add_block]; exact hb, fun j x hj => ?_⟩
  rw [List.getElem?_drop] at hj
  obtain ⟨cs, h1, h2⟩ := hc (k + j) x hj
  refine ⟨cs, h1, fun i u hu => ?_⟩
  rw [addr_add]
  have := h2 i u hu
  rwa [Nat.add_mul, Nat.add_assoc] at this
theorem OwnS.appendAllRun {α : Type} {S : Nat → Prop} {c : Cod α} {w : World} {P : Program} (t e ty : TypeId) (base : Nat) (ht : P.underlying t = some (.slice e)) (z : Value) (bytes : Nat) (hinfo : (P.info? e).map (fun i => (i.zero, i.size, i.bytes)) = some (some z, c.sz, bytes)) (hz : z.cells.size = c.sz) (hs0 : 0 < c.sz) (hb0 : 0 < bytes)
    {v : Value} {xs : List α} (HO : OwnS S c e w base v xs) (ys : List α) (A : Option Addr) (m cap : Nat) (hm : ys.length = m)
    (hsl : Sl c w (fun k => S k ∧ some k ≠ v.ownBlock) A ys) (hbase : base ≤ w.heap.size) (hl : (xs.length + m) * bytes ≤ 140737488355328) :
    ∃ v1 w1, (Builtin.append_ #[t, t] ty #[v, .slice A m cap]).run P w = .ok v1 w1 ∧ OwnS S c e w1 base v1 (xs ++ ys) ∧ w.grownBy w1 v.ownBlock := by
  cases A with
  | some ad =>
    obtain ⟨cs, hr, hcell⟩ := hsl.cells
    obtain ⟨v1, w1, h1, h2, h3, -⟩ := OwnS.appendRun t e ty base ht z bytes hinfo hz hs0 hb0 HO ys cs ad m cap hm hr (fun j u hu => by obtain ⟨ad', he, hc⟩ := hcell j u hu; cases he; exact hc) hbase hl
    exact ⟨v1, w1, h1, h2, h3⟩
  | none =>
    have hys : ys = [] := by
      by_cases hp : 0 < ys.length
      · obtain ⟨ad, he, _⟩ := hsl.2 hp
        cases he
      · exact List.eq_nil_of_length_eq_zero (by omega)
    subst hys
    obtain ⟨i0, hi, hzz⟩ := Option.map_eq_some_iff.1 hinfo
    obtain ⟨ds, hown, hr⟩ := HO
    have hrun := run_append_none_any (P := P) w base t ty e i0 c.sz cap ht hi v xs.length ds hown
    subst hm
    exact ⟨v, w, hrun, ⟨ds, by simpa using hown, by simpa using hr⟩, World.grownBy.refl _ _⟩
/-- Rows that are being put together out of what lay in W0. -/
structure GoS (W0 wq : World) (v : Value) (xs : List En) : Prop where
  bel : Below W0.heap.size W0 wq
  own : OwnS (fun k => k < W0.heap.size) cEn 34 wq W0.heap.size v xs
theorem GoS.start {W0 X : World} (h : Below W0.heap.size W0 X) : GoS W0 (X.alloc (.cells #[] 34)) (.slice (some ⟨X.heap.size, 0, none⟩) 0 0) [] := by
  refine ⟨h.alloc h.size _, ?_⟩
  obtain ⟨cs, h1, h2⟩ := Own.lit (c := cEn) (e := 34) (base := W0.heap.size) (w := X) (xs := []) [] h.size (by simp) Reps.none
  exact ⟨cs, h1, h2.1, fun j x hj => by simp at hj⟩
theorem GoS.to {W0 wq W : World} {v : Value} {xs : List En} (h : GoS W0 wq v xs) (hb : Below wq.heap.size wq W) : GoS W0 W v xs := ⟨below_step h.bel hb, h.own.below hb⟩
theorem GoS.app {W0 wq : World} {v : Value} {xs : List En} (h : GoS W0 wq v xs) (ys : List En) (A : Option Addr) (m cap : Nat) (hm : ys.length = m) (hsl : Sl cEn W0 (fun k => k < W0.heap.size) A ys) (hn : xs.length + m ≤ 100) :
    ∃ v1 w1, (Builtin.append_ #[27, 27] 27 #[v, .slice A m cap]).run Try.prog wq = .ok v1 w1 ∧ GoS W0 w1 v1 (xs ++ ys) ∧ ∀ (b : Nat) (cur : Array Value) (fr : Nat × Nat), wq.heap[b]? = some (.cells cur 29 fr) → w1.heap[b]? = some (.cells cur 29 fr) := by
  have hlt := h.own.own.lt
  have hs1 : Sl cEn wq (fun k => k < W0.heap.size ∧ some k ≠ v.ownBlock) A ys := (hsl.move (fun k hk => h.bel.block k hk)).mono (fun k hk => ⟨hk, fun e => by have := (hlt k e.symm).1; omega⟩)
  obtain ⟨v1, w1, h1, h2, h3⟩ := OwnS.appendAllRun 27 34 27 W0.heap.size Try.underlying27 (.agg #[.int .i64 0, .int .i64 0, .string ⟨#[]⟩, .slice none 0 0]) 56 infoEn rfl (by decide) (by decide) h.own ys A m cap hm hs1 h.bel.size (by omega)
  refine ⟨v1, w1, h1, ⟨h.bel.grown h3 h.bel.size (fun k hk => (hlt k hk).1), h2⟩, fun b cur fr hb => (h3.block b (box_lt hb) (fun e => ?_)).trans hb⟩
  exact h.own.own.ne hb (by decide) e.symm
theorem sizeEn (w : World) : (sizeOf (Try.prog.elem 27)).run Try.prog w = .ok 4 w := by kernel_rfl
/-- What 'entries[k + 1:]' is. -/
theorem slice_from {S : Nat → Prop} (A : Option Addr) (n cap k : Nat) (h : k + 1 ≤ n) (hc : n ≤ cap) : ∃ A5 : Option Addr, (∀ wH : World, (Instr.slice 27 (.slice A n cap) (some (.int .i64 ((k : Int) + 1))) none none).run Try.prog wH = .ok (.slice A5 (n - (k + 1)) (cap - (k + 1))) wH) ∧ ∀ (W : World) (es : List En), es.length = n → Sl cEn W S A es → Sl cEn W S A5 (es.drop (k + 1)) := by
  refine ⟨if cap = k + 1 then A else A.map (·.add ((k + 1) * 4)), fun wH => ?_, fun W es he hs => ?_⟩
  · rw [run_slice_l wH 27 A n cap (by kernel_rfl) .i64 ((k : Int) + 1) (by omega) (by omega), sizeEn]
    have e : ((k : Int) + 1).toNat = k + 1 := by omega
    simp only [Result.andThen, sliced, e]
  · by_cases hk : cap = k + 1
    · rw [if_pos hk, List.drop_eq_nil_of_le (by omega)]
      exact Sl.nil
    · rw [if_neg hk]
      cases A with
      | none =>
        by_cases hp : 0 < es.length
        · obtain ⟨ad, e, _⟩ := hs.2 hp
          cases e
        · omega
      | some ad => exact hs.drop (k + 1)
theorem GoS.slo {W0 wq : World} {v : Value} {xs : List En} (h : GoS W0 wq v xs) : ∃ A n cap, v = .slice A n cap := h.own.own.slc
theorem GoS.read {W0 wq : World} {A : Option Addr} {n cap : Nat} {xs : List En} (h : GoS W0 wq (.slice A n cap) xs) : Sl cEn wq (fun j => j < wq.heap.size) A xs :=
  ((h.own.sl (S' := fun _ => True) (fun _ _ => trivial) (fun _ _ => trivial)).bound (by decide)).mono (fun _ hk => hk.2)
theorem GoS.fin {W0 wq : World} {A : Option Addr} {n cap b : Nat} {xs gn : List En} (h : GoS W0 wq (.slice A n cap) xs) (hx : xs = gn) (hB : wq.heap[b]? = some (.cells #[.slice none 0 0, .int .i64 0] 29 (0, 0))) (hb : W0.heap.size ≤ b) :
    ((wq.setCell ⟨b, 0, none⟩ (.slice A n cap)).setCell ⟨b, 1, none⟩ (.int .i64 0)).heap[b]? = some (.cells #[.slice A gn.length cap, .int .i64 0] 29 (0, 0)) ∧ Sl cEn ((wq.setCell ⟨b, 0, none⟩ (.slice A n cap)).setCell ⟨b, 1, none⟩ (.int .i64 0)) (fun j => j < ((wq.setCell ⟨b, 0, none⟩ (.slice A n cap)).setCell ⟨b, 1, none⟩ (.int .i64 0)).heap.size) A gn ∧ Below W0.heap.size W0 ((wq.setCell ⟨b, 0, none⟩ (.slice A n cap)).setCell ⟨b, 1, none⟩ (.int .i64 0)) := by
  subst hx
  have hn : xs.length = n := h.own.own.num.1
  subst hn
  have hne := h.own.own.ne hB (by decide)
  have k : (wq.setCell ⟨b, 0, none⟩ (.slice A xs.length cap)).heap[b]? = some (.cells #[.slice A xs.length cap, .int .i64 0] 29 (0, 0)) := heap_setCell_same _ _ 0 _ _ _ hB
  have g : GoS W0 ((wq.setCell ⟨b, 0, none⟩ (.slice A xs.length cap)).setCell ⟨b, 1, none⟩ (.int .i64 0)) (.slice A xs.length cap) xs := ⟨(h.bel.setCell hb _).setCell hb _, (h.own.set _ (by omega) hne).set _ (by omega) hne⟩
  exact ⟨heap_setCell_same _ _ 1 _ _ _ k, g.read, g.bel⟩
end Go.Proofs.Ythgnfpbbhiegfaa
