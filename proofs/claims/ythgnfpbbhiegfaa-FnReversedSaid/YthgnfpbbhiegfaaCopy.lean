/- copy(dst, src), all of it, of elements of any size. Over any program. -/
import Derived.Test.YthgnfpbbhiegfaaOwn2
import Derived.Laws.CopyRow
namespace Go.Proofs.Ythgnfpbbhiegfaa
open Go.RowKit
section
variable {α : Type} {c : Cod α} {w : World} {P : Program}
theorem take_all_toArray {cs ds : List Value} {n : Nat} (h : cs.length = n) : (cs ++ ds).take n = cs := by subst h; simp
theorem Own.copyRun (t e ty : TypeId) (base : Nat) (ht : P.underlying t = some (.slice e)) (hinfo : (P.info? e).map (·.size) = some c.sz) {g cap scap : Nat} {xs ys : List α} {A : Option Addr}
    (HO : Own c e w base (.slice (some ⟨g, 0, none⟩) xs.length cap) xs) (hlen : ys.length = xs.length) (hsl : Sl c w (fun k => some k ≠ some g) A ys) :
    ∃ w1, (Builtin.copy_ #[t, t] ty #[.slice (some ⟨g, 0, none⟩) xs.length cap, .slice A ys.length scap]).run P w = .ok (.int .i64 (ys.length : Int)) w1 ∧ Own c e w1 base (.slice (some ⟨g, 0, none⟩) xs.length cap) ys ∧ w.grownBy w1 (some g) := by
  obtain ⟨cs, hr, hcell⟩ := hsl.cells
  obtain ⟨ds, hown, hrd⟩ := HO
  rcases hown.2 with ⟨h', _⟩ | ⟨g', cap', cur, h', hb, hg, hnc, hcm, hcs, htake⟩
  · simp at h'
  simp only [Value.slice.injEq, Option.some.injEq, Addr.mk.injEq, and_true, true_and] at h'
  obtain ⟨rfl, rfl⟩ := h'
  obtain ⟨i0, hi, hsz⟩ := Option.map_eq_some_iff.1 hinfo
  have hone := hr.one (fun _ _ hx => ⟨c.len hx, c.one hx⟩)
  have hcl : cs.length = ys.length * c.sz := hr.1
  have hfit : 0 + 0 + cs.length ≤ cur.size := by
    rw [hcs, hcl, hlen]
    have := Nat.mul_le_mul_right c.sz hnc
    omega
  have hst := run_storeCells_at P g 0 e cs 0 cur w hg hfit hone
  have hmin : Nat.min ys.length xs.length = ys.length := by rw [hlen]; exact Nat.min_self _
  have key : (Builtin.copy_ #[t, t] ty #[.slice (some ⟨g, 0, none⟩) xs.length cap, .slice A ys.length scap]).run P w = .ok (goInt ys.length) (w.setRow g (cur.toList.take (0 + 0) ++ cs ++ cur.toList.drop (0 + 0 + cs.length)).toArray) := by
    cases A with
    | some ad =>
      have hl := run_loadCells_list (P := P) w ad cs (fun j v hv => by obtain ⟨ad', he, hc⟩ := hcell j v hv; cases he; exact hc)
      rw [hcl] at hl
      simp [Builtin.copy_, run_underlying ht, Builtin.lenOf, Builtin.firstCells, sizeOf, typeInfo, hi, hsz, hmin, hl, hst]
    | none =>
      have hys : ys = [] := by
        by_cases hp : 0 < ys.length
        · obtain ⟨ad, he, _⟩ := hsl.2 hp
          cases he
        · exact List.eq_nil_of_length_eq_zero (by omega)
      subst hys
      have hcs0 : cs = [] := List.eq_nil_of_length_eq_zero (by rw [hcl]; simp)
      subst hcs0
      have hself := setRow_self w g cur e (0, 0) hg
      simp [Builtin.copy_, run_underlying ht, Builtin.lenOf, Builtin.firstCells, sizeOf, typeInfo, hi, storeCells, hself]
  have hnew : (cur.toList.take (0 + 0) ++ cs ++ cur.toList.drop (0 + 0 + cs.length)).toArray = (cs ++ cur.toList.drop cs.length).toArray := by simp
  rw [hnew] at key
  have hgrow : w.grownBy (w.setRow g (cs ++ cur.toList.drop cs.length).toArray) (some g) := by
    refine ⟨rfl, rfl, rfl, by simp [World.setRow], fun k _ hk => ?_⟩
    have hne : g ≠ k := fun e => hk (by rw [e])
    simp [World.setRow, Array.getElem?_modify, hne]
  refine ⟨_, key, ⟨cs, ⟨by rw [hcl], .inr ⟨g, cap, (cs ++ cur.toList.drop cs.length).toArray, by rw [hlen], hb, setRow_heap w g cur _ e _ hg, by rw [hlen]; exact hnc, hcm, ?_, ?_⟩⟩, ?_⟩, hgrow⟩
  · simp [hcs]
    rw [hcs] at hfit
    omega
  · rw [← hcl]
    simp
  · refine hr.imp (fun x d hx => ?_)
    have h1 := c.bound hx
    exact c.mono (fun k hk => hk.1) (c.move (fun k hk => hgrow.block k hk.2 hk.1) h1)
theorem Own.copyRunN (t e ty : TypeId) (base : Nat) (ht : P.underlying t = some (.slice e)) (hinfo : (P.info? e).map (·.size) = some c.sz) {g n cap scap : Nat} {xs ys : List α} {A : Option Addr}
    (HO : Own c e w base (.slice (some ⟨g, 0, none⟩) n cap) xs) (hn : xs.length = n) (hlen : ys.length = n) (hsl : Sl c w (fun k => some k ≠ some g) A ys) :
    ∃ w1, (Builtin.copy_ #[t, t] ty #[.slice (some ⟨g, 0, none⟩) n cap, .slice A n scap]).run P w = .ok (.int .i64 (n : Int)) w1 ∧ Own c e w1 base (.slice (some ⟨g, 0, none⟩) n cap) ys ∧ w.grownBy w1 (some g) := by
  subst hn
  obtain ⟨w1, h1, h2⟩ := Own.copyRun (scap := scap) t e ty base ht hinfo HO hlen hsl
  rw [hlen] at h1
  exact ⟨w1, h1, h2⟩
end
end Go.Proofs.Ythgnfpbbhiegfaa
