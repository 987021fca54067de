/- The sums of an entry by currency and by part, as the program's map holds them. -/
import Derived.Test.YthgnfpbbhiegfaaEntryP
import Derived.Test.YthgnfpbbhiegfaaMap
namespace Go.Proofs.Ythgnfpbbhiegfaa
open Go.RowKit Go.Maps
theorem pairArr : WideMaps.ArrKey Try.prog 246 3 2 := ⟨Try.underlying246, by kernel_rfl, by kernel_rfl, by kernel_rfl⟩
theorem pairLaw : WideMaps.KeyLaw Try.prog 246 := pairArr.law
theorem pairKeyed : Keyed Try.prog 246 := Keyed.of_law pairLaw
def okI (x : Int) : Prop := (Lit.int .i64 x).wf = true
theorem typesSize : ∃ m, Try.prog.types.size = m + 1 := ⟨Try.prog.types.size - 1, by kernel_rfl⟩
theorem pk_ex : ∃ f : Int → Int → Lit, ∀ a b, okI a → okI b → keyOf Try.prog 246 (.agg #[.int .i64 a, .int .i64 b]) = some (f a b) :=
  ⟨fun a b => (keyOf Try.prog 246 (.agg #[.int .i64 a, .int .i64 b])).getD (.bool false), fun a b ha hb => by
    obtain ⟨m, hm⟩ := typesSize
    obtain ⟨kl, h⟩ := keyOf_pair (P := Try.prog) (k := 246) (e := 3) hm Try.underlying246 Try.underlying3 (by kernel_rfl) (by kernel_rfl) (by kernel_rfl) ha hb
    exact h.trans (congrArg some (congrArg (fun o => o.getD (.bool false)) h).symm)⟩
/-- How the key [2]int{a, b} is told. -/
noncomputable def pk : Int → Int → Lit := Classical.choose pk_ex
theorem pk_is {a b : Int} (ha : okI a) (hb : okI b) : keyOf Try.prog 246 (.agg #[.int .i64 a, .int .i64 b]) = some (pk a b) := Classical.choose_spec pk_ex a b ha hb
theorem pk_inj {a b c d : Int} (ha : okI a) (hb : okI b) (hc : okI c) (hd : okI d) (h : pk a b = pk c d) : a = c ∧ b = d := by
  have h1 := pk_is ha hb
  rw [h] at h1
  have := pairKeyed.inj h1 (pk_is hc hd)
  simpa using this
theorem ok0 : okI 0 := rfl
theorem ok1 : okI 1 := rfl
structure Sums (ls : List Ln) (k : Nat) (D : DataW Nat) : Prop where
  isM : IsMap D
  cur : ∀ c, okI c → D.atKey (pk 0 c) (.lit (.int .i64 0)) = .lit (.int .i64 (curSum ls c k))
  dim : ∀ d, okI d → D.atKey (pk 1 d) (.lit (.int .i64 0)) = .lit (.int .i64 (dimSum ls d k))
  hasC : ∀ j, j < k → has D (pk 0 (el ls j).cur) = true
  hasD : ∀ j, j < k → has D (pk 1 (el ls j).dim) = true
  all : ∀ kl, has D kl = true → ∃ j, j < k ∧ (kl = pk 0 (el ls j).cur ∨ kl = pk 1 (el ls j).dim)
theorem sums_none (ls : List Ln) : Sums ls 0 (.map []) where
  isM := isMap_empty
  cur := fun c _ => atKey_of_not_has (by simp [has_eq]) _
  dim := fun c _ => atKey_of_not_has (by simp [has_eq]) _
  hasC := fun j hj => absurd hj (Nat.not_lt_zero j)
  hasD := fun j hj => absurd hj (Nat.not_lt_zero j)
  all := fun kl h => by simp [has_eq] at h
theorem has_put {D : DataW Nat} (h : IsMap D) {kl kl' : Lit} (hk : WideAt.IsKeyLit kl) {d : DataW Nat} : has (D.put kl d) kl' = true ↔ kl' = kl ∨ has D kl' = true := by
  by_cases e : kl' = kl
  · subst e; simp [has_put_same h hk]
  · rw [has_put_other e]; simp [e]
theorem sums_put {ls : List Ln} {k : Nat} {D : DataW Nat} (h : Sums ls k D) (hc : okI (el ls k).cur) (hd : okI (el ls k).dim) :
    Sums ls (k + 1) ((D.put (pk 0 (el ls k).cur) (.lit (.int .i64 (curSum ls (el ls k).cur k + (el ls k).amount)))).put (pk 1 (el ls k).dim) (.lit (.int .i64 (dimSum ls (el ls k).dim k + (el ls k).base)))) := by
  have k0 := pairKeyed.key (pk_is ok0 hc)
  have k1 := pairKeyed.key (pk_is ok1 hd)
  have i1 : IsMap (D.put (pk 0 (el ls k).cur) (.lit (.int .i64 (curSum ls (el ls k).cur k + (el ls k).amount)))) := h.isM.put _ _
  refine ⟨i1.put _ _, fun c hcc => ?_, fun d hdd => ?_, fun j hj => ?_, fun j hj => ?_, fun kl hk => ?_⟩
  · rw [atKey_put_other (fun e => by have := pk_inj ok0 hcc ok1 hd e; omega)]
    by_cases e : (el ls k).cur = c
    · subst e
      rw [atKey_put_same h.isM k0, curSum_succ, if_pos rfl]
    · rw [atKey_put_other (fun e' => e (pk_inj ok0 hcc ok0 hc e').2.symm), h.cur c hcc, curSum_succ, if_neg e, Int.add_zero]
  · by_cases e : (el ls k).dim = d
    · subst e
      rw [atKey_put_same i1 k1, dimSum_succ, if_pos rfl]
    · rw [atKey_put_other (fun e' => e (pk_inj ok1 hdd ok1 hd e').2.symm), atKey_put_other (fun e' => by have := pk_inj ok1 hdd ok0 hc e'; omega), h.dim d hdd, dimSum_succ, if_neg e, Int.add_zero]
  · rw [has_put i1 k1, has_put h.isM k0]
    by_cases e : j = k
    · subst e; exact .inr (.inl rfl)
    · exact .inr (.inr (h.hasC j (by omega)))
  · rw [has_put i1 k1, has_put h.isM k0]
    by_cases e : j = k
    · subst e; exact .inl rfl
    · exact .inr (.inr (h.hasD j (by omega)))
  · rw [has_put i1 k1, has_put h.isM k0] at hk
    rcases hk with rfl | rfl | hk
    · exact ⟨k, by omega, .inr rfl⟩
    · exact ⟨k, by omega, .inl rfl⟩
    · obtain ⟨j, hj, h1⟩ := h.all kl hk
      exact ⟨j, by omega, h1⟩
/-- All that was visited is 0, and nothing is left. -/
theorem sums_zero {ls : List Ln} {D : DataW Nat} (h : Sums ls ls.length D) (hok : ∀ j, j < ls.length → okI (el ls j).cur ∧ okI (el ls j).dim) (hz : ∀ kl, has D kl = true → ∀ zd, D.atKey kl zd = .lit (.int .i64 0)) : (List.range ls.length).all (balB ls) = true := by
  rw [List.all_eq_true]
  intro j hj
  have hj := List.mem_range.1 hj
  have h1 := hz _ (h.hasC j hj) (.lit (.int .i64 0))
  have h2 := hz _ (h.hasD j hj) (.lit (.int .i64 0))
  rw [h.cur _ (hok j hj).1] at h1
  rw [h.dim _ (hok j hj).2] at h2
  simp at h1 h2
  simp [balB, h1, h2]
/-- Something is not 0. -/
theorem sums_not {ls : List Ln} {D : DataW Nat} (h : Sums ls ls.length D) (hok : ∀ j, j < ls.length → okI (el ls j).cur ∧ okI (el ls j).dim) {kl : Lit} {x : Int} (hk : has D kl = true) (hx : ∀ zd, D.atKey kl zd = .lit (.int .i64 x)) (h0 : x ≠ 0) : (List.range ls.length).all (balB ls) = false := by
  rw [List.all_eq_false]
  obtain ⟨j, hj, h1⟩ := h.all kl hk
  refine ⟨j, List.mem_range.2 hj, ?_⟩
  have hx := hx (.lit (.int .i64 0))
  rcases h1 with rfl | rfl
  · rw [h.cur _ (hok j hj).1] at hx
    simp at hx
    simp [balB, hx, h0]
  · rw [h.dim _ (hok j hj).2] at hx
    simp at hx
    simp [balB, hx, h0]
end Go.Proofs.Ythgnfpbbhiegfaa
