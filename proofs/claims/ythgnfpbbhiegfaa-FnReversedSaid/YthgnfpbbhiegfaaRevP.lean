/- An entry and its reverse, in plain Lean: the reverse of a right entry is right, and both together leave each balance as it was. -/
import Derived.Test.YthgnfpbbhiegfaaBal
import Derived.Test.YthgnfpbbhiegfaaLedger
namespace Go.Proofs.Ythgnfpbbhiegfaa
open Go.RowKit
/-- A line with its amounts negated. -/
def negL (x : Ln) : Ln := { x with amount := -x.amount, base := -x.base }
def negTo (ls : List Ln) (j : Nat) : List Ln := (ls.take j).map negL ++ ls.drop j
theorem negTo_len (ls : List Ln) (j : Nat) : (negTo ls j).length = ls.length := by simp [negTo]; omega
theorem negTo_el (ls : List Ln) (j : Nat) (h : j < ls.length) : el (negTo ls j) j = el ls j := by
  rw [el_eq _ _ (by rw [negTo_len]; exact h), el_eq _ _ h]
  unfold negTo
  rw [List.getElem_append_right (by simp; omega)]
  simp [Nat.min_eq_left (Nat.le_of_lt h)]
theorem negTo_set (ls : List Ln) (j : Nat) (h : j < ls.length) : (negTo ls j).set j (negL (el ls j)) = negTo ls (j + 1) := by
  unfold negTo
  have hl : ((ls.take j).map negL).length = j := by rw [List.length_map, List.length_take, Nat.min_eq_left (by omega)]
  rw [List.set_append_right _ _ (by omega), hl, Nat.sub_self, List.drop_eq_getElem_cons h, List.set_cons_zero, List.take_add_one, List.getElem?_eq_getElem h, Option.toList_some, List.map_append, el_eq ls j h, List.append_assoc]
  rfl
theorem negTo_zero (ls : List Ln) : negTo ls 0 = ls := by simp [negTo]
theorem negTo_all (ls : List Ln) : negTo ls ls.length = ls.map negL := by simp [negTo]
theorem el_map (ls : List Ln) (j : Nat) (h : j < ls.length) : el (ls.map negL) j = negL (el ls j) := by
  rw [el_eq _ _ (by simpa using h), el_eq _ _ h, List.getElem_map]
theorem lineB_neg {f : Fr} {x : Ln} (h : lineB f x = true) : lineB f (negL x) = true := by
  obtain ⟨h1, h2, h3, h4, h5, h6, h7⟩ := lineB_t h
  unfold lineB
  simp only [Bool.and_eq_true, Bool.or_eq_true, decide_eq_true_eq]
  refine ⟨⟨⟨⟨⟨⟨inB_mk h1, h2⟩, inB_mk h3⟩, inB_mk h4⟩, inB_mk ?_⟩, inB_mk ?_⟩, ?_⟩
  · show -100000000000 ≤ -x.amount ∧ -x.amount ≤ 100000000000
    omega
  · show -100000000000 ≤ -x.base ∧ -x.base ≤ 100000000000
    omega
  · show x.cur ≠ 0 ∨ -x.amount = -x.base
    by_cases e : x.cur = 0
    · exact .inr (by rw [h7 e])
    · exact .inl e
theorem sumTo_neg {p : Ln → Bool} {g : Ln → Int} {ls : List Ln} (hp : ∀ x, p (negL x) = p x) (hg : ∀ x, g (negL x) = -g x) : ∀ k, k ≤ ls.length → sumTo p g (ls.map negL) k = -sumTo p g ls k
  | 0, _ => rfl
  | k + 1, h => by
    rw [sumTo, sumTo, sumTo_neg hp hg k (by omega), el_map ls k (by omega), hp, hg]
    split <;> omega
theorem balB_neg {ls : List Ln} {i : Nat} (hi : i < ls.length) (h : balB ls i = true) : balB (ls.map negL) i = true := by
  unfold balB curSum dimSum at *
  simp only [Bool.and_eq_true, decide_eq_true_eq] at *
  rw [List.length_map, el_map ls i hi, sumTo_neg (fun _ => rfl) (fun _ => rfl) _ (Nat.le_refl _), sumTo_neg (fun _ => rfl) (fun _ => rfl) _ (Nat.le_refl _)]
  have h1 := h.1
  have h2 := h.2
  exact ⟨by show -sumTo (fun x => decide (x.cur = (el ls i).cur)) Ln.amount ls ls.length = 0; omega, by show -sumTo (fun x => decide (x.dim = (el ls i).dim)) Ln.base ls ls.length = 0; omega⟩
/-- The reverse of a right entry is right. -/
theorem entInB_neg {f : Fr} {e : En} {day ref : Int} {t : ByteArray} (h : entInB f e = true) (hd : dayB day = true) (hr : inB ref 0 1000 = true) (ht : textB t = true) : entInB f ⟨day, ref, t, e.lines.map negL⟩ = true := by
  unfold entInB at *
  simp only [Bool.and_eq_true, List.all_eq_true, List.mem_range, List.length_map] at *
  obtain ⟨⟨⟨⟨⟨-, -⟩, -⟩, h4⟩, h5⟩, h6⟩ := h
  exact ⟨⟨⟨⟨⟨hd, hr⟩, ht⟩, h4⟩, fun k hk => by rw [el_map _ _ hk]; exact lineB_neg (h5 k hk)⟩, fun k hk => balB_neg hk (h6 k hk)⟩
def sumI : List Int → Int
  | [] => 0
  | x :: xs => x + sumI xs
theorem sumI_append (a b : List Int) : sumI (a ++ b) = sumI a + sumI b := by
  induction a with
  | nil => simp [sumI]
  | cons x xs ih => simp [sumI, ih]; omega
/-- What an entry brings to a balance. -/
def entAll (acc dim cur from' to' : Int) (g : Ln → Int) (e : En) : Int := entSum acc dim cur from' to' g e e.lines.length
theorem balSum_take (acc dim cur from' to' : Int) (g : Ln → Int) (es : List En) : ∀ k, k ≤ es.length → balSum acc dim cur from' to' g es k = sumI ((es.take k).map (entAll acc dim cur from' to' g))
  | 0, _ => rfl
  | k + 1, h => by
    rw [balSum, balSum_take acc dim cur from' to' g es k (by omega), List.take_add_one, List.getElem?_eq_getElem (by omega), Option.toList_some, List.map_append, sumI_append, el_eq es k (by omega)]
    simp [sumI, entAll]
theorem balSum_all (acc dim cur from' to' : Int) (g : Ln → Int) (es : List En) : balSum acc dim cur from' to' g es es.length = sumI (es.map (entAll acc dim cur from' to' g)) := by
  rw [balSum_take _ _ _ _ _ _ _ _ (Nat.le_refl _), List.take_length]
theorem entAll_neg {acc dim cur : Int} {g : Ln → Int} (hg : ∀ x, g (negL x) = -g x) {e : En} {day ref : Int} {t : ByteArray} (h1 : dayB e.day = true) (h2 : dayB day = true) :
    entAll acc dim cur 0 40000 g ⟨day, ref, t, e.lines.map negL⟩ = -entAll acc dim cur 0 40000 g e := by
  have q1 := inB_t h1
  have q2 := inB_t h2
  unfold entAll entSum
  simp only [List.length_map]
  rw [sumTo_neg (fun x => rfl) hg _ (Nat.le_refl _)]
  congr 2
  funext x
  simp [q1.1, q1.2, q2.1, q2.2]
theorem split_at {es : List En} {k : Nat} (hk : k < es.length) : es = es.take k ++ (el es k :: es.drop (k + 1)) := by
  rw [el_eq es k hk, ← List.drop_eq_getElem_cons hk, List.take_append_drop]
/-- An entry and its reverse: each balance is what it is without both. -/
theorem bal_rev {acc dim cur : Int} {g : Ln → Int} (hg : ∀ x, g (negL x) = -g x) {es : List En} {k : Nat} (hk : k < es.length) {day ref : Int} {t : ByteArray} (h1 : dayB (el es k).day = true) (h2 : dayB day = true) :
    balSum acc dim cur 0 40000 g (es ++ [⟨day, ref, t, (el es k).lines.map negL⟩]) (es ++ [(⟨day, ref, t, (el es k).lines.map negL⟩ : En)]).length = balSum acc dim cur 0 40000 g (es.take k ++ es.drop (k + 1)) (es.take k ++ es.drop (k + 1)).length := by
  rw [balSum_all, balSum_all]
  have e := split_at hk
  rw [List.map_append, sumI_append, List.map_append, sumI_append]
  have e2 : sumI (es.map (entAll acc dim cur 0 40000 g)) = sumI ((es.take k).map (entAll acc dim cur 0 40000 g)) + (entAll acc dim cur 0 40000 g (el es k) + sumI ((es.drop (k + 1)).map (entAll acc dim cur 0 40000 g))) := by
    conv => lhs; rw [e]
    rw [List.map_append, sumI_append]
    rfl
  rw [e2]
  simp only [List.map_cons, List.map_nil, sumI]
  rw [entAll_neg hg h1 h2]
  omega
theorem el_append_left {es fs : List En} {j : Nat} (h : j < es.length) : el (es ++ fs) j = el es j := by
  rw [el_eq _ _ (by rw [List.length_append]; omega), el_eq _ _ h, List.getElem_append_left]
def okE (e : En) : Prop := e.lines.length ≤ 60 ∧ ∀ x ∈ e.lines, amB x.amount = true ∧ amB x.base = true
theorem Mild.of {es : List En} (hn : es.length ≤ 1000) (h : ∀ e ∈ es, okE e) : Mild es := by
  refine ⟨hn, fun j hj => ?_⟩
  rw [el_eq es j hj]
  obtain ⟨h1, h2⟩ := h _ (List.getElem_mem hj)
  refine ⟨h1, fun i hi => ?_⟩
  rw [el_eq _ i hi]
  exact h2 _ (List.getElem_mem hi)
theorem entIn_ok {f : Fr} {e : En} (h : entInB f e = true) : okE e := by
  unfold entInB at h
  simp only [Bool.and_eq_true, List.all_eq_true, List.mem_range] at h
  obtain ⟨⟨⟨-, h4⟩, h5⟩, -⟩ := h
  have := inB_t h4
  refine ⟨by omega, fun x hx => ?_⟩
  obtain ⟨i, hi, rfl⟩ := List.getElem_of_mem hx
  have h1 := lineB_t (h5 i hi)
  rw [el_eq _ i hi] at h1
  exact ⟨inB_mk h1.2.2.2.2.1, inB_mk h1.2.2.2.2.2.1⟩
end Go.Proofs.Ythgnfpbbhiegfaa
