/- Charts of accounts, in plain Lean: when one is right, and how deep its accounts lie. -/
import Derived.Test.YthgnfpbbhiegfaaBase
namespace Go.Proofs.Ythgnfpbbhiegfaa
/-- The parent of account k. -/
def par (l : List Ac) (k : Nat) : Int := (el l k).parent
/-- Up the parents till p is met (or nothing is left). -/
def climb (l : List Ac) (p : Int) : Nat → Int → Int
  | 0, on => on
  | n + 1, on => if 0 ≤ on ∧ on ≠ p then climb l p n (par l on.toNat) else on
def path (l : List Ac) (p on : Int) : Int := climb l p (on.toNat + 1) on
/-- Below place i parents stand ahead of their parts. -/
def Dec (l : List Ac) (i : Nat) : Prop := ∀ j, j < i → par l j < j
theorem Dec.less {l : List Ac} {i j : Nat} (h : Dec l i) (hj : j ≤ i) : Dec l j := fun k hk => h k (by omega)
theorem climb_neg {l : List Ac} {p on : Int} (h : ¬ (0 ≤ on ∧ on ≠ p)) : ∀ n, climb l p n on = on
  | 0 => rfl
  | _ + 1 => by rw [climb, if_neg h]
theorem climb_more {l : List Ac} {p : Int} {i : Nat} (h : Dec l i) : ∀ (n m : Nat) (on : Int), on < i → on.toNat < n → on.toNat < m → climb l p n on = climb l p m on
  | 0, _, _, _, hn, _ => by omega
  | _ + 1, 0, _, _, _, hm => by omega
  | n + 1, m + 1, on, hi, hn, hm => by
    by_cases hc : 0 ≤ on ∧ on ≠ p
    · rw [climb, climb, if_pos hc, if_pos hc]
      have hd := h on.toNat (by omega)
      by_cases h0 : 0 ≤ par l on.toNat
      · exact climb_more h n m _ (by omega) (by omega) (by omega)
      · rw [climb_neg (by omega), climb_neg (by omega)]
    · rw [climb_neg hc, climb_neg hc]
theorem path_stop {l : List Ac} {p on : Int} (h : ¬ (0 ≤ on ∧ on ≠ p)) : path l p on = on := climb_neg h _
theorem path_step {l : List Ac} {p on : Int} {i : Nat} (h : Dec l i) (hc : 0 ≤ on ∧ on ≠ p) (hi : on < i) : path l p on = path l p (par l on.toNat) := by
  have hd := h on.toNat (by omega)
  unfold path
  rw [climb, if_pos hc]
  by_cases h0 : 0 ≤ par l on.toNat
  · exact climb_more h _ _ _ (by omega) (by omega) (by omega)
  · rw [climb_neg (by omega), climb_neg (by omega)]
theorem path_found {l : List Ac} {p : Int} {i : Nat} (h : Dec l i) : ∀ (n : Nat) (on : Int), on.toNat < n → on < i → 0 ≤ path l p on → path l p on = p ∧ path l p on ≤ on
  | 0, _, hn, _, _ => by omega
  | n + 1, on, hn, hi, h0 => by
    by_cases hc : 0 ≤ on ∧ on ≠ p
    · have hd := h on.toNat (by omega)
      rw [path_step h hc hi] at h0 ⊢
      by_cases hp : 0 ≤ par l on.toNat
      · have := path_found h n (par l on.toNat) (by omega) (by omega) h0
        exact ⟨this.1, by omega⟩
      · rw [path_stop (by omega)] at h0
        omega
    · rw [path_stop hc] at h0 ⊢
      exact ⟨by omega, by omega⟩
def deepN (l : List Ac) : Nat → Nat → Nat
  | 0, _ => 0
  | n + 1, k => if 0 ≤ par l k then deepN l n (par l k).toNat + 1 else 0
/-- How many accounts account k is part of. -/
def deep (l : List Ac) (k : Nat) : Nat := deepN l (k + 1) k
theorem deepN_more {l : List Ac} {i : Nat} (h : Dec l i) : ∀ (n m k : Nat), k < i → k < n → k < m → deepN l n k = deepN l m k
  | 0, _, _, _, hn, _ => by omega
  | _ + 1, 0, _, _, _, hm => by omega
  | n + 1, m + 1, k, hi, hn, hm => by
    by_cases hc : 0 ≤ par l k
    · rw [deepN, deepN, if_pos hc, if_pos hc]
      have hd := h k hi
      rw [deepN_more h n m _ (by omega) (by omega) (by omega)]
    · rw [deepN, deepN, if_neg hc, if_neg hc]
theorem deep_step {l : List Ac} {i k : Nat} (h : Dec l i) (hk : k < i) (h0 : 0 ≤ par l k) : deep l k = deep l (par l k).toNat + 1 := by
  have hd := h k hk
  unfold deep
  rw [deepN, if_pos h0]
  congr 1
  exact deepN_more h _ _ _ (by omega) (by omega) (by omega)
theorem deep_zero {l : List Ac} {k : Nat} (h0 : ¬ 0 ≤ par l k) : deep l k = 0 := by unfold deep; rw [deepN, if_neg h0]
theorem deep_le {l : List Ac} {i : Nat} (h : Dec l i) : ∀ (n k : Nat), k ≤ n → k < i → deep l k ≤ k
  | 0, k, hn, hk => by
    have hd := h k hk
    rw [deep_zero (by omega)]
    omega
  | n + 1, k, hn, hk => by
    have hd := h k hk
    by_cases h0 : 0 ≤ par l k
    · rw [deep_step h hk h0]
      have := deep_le h n (par l k).toNat (by omega) (by omega)
      omega
    · rw [deep_zero h0]
      omega

def sameT (a b : ByteArray) : Bool := a.toList == b.toList
/-- Is account i right, those ahead of it being so? -/
def accB (l : List Ac) (i : Nat) : Bool :=
  nameB (el l i).code && inB (el l i).kind 1 5 && (List.range i).all (fun k => !sameT (el l k).code (el l i).code) &&
    (decide (par l i = -1) || (decide (0 ≤ path l (par l i) ((i : Int) - 1)) && decide ((el l (path l (par l i) ((i : Int) - 1)).toNat).kind = (el l i).kind) && decide (deep l i ≤ 8)))
def chartB (l : List Ac) : Bool := inB l.length 1 120 && (List.range l.length).all (accB l)
theorem acc_par {l : List Ac} {i : Nat} (h : accB l i = true) (hd : Dec l i) : par l i = -1 ∨ (0 ≤ par l i ∧ par l i < i ∧ path l (par l i) ((i : Int) - 1) = par l i) := by
  unfold accB at h
  simp only [Bool.and_eq_true, Bool.or_eq_true, decide_eq_true_eq] at h
  rcases h.2 with h1 | h1
  · exact .inl h1
  · have := path_found hd i ((i : Int) - 1) (by
      by_cases hi : i = 0
      · subst hi
        rw [path_stop (by omega)] at h1
        omega
      · omega) (by omega) h1.1.1
    exact .inr ⟨by omega, by omega, this.1⟩
theorem accs_dec {l : List Ac} : ∀ (i : Nat), (∀ j, j < i → accB l j = true) → Dec l i
  | 0, _ => fun j hj => by omega
  | i + 1, h => fun j hj => by
    have hd := accs_dec i (fun j hj => h j (by omega))
    by_cases e : j = i
    · subst e
      rcases acc_par (h j hj) hd with h1 | h1 <;> omega
    · exact hd j (by omega)
theorem chartB_t {l : List Ac} (h : chartB l = true) : 1 ≤ l.length ∧ l.length ≤ 120 ∧ (∀ j, j < l.length → accB l j = true) ∧ Dec l l.length := by
  unfold chartB at h
  rw [Bool.and_eq_true, List.all_eq_true] at h
  have h1 := inB_t h.1
  have h2 : ∀ j, j < l.length → accB l j = true := fun j hj => h.2 j (List.mem_range.2 hj)
  exact ⟨by omega, by omega, h2, accs_dec _ h2⟩
theorem chartB_no {l : List Ac} {i : Nat} (hi : i < l.length) (h : accB l i = false) : chartB l = false := by
  unfold chartB
  rw [Bool.and_eq_false_iff]
  right
  rw [List.all_eq_false]
  exact ⟨i, List.mem_range.2 hi, by simp [h]⟩
theorem chartB_len {l : List Ac} (h : inB l.length 1 120 = false) : chartB l = false := by
  unfold chartB
  rw [h, Bool.false_and]
theorem chartB_yes {l : List Ac} (h : inB l.length 1 120 = true) (ha : ∀ j, j < l.length → accB l j = true) : chartB l = true := by
  unfold chartB
  rw [h, Bool.true_and, List.all_eq_true]
  exact fun j hj => ha j (List.mem_range.1 hj)
end Go.Proofs.Ythgnfpbbhiegfaa
