/- Entries of a journal, in plain Lean: when one is right. -/
import Derived.Test.YthgnfpbbhiegfaaFrame
namespace Go.Proofs.Ythgnfpbbhiegfaa
def lineB (f : Fr) (x : Ln) : Bool :=
  inB x.account 0 ((f.chart.length : Int) - 1) && leafB f.chart x.account && inB x.dim 0 (f.dims - 1) && inB x.cur 0 (f.curs - 1) && amB x.amount && amB x.base && (decide (x.cur ≠ 0) || decide (x.amount = x.base))
def textB (s : ByteArray) : Bool := (List.range s.size).all (fun k => decide (32 ≤ bt s k)) && decide (s.size ≤ 40)
/-- What g tells of the first k lines of which p is true, together. -/
def sumTo {α : Type} [Inhabited α] (p : α → Bool) (g : α → Int) (ls : List α) : Nat → Int
  | 0 => 0
  | k + 1 => sumTo p g ls k + if p (el ls k) then g (el ls k) else 0
theorem sumTo_bd {α : Type} [Inhabited α] {p : α → Bool} {g : α → Int} {ls : List α} {B : Int} (hB : 0 ≤ B) : ∀ (k : Nat), (∀ j, j < k → -B ≤ g (el ls j) ∧ g (el ls j) ≤ B) → -(B * k) ≤ sumTo p g ls k ∧ sumTo p g ls k ≤ B * k
  | 0, _ => by simp [sumTo]
  | k + 1, h => by
    have h1 := sumTo_bd (p := p) hB k (fun j hj => h j (by omega))
    have h2 := h k (by omega)
    unfold sumTo
    have e : B * ((k + 1 : Nat) : Int) = B * k + B := by rw [Int.natCast_add, Int.mul_add]; simp
    rw [e]
    split <;> omega
def curSum (ls : List Ln) (c : Int) (k : Nat) : Int := sumTo (fun x => decide (x.cur = c)) Ln.amount ls k
def dimSum (ls : List Ln) (d : Int) (k : Nat) : Int := sumTo (fun x => decide (x.dim = d)) Ln.base ls k
theorem curSum_succ (ls : List Ln) (c : Int) (k : Nat) : curSum ls c (k + 1) = curSum ls c k + if (el ls k).cur = c then (el ls k).amount else 0 := by simp [curSum, sumTo]
theorem dimSum_succ (ls : List Ln) (d : Int) (k : Nat) : dimSum ls d (k + 1) = dimSum ls d k + if (el ls k).dim = d then (el ls k).base else 0 := by simp [dimSum, sumTo]
theorem curSum_bd {ls : List Ln} {c : Int} (k : Nat) (h : ∀ j, j < k → -100000000000 ≤ (el ls j).amount ∧ (el ls j).amount ≤ 100000000000) : -(100000000000 * k) ≤ curSum ls c k ∧ curSum ls c k ≤ 100000000000 * k := sumTo_bd (by omega) k h
theorem dimSum_bd {ls : List Ln} {d : Int} (k : Nat) (h : ∀ j, j < k → -100000000000 ≤ (el ls j).base ∧ (el ls j).base ≤ 100000000000) : -(100000000000 * k) ≤ dimSum ls d k ∧ dimSum ls d k ≤ 100000000000 * k := sumTo_bd (by omega) k h
def balB (ls : List Ln) (i : Nat) : Bool := decide (curSum ls (el ls i).cur ls.length = 0) && decide (dimSum ls (el ls i).dim ls.length = 0)
/-- Is an entry right in a frame that is right? -/
def entInB (f : Fr) (e : En) : Bool :=
  dayB e.day && inB e.ref 0 1000 && textB e.text && inB e.lines.length 2 60 && (List.range e.lines.length).all (fun k => lineB f (el e.lines k)) && (List.range e.lines.length).all (balB e.lines)
def entB (f : Fr) (e : En) : Bool := frameB f && entInB f e
theorem frameB_t {f : Fr} (h : frameB f = true) : chartB f.chart = true ∧ (1 ≤ f.dims ∧ f.dims ≤ 20) ∧ (1 ≤ f.curs ∧ f.curs ≤ 20) := by
  unfold frameB at h
  simp only [Bool.and_eq_true] at h
  exact ⟨h.1.1, inB_t h.1.2, inB_t h.2⟩
theorem lineB_t {f : Fr} {x : Ln} (h : lineB f x = true) : (0 ≤ x.account ∧ x.account ≤ (f.chart.length : Int) - 1) ∧ leafB f.chart x.account = true ∧ (0 ≤ x.dim ∧ x.dim ≤ f.dims - 1) ∧ (0 ≤ x.cur ∧ x.cur ≤ f.curs - 1) ∧ (-100000000000 ≤ x.amount ∧ x.amount ≤ 100000000000) ∧ (-100000000000 ≤ x.base ∧ x.base ≤ 100000000000) ∧ (x.cur = 0 → x.amount = x.base) := by
  unfold lineB at h
  simp only [Bool.and_eq_true, Bool.or_eq_true, decide_eq_true_eq] at h
  obtain ⟨⟨⟨⟨⟨⟨h1, h2⟩, h3⟩, h4⟩, h5⟩, h6⟩, h7⟩ := h
  exact ⟨inB_t h1, h2, inB_t h3, inB_t h4, inB_t h5, inB_t h6, fun e => h7.resolve_left (fun h => h e)⟩
end Go.Proofs.Ythgnfpbbhiegfaa
