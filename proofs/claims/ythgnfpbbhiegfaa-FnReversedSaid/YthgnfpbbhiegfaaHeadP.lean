/- The chain of a journal, in plain Lean: an entry's numbers, and the head that they make. -/
import Derived.Test.YthgnfpbbhiegfaaEntryP
namespace Go.Proofs.Ythgnfpbbhiegfaa
theorem bt_bd (s : ByteArray) (k : Nat) : 0 ≤ bt s k ∧ bt s k ≤ 255 := by
  unfold bt
  have := (s.data.getD k 0).toNat_lt
  omega
def lnNums (x : Ln) : List Int := [x.account, x.dim, x.cur, x.amount, x.base]
def bytesTo (s : ByteArray) (k : Nat) : List Int := (List.range k).map (bt s)
def linesTo (ls : List Ln) : Nat → List Int
  | 0 => []
  | k + 1 => linesTo ls k ++ lnNums (el ls k)
/-- An entry's numbers, in the order of the chain. -/
def numsOf (e : En) : List Int := [e.day, e.ref, (e.text.size : Int)] ++ bytesTo e.text e.text.size ++ [(e.lines.length : Int)] ++ linesTo e.lines e.lines.length
theorem bytesTo_succ (s : ByteArray) (k : Nat) : bytesTo s (k + 1) = bytesTo s k ++ [bt s k] := by simp [bytesTo, List.range_succ]
theorem bytesTo_len (s : ByteArray) (k : Nat) : (bytesTo s k).length = k := by simp [bytesTo]
theorem linesTo_len (ls : List Ln) : ∀ k, (linesTo ls k).length = 5 * k
  | 0 => rfl
  | k + 1 => by rw [linesTo, List.length_append, linesTo_len ls k]; simp [lnNums]; omega
def inH (x : Int) : Bool := inB x (-549755813888) 549755813887
def linkN (h x : Int) : Int := (h * 1000003 + x + 549755813888) % 1099511627791
/-- The head behind the first k numbers; none: one of them is too great. -/
def goTo (xs : List Int) (h : Int) : Nat → Option Int
  | 0 => some h
  | k + 1 => (goTo xs h k).bind fun y => if inH (el xs k) then some (linkN y (el xs k)) else none
def stepE (h : Int) (e : En) : Option Int := if 60 < e.lines.length ∨ 40 < e.text.size then none else goTo (numsOf e) h (numsOf e).length
def headTo (es : List En) : Nat → Option Int
  | 0 => some 1
  | k + 1 => (headTo es k).bind fun h => stepE h (el es k)
def headOf (es : List En) : Int := if 1000 < es.length then 0 else (headTo es es.length).getD 0
theorem headOf_def (es : List En) : headOf es = if 1000 < es.length then 0 else (headTo es es.length).getD 0 := rfl
theorem headTo_succ (es : List En) (k : Nat) : headTo es (k + 1) = (headTo es k).bind fun h => stepE h (el es k) := rfl
theorem goTo_succ (xs : List Int) (h : Int) (k : Nat) : goTo xs h (k + 1) = (goTo xs h k).bind fun y => if inH (el xs k) then some (linkN y (el xs k)) else none := rfl
theorem linkN_def (h x : Int) : linkN h x = (h * 1000003 + x + 549755813888) % 1099511627791 := rfl
theorem numsOf_len (e : En) : (numsOf e).length = 4 + e.text.size + 5 * e.lines.length := by
  simp only [numsOf, List.length_append, bytesTo_len, linesTo_len, List.length_cons, List.length_nil]
  omega
theorem headTo_none {es : List En} {k : Nat} (h : headTo es k = none) : ∀ n, headTo es (k + n) = none
  | 0 => h
  | n + 1 => by rw [← Nat.add_assoc, headTo, headTo_none h n]; rfl
theorem headOf_none {es : List En} {k : Nat} (hk : k ≤ es.length) (h : headTo es k = none) : headOf es = 0 := by
  unfold headOf
  split
  · rfl
  · have := headTo_none h (es.length - k)
    rw [show k + (es.length - k) = es.length by omega] at this
    rw [this]
    rfl
theorem goTo_none {xs : List Int} {h : Int} {k : Nat} (hn : goTo xs h k = none) : ∀ n, goTo xs h (k + n) = none
  | 0 => hn
  | n + 1 => by rw [← Nat.add_assoc, goTo, goTo_none hn n]; rfl
theorem linkN_bd {h x : Int} : 0 ≤ linkN h x ∧ linkN h x < 1099511627791 := by unfold linkN; omega
theorem goTo_bd {xs : List Int} {h : Int} (h0 : 0 ≤ h ∧ h < 1099511627791) : ∀ (k : Nat) (y : Int), goTo xs h k = some y → 0 ≤ y ∧ y < 1099511627791
  | 0, y, hy => by simp [goTo] at hy; omega
  | k + 1, y, hy => by
    unfold goTo at hy
    cases hg : goTo xs h k with
    | none => rw [hg] at hy; cases hy
    | some z =>
      rw [hg] at hy
      simp only [Option.bind_some] at hy
      split at hy
      · injection hy with hy
        rw [← hy]
        exact linkN_bd
      · cases hy
theorem headTo_bd {es : List En} : ∀ (k : Nat) (y : Int), headTo es k = some y → 0 ≤ y ∧ y < 1099511627791
  | 0, y, hy => by simp [headTo] at hy; omega
  | k + 1, y, hy => by
    unfold headTo at hy
    cases hg : headTo es k with
    | none => rw [hg] at hy; cases hy
    | some z =>
      rw [hg] at hy
      simp only [Option.bind_some, stepE] at hy
      split at hy
      · cases hy
      · exact goTo_bd (headTo_bd k z hg) _ _ hy
end Go.Proofs.Ythgnfpbbhiegfaa
