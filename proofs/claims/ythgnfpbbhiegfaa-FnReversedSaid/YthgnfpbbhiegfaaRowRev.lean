/- laws.FnReversed answers true for every input: an entry of a drawn right ledger and its reverse, posted, leave every account's balance as it was. No condition. -/
import Derived.Test.YthgnfpbbhiegfaaRows
import Derived.Test.YthgnfpbbhiegfaaLaw
import Derived.WalkKit
import Derived.ProofKit
import Derived.OpenShut
import Derived.ShutString
import Derived.ChangeOld
import Derived.Below
import Derived.SizedLaws
namespace Go.Proofs.Ythgnfpbbhiegfaa.fnReversed
open Go.ChangeShapes Go.WideShapes Go.ChangeAt Go.RowKit
open Go.ChangeMaps (open_string shut_string)
set_option linter.unusedVariables false
theorem own : ownKnob Try.prog.godebug = none := by kernel_rfl
theorem laidOut : laidOutB Try.prog = true := by kernel_rfl
def IsRow (k : IntKind) (w : World) (a : Option Addr) (len cap : Nat) (zs : List Int) : Prop :=
  (a = none ∧ len = 0 ∧ cap = 0 ∧ zs = []) ∨
  ∃ x, a = some x ∧ len ≤ cap ∧ cap ≤ maxLen ∧ zs.length = cap ∧ (∀ i, i < zs.length → w.cell? (x.add i) = some (.int k (zs.getD i 0))) ∧ ∀ n ∈ zs, (Lit.int k n).wf = true
/-- The bytes that came in read as a slice of them. -/
theorem row_sl {w : World} {a : Option Addr} {len cap : Nat} {zs : List Int} (h : IsRow .u8 w a len cap zs) : ∃ code : List Int, code.length = len ∧ Sl cU8 w (fun _ => True) a code ∧ ∀ j, j < code.length → 0 ≤ code.getD j 0 ∧ code.getD j 0 ≤ 255 := by
  rcases h with ⟨rfl, rfl, rfl, rfl⟩ | ⟨x, rfl, hl, hm, hz, hc, hw⟩
  · exact ⟨[], rfl, Sl.nil, fun j hj => by simp at hj⟩
  · have hn : (zs.take len).length = len := by rw [List.length_take]; omega
    refine ⟨zs.take len, hn, ⟨by simp only [maxLen] at hm; omega, fun hp => ⟨x, rfl, trivial, fun j y hj => ⟨[.int .u8 y], rfl, fun i u hu => ?_⟩⟩⟩, fun j hj => ?_⟩
    · cases i with
      | zero =>
        obtain rfl : Value.int .u8 y = u := by simpa using hu
        have hjl : j < len := by have := (List.getElem?_eq_some_iff.1 hj).1; omega
        have h1 := hc j (by omega)
        have h2 : zs.getD j 0 = y := by
          rw [List.getElem?_take, if_pos hjl] at hj
          simp [hj]
        rw [h2] at h1
        simpa [cU8, Cod.scalar] using h1
      | succ i => simp at hu
    · rw [hn] at hj
      have hjz : j < zs.length := by omega
      have he : (zs.take len).getD j 0 = zs[j] := by simp [hj, hjz]
      have := hw zs[j] (List.getElem_mem hjz)
      rw [he]
      simp only [Lit.wf] at this
      have e1 : IntKind.u8.min = 0 := rfl
      have e2 : IntKind.u8.max = 255 := rfl
      simp [e1, e2] at this
      omega
set_option maxRecDepth 100000 in
theorem lifted (os : Os) (started : os.Started) (H : Type) (enc : TypeId × Value → H) :
    ReturnsInHanded {} Try.checked os 3 .any (Rows.fnReversedSpec.pre6 enc Try.prog Try.f3 Rows.fnReversedRow.domain false) (Rows.fnReversedSpec.post enc Try.prog Try.f3 false true false false) := by
  refine returnsInHanded_of_change_sized (C := Try.checked) own started (by kernel_rfl) Try.func3
    (ChangeSpec.witness6 (enc := enc) (C := Try.checked) false ⟨#[], #[.slice none 0 0], []⟩ 8 (by kernel_rfl) (by kernel_rfl) (by kernel_rfl) (by kernel_rfl)) ?_
  intro W base args ds gs before hval0 hW hcnd hsz0 _
  have hval : ∀ (j : Nat) t v, Try.f3.params[j]? = some t → args[j]? = some v → Value.okWide Try.prog W .any base t v := hval0
  have hW' := hW
  obtain ⟨p, q, hA0, hV, rfl, hfz, hnd⟩ := hW
  have hA : DataW.TrodAll enc Try.prog W 0 (fun _ => true) true Try.f3.params.toList args.toList ds p := hA0
  rw [Try.params3] at hA hval
  obtain ⟨v0, vs0, d0, ds0, p0, q0, hargs, rfl, rfl, h0, r0⟩ := trodAll_cons hA
  obtain ⟨rfl, rfl, rfl⟩ := trodAll_nil r0
  obtain rfl : args = #[v0] := by cases args; simp_all
  obtain ⟨rfl, rfl⟩ := trodVars_none hV
  obtain ⟨a0, len0, cap0, rfl⟩ := okWide_slice Try.underlying22 (hval 0 22 v0 rfl rfl)
  have k0 := h0
  have lt0 : ∀ x ∈ p0, x.block < W.heap.size := by obtain ⟨m, hm⟩ := k0; exact DataW.trod_lt m _ _ _ hm
  obtain ⟨z0, w0⟩ : ∃ zs, IsRow .u8 W a0 len0 cap0 zs := by
    obtain ⟨fuel, hf⟩ := h0
    rcases open_ints Try.underlying22 Try.underlying5 (by kernel_rfl) hf with ⟨hcs, _⟩ | ⟨x, l, c, zs, hcs, _, hl, hm, hz, _, hcell, hwz⟩
    · simp [Value.cells] at hcs
      obtain ⟨rfl, rfl, rfl⟩ := hcs
      exact ⟨[], .inl ⟨rfl, rfl, rfl, rfl⟩⟩
    · simp [Value.cells] at hcs
      obtain ⟨rfl, rfl, rfl⟩ := hcs
      exact ⟨zs, .inr ⟨_, rfl, hl, hm, by simpa using hz, hcell, hwz⟩⟩
  clear hA0 hval0 hsz0
  obtain ⟨code, rfl, hsl, hby⟩ := row_sl w0
  refine (FnReversed_c a0 cap0 code W hsl hby).mono fun e W' ⟨he, bel⟩ => ?_
  subst he
  exact ⟨_, rfl, _, _, _, [], _, [], hW', trodAll_mk1 (shut_bool Try.underlying4 _), (trodAll_cons_mk (Below.trod laidOut (by kernel_rfl) (of_decide_eq_true (by kernel_rfl)) k0 bel lt0) trodAll_mk0), rfl, bel.frame _, fun h => by cases h⟩
theorem over : Rows.fnReversedRow.holds Try.pinned (OpenSpec.ofChange Rows.fnReversedSpec) :=
  OpenClaim.holds_of_wide 3 Try.f3 rfl rfl rfl rfl rfl rfl rfl ⟨rfl, rfl, rfl, rfl, rfl⟩ rfl rfl rfl rfl rfl (by kernel_rfl) Try.func3 (by kernel_rfl)
    (of_decide_eq_true (by kernel_rfl)) (by unfold Func.isWrapper; first | (rw [if_pos (by decide +kernel)]; kernel_rfl) | (rw [if_neg (by decide +kernel)]; exact ⟨rfl, rfl⟩))
    (fun os started H enc _ => lifted os started H enc)
theorem proved : Rows.FnReversedSaid := over
#print axioms proved
end Go.Proofs.Ythgnfpbbhiegfaa.fnReversed
namespace Go.Proofs.Ythgnfpbbhiegfaa
/-- The row, under a short name, for the claim. -/
theorem fnReversed_holds : Rows.FnReversedSaid := fnReversed.proved
end Go.Proofs.Ythgnfpbbhiegfaa
