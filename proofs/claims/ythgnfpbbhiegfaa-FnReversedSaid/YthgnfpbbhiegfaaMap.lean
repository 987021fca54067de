/- Maps: m[k] += x in the pieces that the model knows (the entry, and the store into it); keys that are pairs of numbers. -/
import Derived.Test.YthgnfpbbhiegfaaOwn2
import Derived.WideKeyEntry
import Derived.WideKeyArr
import Derived.Maps.OwnSet
import Derived.Maps.OwnOps
import Derived.Maps.Views
import Derived.Maps.Range
import Derived.Maps.RangeWalk
import Derived.StringKeys
import Derived.Lib.Strings
namespace Go.Proofs.Ythgnfpbbhiegfaa
open Go.RowKit Go.Maps Go.WideElems Go.MapKept
open Go.ChangeMaps
open Go.WideMaps (KeyLaw)
section
variable {P : Program} {w : World} {t k e : TypeId} {b n : Nat} {D : DataW Nat}
theorem setBlock_grown {es : Array MapEntry} {clock : Nat} (o : Obj) (hb : w.heap[b]? = some (.map es clock)) : w.grownBy (setBlock w b o) (some b) := by
  have _ := hb
  exact ⟨rfl, rfl, rfl, by simp [setBlock], fun i _ hi => heap_setBlock_other hb _ (fun e => hi (by rw [e]))⟩
theorem look_of_find (K : KeyLaw P k) (ht : P.underlying t = some (.map k e)) {w2 : World} {es1 : Array MapEntry} {c1 : Nat} (hb : w2.heap[b]? = some (.map es1 c1)) {key v0 : Value} {kl : Lit} (hkey : keyOf P k key = some kl)
    (hkeys : ∀ x ∈ es1.toList, ∃ l, keyOf P k x.key = some l) (hin : ∃ x ∈ es1.toList, x.key = key) (hall : ∀ x ∈ es1.toList, x.key = key → x.val = v0) :
    (Instr.lookup t (.map (some b)) key false).run P w2 = .ok v0 w2 := by
  rcases K.find w2 hkey es1.toList hkeys with ⟨_, h2⟩ | ⟨j, e0, h1, h2, h3⟩
  · obtain ⟨x, hx, he⟩ := hin
    exact absurd he (h2 x hx)
  · have hv := hall e0 (List.mem_of_getElem? h2) h3
    simp [Instr.lookup, run_underlying ht, MapKept.run_getObj_map hb, K.check w2 _ hkey, h1, hv, Result.andThen]
/-- 'm[key] += x', the map the call's own, its elements numbers: the worlds W8 behind the entry and W10 behind the store. -/
theorem assign_op (K : KeyLaw P k) (ht : P.underlying t = some (.map k e)) (he : P.underlying e = some (.int .i64)) (hz : ∀ u : World, (zeroValue e).run P u = .ok (.int .i64 0) u)
    (h : w.ownsMap P k (plainElem P e) b n D) (hn : n < maxLen) {key : Value} {kl : Lit} (hkey : keyOf P k key = some kl) :
    ∃ c : Int, D.atKey kl (.lit (.int .i64 0)) = .lit (.int .i64 c) ∧ (Instr.lookup t (.map (some b)) key false).run P w = .ok (.int .i64 c) w ∧
      ∀ x : Int, (Lit.int .i64 x).wf = true → ∃ (W8 W10 : World) (v0 st : Value), (Instr.mapEntry t (.map (some b)) key).run P w = .ok (.tuple #[v0, st]) W8 ∧
        (Instr.lookup t (.map (some b)) key false).run P W8 = .ok (.int .i64 c) W8 ∧ (Instr.entryStore t (.map (some b)) st (.int .i64 x)).run P W8 = .ok () W10 ∧
        W10.ownsMap P k (plainElem P e) b (n + 1) (D.put kl (.lit (.int .i64 x))) ∧ w.grownBy W8 (some b) ∧ w.grownBy W10 (some b) := by
  have K2 : Keyed P k := Keyed.of_law K
  obtain ⟨c, hc1, hc2, hcw⟩ := h.lookup_int K2 ht he (hz w) hkey
  refine ⟨c, hc2, hc1, fun x hx => ?_⟩
  obtain ⟨W10, hup, hown, hgr⟩ := h.update K2 ht hn hkey (plainElem_int (H := Nat) he hx)
  obtain ⟨es, clock, hb, F, hs, rfl⟩ := h
  obtain ⟨v0, st, es1, clock1, hrun, hv0, hst⟩ := entry_then_store K ht hz hb F hkey
  have hblt := (Array.getElem?_eq_some_iff.1 hb).1
  have hb1 : (setBlock w b (.map es1 clock1)).heap[b]? = some (.map es1 clock1) := heap_setBlock_same hb _
  obtain ⟨es', clock', hs1, hs2⟩ := hst (setBlock w b (.map es1 clock1)) (.int .i64 x) hb1
  have hW : W10 = setBlock w b (.map es' clock') := by
    exact (Result.ok.inj (hup.symm.trans hs2)).2
  subst hW
  have hss : setBlock (setBlock w b (.map es1 clock1)) b (.map es' clock') = setBlock w b (.map es' clock') := by
    simp [setBlock]
  refine ⟨setBlock w b (.map es1 clock1), setBlock w b (.map es' clock'), v0, _, hrun, ?_, by rw [← hss]; exact hs1, hown, setBlock_grown _ hb, hgr⟩
  rcases K.find w hkey es.toList F.keys with ⟨h1, h2⟩ | ⟨j, e0, h1, h2, h3⟩
  · have hl : (Instr.lookup t (.map (some b)) key false).run P w = .ok (.int .i64 0) w := by
      simp [Instr.lookup, run_underlying ht, MapKept.run_getObj_map hb, K.check w _ hkey, h1, hz, Result.andThen]
    rw [hl] at hc1
    have hc1 := (Result.ok.inj hc1).1
    have hr : (Instr.mapEntry t (.map (some b)) key).run P w = .ok (.tuple #[.int .i64 0, goInt clock]) (setBlock w b (.map (es.push ⟨key, .int .i64 0, clock⟩) (clock + 1))) := by
      simp [Instr.mapEntry, run_underlying ht, MapKept.run_getObj_map hb, K.check w false hkey, h1, hz, MapKept.run_setObj_map _ hb, Result.andThen, setBlock]
    rw [hrun] at hr
    have hr2 : setBlock w b (.map es1 clock1) = _ := (Result.ok.inj hr).2
    rw [hr2]
    have hb2 : (setBlock w b (.map (es.push ⟨key, .int .i64 0, clock⟩) (clock + 1))).heap[b]? = some (.map (es.push ⟨key, .int .i64 0, clock⟩) (clock + 1)) := heap_setBlock_same hb _
    rw [← hc1]
    refine look_of_find K ht hb2 hkey (fun x hx => ?_) ⟨⟨key, .int .i64 0, clock⟩, by simp, rfl⟩ (fun x hx hk => ?_)
    · rw [Array.toList_push] at hx
      rcases List.mem_append.1 hx with hx | hx
      · exact F.keys x hx
      · obtain rfl := List.mem_singleton.1 hx
        exact ⟨kl, hkey⟩
    · rw [Array.toList_push] at hx
      rcases List.mem_append.1 hx with hx | hx
      · exact absurd hk (h2 x hx)
      · obtain rfl := List.mem_singleton.1 hx
        rfl
  · have hj : es[j]? = some e0 := by simpa using h2
    have hsame : es.modify j (fun e => { e with key := key }) = es := by
      apply Array.ext'
      rw [Array.toList_modify, modify_eq_set _ _ _ _ h2]
      have : ({ e0 with key := key } : MapEntry) = e0 := by rw [← h3]
      rw [this]
      exact set_self _ _ _ h2
    have hself : setBlock w b (.map es clock) = w := by
      have h2 : w.heap.setIfInBounds b (.map es clock) = w.heap := by
        apply Array.ext'
        rw [Array.toList_setIfInBounds]
        exact set_self _ _ _ (by rw [Array.getElem?_toList]; exact hb)
      unfold setBlock
      rw [h2]
    have hr : (Instr.mapEntry t (.map (some b)) key).run P w = .ok (.tuple #[e0.val, goInt e0.born]) w := by
      conv => rhs; rw [← hself]
      simp [Instr.mapEntry, run_underlying ht, MapKept.run_getObj_map hb, K.check w false hkey, h1, hj, h3, K.stays w hkey, hsame, MapKept.run_setObj_map _ hb, Result.andThen, setBlock]
    rw [hrun] at hr
    have hr2 : setBlock w b (.map es1 clock1) = _ := (Result.ok.inj hr).2
    rw [hr2]
    exact hc1
/-- A key that is a pair of numbers. -/
theorem keyOf_pair {m : Nat} (hm : P.types.size = m + 1) (hu : P.underlying k = some (.array 2 e)) (he : P.underlying e = some (.int .i64)) (hkt : P.keyType k = true) (hc : P.cellsOf k = 2) (hce : P.cellsOf e = 1) {x y : Int} (hx : (Lit.int .i64 x).wf = true) (hy : (Lit.int .i64 y).wf = true) :
    ∃ kl, keyOf P k (.agg #[.int .i64 x, .int .i64 y]) = some kl := by
  unfold keyOf
  rw [hu]
  simp only [hkt, Bool.true_and]
  have hf : (Value.agg #[.int .i64 x, .int .i64 y]).formed P k = true := by simp [Value.formed, hu, hc]
  rw [hf, hm]
  simp [Program.keyLits, hu, he, hc, hce, hx, hy, Value.cells, List.range_succ]
end
end Go.Proofs.Ythgnfpbbhiegfaa
