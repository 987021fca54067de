/- Drawn ledgers in memory: rows of entries whose lines are rows of lines, and what a store into a row of lines leaves. -/
import Derived.Test.YthgnfpbbhiegfaaGro
namespace Go.Proofs.Ythgnfpbbhiegfaa
open Go.RowKit
theorem Reps.all {α : Type} {R : α → List Value → Prop} {size : Nat} {xs : List α} {cs : List Value} (P : Value → Prop) (h : Reps R size xs cs) (hR : ∀ x c, R x c → c.length = size ∧ ∀ u ∈ c, P u) : ∀ u ∈ cs, P u := by
  intro u hu
  obtain ⟨i, hi, rfl⟩ := List.getElem_of_mem hu
  have hl := h.1
  by_cases h0 : size = 0
  · subst h0; omega
  have hj : i / size < xs.length := by
    rw [hl] at hi
    exact Nat.div_lt_of_lt_mul (by rw [Nat.mul_comm]; exact hi)
  have h1 := hR _ _ (h.2 _ _ (List.getElem?_eq_getElem hj))
  refine h1.2 _ ?_
  have hm : i % size < size := Nat.mod_lt _ (by omega)
  have hd : i / size * size + i % size = i := by rw [Nat.mul_comm]; exact Nat.div_add_mod i size
  refine List.mem_iff_getElem?.2 ⟨i % size, ?_⟩
  rw [List.getElem?_take, if_pos hm, List.getElem?_drop, hd, List.getElem?_eq_getElem hi]
def isI (u : Value) : Prop := ∃ y : Int, u = .int .i64 y
theorem ln_ints {w : World} {S : Nat → Prop} {ls : List Ln} {cs : List Value} (h : Reps (cLn.rd w S) cLn.sz ls cs) : ∀ u ∈ cs, isI u :=
  h.all isI (fun x c hx => ⟨cLn.len hx, fun u hu => by
    rw [Ln_open hx] at hu
    simp only [List.mem_cons, List.not_mem_nil, or_false] at hu
    rcases hu with rfl | rfl | rfl | rfl | rfl <;> exact ⟨_, rfl⟩⟩)
theorem ints_ln : ∀ (n : Nat) (cs : List Value), cs.length = n * 5 → (∀ u ∈ cs, isI u) → ∃ ls : List Ln, ls.length = n ∧ ∀ (w : World) (S : Nat → Prop), Reps (cLn.rd w S) cLn.sz ls cs
  | 0, cs, hl, _ => by
    obtain rfl := List.eq_nil_of_length_eq_zero (by omega)
    exact ⟨[], rfl, fun _ _ => Reps.none⟩
  | n + 1, cs, hl, h => by
    match cs, hl, h with
    | [], hl, _ => simp at hl
    | [_], hl, _ => simp at hl; omega
    | [_, _], hl, _ => simp at hl; omega
    | [_, _, _], hl, _ => simp at hl; omega
    | [_, _, _, _], hl, _ => simp at hl; omega
    | a :: b :: c :: d :: e :: r, hl, h =>
      obtain ⟨a, rfl⟩ := h a (by simp)
      obtain ⟨b, rfl⟩ := h b (by simp)
      obtain ⟨c, rfl⟩ := h c (by simp)
      obtain ⟨d, rfl⟩ := h d (by simp)
      obtain ⟨e, rfl⟩ := h e (by simp)
      obtain ⟨ls, h1, h2⟩ := ints_ln n r (by simp at hl; omega) (fun u hu => h u (by simp [hu]))
      refine ⟨⟨a, b, c, d, e⟩ :: ls, by simp [h1], fun w S => ?_⟩
      have h3 : Reps (cLn.rd w S) cLn.sz [(⟨a, b, c, d, e⟩ : Ln)] [.int .i64 a, .int .i64 b, .int .i64 c, .int .i64 d, .int .i64 e] := Reps.single Ln_mk rfl
      exact h3.append (h2 w S)
theorem flatLn : Flat cLn := fun h => by rw [Ln_open h]; exact Ln_mk
theorem flatAc : Flat cAc := fun h => by obtain ⟨h1, h2⟩ := Ac_open h; rw [h1]; exact Ac_mk h2
/-- A row's own block, where it has one. -/
theorem Own.split {α : Type} {c : Cod α} {e : TypeId} {w : World} {base : Nat} {v : Value} {xs : List α} (h : Own c e w base v xs) : (v = .slice none 0 0 ∧ xs = []) ∨ ∃ b cap cur, v = .slice (some ⟨b, 0, none⟩) xs.length cap ∧ base ≤ b ∧ w.heap[b]? = some (.cells cur e (0, 0)) ∧ xs.length ≤ cap := by
  obtain ⟨cs, ⟨_, h2⟩, _⟩ := h
  rcases h2 with ⟨hv, h0⟩ | ⟨g', cap', cur, hv, hg, hh, hc, _⟩
  · exact .inl ⟨hv, List.eq_nil_of_length_eq_zero h0⟩
  · exact .inr ⟨g', cap', cur, hv, hg, hh, hc⟩
/-- W stands some steps behind w, which wrote the cursor, and rows of lines (as rows of lines). -/
structure LK (g : Nat) (w W : World) : Prop where
  os : W.os = w.os
  tape : W.tape = w.tape
  output : W.output = w.output
  size : w.heap.size ≤ W.heap.size
  block : ∀ k, k < w.heap.size → k ≠ g → (∀ cur fr, w.heap[k]? ≠ some (.cells cur 130 fr)) → W.heap[k]? = w.heap[k]?
  low : ∀ k, k < g → W.heap[k]? = w.heap[k]?
  lines : ∀ v ls, Own cLn 130 w (g + 1) v ls → ∃ ls' : List Ln, ls'.length = ls.length ∧ Own cLn 130 W (g + 1) v ls'
theorem LK.trans {g : Nat} {a b c : World} (h : LK g a b) (k : LK g b c) : LK g a c where
  os := k.os.trans h.os
  tape := k.tape.trans h.tape
  output := k.output.trans h.output
  size := Nat.le_trans h.size k.size
  block := fun i hi hg hn => by
    have h1 := h.block i hi hg hn
    exact (k.block i (Nat.lt_of_lt_of_le hi h.size) hg (by rw [h1]; exact hn)).trans h1
  low := fun i hi => (k.low i hi).trans (h.low i hi)
  lines := fun v ls ho => by
    obtain ⟨l1, e1, h1⟩ := h.lines v ls ho
    obtain ⟨l2, e2, h2⟩ := k.lines v l1 h1
    exact ⟨l2, e2.trans e1, h2⟩
theorem LK.gro {g : Nat} {w W : World} (h : Gro g w W) (hg : g < w.heap.size) : LK g w W where
  os := h.out.os
  tape := h.out.tape
  output := h.out.output
  size := h.out.size
  block := fun k hk hne _ => h.out.block k hk (fun e => hne (by injection e))
  low := fun k hk => h.out.block k (by omega) (fun e => by injection e; omega)
  lines := fun v ls ho => ⟨ls, rfl, ho.gro flatLn h (by omega)⟩
/-- A store into a row of lines. -/
theorem LK.set {g b n cap : Nat} {w : World} {ls : List Ln} (h : Own cLn 130 w (g + 1) (.slice (some ⟨b, 0, none⟩) n cap) ls) (i : Nat) (y : Int) : LK g w (w.setCell ⟨b, i, none⟩ (.int .i64 y)) := by
  obtain ⟨cur, hb⟩ := h.type
  have hlt := (h.lt b rfl)
  refine ⟨rfl, rfl, rfl, by simp [World.setCell], fun k hk hne hn => Below.heap_setCell _ _ _ _ (fun e => hn cur (0, 0) (by rw [e]; exact hb)), fun k hk => Below.heap_setCell _ _ _ _ (fun e => by have e' : k = b := e; omega), fun v l2 h2 => ?_⟩
  rcases h2.split with ⟨rfl, rfl⟩ | ⟨b2, cap2, cur2, rfl, hb2, hh2, hc2⟩
  · exact ⟨[], rfl, Own.nil⟩
  · by_cases e : b2 = b
    · subst e
      obtain ⟨cs, ho, hr⟩ := h2
      obtain ⟨h3, h4⟩ := ho.stored i (.int .i64 y)
      have hi := ln_ints hr
      have hlen : (cs.set i (.int .i64 y)).length = l2.length * 5 := by rw [List.length_set]; exact hr.1
      obtain ⟨l3, e3, hr3⟩ := ints_ln l2.length (cs.set i (.int .i64 y)) hlen (fun u hu => by
        rcases List.mem_or_eq_of_mem_set hu with hu | hu
        · exact hi u hu
        · exact ⟨y, hu⟩)
      exact ⟨l3, e3, ⟨_, by rw [e3]; exact h3, hr3 _ _⟩⟩
    · refine ⟨l2, rfl, h2.kept flatLn (row := some b) ⟨rfl, rfl, rfl, by simp [World.setCell], fun k hk hne => Below.heap_setCell _ _ _ _ (fun e' => hne (by rw [e']))⟩ (fun j hj hv => ?_)⟩
      injection hj with hj
      simp only [Value.ownBlock, Option.some.injEq] at hv
      omega
theorem Cur.lk {g : Nat} {w W : World} (h : Cur w g) (hk : LK g w W) (hW : W.heap[g]? = w.heap[g]?) : Cur W g := h.kept (fun k hk' => by
  by_cases e : k = g
  · subst e; exact hW
  · exact hk.low k (by omega))
theorem Own.same {α : Type} {c : Cod α} {e : TypeId} {w W : World} {base b n cap : Nat} {xs : List α} (h : Own c e w base (.slice (some ⟨b, 0, none⟩) n cap) xs) (hf : Flat c) (hs : W.heap[b]? = w.heap[b]?) : Own c e W base (.slice (some ⟨b, 0, none⟩) n cap) xs := by
  obtain ⟨cs, ⟨h1, h2⟩, hr⟩ := h
  refine ⟨cs, ⟨h1, ?_⟩, hr.imp (fun _ _ hx => hf hx)⟩
  rcases h2 with ⟨hv, h0⟩ | ⟨g', cap', cur, hv, hg, hh, r⟩
  · cases hv
  · cases hv
    exact .inr ⟨_, _, cur, rfl, hg, hs.trans hh, r⟩
/-- A row of another type is as it was. -/
theorem Own.lk {α : Type} {c : Cod α} {e : TypeId} {w W : World} {g : Nat} {v : Value} {xs : List α} (h : Own c e w (g + 1) v xs) (hf : Flat c) (hk : LK g w W) (he : e ≠ 130) : Own c e W (g + 1) v xs := by
  rcases h.split with ⟨rfl, rfl⟩ | ⟨b, cap, cur, rfl, hb, hh, hc⟩
  · exact Own.nil
  · exact h.same hf (hk.block b (box_lt hh) (by omega) (fun cur' fr e' => by rw [hh] at e'; injection e' with e'; injection e' with _ e' _; exact he e'))
theorem box_lk {g j : Nat} {w W : World} {cur : Array Value} {t : TypeId} {fr : Nat × Nat} (hx : w.heap[j]? = some (.cells cur t fr)) (hk : LK g w W) (hj : j ≠ g) (ht : t ≠ 130) : W.heap[j]? = some (.cells cur t fr) :=
  (hk.block j (box_lt hx) hj (fun cur' fr' e' => by rw [hx] at e'; injection e' with e'; injection e' with _ e' _; exact ht e')).trans hx
/-- An entry as its cells tell it. -/
structure EV where
  day : Int
  ref : Int
  text : ByteArray
  a : Option Addr
  n : Nat
  cap : Nat
def cEV : Cod EV where
  sz := 4
  rd := fun _ _ x cs => cs = [.int .i64 x.day, .int .i64 x.ref, .string x.text, .slice x.a x.n x.cap] ∧ x.text.size ≤ 140737488355328
  len := by rintro _ _ _ _ ⟨rfl, _⟩; rfl
  one := by
    rintro _ _ _ _ ⟨rfl, _⟩ u hu
    simp only [List.mem_cons, List.not_mem_nil, or_false] at hu
    rcases hu with rfl | rfl | rfl | rfl <;> rfl
  mono := fun _ h => h
  bound := fun h => h
  move := fun _ h => h
theorem flatEV : Flat cEV := fun h => h
theorem Own.slAs {α β : Type} {c : Cod α} (d : Cod β) {e : TypeId} {w : World} {S : Nat → Prop} {base n cap : Nat} {A : Option Addr} {xs : List α} (hsz : d.sz = c.sz) (h : Own c e w base (.slice A n cap) xs) (ys : List β) (hl : ys.length = xs.length)
    (hy : ∀ (j : Nat) (x : α) (y : β), xs[j]? = some x → ys[j]? = some y → ∀ cs, c.rd w (fun k => some k ≠ (Value.slice A n cap).ownBlock) x cs → d.rd w S y cs) (hS : ∀ k, base ≤ k → S k) : Sl d w S A ys := by
  obtain ⟨cs, ⟨hl1, h2⟩, hr⟩ := h
  rcases h2 with ⟨hv, h0⟩ | ⟨g, cap', cur, hv, hg, hh, hc, hm, hz, htake⟩
  · obtain rfl := List.eq_nil_of_length_eq_zero (hl.trans h0)
    exact Sl.nil
  · refine ⟨by simp only [maxLen] at hm; omega, fun hp => ?_⟩
    injection hv with hA _ _
    subst hA
    refine ⟨_, rfl, hS _ hg, fun j y hj => ?_⟩
    have hjl : j < xs.length := by
      have := (List.getElem?_eq_some_iff.1 hj).1
      omega
    refine ⟨_, hy j _ y (List.getElem?_eq_getElem hjl) hj _ (hr.2 j _ (List.getElem?_eq_getElem hjl)), fun i u hu => ?_⟩
    rw [add_base, hsz, cell_of_row w g _ cur e (0, 0) hh]
    rw [← htake, List.getElem?_take] at hu
    split at hu
    · rw [List.getElem?_drop, List.getElem?_take] at hu
      split at hu
      · simpa using hu
      · cases hu
    · cases hu
theorem pick_all {α β : Type} {R : α → β → Prop} : ∀ (xs : List α), (∀ x ∈ xs, ∃ y, R x y) → ∃ ys : List β, ys.length = xs.length ∧ ∀ (j : Nat) (x : α) (y : β), xs[j]? = some x → ys[j]? = some y → R x y
  | [], _ => ⟨[], rfl, fun j x y h => by simp at h⟩
  | x :: xs, h => by
    obtain ⟨y, hy⟩ := h x (by simp)
    obtain ⟨ys, hl, hr⟩ := pick_all xs (fun x hx => h x (by simp [hx]))
    refine ⟨y :: ys, by simp [hl], fun j a b ha hb => ?_⟩
    cases j with
    | zero =>
      simp at ha hb
      subst ha hb
      exact hy
    | succ j =>
      simp at ha hb
      exact hr j a b ha hb
/-- A row of entries of the call's own, whose lines are rows of the call's own. -/
def EnsT (g : Nat) (w : World) (v : Value) (xs : List EV) : Prop := Own cEV 34 w (g + 1) v xs ∧ ∀ x ∈ xs, ∃ ls : List Ln, ls.length = x.n ∧ Own cLn 130 w (g + 1) (.slice x.a x.n x.cap) ls
theorem EnsT.lk {g : Nat} {w W : World} {v : Value} {xs : List EV} (h : EnsT g w v xs) (hk : LK g w W) : EnsT g W v xs :=
  ⟨h.1.lk flatEV hk (by decide), fun x hx => by
    obtain ⟨ls, hl, ho⟩ := h.2 x hx
    obtain ⟨l2, h2, ho2⟩ := hk.lines _ _ ho
    exact ⟨l2, h2.trans hl, ho2⟩⟩
theorem EnsT.read {g : Nat} {w : World} {A : Option Addr} {n cap : Nat} {xs : List EV} (h : EnsT g w (.slice A n cap) xs) : ∃ es : List En, es.length = xs.length ∧ Sl cEn w (fun k => g < k) A es := by
  obtain ⟨es, hl, hr⟩ := pick_all (R := fun x (y : En) => ∀ cs, cEV.rd w (fun k => some k ≠ (Value.slice A n cap).ownBlock) x cs → cEn.rd w (fun k => g < k) y cs) xs (fun x hx => by
    obtain ⟨ls, hls, ho⟩ := h.2 x hx
    refine ⟨⟨x.day, x.ref, x.text, ls⟩, fun cs hcs => ?_⟩
    obtain ⟨rfl, hz⟩ := hcs
    obtain ⟨A', cap', he, hc⟩ := ho.slice
    injection he with e1 e2 e3
    subst e3
    rw [← hls]
    rw [← hls] at ho
    exact En_mk (x := ⟨x.day, x.ref, x.text, ls⟩) hz hc (ho.sl (fun k hk => by omega) (fun _ _ hx => flatLn hx)))
  exact ⟨es, hl, Own.slAs (c := cEV) cEn rfl h.1 es hl hr (fun k hk => by omega)⟩
theorem EnsT.len {g : Nat} {w : World} {A : Option Addr} {n cap : Nat} {xs : List EV} (h : EnsT g w (.slice A n cap) xs) : n = xs.length ∧ n ≤ cap := by
  obtain ⟨A', cap', he, hc⟩ := h.1.slice
  injection he with e1 e2 e3
  omega
end Go.Proofs.Ythgnfpbbhiegfaa
