/- PRINTED by wip/tools/codgen.py: the data of the program as Lean structures, their codecs, and the cells of each as the walk spells them. -/
import Derived.Test.YthgnfpbbhiegfaaCod
namespace Go.Proofs.Ythgnfpbbhiegfaa
open Go.RowKit
/-- Element k of a list (its default behind the end). -/
def el {α : Type} [Inhabited α] (xs : List α) (k : Nat) : α := xs.getD k default
theorem el_eq {α : Type} [Inhabited α] (xs : List α) (k : Nat) (h : k < xs.length) : el xs k = xs[k] := by simp [el, h]
instance : Inhabited ByteArray := ⟨⟨#[]⟩⟩
theorem at_Int {w : World} {S : Nat → Prop} {A : Option Addr} {xs : List Int} (h : Sl cInt w S A xs) (k : Nat) (hk : k < xs.length) : ∃ ad, A = some ad ∧ w.cell? (ad.add k) = some (.int .i64 (el xs k)) := by
  obtain ⟨ad, cs, e, hr, hc⟩ := h.get k hk
  obtain rfl : cs = _ := hr
  refine ⟨ad, e, ?_⟩
  have := hc 0 _ rfl
  rw [el_eq xs k hk]
  simpa [cInt, Cod.scalar] using this
theorem at_Bool {w : World} {S : Nat → Prop} {A : Option Addr} {xs : List Bool} (h : Sl cBool w S A xs) (k : Nat) (hk : k < xs.length) : ∃ ad, A = some ad ∧ w.cell? (ad.add k) = some (.bool (el xs k)) := by
  obtain ⟨ad, cs, e, hr, hc⟩ := h.get k hk
  obtain rfl : cs = _ := hr
  refine ⟨ad, e, ?_⟩
  have := hc 0 _ rfl
  rw [el_eq xs k hk]
  simpa [cBool, Cod.scalar] using this
theorem at_Str {w : World} {S : Nat → Prop} {A : Option Addr} {xs : List ByteArray} (h : Sl cStr w S A xs) (k : Nat) (hk : k < xs.length) : ∃ ad, A = some ad ∧ w.cell? (ad.add k) = some (.string (el xs k)) ∧ (el xs k).size ≤ 140737488355328 := by
  obtain ⟨ad, cs, e, ⟨hr, hz⟩, hc⟩ := h.get k hk
  subst hr
  refine ⟨ad, e, ?_, by rw [el_eq xs k hk]; exact hz⟩
  have := hc 0 _ rfl
  rw [el_eq xs k hk]
  simpa [cStr] using this
theorem add_field (ad : Addr) (m j : Nat) (hj : 0 < j) : ad.add (m + j) = ⟨(ad.add m).block, (ad.add m).off + j, none⟩ := by
  unfold Addr.add
  by_cases hm : m = 0
  · subst hm
    simp [Nat.ne_of_gt hj]
  · simp [hm, Nat.add_assoc]

structure Ac where
  code : ByteArray
  parent : Int
  kind : Int
instance : Inhabited Ac := ⟨⟨⟨#[]⟩, 0, 0⟩⟩
def cAc : Cod Ac := Cod.iso (Cod.pair cStr (Cod.pair cInt cInt)) (fun x : Ac => (x.code, (x.parent, x.kind)))
theorem Ac_open {w : World} {S : Nat → Prop} {x : Ac} {cs : List Value} (h : cAc.rd w S x cs) : cs = [.string x.code, .int .i64 x.parent, .int .i64 x.kind] ∧ x.code.size ≤ 140737488355328 := by
  obtain ⟨_, _, rfl, ⟨rfl, z0⟩, ⟨_, _, rfl, rfl, rfl⟩⟩ := h
  exact ⟨rfl, z0⟩
theorem Ac_mk {w : World} {S : Nat → Prop} {x : Ac} (z0 : x.code.size ≤ 140737488355328) : cAc.rd w S x [.string x.code, .int .i64 x.parent, .int .i64 x.kind] := ⟨[.string x.code], [.int .i64 x.parent, .int .i64 x.kind], rfl, ⟨rfl, z0⟩, ⟨[.int .i64 x.parent], [.int .i64 x.kind], rfl, rfl, rfl⟩⟩
theorem at_Ac {w : World} {S : Nat → Prop} {A : Option Addr} {xs : List Ac} (h : Sl cAc w S A xs) (k : Nat) (hk : k < xs.length) : ∃ ad, A = some ad ∧ w.cell? (ad.add (k * 3)) = some (.string (el xs k).code) ∧ w.cell? ⟨(ad.add (k * 3)).block, (ad.add (k * 3)).off + 1, none⟩ = some (.int .i64 (el xs k).parent) ∧ w.cell? ⟨(ad.add (k * 3)).block, (ad.add (k * 3)).off + 2, none⟩ = some (.int .i64 (el xs k).kind) ∧ (el xs k).code.size ≤ 140737488355328 := by
  obtain ⟨ad, cs, e, hr, hc0⟩ := h.get k hk
  rw [← el_eq xs k hk] at hr
  have hc : ∀ i u, cs[i]? = some u → w.cell? (ad.add (k * 3 + i)) = some u := hc0
  obtain ⟨rfl, z0⟩ := Ac_open hr
  exact ⟨ad, e, hc 0 _ rfl, by rw [← add_field _ _ 1 (by omega)]; exact hc 1 _ rfl, by rw [← add_field _ _ 2 (by omega)]; exact hc 2 _ rfl, z0⟩

structure Ln where
  account : Int
  dim : Int
  cur : Int
  amount : Int
  base : Int
instance : Inhabited Ln := ⟨⟨0, 0, 0, 0, 0⟩⟩
def cLn : Cod Ln := Cod.iso (Cod.pair cInt (Cod.pair cInt (Cod.pair cInt (Cod.pair cInt cInt)))) (fun x : Ln => (x.account, (x.dim, (x.cur, (x.amount, x.base)))))
theorem Ln_open {w : World} {S : Nat → Prop} {x : Ln} {cs : List Value} (h : cLn.rd w S x cs) : cs = [.int .i64 x.account, .int .i64 x.dim, .int .i64 x.cur, .int .i64 x.amount, .int .i64 x.base] := by
  obtain ⟨_, _, rfl, rfl, ⟨_, _, rfl, rfl, ⟨_, _, rfl, rfl, ⟨_, _, rfl, rfl, rfl⟩⟩⟩⟩ := h
  exact rfl
theorem Ln_mk {w : World} {S : Nat → Prop} {x : Ln} : cLn.rd w S x [.int .i64 x.account, .int .i64 x.dim, .int .i64 x.cur, .int .i64 x.amount, .int .i64 x.base] := ⟨[.int .i64 x.account], [.int .i64 x.dim, .int .i64 x.cur, .int .i64 x.amount, .int .i64 x.base], rfl, rfl, ⟨[.int .i64 x.dim], [.int .i64 x.cur, .int .i64 x.amount, .int .i64 x.base], rfl, rfl, ⟨[.int .i64 x.cur], [.int .i64 x.amount, .int .i64 x.base], rfl, rfl, ⟨[.int .i64 x.amount], [.int .i64 x.base], rfl, rfl, rfl⟩⟩⟩⟩
theorem at_Ln {w : World} {S : Nat → Prop} {A : Option Addr} {xs : List Ln} (h : Sl cLn w S A xs) (k : Nat) (hk : k < xs.length) : ∃ ad, A = some ad ∧ w.cell? (ad.add (k * 5)) = some (.int .i64 (el xs k).account) ∧ w.cell? ⟨(ad.add (k * 5)).block, (ad.add (k * 5)).off + 1, none⟩ = some (.int .i64 (el xs k).dim) ∧ w.cell? ⟨(ad.add (k * 5)).block, (ad.add (k * 5)).off + 2, none⟩ = some (.int .i64 (el xs k).cur) ∧ w.cell? ⟨(ad.add (k * 5)).block, (ad.add (k * 5)).off + 3, none⟩ = some (.int .i64 (el xs k).amount) ∧ w.cell? ⟨(ad.add (k * 5)).block, (ad.add (k * 5)).off + 4, none⟩ = some (.int .i64 (el xs k).base) := by
  obtain ⟨ad, cs, e, hr, hc0⟩ := h.get k hk
  rw [← el_eq xs k hk] at hr
  have hc : ∀ i u, cs[i]? = some u → w.cell? (ad.add (k * 5 + i)) = some u := hc0
  obtain rfl := Ln_open hr
  exact ⟨ad, e, hc 0 _ rfl, by rw [← add_field _ _ 1 (by omega)]; exact hc 1 _ rfl, by rw [← add_field _ _ 2 (by omega)]; exact hc 2 _ rfl, by rw [← add_field _ _ 3 (by omega)]; exact hc 3 _ rfl, by rw [← add_field _ _ 4 (by omega)]; exact hc 4 _ rfl⟩

structure En where
  day : Int
  ref : Int
  text : ByteArray
  lines : List Ln
instance : Inhabited En := ⟨⟨0, 0, ⟨#[]⟩, []⟩⟩
def cEn : Cod En := Cod.iso (Cod.pair cInt (Cod.pair cInt (Cod.pair cStr (Cod.slice cLn (by decide))))) (fun x : En => (x.day, (x.ref, (x.text, x.lines))))
theorem En_open {w : World} {S : Nat → Prop} {x : En} {cs : List Value} (h : cEn.rd w S x cs) : ∃ A3 c3, cs = [.int .i64 x.day, .int .i64 x.ref, .string x.text, .slice A3 x.lines.length c3] ∧ x.text.size ≤ 140737488355328 ∧ x.lines.length ≤ c3 ∧ Sl cLn w S A3 x.lines := by
  obtain ⟨_, _, rfl, rfl, ⟨_, _, rfl, rfl, ⟨_, _, rfl, ⟨rfl, z2⟩, ⟨A3, c3, rfl, h3, g3⟩⟩⟩⟩ := h
  exact ⟨A3, c3, rfl, z2, h3, g3⟩
theorem En_mk {w : World} {S : Nat → Prop} {x : En} (z2 : x.text.size ≤ 140737488355328) {A3 : Option Addr} {c3 : Nat} (h3 : x.lines.length ≤ c3) (g3 : Sl cLn w S A3 x.lines) : cEn.rd w S x [.int .i64 x.day, .int .i64 x.ref, .string x.text, .slice A3 x.lines.length c3] := ⟨[.int .i64 x.day], [.int .i64 x.ref, .string x.text, .slice A3 x.lines.length c3], rfl, rfl, ⟨[.int .i64 x.ref], [.string x.text, .slice A3 x.lines.length c3], rfl, rfl, ⟨[.string x.text], [.slice A3 x.lines.length c3], rfl, ⟨rfl, z2⟩, ⟨A3, c3, rfl, h3, g3⟩⟩⟩⟩
theorem at_En {w : World} {S : Nat → Prop} {A : Option Addr} {xs : List En} (h : Sl cEn w S A xs) (k : Nat) (hk : k < xs.length) : ∃ ad A3 c3, A = some ad ∧ w.cell? (ad.add (k * 4)) = some (.int .i64 (el xs k).day) ∧ w.cell? ⟨(ad.add (k * 4)).block, (ad.add (k * 4)).off + 1, none⟩ = some (.int .i64 (el xs k).ref) ∧ w.cell? ⟨(ad.add (k * 4)).block, (ad.add (k * 4)).off + 2, none⟩ = some (.string (el xs k).text) ∧ w.cell? ⟨(ad.add (k * 4)).block, (ad.add (k * 4)).off + 3, none⟩ = some (.slice A3 (el xs k).lines.length c3) ∧ (el xs k).text.size ≤ 140737488355328 ∧ (el xs k).lines.length ≤ c3 ∧ Sl cLn w S A3 (el xs k).lines := by
  obtain ⟨ad, cs, e, hr, hc0⟩ := h.get k hk
  rw [← el_eq xs k hk] at hr
  have hc : ∀ i u, cs[i]? = some u → w.cell? (ad.add (k * 4 + i)) = some u := hc0
  obtain ⟨A3, c3, rfl, z2, h3, g3⟩ := En_open hr
  exact ⟨ad, A3, c3, e, hc 0 _ rfl, by rw [← add_field _ _ 1 (by omega)]; exact hc 1 _ rfl, by rw [← add_field _ _ 2 (by omega)]; exact hc 2 _ rfl, by rw [← add_field _ _ 3 (by omega)]; exact hc 3 _ rfl, z2, h3, g3⟩

structure Fr where
  chart : List Ac
  dims : Int
  curs : Int
instance : Inhabited Fr := ⟨⟨[], 0, 0⟩⟩
def cFr : Cod Fr := Cod.iso (Cod.pair (Cod.slice cAc (by decide)) (Cod.pair cInt cInt)) (fun x : Fr => (x.chart, (x.dims, x.curs)))
theorem Fr_open {w : World} {S : Nat → Prop} {x : Fr} {cs : List Value} (h : cFr.rd w S x cs) : ∃ A0 c0, cs = [.slice A0 x.chart.length c0, .int .i64 x.dims, .int .i64 x.curs] ∧ x.chart.length ≤ c0 ∧ Sl cAc w S A0 x.chart := by
  obtain ⟨_, _, rfl, ⟨A0, c0, rfl, h0, g0⟩, ⟨_, _, rfl, rfl, rfl⟩⟩ := h
  exact ⟨A0, c0, rfl, h0, g0⟩
theorem Fr_mk {w : World} {S : Nat → Prop} {x : Fr} {A0 : Option Addr} {c0 : Nat} (h0 : x.chart.length ≤ c0) (g0 : Sl cAc w S A0 x.chart) : cFr.rd w S x [.slice A0 x.chart.length c0, .int .i64 x.dims, .int .i64 x.curs] := ⟨[.slice A0 x.chart.length c0], [.int .i64 x.dims, .int .i64 x.curs], rfl, ⟨A0, c0, rfl, h0, g0⟩, ⟨[.int .i64 x.dims], [.int .i64 x.curs], rfl, rfl, rfl⟩⟩
theorem at_Fr {w : World} {S : Nat → Prop} {A : Option Addr} {xs : List Fr} (h : Sl cFr w S A xs) (k : Nat) (hk : k < xs.length) : ∃ ad A0 c0, A = some ad ∧ w.cell? (ad.add (k * 3)) = some (.slice A0 (el xs k).chart.length c0) ∧ w.cell? ⟨(ad.add (k * 3)).block, (ad.add (k * 3)).off + 1, none⟩ = some (.int .i64 (el xs k).dims) ∧ w.cell? ⟨(ad.add (k * 3)).block, (ad.add (k * 3)).off + 2, none⟩ = some (.int .i64 (el xs k).curs) ∧ (el xs k).chart.length ≤ c0 ∧ Sl cAc w S A0 (el xs k).chart := by
  obtain ⟨ad, cs, e, hr, hc0⟩ := h.get k hk
  rw [← el_eq xs k hk] at hr
  have hc : ∀ i u, cs[i]? = some u → w.cell? (ad.add (k * 3 + i)) = some u := hc0
  obtain ⟨A0, c0, rfl, h0, g0⟩ := Fr_open hr
  exact ⟨ad, A0, c0, e, hc 0 _ rfl, by rw [← add_field _ _ 1 (by omega)]; exact hc 1 _ rfl, by rw [← add_field _ _ 2 (by omega)]; exact hc 2 _ rfl, h0, g0⟩

structure Le where
  entries : List En
  head : Int
instance : Inhabited Le := ⟨⟨[], 0⟩⟩
def cLe : Cod Le := Cod.iso (Cod.pair (Cod.slice cEn (by decide)) cInt) (fun x : Le => (x.entries, x.head))
theorem Le_open {w : World} {S : Nat → Prop} {x : Le} {cs : List Value} (h : cLe.rd w S x cs) : ∃ A0 c0, cs = [.slice A0 x.entries.length c0, .int .i64 x.head] ∧ x.entries.length ≤ c0 ∧ Sl cEn w S A0 x.entries := by
  obtain ⟨_, _, rfl, ⟨A0, c0, rfl, h0, g0⟩, rfl⟩ := h
  exact ⟨A0, c0, rfl, h0, g0⟩
theorem Le_mk {w : World} {S : Nat → Prop} {x : Le} {A0 : Option Addr} {c0 : Nat} (h0 : x.entries.length ≤ c0) (g0 : Sl cEn w S A0 x.entries) : cLe.rd w S x [.slice A0 x.entries.length c0, .int .i64 x.head] := ⟨[.slice A0 x.entries.length c0], [.int .i64 x.head], rfl, ⟨A0, c0, rfl, h0, g0⟩, rfl⟩
theorem at_Le {w : World} {S : Nat → Prop} {A : Option Addr} {xs : List Le} (h : Sl cLe w S A xs) (k : Nat) (hk : k < xs.length) : ∃ ad A0 c0, A = some ad ∧ w.cell? (ad.add (k * 2)) = some (.slice A0 (el xs k).entries.length c0) ∧ w.cell? ⟨(ad.add (k * 2)).block, (ad.add (k * 2)).off + 1, none⟩ = some (.int .i64 (el xs k).head) ∧ (el xs k).entries.length ≤ c0 ∧ Sl cEn w S A0 (el xs k).entries := by
  obtain ⟨ad, cs, e, hr, hc0⟩ := h.get k hk
  rw [← el_eq xs k hk] at hr
  have hc : ∀ i u, cs[i]? = some u → w.cell? (ad.add (k * 2 + i)) = some u := hc0
  obtain ⟨A0, c0, rfl, h0, g0⟩ := Le_open hr
  exact ⟨ad, A0, c0, e, hc 0 _ rfl, by rw [← add_field _ _ 1 (by omega)]; exact hc 1 _ rfl, h0, g0⟩

structure Pe where
  first : Int
  last : Int
instance : Inhabited Pe := ⟨⟨0, 0⟩⟩
def cPe : Cod Pe := Cod.iso (Cod.pair cInt cInt) (fun x : Pe => (x.first, x.last))
theorem Pe_open {w : World} {S : Nat → Prop} {x : Pe} {cs : List Value} (h : cPe.rd w S x cs) : cs = [.int .i64 x.first, .int .i64 x.last] := by
  obtain ⟨_, _, rfl, rfl, rfl⟩ := h
  exact rfl
theorem Pe_mk {w : World} {S : Nat → Prop} {x : Pe} : cPe.rd w S x [.int .i64 x.first, .int .i64 x.last] := ⟨[.int .i64 x.first], [.int .i64 x.last], rfl, rfl, rfl⟩
theorem at_Pe {w : World} {S : Nat → Prop} {A : Option Addr} {xs : List Pe} (h : Sl cPe w S A xs) (k : Nat) (hk : k < xs.length) : ∃ ad, A = some ad ∧ w.cell? (ad.add (k * 2)) = some (.int .i64 (el xs k).first) ∧ w.cell? ⟨(ad.add (k * 2)).block, (ad.add (k * 2)).off + 1, none⟩ = some (.int .i64 (el xs k).last) := by
  obtain ⟨ad, cs, e, hr, hc0⟩ := h.get k hk
  rw [← el_eq xs k hk] at hr
  have hc : ∀ i u, cs[i]? = some u → w.cell? (ad.add (k * 2 + i)) = some u := hc0
  obtain rfl := Pe_open hr
  exact ⟨ad, e, hc 0 _ rfl, by rw [← add_field _ _ 1 (by omega)]; exact hc 1 _ rfl⟩

structure Bk where
  frame : Fr
  ledger : Le
  periods : List Pe
  closed : Int
  kept : Int
instance : Inhabited Bk := ⟨⟨default, default, [], 0, 0⟩⟩
def cBk : Cod Bk := Cod.iso (Cod.pair cFr (Cod.pair cLe (Cod.pair (Cod.slice cPe (by decide)) (Cod.pair cInt cInt)))) (fun x : Bk => (x.frame, (x.ledger, (x.periods, (x.closed, x.kept)))))
theorem Bk_open {w : World} {S : Nat → Prop} {x : Bk} {cs : List Value} (h : cBk.rd w S x cs) : ∃ A0 c0 A3 c3 A5 c5, cs = [.slice A0 x.frame.chart.length c0, .int .i64 x.frame.dims, .int .i64 x.frame.curs, .slice A3 x.ledger.entries.length c3, .int .i64 x.ledger.head, .slice A5 x.periods.length c5, .int .i64 x.closed, .int .i64 x.kept] ∧ x.frame.chart.length ≤ c0 ∧ Sl cAc w S A0 x.frame.chart ∧ x.ledger.entries.length ≤ c3 ∧ Sl cEn w S A3 x.ledger.entries ∧ x.periods.length ≤ c5 ∧ Sl cPe w S A5 x.periods := by
  obtain ⟨_, _, rfl, s0, ⟨_, _, rfl, s1, ⟨_, _, rfl, ⟨A5, c5, rfl, h5, g5⟩, ⟨_, _, rfl, rfl, rfl⟩⟩⟩⟩ := h
  obtain ⟨A0, c0, rfl, h0, g0⟩ := Fr_open s0
  obtain ⟨A3, c3, rfl, h3, g3⟩ := Le_open s1
  exact ⟨A0, c0, A3, c3, A5, c5, rfl, h0, g0, h3, g3, h5, g5⟩
theorem Bk_mk {w : World} {S : Nat → Prop} {x : Bk} {A0 : Option Addr} {c0 : Nat} (h0 : x.frame.chart.length ≤ c0) (g0 : Sl cAc w S A0 x.frame.chart) {A3 : Option Addr} {c3 : Nat} (h3 : x.ledger.entries.length ≤ c3) (g3 : Sl cEn w S A3 x.ledger.entries) {A5 : Option Addr} {c5 : Nat} (h5 : x.periods.length ≤ c5) (g5 : Sl cPe w S A5 x.periods) : cBk.rd w S x [.slice A0 x.frame.chart.length c0, .int .i64 x.frame.dims, .int .i64 x.frame.curs, .slice A3 x.ledger.entries.length c3, .int .i64 x.ledger.head, .slice A5 x.periods.length c5, .int .i64 x.closed, .int .i64 x.kept] := ⟨[.slice A0 x.frame.chart.length c0, .int .i64 x.frame.dims, .int .i64 x.frame.curs], [.slice A3 x.ledger.entries.length c3, .int .i64 x.ledger.head, .slice A5 x.periods.length c5, .int .i64 x.closed, .int .i64 x.kept], rfl, (Fr_mk h0 g0), ⟨[.slice A3 x.ledger.entries.length c3, .int .i64 x.ledger.head], [.slice A5 x.periods.length c5, .int .i64 x.closed, .int .i64 x.kept], rfl, (Le_mk h3 g3), ⟨[.slice A5 x.periods.length c5], [.int .i64 x.closed, .int .i64 x.kept], rfl, ⟨A5, c5, rfl, h5, g5⟩, ⟨[.int .i64 x.closed], [.int .i64 x.kept], rfl, rfl, rfl⟩⟩⟩⟩
theorem at_Bk {w : World} {S : Nat → Prop} {A : Option Addr} {xs : List Bk} (h : Sl cBk w S A xs) (k : Nat) (hk : k < xs.length) : ∃ ad A0 c0 A3 c3 A5 c5, A = some ad ∧ w.cell? (ad.add (k * 8)) = some (.slice A0 (el xs k).frame.chart.length c0) ∧ w.cell? ⟨(ad.add (k * 8)).block, (ad.add (k * 8)).off + 1, none⟩ = some (.int .i64 (el xs k).frame.dims) ∧ w.cell? ⟨(ad.add (k * 8)).block, (ad.add (k * 8)).off + 2, none⟩ = some (.int .i64 (el xs k).frame.curs) ∧ w.cell? ⟨(ad.add (k * 8)).block, (ad.add (k * 8)).off + 3, none⟩ = some (.slice A3 (el xs k).ledger.entries.length c3) ∧ w.cell? ⟨(ad.add (k * 8)).block, (ad.add (k * 8)).off + 4, none⟩ = some (.int .i64 (el xs k).ledger.head) ∧ w.cell? ⟨(ad.add (k * 8)).block, (ad.add (k * 8)).off + 5, none⟩ = some (.slice A5 (el xs k).periods.length c5) ∧ w.cell? ⟨(ad.add (k * 8)).block, (ad.add (k * 8)).off + 6, none⟩ = some (.int .i64 (el xs k).closed) ∧ w.cell? ⟨(ad.add (k * 8)).block, (ad.add (k * 8)).off + 7, none⟩ = some (.int .i64 (el xs k).kept) ∧ (el xs k).frame.chart.length ≤ c0 ∧ Sl cAc w S A0 (el xs k).frame.chart ∧ (el xs k).ledger.entries.length ≤ c3 ∧ Sl cEn w S A3 (el xs k).ledger.entries ∧ (el xs k).periods.length ≤ c5 ∧ Sl cPe w S A5 (el xs k).periods := by
  obtain ⟨ad, cs, e, hr, hc0⟩ := h.get k hk
  rw [← el_eq xs k hk] at hr
  have hc : ∀ i u, cs[i]? = some u → w.cell? (ad.add (k * 8 + i)) = some u := hc0
  obtain ⟨A0, c0, A3, c3, A5, c5, rfl, h0, g0, h3, g3, h5, g5⟩ := Bk_open hr
  exact ⟨ad, A0, c0, A3, c3, A5, c5, e, hc 0 _ rfl, by rw [← add_field _ _ 1 (by omega)]; exact hc 1 _ rfl, by rw [← add_field _ _ 2 (by omega)]; exact hc 2 _ rfl, by rw [← add_field _ _ 3 (by omega)]; exact hc 3 _ rfl, by rw [← add_field _ _ 4 (by omega)]; exact hc 4 _ rfl, by rw [← add_field _ _ 5 (by omega)]; exact hc 5 _ rfl, by rw [← add_field _ _ 6 (by omega)]; exact hc 6 _ rfl, by rw [← add_field _ _ 7 (by omega)]; exact hc 7 _ rfl, h0, g0, h3, g3, h5, g5⟩

structure St where
  over : Int
  roles : List ByteArray
instance : Inhabited St := ⟨⟨0, []⟩⟩
def cSt : Cod St := Cod.iso (Cod.pair cInt (Cod.slice cStr (by decide))) (fun x : St => (x.over, x.roles))
theorem St_open {w : World} {S : Nat → Prop} {x : St} {cs : List Value} (h : cSt.rd w S x cs) : ∃ A1 c1, cs = [.int .i64 x.over, .slice A1 x.roles.length c1] ∧ x.roles.length ≤ c1 ∧ Sl cStr w S A1 x.roles := by
  obtain ⟨_, _, rfl, rfl, ⟨A1, c1, rfl, h1, g1⟩⟩ := h
  exact ⟨A1, c1, rfl, h1, g1⟩
theorem St_mk {w : World} {S : Nat → Prop} {x : St} {A1 : Option Addr} {c1 : Nat} (h1 : x.roles.length ≤ c1) (g1 : Sl cStr w S A1 x.roles) : cSt.rd w S x [.int .i64 x.over, .slice A1 x.roles.length c1] := ⟨[.int .i64 x.over], [.slice A1 x.roles.length c1], rfl, rfl, ⟨A1, c1, rfl, h1, g1⟩⟩
theorem at_St {w : World} {S : Nat → Prop} {A : Option Addr} {xs : List St} (h : Sl cSt w S A xs) (k : Nat) (hk : k < xs.length) : ∃ ad A1 c1, A = some ad ∧ w.cell? (ad.add (k * 2)) = some (.int .i64 (el xs k).over) ∧ w.cell? ⟨(ad.add (k * 2)).block, (ad.add (k * 2)).off + 1, none⟩ = some (.slice A1 (el xs k).roles.length c1) ∧ (el xs k).roles.length ≤ c1 ∧ Sl cStr w S A1 (el xs k).roles := by
  obtain ⟨ad, cs, e, hr, hc0⟩ := h.get k hk
  rw [← el_eq xs k hk] at hr
  have hc : ∀ i u, cs[i]? = some u → w.cell? (ad.add (k * 2 + i)) = some u := hc0
  obtain ⟨A1, c1, rfl, h1, g1⟩ := St_open hr
  exact ⟨ad, A1, c1, e, hc 0 _ rfl, by rw [← add_field _ _ 1 (by omega)]; exact hc 1 _ rfl, h1, g1⟩

structure Ps where
  name : ByteArray
  roles : List ByteArray
  limit : Int
  stands : ByteArray
  away : Bool
instance : Inhabited Ps := ⟨⟨⟨#[]⟩, [], 0, ⟨#[]⟩, false⟩⟩
def cPs : Cod Ps := Cod.iso (Cod.pair cStr (Cod.pair (Cod.slice cStr (by decide)) (Cod.pair cInt (Cod.pair cStr cBool)))) (fun x : Ps => (x.name, (x.roles, (x.limit, (x.stands, x.away)))))
theorem Ps_open {w : World} {S : Nat → Prop} {x : Ps} {cs : List Value} (h : cPs.rd w S x cs) : ∃ A1 c1, cs = [.string x.name, .slice A1 x.roles.length c1, .int .i64 x.limit, .string x.stands, .bool x.away] ∧ x.name.size ≤ 140737488355328 ∧ x.stands.size ≤ 140737488355328 ∧ x.roles.length ≤ c1 ∧ Sl cStr w S A1 x.roles := by
  obtain ⟨_, _, rfl, ⟨rfl, z0⟩, ⟨_, _, rfl, ⟨A1, c1, rfl, h1, g1⟩, ⟨_, _, rfl, rfl, ⟨_, _, rfl, ⟨rfl, z3⟩, rfl⟩⟩⟩⟩ := h
  exact ⟨A1, c1, rfl, z0, z3, h1, g1⟩
theorem Ps_mk {w : World} {S : Nat → Prop} {x : Ps} (z0 : x.name.size ≤ 140737488355328) (z3 : x.stands.size ≤ 140737488355328) {A1 : Option Addr} {c1 : Nat} (h1 : x.roles.length ≤ c1) (g1 : Sl cStr w S A1 x.roles) : cPs.rd w S x [.string x.name, .slice A1 x.roles.length c1, .int .i64 x.limit, .string x.stands, .bool x.away] := ⟨[.string x.name], [.slice A1 x.roles.length c1, .int .i64 x.limit, .string x.stands, .bool x.away], rfl, ⟨rfl, z0⟩, ⟨[.slice A1 x.roles.length c1], [.int .i64 x.limit, .string x.stands, .bool x.away], rfl, ⟨A1, c1, rfl, h1, g1⟩, ⟨[.int .i64 x.limit], [.string x.stands, .bool x.away], rfl, rfl, ⟨[.string x.stands], [.bool x.away], rfl, ⟨rfl, z3⟩, rfl⟩⟩⟩⟩
theorem at_Ps {w : World} {S : Nat → Prop} {A : Option Addr} {xs : List Ps} (h : Sl cPs w S A xs) (k : Nat) (hk : k < xs.length) : ∃ ad A1 c1, A = some ad ∧ w.cell? (ad.add (k * 5)) = some (.string (el xs k).name) ∧ w.cell? ⟨(ad.add (k * 5)).block, (ad.add (k * 5)).off + 1, none⟩ = some (.slice A1 (el xs k).roles.length c1) ∧ w.cell? ⟨(ad.add (k * 5)).block, (ad.add (k * 5)).off + 2, none⟩ = some (.int .i64 (el xs k).limit) ∧ w.cell? ⟨(ad.add (k * 5)).block, (ad.add (k * 5)).off + 3, none⟩ = some (.string (el xs k).stands) ∧ w.cell? ⟨(ad.add (k * 5)).block, (ad.add (k * 5)).off + 4, none⟩ = some (.bool (el xs k).away) ∧ (el xs k).name.size ≤ 140737488355328 ∧ (el xs k).stands.size ≤ 140737488355328 ∧ (el xs k).roles.length ≤ c1 ∧ Sl cStr w S A1 (el xs k).roles := by
  obtain ⟨ad, cs, e, hr, hc0⟩ := h.get k hk
  rw [← el_eq xs k hk] at hr
  have hc : ∀ i u, cs[i]? = some u → w.cell? (ad.add (k * 5 + i)) = some u := hc0
  obtain ⟨A1, c1, rfl, z0, z3, h1, g1⟩ := Ps_open hr
  exact ⟨ad, A1, c1, e, hc 0 _ rfl, by rw [← add_field _ _ 1 (by omega)]; exact hc 1 _ rfl, by rw [← add_field _ _ 2 (by omega)]; exact hc 2 _ rfl, by rw [← add_field _ _ 3 (by omega)]; exact hc 3 _ rfl, by rw [← add_field _ _ 4 (by omega)]; exact hc 4 _ rfl, z0, z3, h1, g1⟩

structure At where
  who : Int
  role : ByteArray
instance : Inhabited At := ⟨⟨0, ⟨#[]⟩⟩⟩
def cAt : Cod At := Cod.iso (Cod.pair cInt cStr) (fun x : At => (x.who, x.role))
theorem At_open {w : World} {S : Nat → Prop} {x : At} {cs : List Value} (h : cAt.rd w S x cs) : cs = [.int .i64 x.who, .string x.role] ∧ x.role.size ≤ 140737488355328 := by
  obtain ⟨_, _, rfl, rfl, ⟨rfl, z1⟩⟩ := h
  exact ⟨rfl, z1⟩
theorem At_mk {w : World} {S : Nat → Prop} {x : At} (z1 : x.role.size ≤ 140737488355328) : cAt.rd w S x [.int .i64 x.who, .string x.role] := ⟨[.int .i64 x.who], [.string x.role], rfl, rfl, ⟨rfl, z1⟩⟩
theorem at_At {w : World} {S : Nat → Prop} {A : Option Addr} {xs : List At} (h : Sl cAt w S A xs) (k : Nat) (hk : k < xs.length) : ∃ ad, A = some ad ∧ w.cell? (ad.add (k * 2)) = some (.int .i64 (el xs k).who) ∧ w.cell? ⟨(ad.add (k * 2)).block, (ad.add (k * 2)).off + 1, none⟩ = some (.string (el xs k).role) ∧ (el xs k).role.size ≤ 140737488355328 := by
  obtain ⟨ad, cs, e, hr, hc0⟩ := h.get k hk
  rw [← el_eq xs k hk] at hr
  have hc : ∀ i u, cs[i]? = some u → w.cell? (ad.add (k * 2 + i)) = some u := hc0
  obtain ⟨rfl, z1⟩ := At_open hr
  exact ⟨ad, e, hc 0 _ rfl, by rw [← add_field _ _ 1 (by omega)]; exact hc 1 _ rfl, z1⟩
end Go.Proofs.Ythgnfpbbhiegfaa
