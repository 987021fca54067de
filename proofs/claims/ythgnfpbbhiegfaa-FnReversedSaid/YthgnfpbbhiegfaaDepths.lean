/- The walks of the functions on charts (the program's): depths, ChartOk. -/
import Derived.Test.YthgnfpbbhiegfaaChartP
import Derived.Test.YthgnfpbbhiegfaaOwn2
import Derived.Maps.OwnSet
import Derived.Maps.OwnOps
import Derived.Maps.Views
import Derived.Lib.Strings
import Derived.StringKeys
namespace Go.Proofs.Ythgnfpbbhiegfaa
open Go.RowKit Go.Maps
theorem infoInt2 : (Try.prog.info? 3).map (fun i => (i.zero, i.size, i.bytes)) = some (some (.int .i64 0), 1, 8) := by kernel_rfl
theorem zeroInt (w : World) : (zeroValue 3).run Try.prog w = .ok (.int .i64 0) w := by kernel_rfl
theorem strLaw : Keyed Try.prog 9 := string_keyed Try.underlying9
theorem sameT_iff {a b : ByteArray} : sameT a b = true ↔ a = b := by
  unfold sameT
  rw [beq_iff_eq]
  constructor
  · intro h
    rw [Go.Lib.toList_data, Go.Lib.toList_data] at h
    exact WideShapes.bytes_inj h
  · rintro rfl; rfl
theorem wf64 {x : Int} (h1 : -9223372036854775808 ≤ x) (h2 : x ≤ 9223372036854775807) : (Lit.int .i64 x).wf = true := by
  have e1 : IntKind.i64.min = -9223372036854775808 := rfl
  have e2 : IntKind.i64.max = 9223372036854775807 := rfl
  simp only [Lit.wf, e1, e2, Bool.and_eq_true, decide_eq_true_eq]
  exact ⟨h1, h2⟩
/-- The map of the codes that were seen. -/
def Seen (l : List Ac) (i : Nat) (D : DataW Nat) : Prop := IsMap D ∧ ∀ s : ByteArray, has D (.string s.data.toList) = (List.range i).any (fun j => sameT (el l j).code s)
theorem seen_none (l : List Ac) : Seen l 0 (.map []) := ⟨isMap_empty, fun s => by simp [has_eq]⟩
theorem seen_put {l : List Ac} {i : Nat} {D : DataW Nat} (h : Seen l i D) (d : DataW Nat) : Seen l (i + 1) (D.put (.string (el l i).code.data.toList) d) := by
  refine ⟨h.1.put _ _, fun s => ?_⟩
  rw [List.range_succ, List.any_append, List.any_cons, List.any_nil, Bool.or_false]
  by_cases e : (el l i).code = s
  · subst e
    rw [has_put_same h.1 (by trivial), sameT_iff.2 rfl, Bool.or_true]
  · rw [has_put_other, h.2]
    · have : sameT (el l i).code s = false := by
        cases hs : sameT (el l i).code s
        · rfl
        · exact absurd (sameT_iff.1 hs) e
      rw [this, Bool.or_false]
    · intro h1
      injection h1 with h1
      exact e (WideShapes.bytes_inj h1).symm
/-- The depths of the first k accounts, and zeros. -/
def deepTo (l : List Ac) (k : Nat) : List Int := (List.range l.length).map (fun j => if j < k then (deep l j : Int) else 0)
theorem deepTo_len (l : List Ac) (k : Nat) : (deepTo l k).length = l.length := by simp [deepTo]
theorem deepTo_zero (l : List Ac) : deepTo l 0 = List.replicate l.length 0 := by
  apply List.ext_getElem
  · simp [deepTo]
  · intro j h1 h2; simp [deepTo]
theorem deepTo_el {l : List Ac} {k j : Nat} (hj : j < l.length) : el (deepTo l k) j = if j < k then (deep l j : Int) else 0 := by
  rw [el_eq _ _ (by rw [deepTo_len]; exact hj)]
  simp [deepTo]
theorem deepTo_set {l : List Ac} {k : Nat} (_hk : k < l.length) : (deepTo l k).set k (deep l k) = deepTo l (k + 1) := by
  apply List.ext_getElem
  · simp [deepTo]
  · intro j h1 h2
    rw [List.getElem_set]
    simp only [deepTo, List.getElem_map, List.getElem_range]
    split
    · rename_i e; subst e; rw [if_pos (by omega)]
    · rename_i e
      by_cases hj : j < k
      · rw [if_pos hj, if_pos (by omega)]
      · rw [if_neg hj, if_neg (by omega)]
theorem deepTo_same {l : List Ac} {k : Nat} (h0 : ¬ 0 ≤ par l k) : deepTo l k = deepTo l (k + 1) := by
  unfold deepTo
  apply List.map_congr_left
  intro j _
  by_cases hj : j < k
  · rw [if_pos hj, if_pos (by omega)]
  · by_cases e : j = k
    · subst e; rw [if_neg hj, if_pos (by omega), deep_zero h0]; rfl
    · rw [if_neg hj, if_neg (by omega)]
set_option maxRecDepth 100000 in
set_option maxHeartbeats 2000000 in
theorem impl_depths_c {S : Nat → Prop} (A : Option Addr) (c : Nat) (l : List Ac) (w : World) (hr : Sl cAc w S A l) :
    Calls Try.prog 266 #[.slice A l.length c] w fun e w' => (∃ v, e = .returned (.tuple #[v, .bool (chartB l)])) ∧ Below w.heap.size w w' := by
  have hl := hr.1
  have hmm := @run_makeMap Try.prog
  cases hb : inB l.length 1 120
  · have hno := Lib.hid (chartB_len hb)
    have h1 : (l.length : Int) < 1 ∨ (¬ (l.length : Int) < 1 ∧ (120 : Int) < l.length) := by
      unfold inB at hb
      simp at hb
      omega
    clear hb
    go_enter Try.func266, Try.ntmps266
    rcases h1 with h1 | ⟨h1, h2⟩
    all_goals
      go_wp2
      go_ret2
      exact ⟨⟨_, by rw [hno.out]; rfl⟩, Bel.out⟩
  · have hbd := inB_t hb
    have HB := Lib.hid hb
    have h1 : ¬ (l.length : Int) < 1 := by omega
    have h2 : ¬ (120 : Int) < l.length := by omega
    go_enter Try.func266, Try.ntmps266
    go_wp2_with (at_make; refine Own.make cInt 65 3 (w.heap.size + 1) rfl _ _ rfl Try.underlying65 (.int .i64 0) 8 infoInt2 rfl (0 : Int) (fun _ _ => rfl) .i64 .i64 l.length rfl rfl (by omega) (by omega) (by simp) ?_; intro w1 hown1 hg1)
    have b1 : Bel w w1 := ⟨(Below.refl _ _ |>.alloc (Nat.le_refl _) _).grown hg1 (by simp) (by simp)⟩
    have hm1 := (World.ownsMap_made w Try.prog 9 (plainElem (H := Nat) Try.prog 3)).kept hg1 (by simp)
    rw [← deepTo_zero] at hown1
    have O1 := Lib.hid hown1
    have M1 := Lib.hid hm1
    have HZ := Lib.hid hg1
    clear hown1 hm1 hg1
    go_loopw [25] (fun v wq => ∃ k : Nat, k ≤ l.length ∧ v = .int .i64 k ∧ (∀ j, j < k → accB l j = true) ∧ (∃ D, Seen l k D ∧ wq.ownsMap Try.prog 9 (plainElem Try.prog 3) w.heap.size k D) ∧ Own cInt 3 wq (w.heap.size + 1) (.slice (some ⟨w.heap.size + 1, 0, none⟩) l.length l.length) (deepTo l k) ∧ Below w.heap.size w wq) (fun v _ => l.length - (intOf v).toNat)
    case atStart => exact ⟨0, Nat.zero_le _, rfl, fun j hj => absurd hj (Nat.not_lt_zero j), ⟨_, seen_none l, M1.out⟩, by simpa using O1.out, b1.out⟩
    case round =>
      clear O1 M1 HZ b1
      obtain ⟨wo, rfl⟩ : ∃ wo : World, wo = wr := ⟨_, rfl⟩
      obtain ⟨k, hk, rfl, hall, ⟨D, hD, hM⟩, hO, hB⟩ := hrel
      have HA := Lib.hid hall
      have HD := Lib.hid hD
      have HM := Lib.hid hM
      have HO := Lib.hid hO
      clear hall hD hM hO
      have bo : Bel w wo := ⟨hB⟩
      by_cases hlt : k < l.length
      · obtain ⟨ad, rfl, l0, l1, l2, hz⟩ := at_Ac (hr.to (w1 := wo)) k hlt
        have i0 : (0 : Int) ≤ (k : Int) := Int.natCast_nonneg k
        have i1 : (k : Int) < (l.length : Int) := by omega
        have hno : accB l k = false → chartB l = false := fun h => chartB_no hlt h
        have HNO := Lib.hid hno
        clear hno
        have hkey : keyOf Try.prog 9 (.string (el l k).code) = some (.string (el l k).code.data.toList) := WideMaps.keyOf_string_mk Try.underlying9 (by simp only [maxLen]; omega)
        have HH := Lib.hid (HD.out.2 (el l k).code)
        cases hdup : has D (.string (el l k).code.data.toList)
        · cases hn : nameB (el l k).code
          · have hno := Lib.hid (HNO.out (by unfold accB; rw [hn]; rfl))
            go_wp2_with (first | (at_lookup; refine wpList_lookup_own_ok_int _ rfl _ _ 352 rfl 9 3 .i64 strLaw Try.underlying352 Try.underlying3 (zeroInt _) w.heap.size k _ rfl (HM.out.alloc _) _ _ rfl hkey ?_; intro c1 hat hwc) | (go_at_call 200; refine (impl_NameOk_c _ _ hz).mono ?_; rintro e w' ⟨rfl, rfl⟩) | (go_at_call 275; refine (kindOk_c _ _).mono ?_; rintro e w' ⟨rfl, rfl⟩))
            go_ret2
            exact ⟨⟨_, by rw [hno.out]; rfl⟩, Bel.out⟩
          · cases hki : inB (el l k).kind 1 5
            · have hno := Lib.hid (HNO.out (by unfold accB; rw [hn, hki]; rfl))
              go_wp2_with (first | (at_lookup; refine wpList_lookup_own_ok_int _ rfl _ _ 352 rfl 9 3 .i64 strLaw Try.underlying352 Try.underlying3 (zeroInt _) w.heap.size k _ rfl (HM.out.alloc _) _ _ rfl hkey ?_; intro c1 hat hwc) | (go_at_call 200; refine (impl_NameOk_c _ _ hz).mono ?_; rintro e w' ⟨rfl, rfl⟩) | (go_at_call 275; refine (kindOk_c _ _).mono ?_; rintro e w' ⟨rfl, rfl⟩))
              go_ret2
              exact ⟨⟨_, by rw [hno.out]; rfl⟩, Bel.out⟩
            · have hcodes : (List.range k).all (fun j => !sameT (el l j).code (el l k).code) = true := by
                rw [hdup] at HH
                rw [List.all_eq_true]
                intro j hj
                have := HH.out
                rw [eq_comm, List.any_eq_false] at this
                simpa using this j hj
              have HAc : accB l k = (decide (par l k = -1) || (decide (0 ≤ path l (par l k) ((k : Int) - 1)) && decide ((el l (path l (par l k) ((k : Int) - 1)).toNat).kind = (el l k).kind) && decide (deep l k ≤ 8))) := by
                unfold accB
                rw [hn, hki, hcodes, Bool.true_and, Bool.true_and, Bool.true_and]
              have HAC := Lib.hid HAc
              clear HAc hcodes HH
              by_cases hpar : (el l k).parent = -1
              · have p1 : ((el l k).parent == (-1 : Int)) = true := beq_iff_eq.2 hpar
                have hpk : par l k = -1 := hpar
                have HPK := Lib.hid hpk
                clear hpar hpk
                go_wp2_with (first | (at_lookup; refine wpList_lookup_own_ok_int _ rfl _ _ 352 rfl 9 3 .i64 strLaw Try.underlying352 Try.underlying3 (zeroInt _) w.heap.size k _ rfl (HM.out.alloc _) _ _ rfl hkey ?_; intro c1 hat hwc) | (go_at_call 200; refine (impl_NameOk_c _ _ hz).mono ?_; rintro e w' ⟨rfl, rfl⟩) | (go_at_call 275; refine (kindOk_c _ _).mono ?_; rintro e w' ⟨rfl, rfl⟩) | (at_mapUpdate; refine wpList_mapUpdate_own _ rfl _ _ _ 352 rfl 9 3 strLaw Try.underlying352 _ w.heap.size k _ rfl (HM.out.alloc _) (by unfold maxLen; omega) _ _ _ rfl rfl hkey _ [] (plainElem_int Try.underlying3 (wf64 (by omega) (by omega))) ?_; intro w1 hown1 hgrow1; have xb : w1.heap[wo.heap.size]? = some (.cells #[.string (el l k).code, .int .i64 (el l k).parent, .int .i64 (el l k).kind] 115 (0, 0)) := (hgrow1.block wo.heap.size (by simp) (by have := HM.out.lt; simp; omega)).trans (heap_alloc_new _ _); have b1 : Bel w w1 := ⟨(Bel.out : Below w.heap.size w (wo.alloc _)).grown hgrow1 Bel.out.size (by simp)⟩; have hO1 := Lib.hid ((HO.out.to (w1 := wo.alloc _)).grown hgrow1 (by simp) (fun _ _ h => h)); have hM1 := Lib.hid hown1; have XB := Lib.hid xb; have y1 := (box_cell xb 1).trans rfl; have y2 := (box_cell xb 2).trans rfl; clear xb hgrow1 hown1))
                go_roundw
                case rel =>
                  refine ⟨k + 1, by omega, by go_num, fun j hj => ?_, ⟨_, seen_put HD.out _, hM1.out⟩, ?_, b1.out⟩
                  · by_cases e : j = k
                    · subst e
                      rw [HAC.out, HPK.out]
                      simp
                    · exact HA.out j (by omega)
                  · rw [← deepTo_same (by rw [HPK.out]; omega)]
                    exact hO1.out
                case measure => simp [intOf]; omega
              · have p1 : ((el l k).parent == (-1 : Int)) = false := beq_eq_false_iff_ne.2 hpar
                have HP := Lib.hid hpar
                clear hpar
                go_wp2_with (first | (at_lookup; refine wpList_lookup_own_ok_int _ rfl _ _ 352 rfl 9 3 .i64 strLaw Try.underlying352 Try.underlying3 (zeroInt _) w.heap.size k _ rfl (HM.out.alloc _) _ _ rfl hkey ?_; intro c1 hat hwc) | (go_at_call 200; refine (impl_NameOk_c _ _ hz).mono ?_; rintro e w' ⟨rfl, rfl⟩) | (go_at_call 275; refine (kindOk_c _ _).mono ?_; rintro e w' ⟨rfl, rfl⟩) | (at_mapUpdate; refine wpList_mapUpdate_own _ rfl _ _ _ 352 rfl 9 3 strLaw Try.underlying352 _ w.heap.size k _ rfl (HM.out.alloc _) (by unfold maxLen; omega) _ _ _ rfl rfl hkey _ [] (plainElem_int Try.underlying3 (wf64 (by omega) (by omega))) ?_; intro w1 hown1 hgrow1; have xb : w1.heap[wo.heap.size]? = some (.cells #[.string (el l k).code, .int .i64 (el l k).parent, .int .i64 (el l k).kind] 115 (0, 0)) := (hgrow1.block wo.heap.size (by simp) (by have := HM.out.lt; simp; omega)).trans (heap_alloc_new _ _); have b1 : Bel w w1 := ⟨(Bel.out : Below w.heap.size w (wo.alloc _)).grown hgrow1 Bel.out.size (by simp)⟩; have hO1 := Lib.hid ((HO.out.to (w1 := wo.alloc _)).grown hgrow1 (by simp) (fun _ _ h => h)); have hM1 := Lib.hid hown1; have XB := Lib.hid xb; have y1 := (box_cell xb 1).trans rfl; have y2 := (box_cell xb 2).trans rfl; clear xb hgrow1 hown1))
                go_loopw [10] (fun v wq => ∃ on : Int, -1 ≤ on ∧ on < k ∧ v = .int .i64 on ∧ path l (par l k) on = path l (par l k) ((k : Int) - 1) ∧ wq = w1) (fun v _ => (intOf v + 1).toNat)
                case atStart => exact ⟨(k : Int) - 1, by omega, by omega, rfl, rfl, rfl⟩
                case round =>
                  obtain ⟨on, on1, on2, rfl, hpath, rfl⟩ := hrel
                  have HPa := Lib.hid hpath
                  clear hpath
                  have hdec := accs_dec k HA.out
                  have HDec := Lib.hid hdec
                  clear hdec
                  by_cases hgo : 0 ≤ on ∧ on ≠ (el l k).parent
                  · obtain ⟨g0, g1⟩ := hgo
                    obtain ⟨o, rfl⟩ := Int.eq_ofNat_of_zero_le g0
                    obtain ⟨ad', he, -, j1, -⟩ := at_Ac (hr.to (w1 := wr)) o (by omega)
                    cases he
                    have i1 : ((o : Int) != (el l k).parent) = true := by rw [bne_iff_ne]; exact g1
                    have i2 : (o : Int) < (l.length : Int) := by omega
                    have hdo := accs_dec k HA.out o (by omega)
                    have hacc := HA.out o (by omega)
                    have hpo := acc_par hacc (HDec.out.less (by omega))
                    have hp2 : -1 ≤ (el l o).parent ∧ (el l o).parent < o := by unfold par at hpo hdo; omega
                    clear hdo hacc hpo
                    go_wp2
                    go_roundw
                    case rel =>
                      refine ⟨(el l o).parent, by omega, by omega, rfl, ?_, trivial⟩
                      rw [← HPa.out]
                      exact (path_step (p := par l k) HDec.out ⟨g0, g1⟩ on2).symm
                    case measure => simp [intOf]; omega
                  · by_cases hm : on < 0
                    · have d0 : decide (on < 0) = true := decide_eq_true hm
                      have hno := Lib.hid (HNO.out (by
                        rw [HAC.out, ← HPa.out, path_stop (by omega)]
                        have h1 : ¬ par l k = -1 := HP.out
                        simp [h1]
                        omega))
                      go_wp2
                      go_quiet (fail)
                      go_wp2
                      go_ret2
                      exact ⟨⟨_, by rw [hno.out]; rfl⟩, below_drewN b1.out _⟩
                    · have he : on = (el l k).parent := by omega
                      have hpe : path l (par l k) ((k : Int) - 1) = par l k := by rw [← HPa.out, path_stop (by unfold par; omega)]; exact he
                      subst he
                      have hdk : Dec l (k + 1) := fun i hi => by
                        by_cases e : i = k
                        · subst e; unfold par; omega
                        · exact HDec.out i (by omega)
                      have hds : deep l k = deep l (el l k).parent.toNat + 1 := deep_step hdk (show k < k + 1 by omega) (by unfold par; omega)
                      have hacc : accB l k = (decide ((el l (el l k).parent.toNat).kind = (el l k).kind) && decide (deep l (el l k).parent.toNat + 1 ≤ 8)) := by
                        rw [HAC.out, hpe, show decide (par l k = -1) = false from decide_eq_false HP.out, Bool.false_or, show decide (0 ≤ par l k) = true from decide_eq_true (by unfold par; omega), Bool.true_and, hds]
                        rfl
                      have HDS := Lib.hid hds
                      have HACC := Lib.hid hacc
                      clear hacc hds hpe hgo hdk
                      obtain ⟨ad', he, -, -, j2, -⟩ := at_Ac (hr.to (w1 := wr)) (el l k).parent.toNat (by omega)
                      cases he
                      obtain ⟨ad2, he, j3⟩ := at_Int hO1.out.reads (el l k).parent.toNat (by rw [deepTo_len]; omega)
                      cases he
                      rw [deepTo_el (by omega), if_pos (by omega)] at j3
                      have j4 := j3
                      rw [add_base] at j4
                      have i2 : (el l k).parent < (l.length : Int) := by omega
                      have i3 : 0 ≤ (el l k).parent := by omega
                      have d0 : decide ((el l k).parent < 0) = false := decide_eq_false hm
                      by_cases hkk : (el l (el l k).parent.toNat).kind = (el l k).kind
                      · have k2 : ((el l (el l k).parent.toNat).kind != (el l k).kind) = false := by rw [bne_eq_false_iff_eq]; exact hkk
                        have hac2 : accB l k = decide (deep l (el l k).parent.toNat + 1 ≤ 8) := by rw [HACC.out, hkk]; simp
                        have HAC2 := Lib.hid hac2
                        clear hkk hac2
                        by_cases h8 : 8 ≤ deep l (el l k).parent.toNat
                        · have d8 : decide ((8 : Int) ≤ (deep l (el l k).parent.toNat : Int)) = true := decide_eq_true (by omega)
                          have hno := Lib.hid (HNO.out (by rw [HAC2.out]; exact decide_eq_false (by omega)))
                          go_wp2
                          go_quiet (fail)
                          go_wp2
                          go_ret2
                          exact ⟨⟨_, by rw [hno.out]; rfl⟩, below_drewN b1.out _⟩
                        · have d8 : decide ((8 : Int) ≤ (deep l (el l k).parent.toNat : Int)) = false := decide_eq_false (by omega)
                          have hfr := hO1.out.free k
                          obtain ⟨ad3, he, j5⟩ := at_Int hO1.out.reads k (by rw [deepTo_len]; omega)
                          cases he
                          rw [add_base] at j5
                          go_wp2
                          go_quiet (fail)
                          go_wp2
                          go_roundw
                          case rel =>
                            obtain ⟨s1, s2⟩ := (hO1.out.to (w1 := wr.drewN nq)).storeInt k (by rw [deepTo_len]; omega) ((deep l (el l k).parent.toNat : Int) + 1)
                            refine ⟨k + 1, by omega, by go_num, fun j hj => ?_, ⟨_, seen_put HD.out _, World.ownsMap.kept (w := wr.drewN nq) hM1.out s2 (by simp)⟩, ?_, (below_drewN b1.out nq).grown s2 (below_drewN b1.out nq).size (fun j hj => by cases hj; omega)⟩
                            · by_cases e : j = k
                              · subst e
                                rw [HAC2.out]
                                exact decide_eq_true (by omega)
                              · exact HA.out j (by omega)
                            · rw [← deepTo_set (by omega), HDS.out]
                              exact_mod_cast s1
                          case measure => simp [intOf]; omega
                      · have k2 : ((el l (el l k).parent.toNat).kind != (el l k).kind) = true := by rw [bne_iff_ne]; exact hkk
                        have hno := Lib.hid (HNO.out (by rw [HACC.out]; simp [hkk]))
                        clear hkk
                        go_wp2
                        go_quiet (fail)
                        go_wp2
                        go_ret2
                        exact ⟨⟨_, by rw [hno.out]; rfl⟩, below_drewN b1.out _⟩
        · have hno := Lib.hid (HNO.out (by
            rw [hdup] at HH
            have := HH.out
            rw [eq_comm, List.any_eq_true] at this
            obtain ⟨j, hj, hs⟩ := this
            unfold accB
            rw [Bool.and_eq_false_iff, Bool.and_eq_false_iff]
            left; right
            rw [List.all_eq_false]
            exact ⟨j, hj, by simp [hs]⟩))
          go_wp2_with (first | (at_lookup; refine wpList_lookup_own_ok_int _ rfl _ _ 352 rfl 9 3 .i64 strLaw Try.underlying352 Try.underlying3 (zeroInt _) w.heap.size k _ rfl (HM.out.alloc _) _ _ rfl hkey ?_; intro c1 hat hwc) | (go_at_call 200; refine (impl_NameOk_c _ _ hz).mono ?_; rintro e w' ⟨rfl, rfl⟩) | (go_at_call 275; refine (kindOk_c _ _).mono ?_; rintro e w' ⟨rfl, rfl⟩))
          go_ret2
          exact ⟨⟨_, by rw [hno.out]; rfl⟩, Bel.out⟩
      · have ek : k = l.length := by omega
        subst ek
        have hyes := Lib.hid (chartB_yes HB.out HA.out)
        go_wp2
        go_ret2
        exact ⟨⟨_, by rw [hyes.out]; rfl⟩, hB⟩
end Go.Proofs.Ythgnfpbbhiegfaa
