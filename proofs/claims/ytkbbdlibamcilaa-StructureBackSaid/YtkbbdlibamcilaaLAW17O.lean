/- StructureBack: returns true. Condition: the array is read. -/
import Derived.Test.YtkbbdlibamcilaaLAW17L
import Derived.Test.YtkbbdlibamcilaaP17
set_option linter.unusedVariables false
set_option linter.unusedSimpArgs false
namespace Go.Proofs.Ytkbbdlibamcilaa
open Go.RowKit Go.Sort
attribute [local go_sem ↓] run_max2 run_min2
attribute [local go_sem] eql_ints_nil eql_arrs_nil
set_option maxRecDepth 100000 in
set_option maxHeartbeats 8000000 in
theorem law17_back (y : Arr) (sy : Option Addr) (cy : Nat) (ny : Option Addr) (my : Nat) (iy : Option Addr) (jy : Nat) (S : Nat → Prop) (w : World) (h : ArrAt w S y sy ny iy) : Calls Try.prog 7 #[.agg #[.int .i64 y.kind, .slice sy y.shape.length cy, .slice ny y.nums.length my, .slice iy y.items.length jy]] w fun e w' => e = .returned (.bool true) ∧ Below w.heap.size w w' := by
  refine calls_post fun R' hR => ?_
  have h0 := hid h
  have hsl := h.shape.1
  have hnl := h.nums.1
  have hil := h.len
  clear h
  go_enter Try.func7, Try.ntmps7
  go_wp2_with fail
  generalize hEW : (w).alloc (.cells #[.int .i64 y.kind, .slice sy y.shape.length cy, .slice ny y.nums.length my, .slice iy y.items.length jy] 26) = W
  have E := hid (env1 w S hEW)
  clear hEW
  replace E := hid (E.out.arg h0.out)
  (try simp only [List.cons_append, List.nil_append, List.set_cons_zero, List.set_cons_succ] at E)
  refine (ref03_Small y _ _ _ _ _ _ _ _ (E.out.arr 1 rfl)).mono ?_
  rintro e w1 ⟨b1, rfl, hb⟩
  replace E := hid (E.out.up hb)
  clear hb
  cases b1 with
  | false =>
    go_wp2_with (go_at_call 10; refine (law17_example _).mono ?_; rintro e w2 ⟨rfl, hb2⟩)
    exact hR.out _ _ ⟨rfl, (E.out.up hb2).ext⟩
  | true =>
  by_cases c : rightS y = 0
  case neg =>
    have cb : (rightS y != 0) = true := by simpa using c
    replace c := hid c
    obtain ⟨q00, q01, q02, q03⟩ := (E.out.hdr 0 rfl).all
    go_wp2_with fail
    clear q00 q01 q02 q03
    refine (ref03_Right y _ _ _ _ _ _ _ _ (E.out.arr 1 rfl)).mono ?_
    rintro e w3 ⟨rfl, hb⟩
    replace E := hid (E.out.up hb)
    clear hb
    go_wp2_with (go_at_call 10; refine (law17_example _).mono ?_; rintro e w2 ⟨rfl, hb2⟩)
    exact hR.out _ _ ⟨rfl, (E.out.up hb2).ext⟩
  have cb : (rightS y != 0) = false := by simpa using c
  replace c := hid c
  obtain ⟨q00, q01, q02, q03⟩ := (E.out.hdr 0 rfl).all
  go_wp2_with fail
  clear q00 q01 q02 q03
  refine (ref03_Right y _ _ _ _ _ _ _ _ (E.out.arr 1 rfl)).mono ?_
  rintro e w3 ⟨rfl, hb⟩
  replace E := hid (E.out.up hb)
  clear hb
  obtain ⟨r5, hr5⟩ : ∃ r, r = ravS y := ⟨_, rfl⟩
  have u5 : Hid (sameB (.mk r5.kind y.shape r5.nums r5.items) y = true) := hid (by
    rw [hr5, show ravS y = .mk y.kind [(szA y : Int)] y.nums y.items from if_pos c.out]
    cases y
    exact sameB_self _)
  have uy : Hid (sameB y y = true) := hid (sameB_self y)
  replace hr5 := hid hr5
  go_upto_region 3 with (fail)
  obtain ⟨q00, q01, q02, q03⟩ := (E.out.hdr 0 rfl).all
  go_wp2_with fail
  clear q00 q01 q02 q03
  by_cases ez : encE y = 0
  case pos =>
    obtain ⟨e1, e2, e3⟩ := box_back ez
    obtain ⟨r1, hr1⟩ : ∃ r, r = encS y := ⟨_, rfl⟩
    have hq2 : Hid (disE r1 = 0) := hid (by rw [hr1, e1]; exact e2)
    have hr2 : Hid (y = disS r1) := hid (by rw [hr1, e1]; exact e3.symm)
    replace hr1 := hid hr1
    replace ez := hid ez
    clear e1 e2 e3
    refine (structure_Enclose y _ _ _ _ _ _ _ _ (E.out.arr 1 rfl)).mono ?_
    intro e w4 h
    obtain ⟨s1, c1, n1, m1, i1, j1, rfl, hA, hb⟩ := h.eq hr1.out ez.out
    replace E := hid ((E.out.up hb).addArr hA (fun b _ hq => E.out.res (Ext.refl _) hq))
    clear hA hb h
    (try simp only [List.cons_append, List.nil_append, List.set_cons_zero, List.set_cons_succ] at E)
    go_upto_region 4 with (refine wpl_store4 rfl (.tmp 3) (.tmp 24) rfl _ rfl rfl ((E.out.alloc _).hdr 3 rfl) ?_; intro V1 HV CV; replace E := hid ((E.out.alloc _).chg 3 rfl CV HV); clear CV HV; (try simp only [List.cons_append, List.nil_append, List.set_cons_zero, List.set_cons_succ] at E))
    generalize w4.heap.size = p1 at E ⊢
    obtain ⟨q30, q31, q32, q33⟩ := (E.out.hdr 3 rfl).all
    go_wp2_with fail
    clear q30 q31 q32 q33
    refine (structure_Disclose r1 _ _ _ _ _ _ _ _ (E.out.arr 2 rfl)).mono ?_
    intro e w5 h
    obtain ⟨s2, c2, n2, m2, i2, j2, rfl, hA, hb⟩ := h.eq hr2.out hq2.out
    replace E := hid ((E.out.up hb).addArr hA (fun b _ hq => E.out.res (Ext.refl _) hq))
    clear hA hb h
    (try simp only [List.cons_append, List.nil_append, List.set_cons_zero, List.set_cons_succ] at E)
    go_upto_region 5 with (refine wpl_store4 rfl (.tmp 5) (.tmp 29) rfl _ rfl rfl ((E.out.alloc _).hdr 5 rfl) ?_; intro V2 HV CV; replace E := hid ((E.out.alloc _).chg 5 rfl CV HV); clear CV HV; (try simp only [List.cons_append, List.nil_append, List.set_cons_zero, List.set_cons_succ] at E))
    generalize w5.heap.size = p2 at E ⊢
    obtain ⟨q00, q01, q02, q03⟩ := (E.out.hdr 0 rfl).all
    obtain ⟨q50, q51, q52, q53⟩ := (E.out.hdr 5 rfl).all
    go_wp2_with fail
    clear q00 q01 q02 q03 q50 q51 q52 q53
    refine (ref03_Same y y _ _ _ _ _ _ _ _ _ _ _ _ _ _ _ (E.out.arr 4 rfl) (E.out.arr 1 rfl)).mono ?_
    rintro e w11 ⟨rfl, hb⟩
    replace E := hid (E.out.up hb)
    clear hb
    rw [uy.out]
    by_cases d : turE 2 1 y = 0
    case pos =>
      obtain ⟨d1, d2, d3⟩ := tur_back d
      obtain ⟨r3, hr3⟩ : ∃ r, r = turS 2 1 y := ⟨_, rfl⟩
      have hq4 : Hid (turE 1 2 r3 = 0) := hid (by rw [hr3, d1]; exact d2)
      have hr4 : Hid (y = turS 1 2 r3) := hid (by rw [hr3, d1]; exact d3.symm)
      replace hr3 := hid hr3
      replace d := hid d
      clear d1 d2 d3
      go_upto_region 7 with (fail)
      obtain ⟨q00, q01, q02, q03⟩ := (E.out.hdr 0 rfl).all
      go_wp2_with fail
      clear q00 q01 q02 q03
      refine (structure_Ord y _ _ _ _ _ _ _ _ (E.out.arr 1 rfl)).mono ?_
      intro e w6 h
      obtain ⟨s3, c3, n3, m3, i3, j3, rfl, hA, hb⟩ := h.eq hr3.out d.out
      replace E := hid ((E.out.up hb).addArr hA (fun b _ hq => E.out.res (Ext.refl _) hq))
      clear hA hb h
      (try simp only [List.cons_append, List.nil_append, List.set_cons_zero, List.set_cons_succ] at E)
      go_upto_region 8 with (refine wpl_store4 rfl (.tmp 7) (.tmp 46) rfl _ rfl rfl ((E.out.alloc _).hdr 7 rfl) ?_; intro V3 HV CV; replace E := hid ((E.out.alloc _).chg 7 rfl CV HV); clear CV HV; (try simp only [List.cons_append, List.nil_append, List.set_cons_zero, List.set_cons_succ] at E))
      generalize w6.heap.size = p3 at E ⊢
      obtain ⟨q70, q71, q72, q73⟩ := (E.out.hdr 7 rfl).all
      go_wp2_with fail
      clear q70 q71 q72 q73
      refine (structure_Chr r3 _ _ _ _ _ _ _ _ (E.out.arr 6 rfl)).mono ?_
      intro e w7 h
      obtain ⟨s4, c4, n4, m4, i4, j4, rfl, hA, hb⟩ := h.eq hr4.out hq4.out
      replace E := hid ((E.out.up hb).addArr hA (fun b _ hq => E.out.res (Ext.refl _) hq))
      clear hA hb h
      (try simp only [List.cons_append, List.nil_append, List.set_cons_zero, List.set_cons_succ] at E)
      go_upto_region 9 with (refine wpl_store4 rfl (.tmp 9) (.tmp 51) rfl _ rfl rfl ((E.out.alloc _).hdr 9 rfl) ?_; intro V4 HV CV; replace E := hid ((E.out.alloc _).chg 9 rfl CV HV); clear CV HV; (try simp only [List.cons_append, List.nil_append, List.set_cons_zero, List.set_cons_succ] at E))
      generalize w7.heap.size = p4 at E ⊢
      obtain ⟨q00, q01, q02, q03⟩ := (E.out.hdr 0 rfl).all
      obtain ⟨q90, q91, q92, q93⟩ := (E.out.hdr 9 rfl).all
      go_wp2_with fail
      clear q00 q01 q02 q03 q90 q91 q92 q93
      refine (ref03_Same y y _ _ _ _ _ _ _ _ _ _ _ _ _ _ _ (E.out.arr 8 rfl) (E.out.arr 1 rfl)).mono ?_
      rintro e w10 ⟨rfl, hb⟩
      replace E := hid (E.out.up hb)
      clear hb
      rw [uy.out]
      go_upto_region 11 with (fail)
      obtain ⟨q00, q01, q02, q03⟩ := (E.out.hdr 0 rfl).all
      go_wp2_with fail
      clear q00 q01 q02 q03
      refine (structure_Ravel y _ _ _ _ _ _ _ _ (E.out.arr 1 rfl)).mono ?_
      intro e w8 h
      obtain ⟨s5, c5, n5, m5, i5, j5, rfl, hA, hb⟩ := h.eq hr5.out
      replace E := hid ((E.out.up hb).addArr hA (fun b _ hq => E.out.res (Ext.refl _) hq))
      clear hA hb h
      (try simp only [List.cons_append, List.nil_append, List.set_cons_zero, List.set_cons_succ] at E)
      go_upto_region 12 with (refine wpl_store4 rfl (.tmp 11) (.tmp 66) rfl _ rfl rfl ((E.out.alloc _).hdr 11 rfl) ?_; intro V5 HV CV; replace E := hid ((E.out.alloc _).chg 11 rfl CV HV); clear CV HV; (try simp only [List.cons_append, List.nil_append, List.set_cons_zero, List.set_cons_succ] at E))
      generalize w8.heap.size = p5 at E ⊢
      obtain ⟨q00, q01, q02, q03⟩ := (E.out.hdr 0 rfl).all
      obtain ⟨q110, q111, q112, q113⟩ := (E.out.hdr 11 rfl).all
      go_upto_region 13 with (refine wpl_store1 rfl (.tmp 69) (.tmp 68) rfl p5 rfl rfl (E.out.hdr 11 rfl) ?_; intro V6 HV CV; replace E := hid (E.out.chg 11 rfl CV HV); clear CV HV; (try simp only [List.cons_append, List.nil_append, List.set_cons_zero, List.set_cons_succ] at E))
      clear q110 q111 q112 q113 q00 q01 q02 q03
      obtain ⟨q00, q01, q02, q03⟩ := (E.out.hdr 0 rfl).all
      obtain ⟨q110, q111, q112, q113⟩ := (E.out.hdr 11 rfl).all
      go_wp2_with fail
      clear q00 q01 q02 q03 q110 q111 q112 q113
      refine (ref03_Same (.mk r5.kind y.shape r5.nums r5.items) y _ _ _ _ _ _ _ _ _ _ _ _ _ _ _ (ArrAt.iff.2 ⟨(E.out.arr 1 rfl).shape, (E.out.arr 10 rfl).nums, (E.out.arr 10 rfl).len, (E.out.arr 10 rfl).items⟩) (E.out.arr 1 rfl)).mono ?_
      rintro e w9 ⟨rfl, hb⟩
      replace E := hid (E.out.up hb)
      clear hb
      rw [u5.out]
      go_wp2_with (go_at_call 10; refine (law17_example _).mono ?_; rintro e w2 ⟨rfl, hb2⟩)
      exact hR.out _ _ ⟨rfl, (E.out.up hb2).ext⟩
    case neg =>
      obtain ⟨r3, hr3⟩ : ∃ r, r = turS 2 1 y := ⟨_, rfl⟩
      obtain ⟨q3, hq3⟩ : ∃ r, turE 2 1 y = r := ⟨_, rfl⟩
      have db : (q3 == 0) = false := by rw [beq_eq_false_iff_ne]; omega
      obtain ⟨r4, hr4⟩ : ∃ r, r = turS 1 2 r3 := ⟨_, rfl⟩
      obtain ⟨q4, hq4⟩ : ∃ r, turE 1 2 r3 = r := ⟨_, rfl⟩
      replace hr3 := hid hr3
      replace hr4 := hid hr4
      replace hq3 := hid hq3
      replace hq4 := hid hq4
      replace d := hid d
      go_upto_region 7 with (fail)
      obtain ⟨q00, q01, q02, q03⟩ := (E.out.hdr 0 rfl).all
      go_wp2_with fail
      clear q00 q01 q02 q03
      refine (structure_Ord y _ _ _ _ _ _ _ _ (E.out.arr 1 rfl)).mono ?_
      intro e w6 h
      obtain ⟨s3, c3, n3, m3, i3, j3, rfl, hA, hb⟩ := h.eq hr3.out hq3.out
      replace E := hid ((E.out.up hb).addArr hA (fun b _ hq => E.out.res (Ext.refl _) hq))
      clear hA hb h
      (try simp only [List.cons_append, List.nil_append, List.set_cons_zero, List.set_cons_succ] at E)
      go_upto_region 8 with (refine wpl_store4 rfl (.tmp 7) (.tmp 46) rfl _ rfl rfl ((E.out.alloc _).hdr 7 rfl) ?_; intro V3 HV CV; replace E := hid ((E.out.alloc _).chg 7 rfl CV HV); clear CV HV; (try simp only [List.cons_append, List.nil_append, List.set_cons_zero, List.set_cons_succ] at E))
      generalize w6.heap.size = p3 at E ⊢
      obtain ⟨q70, q71, q72, q73⟩ := (E.out.hdr 7 rfl).all
      go_wp2_with fail
      clear q70 q71 q72 q73
      refine (structure_Chr r3 _ _ _ _ _ _ _ _ (E.out.arr 6 rfl)).mono ?_
      intro e w7 h
      obtain ⟨s4, c4, n4, m4, i4, j4, rfl, hA, hb⟩ := h.eq hr4.out hq4.out
      replace E := hid ((E.out.up hb).addArr hA (fun b _ hq => E.out.res (Ext.refl _) hq))
      clear hA hb h
      (try simp only [List.cons_append, List.nil_append, List.set_cons_zero, List.set_cons_succ] at E)
      go_upto_region 9 with (refine wpl_store4 rfl (.tmp 9) (.tmp 51) rfl _ rfl rfl ((E.out.alloc _).hdr 9 rfl) ?_; intro V4 HV CV; replace E := hid ((E.out.alloc _).chg 9 rfl CV HV); clear CV HV; (try simp only [List.cons_append, List.nil_append, List.set_cons_zero, List.set_cons_succ] at E))
      generalize w7.heap.size = p4 at E ⊢
      go_upto_region 11 with (fail)
      obtain ⟨q00, q01, q02, q03⟩ := (E.out.hdr 0 rfl).all
      go_wp2_with fail
      clear q00 q01 q02 q03
      refine (structure_Ravel y _ _ _ _ _ _ _ _ (E.out.arr 1 rfl)).mono ?_
      intro e w8 h
      obtain ⟨s5, c5, n5, m5, i5, j5, rfl, hA, hb⟩ := h.eq hr5.out
      replace E := hid ((E.out.up hb).addArr hA (fun b _ hq => E.out.res (Ext.refl _) hq))
      clear hA hb h
      (try simp only [List.cons_append, List.nil_append, List.set_cons_zero, List.set_cons_succ] at E)
      go_upto_region 12 with (refine wpl_store4 rfl (.tmp 11) (.tmp 66) rfl _ rfl rfl ((E.out.alloc _).hdr 11 rfl) ?_; intro V5 HV CV; replace E := hid ((E.out.alloc _).chg 11 rfl CV HV); clear CV HV; (try simp only [List.cons_append, List.nil_append, List.set_cons_zero, List.set_cons_succ] at E))
      generalize w8.heap.size = p5 at E ⊢
      obtain ⟨q00, q01, q02, q03⟩ := (E.out.hdr 0 rfl).all
      obtain ⟨q110, q111, q112, q113⟩ := (E.out.hdr 11 rfl).all
      go_upto_region 13 with (refine wpl_store1 rfl (.tmp 69) (.tmp 68) rfl p5 rfl rfl (E.out.hdr 11 rfl) ?_; intro V6 HV CV; replace E := hid (E.out.chg 11 rfl CV HV); clear CV HV; (try simp only [List.cons_append, List.nil_append, List.set_cons_zero, List.set_cons_succ] at E))
      clear q110 q111 q112 q113 q00 q01 q02 q03
      obtain ⟨q00, q01, q02, q03⟩ := (E.out.hdr 0 rfl).all
      obtain ⟨q110, q111, q112, q113⟩ := (E.out.hdr 11 rfl).all
      go_wp2_with fail
      clear q00 q01 q02 q03 q110 q111 q112 q113
      refine (ref03_Same (.mk r5.kind y.shape r5.nums r5.items) y _ _ _ _ _ _ _ _ _ _ _ _ _ _ _ (ArrAt.iff.2 ⟨(E.out.arr 1 rfl).shape, (E.out.arr 10 rfl).nums, (E.out.arr 10 rfl).len, (E.out.arr 10 rfl).items⟩) (E.out.arr 1 rfl)).mono ?_
      rintro e w9 ⟨rfl, hb⟩
      replace E := hid (E.out.up hb)
      clear hb
      rw [u5.out]
      go_wp2_with (go_at_call 10; refine (law17_example _).mono ?_; rintro e w2 ⟨rfl, hb2⟩)
      exact hR.out _ _ ⟨rfl, (E.out.up hb2).ext⟩
  case neg =>
    obtain ⟨r1, hr1⟩ : ∃ r, r = encS y := ⟨_, rfl⟩
    obtain ⟨q1, hq1⟩ : ∃ r, encE y = r := ⟨_, rfl⟩
    have eb : (q1 == 0) = false := by rw [beq_eq_false_iff_ne]; omega
    obtain ⟨r2, hr2⟩ : ∃ r, r = disS r1 := ⟨_, rfl⟩
    obtain ⟨q2, hq2⟩ : ∃ r, disE r1 = r := ⟨_, rfl⟩
    replace hr1 := hid hr1
    replace hr2 := hid hr2
    replace hq1 := hid hq1
    replace hq2 := hid hq2
    replace ez := hid ez
    refine (structure_Enclose y _ _ _ _ _ _ _ _ (E.out.arr 1 rfl)).mono ?_
    intro e w4 h
    obtain ⟨s1, c1, n1, m1, i1, j1, rfl, hA, hb⟩ := h.eq hr1.out hq1.out
    replace E := hid ((E.out.up hb).addArr hA (fun b _ hq => E.out.res (Ext.refl _) hq))
    clear hA hb h
    (try simp only [List.cons_append, List.nil_append, List.set_cons_zero, List.set_cons_succ] at E)
    go_upto_region 4 with (refine wpl_store4 rfl (.tmp 3) (.tmp 24) rfl _ rfl rfl ((E.out.alloc _).hdr 3 rfl) ?_; intro V1 HV CV; replace E := hid ((E.out.alloc _).chg 3 rfl CV HV); clear CV HV; (try simp only [List.cons_append, List.nil_append, List.set_cons_zero, List.set_cons_succ] at E))
    generalize w4.heap.size = p1 at E ⊢
    obtain ⟨q30, q31, q32, q33⟩ := (E.out.hdr 3 rfl).all
    go_wp2_with fail
    clear q30 q31 q32 q33
    refine (structure_Disclose r1 _ _ _ _ _ _ _ _ (E.out.arr 2 rfl)).mono ?_
    intro e w5 h
    obtain ⟨s2, c2, n2, m2, i2, j2, rfl, hA, hb⟩ := h.eq hr2.out hq2.out
    replace E := hid ((E.out.up hb).addArr hA (fun b _ hq => E.out.res (Ext.refl _) hq))
    clear hA hb h
    (try simp only [List.cons_append, List.nil_append, List.set_cons_zero, List.set_cons_succ] at E)
    go_upto_region 5 with (refine wpl_store4 rfl (.tmp 5) (.tmp 29) rfl _ rfl rfl ((E.out.alloc _).hdr 5 rfl) ?_; intro V2 HV CV; replace E := hid ((E.out.alloc _).chg 5 rfl CV HV); clear CV HV; (try simp only [List.cons_append, List.nil_append, List.set_cons_zero, List.set_cons_succ] at E))
    generalize w5.heap.size = p2 at E ⊢
    by_cases d : turE 2 1 y = 0
    case pos =>
      obtain ⟨d1, d2, d3⟩ := tur_back d
      obtain ⟨r3, hr3⟩ : ∃ r, r = turS 2 1 y := ⟨_, rfl⟩
      have hq4 : Hid (turE 1 2 r3 = 0) := hid (by rw [hr3, d1]; exact d2)
      have hr4 : Hid (y = turS 1 2 r3) := hid (by rw [hr3, d1]; exact d3.symm)
      replace hr3 := hid hr3
      replace d := hid d
      clear d1 d2 d3
      go_upto_region 7 with (fail)
      obtain ⟨q00, q01, q02, q03⟩ := (E.out.hdr 0 rfl).all
      go_wp2_with fail
      clear q00 q01 q02 q03
      refine (structure_Ord y _ _ _ _ _ _ _ _ (E.out.arr 1 rfl)).mono ?_
      intro e w6 h
      obtain ⟨s3, c3, n3, m3, i3, j3, rfl, hA, hb⟩ := h.eq hr3.out d.out
      replace E := hid ((E.out.up hb).addArr hA (fun b _ hq => E.out.res (Ext.refl _) hq))
      clear hA hb h
      (try simp only [List.cons_append, List.nil_append, List.set_cons_zero, List.set_cons_succ] at E)
      go_upto_region 8 with (refine wpl_store4 rfl (.tmp 7) (.tmp 46) rfl _ rfl rfl ((E.out.alloc _).hdr 7 rfl) ?_; intro V3 HV CV; replace E := hid ((E.out.alloc _).chg 7 rfl CV HV); clear CV HV; (try simp only [List.cons_append, List.nil_append, List.set_cons_zero, List.set_cons_succ] at E))
      generalize w6.heap.size = p3 at E ⊢
      obtain ⟨q70, q71, q72, q73⟩ := (E.out.hdr 7 rfl).all
      go_wp2_with fail
      clear q70 q71 q72 q73
      refine (structure_Chr r3 _ _ _ _ _ _ _ _ (E.out.arr 6 rfl)).mono ?_
      intro e w7 h
      obtain ⟨s4, c4, n4, m4, i4, j4, rfl, hA, hb⟩ := h.eq hr4.out hq4.out
      replace E := hid ((E.out.up hb).addArr hA (fun b _ hq => E.out.res (Ext.refl _) hq))
      clear hA hb h
      (try simp only [List.cons_append, List.nil_append, List.set_cons_zero, List.set_cons_succ] at E)
      go_upto_region 9 with (refine wpl_store4 rfl (.tmp 9) (.tmp 51) rfl _ rfl rfl ((E.out.alloc _).hdr 9 rfl) ?_; intro V4 HV CV; replace E := hid ((E.out.alloc _).chg 9 rfl CV HV); clear CV HV; (try simp only [List.cons_append, List.nil_append, List.set_cons_zero, List.set_cons_succ] at E))
      generalize w7.heap.size = p4 at E ⊢
      obtain ⟨q00, q01, q02, q03⟩ := (E.out.hdr 0 rfl).all
      obtain ⟨q90, q91, q92, q93⟩ := (E.out.hdr 9 rfl).all
      go_wp2_with fail
      clear q00 q01 q02 q03 q90 q91 q92 q93
      refine (ref03_Same y y _ _ _ _ _ _ _ _ _ _ _ _ _ _ _ (E.out.arr 8 rfl) (E.out.arr 1 rfl)).mono ?_
      rintro e w10 ⟨rfl, hb⟩
      replace E := hid (E.out.up hb)
      clear hb
      rw [uy.out]
      go_upto_region 11 with (fail)
      obtain ⟨q00, q01, q02, q03⟩ := (E.out.hdr 0 rfl).all
      go_wp2_with fail
      clear q00 q01 q02 q03
      refine (structure_Ravel y _ _ _ _ _ _ _ _ (E.out.arr 1 rfl)).mono ?_
      intro e w8 h
      obtain ⟨s5, c5, n5, m5, i5, j5, rfl, hA, hb⟩ := h.eq hr5.out
      replace E := hid ((E.out.up hb).addArr hA (fun b _ hq => E.out.res (Ext.refl _) hq))
      clear hA hb h
      (try simp only [List.cons_append, List.nil_append, List.set_cons_zero, List.set_cons_succ] at E)
      go_upto_region 12 with (refine wpl_store4 rfl (.tmp 11) (.tmp 66) rfl _ rfl rfl ((E.out.alloc _).hdr 11 rfl) ?_; intro V5 HV CV; replace E := hid ((E.out.alloc _).chg 11 rfl CV HV); clear CV HV; (try simp only [List.cons_append, List.nil_append, List.set_cons_zero, List.set_cons_succ] at E))
      generalize w8.heap.size = p5 at E ⊢
      obtain ⟨q00, q01, q02, q03⟩ := (E.out.hdr 0 rfl).all
      obtain ⟨q110, q111, q112, q113⟩ := (E.out.hdr 11 rfl).all
      go_upto_region 13 with (refine wpl_store1 rfl (.tmp 69) (.tmp 68) rfl p5 rfl rfl (E.out.hdr 11 rfl) ?_; intro V6 HV CV; replace E := hid (E.out.chg 11 rfl CV HV); clear CV HV; (try simp only [List.cons_append, List.nil_append, List.set_cons_zero, List.set_cons_succ] at E))
      clear q110 q111 q112 q113 q00 q01 q02 q03
      obtain ⟨q00, q01, q02, q03⟩ := (E.out.hdr 0 rfl).all
      obtain ⟨q110, q111, q112, q113⟩ := (E.out.hdr 11 rfl).all
      go_wp2_with fail
      clear q00 q01 q02 q03 q110 q111 q112 q113
      refine (ref03_Same (.mk r5.kind y.shape r5.nums r5.items) y _ _ _ _ _ _ _ _ _ _ _ _ _ _ _ (ArrAt.iff.2 ⟨(E.out.arr 1 rfl).shape, (E.out.arr 10 rfl).nums, (E.out.arr 10 rfl).len, (E.out.arr 10 rfl).items⟩) (E.out.arr 1 rfl)).mono ?_
      rintro e w9 ⟨rfl, hb⟩
      replace E := hid (E.out.up hb)
      clear hb
      rw [u5.out]
      go_wp2_with (go_at_call 10; refine (law17_example _).mono ?_; rintro e w2 ⟨rfl, hb2⟩)
      exact hR.out _ _ ⟨rfl, (E.out.up hb2).ext⟩
    case neg =>
      obtain ⟨r3, hr3⟩ : ∃ r, r = turS 2 1 y := ⟨_, rfl⟩
      obtain ⟨q3, hq3⟩ : ∃ r, turE 2 1 y = r := ⟨_, rfl⟩
      have db : (q3 == 0) = false := by rw [beq_eq_false_iff_ne]; omega
      obtain ⟨r4, hr4⟩ : ∃ r, r = turS 1 2 r3 := ⟨_, rfl⟩
      obtain ⟨q4, hq4⟩ : ∃ r, turE 1 2 r3 = r := ⟨_, rfl⟩
      replace hr3 := hid hr3
      replace hr4 := hid hr4
      replace hq3 := hid hq3
      replace hq4 := hid hq4
      replace d := hid d
      go_upto_region 7 with (fail)
      obtain ⟨q00, q01, q02, q03⟩ := (E.out.hdr 0 rfl).all
      go_wp2_with fail
      clear q00 q01 q02 q03
      refine (structure_Ord y _ _ _ _ _ _ _ _ (E.out.arr 1 rfl)).mono ?_
      intro e w6 h
      obtain ⟨s3, c3, n3, m3, i3, j3, rfl, hA, hb⟩ := h.eq hr3.out hq3.out
      replace E := hid ((E.out.up hb).addArr hA (fun b _ hq => E.out.res (Ext.refl _) hq))
      clear hA hb h
      (try simp only [List.cons_append, List.nil_append, List.set_cons_zero, List.set_cons_succ] at E)
      go_upto_region 8 with (refine wpl_store4 rfl (.tmp 7) (.tmp 46) rfl _ rfl rfl ((E.out.alloc _).hdr 7 rfl) ?_; intro V3 HV CV; replace E := hid ((E.out.alloc _).chg 7 rfl CV HV); clear CV HV; (try simp only [List.cons_append, List.nil_append, List.set_cons_zero, List.set_cons_succ] at E))
      generalize w6.heap.size = p3 at E ⊢
      obtain ⟨q70, q71, q72, q73⟩ := (E.out.hdr 7 rfl).all
      go_wp2_with fail
      clear q70 q71 q72 q73
      refine (structure_Chr r3 _ _ _ _ _ _ _ _ (E.out.arr 6 rfl)).mono ?_
      intro e w7 h
      obtain ⟨s4, c4, n4, m4, i4, j4, rfl, hA, hb⟩ := h.eq hr4.out hq4.out
      replace E := hid ((E.out.up hb).addArr hA (fun b _ hq => E.out.res (Ext.refl _) hq))
      clear hA hb h
      (try simp only [List.cons_append, List.nil_append, List.set_cons_zero, List.set_cons_succ] at E)
      go_upto_region 9 with (refine wpl_store4 rfl (.tmp 9) (.tmp 51) rfl _ rfl rfl ((E.out.alloc _).hdr 9 rfl) ?_; intro V4 HV CV; replace E := hid ((E.out.alloc _).chg 9 rfl CV HV); clear CV HV; (try simp only [List.cons_append, List.nil_append, List.set_cons_zero, List.set_cons_succ] at E))
      generalize w7.heap.size = p4 at E ⊢
      go_upto_region 11 with (fail)
      obtain ⟨q00, q01, q02, q03⟩ := (E.out.hdr 0 rfl).all
      go_wp2_with fail
      clear q00 q01 q02 q03
      refine (structure_Ravel y _ _ _ _ _ _ _ _ (E.out.arr 1 rfl)).mono ?_
      intro e w8 h
      obtain ⟨s5, c5, n5, m5, i5, j5, rfl, hA, hb⟩ := h.eq hr5.out
      replace E := hid ((E.out.up hb).addArr hA (fun b _ hq => E.out.res (Ext.refl _) hq))
      clear hA hb h
      (try simp only [List.cons_append, List.nil_append, List.set_cons_zero, List.set_cons_succ] at E)
      go_upto_region 12 with (refine wpl_store4 rfl (.tmp 11) (.tmp 66) rfl _ rfl rfl ((E.out.alloc _).hdr 11 rfl) ?_; intro V5 HV CV; replace E := hid ((E.out.alloc _).chg 11 rfl CV HV); clear CV HV; (try simp only [List.cons_append, List.nil_append, List.set_cons_zero, List.set_cons_succ] at E))
      generalize w8.heap.size = p5 at E ⊢
      obtain ⟨q00, q01, q02, q03⟩ := (E.out.hdr 0 rfl).all
      obtain ⟨q110, q111, q112, q113⟩ := (E.out.hdr 11 rfl).all
      go_upto_region 13 with (refine wpl_store1 rfl (.tmp 69) (.tmp 68) rfl p5 rfl rfl (E.out.hdr 11 rfl) ?_; intro V6 HV CV; replace E := hid (E.out.chg 11 rfl CV HV); clear CV HV; (try simp only [List.cons_append, List.nil_append, List.set_cons_zero, List.set_cons_succ] at E))
      clear q110 q111 q112 q113 q00 q01 q02 q03
      obtain ⟨q00, q01, q02, q03⟩ := (E.out.hdr 0 rfl).all
      obtain ⟨q110, q111, q112, q113⟩ := (E.out.hdr 11 rfl).all
      go_wp2_with fail
      clear q00 q01 q02 q03 q110 q111 q112 q113
      refine (ref03_Same (.mk r5.kind y.shape r5.nums r5.items) y _ _ _ _ _ _ _ _ _ _ _ _ _ _ _ (ArrAt.iff.2 ⟨(E.out.arr 1 rfl).shape, (E.out.arr 10 rfl).nums, (E.out.arr 10 rfl).len, (E.out.arr 10 rfl).items⟩) (E.out.arr 1 rfl)).mono ?_
      rintro e w9 ⟨rfl, hb⟩
      replace E := hid (E.out.up hb)
      clear hb
      rw [u5.out]
      go_wp2_with (go_at_call 10; refine (law17_example _).mono ?_; rintro e w2 ⟨rfl, hb2⟩)
      exact hR.out _ _ ⟨rfl, (E.out.up hb2).ext⟩
end Go.Proofs.Ytkbbdlibamcilaa
