/- The statements about package structure: each returns true. Condition: the arrays are read. -/
import Derived.Test.YtkbbdlibamcilaaLAW17X
set_option linter.unusedVariables false
set_option linter.unusedSimpArgs false
namespace Go.Proofs.Ytkbbdlibamcilaa
open Go.RowKit Go.Sort
attribute [local go_sem ↓] run_max2 run_min2
attribute [local go_sem] eql_ints_nil eql_arrs_nil
set_option maxHeartbeats 4000000 in
theorem law17_few (y : Arr) (sy : Option Addr) (cy : Nat) (ny : Option Addr) (my : Nat) (iy : Option Addr) (jy : Nat) (S : Nat → Prop) (w : World) (h : ArrAt w S y sy ny iy) : Calls Try.prog 9 #[.agg #[.int .i64 y.kind, .slice sy y.shape.length cy, .slice ny y.nums.length my, .slice iy y.items.length jy]] w fun e w' => ∃ r : Bool, e = .returned (.bool r) ∧ Below w.heap.size w w' := by
  refine calls_post fun R' hR => ?_
  have h0 := hid h
  clear h
  go_enter Try.func9, Try.ntmps9
  go_wp2_with fail
  generalize hEW : (w).alloc (.cells #[.int .i64 y.kind, .slice sy y.shape.length cy, .slice ny y.nums.length my, .slice iy y.items.length jy] 26) = W
  have E := hid (env1 w S hEW)
  clear hEW
  replace E := hid (E.out.arg h0.out)
  (try simp only [List.cons_append, List.nil_append, List.set_cons_zero, List.set_cons_succ] at E)
  refine (ref03_Small y _ _ _ _ _ _ _ _ (E.out.arr 1 rfl)).mono ?_
  rintro e w1 ⟨b1, rfl, hb⟩
  replace E := hid (E.out.up hb)
  clear hb
  cases b1 with
  | false =>
    go_wp2_with fail
    exact hR.out _ _ ⟨_, rfl, E.out.ext⟩
  | true =>
  obtain ⟨q00, q01, q02, q03⟩ := (E.out.hdr 0 rfl).all
  by_cases d : dimsE y.nums = 0
  · have db : (dimsE y.nums != 0) = false := by simp [d]
    replace d := hid d
    go_wp2_with fail
    refine (ref03_Dims y.nums _ _ _ _ (E.out.arr 1 rfl).nums).mono ?_
    rintro e w' ⟨rfl, rfl⟩
    go_wp2_with fail
    refine (ref03_Count y.nums _ _ _ _ (E.out.arr 1 rfl).nums).mono ?_
    rintro e w' ⟨rfl, rfl⟩
    go_wp2_with fail
    exact hR.out _ _ ⟨_, rfl, E.out.ext⟩
  · have db : (dimsE y.nums != 0) = true := by simp [d]
    replace d := hid d
    go_wp2_with fail
    refine (ref03_Dims y.nums _ _ _ _ (E.out.arr 1 rfl).nums).mono ?_
    rintro e w' ⟨rfl, rfl⟩
    go_wp2_with fail
    exact hR.out _ _ ⟨_, rfl, E.out.ext⟩
set_option maxRecDepth 100000 in
set_option maxHeartbeats 8000000 in
theorem law17_iota (y : Arr) (sy : Option Addr) (cy : Nat) (ny : Option Addr) (my : Nat) (iy : Option Addr) (jy : Nat) (S : Nat → Prop) (w : World) (h : ArrAt w S y sy ny iy) : Calls Try.prog 3 #[.agg #[.int .i64 y.kind, .slice sy y.shape.length cy, .slice ny y.nums.length my, .slice iy y.items.length jy]] w fun e w' => e = .returned (.bool true) ∧ Below w.heap.size w w' := by
  refine calls_post fun R' hR => ?_
  have h0 := hid h
  have hsl := h.shape.1
  have hnl := h.nums.1
  have hil := h.len
  clear h
  go_enter Try.func3, Try.ntmps3
  go_wp2_with fail
  generalize hEW : (w).alloc (.cells #[.int .i64 y.kind, .slice sy y.shape.length cy, .slice ny y.nums.length my, .slice iy y.items.length jy] 26) = W
  have E := hid (env1 w S hEW)
  clear hEW
  replace E := hid (E.out.arg h0.out)
  (try simp only [List.cons_append, List.nil_append, List.set_cons_zero, List.set_cons_succ] at E)
  refine (law17_few y _ _ _ _ _ _ _ _ (E.out.arr 1 rfl)).mono ?_
  rintro e w1 ⟨b1, rfl, hb⟩
  replace E := hid (E.out.up hb)
  clear hb
  cases b1 with
  | false =>
    go_wp2_with (go_at_call 10; refine (law17_example _).mono ?_; rintro e w2 ⟨rfl, hb2⟩)
    exact hR.out _ _ ⟨rfl, (E.out.up hb2).ext⟩
  | true =>
  obtain ⟨r1, hr1⟩ : ∃ r, r = iotS y := ⟨_, rfl⟩
  obtain ⟨q1, hq1⟩ : ∃ n, ndE y = n := ⟨_, rfl⟩
  have nq1 : (q1 == q1) = true := by simp
  have ur1 : Hid (sameB r1 r1 = true) := hid (sameB_self _)
  replace hr1 := hid hr1
  replace hq1 := hid hq1
  obtain ⟨q00, q01, q02, q03⟩ := (E.out.hdr 0 rfl).all
  go_wp2_with fail
  clear q00 q01 q02 q03
  refine (structure_Iota y _ _ _ _ _ _ _ _ (E.out.arr 1 rfl)).mono ?_
  intro e w2 h
  obtain ⟨s1, c1, n1, m1, i1, j1, rfl, hA, hb⟩ := h.eq hr1.out hq1.out
  replace E := hid ((E.out.up hb).addArr hA (fun b _ hq => E.out.res (Ext.refl _) hq))
  clear hA hb h
  (try simp only [List.cons_append, List.nil_append, List.set_cons_zero, List.set_cons_succ] at E)
  go_upto_region 4 with (refine wpl_store4 rfl (.tmp 3) (.tmp 14) rfl _ rfl rfl ((E.out.alloc _).hdr 3 rfl) ?_; intro V1 HV CV; replace E := hid ((E.out.alloc _).chg 3 rfl CV HV); clear CV HV; (try simp only [List.cons_append, List.nil_append, List.set_cons_zero, List.set_cons_succ] at E))
  generalize w2.heap.size = p1 at E ⊢
  obtain ⟨q00, q01, q02, q03⟩ := (E.out.hdr 0 rfl).all
  go_wp2_with fail
  clear q00 q01 q02 q03
  refine (ref17_Iota y _ _ _ _ _ _ _ _ (E.out.arr 1 rfl)).mono ?_
  intro e w3 h
  obtain ⟨s2, c2, n2, m2, i2, j2, rfl, hA, hb⟩ := h.eq hr1.out hq1.out
  replace E := hid ((E.out.up hb).addArr hA (fun b _ hq => E.out.res (Ext.refl _) hq))
  clear hA hb h
  (try simp only [List.cons_append, List.nil_append, List.set_cons_zero, List.set_cons_succ] at E)
  go_upto_region 5 with (refine wpl_store4 rfl (.tmp 5) (.tmp 19) rfl _ rfl rfl ((E.out.alloc _).hdr 5 rfl) ?_; intro V2 HV CV; replace E := hid ((E.out.alloc _).chg 5 rfl CV HV); clear CV HV; (try simp only [List.cons_append, List.nil_append, List.set_cons_zero, List.set_cons_succ] at E))
  generalize w3.heap.size = p2 at E ⊢
  obtain ⟨q30, q31, q32, q33⟩ := (E.out.hdr 3 rfl).all
  obtain ⟨q50, q51, q52, q53⟩ := (E.out.hdr 5 rfl).all
  go_wp2_with fail
  clear q30 q31 q32 q33 q50 q51 q52 q53
  refine (ref03_Same r1 r1 _ _ _ _ _ _ _ _ _ _ _ _ _ _ _ (E.out.arr 2 rfl) (E.out.arr 4 rfl)).mono ?_
  rintro e w4 ⟨rfl, hb⟩
  replace E := hid (E.out.up hb)
  clear hb
  rw [ur1.out]
  go_wp2_with (go_at_call 10; refine (law17_example _).mono ?_; rintro e w2 ⟨rfl, hb2⟩)
  exact hR.out _ _ ⟨rfl, (E.out.up hb2).ext⟩
end Go.Proofs.Ytkbbdlibamcilaa
