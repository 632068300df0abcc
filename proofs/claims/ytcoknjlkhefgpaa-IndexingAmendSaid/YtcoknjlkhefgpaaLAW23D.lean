/- The law IndexingAmend: true. Conditions: the arrays are read; a slice's capacity is at least its length. -/
import Derived.Test.YtcoknjlkhefgpaaLAW23X
import Derived.Test.YtcoknjlkhefgpaaREF23D
set_option linter.unusedVariables false
set_option linter.unusedSimpArgs false
namespace Go.Proofs.Ytcoknjlkhefgpaa
open Go.RowKit Go.Sort
attribute [local go_sem ↓] run_max2 run_min2
attribute [local go_sem] eql_ints_nil eql_arrs_nil
set_option maxRecDepth 100000 in
set_option maxHeartbeats 8000000 in
theorem law23_IndexingAmend (x : Arr) (sx : Option Addr) (cx : Nat) (nx : Option Addr) (mx : Nat) (ix : Option Addr) (jx : Nat) (y : Arr) (sy : Option Addr) (cy : Nat) (ny : Option Addr) (my : Nat) (iy : Option Addr) (jy : Nat) (S : Nat → Prop) (w : World) (h : ArrAt w S x sx nx ix) (g : ArrAt w S y sy ny iy) (hcy : y.shape.length ≤ cy) :
    Calls Try.prog 5 #[.agg #[.int .i64 x.kind, .slice sx x.shape.length cx, .slice nx x.nums.length mx, .slice ix x.items.length jx], .agg #[.int .i64 y.kind, .slice sy y.shape.length cy, .slice ny y.nums.length my, .slice iy y.items.length jy]] w fun e w' => e = .returned (.bool true) ∧ Below w.heap.size w w' := by
  refine calls_post fun R' hR => ?_
  have h0 := hid h
  have g0 := hid g
  clear h g
  go_enter Try.func5, Try.ntmps5
  go_upto_region 1 with (fail)
  generalize hEW : ((w).alloc (.cells #[.int .i64 x.kind, .slice sx x.shape.length cx, .slice nx x.nums.length mx, .slice ix x.items.length jx] 26)).alloc (.cells #[.int .i64 y.kind, .slice sy y.shape.length cy, .slice ny y.nums.length my, .slice iy y.items.length jy] 26) = W
  have E := hid (env2 w S hEW)
  clear hEW
  replace E := hid ((E.out.arg h0.out).arg g0.out)
  (try simp only [List.cons_append, List.nil_append, List.set_cons_zero, List.set_cons_succ] at E)
  obtain ⟨q00, q01, q02, q03⟩ := (E.out.hdr 0 rfl).all
  obtain ⟨q10, q11, q12, q13⟩ := (E.out.hdr 1 rfl).all
  go_wp2_with fail
  clear q00 q01 q02 q03 q10 q11 q12 q13
  refine (law23_small x _ _ _ _ _ _ y _ _ _ _ _ _ _ _ (E.out.arr 2 rfl) (E.out.arr 3 rfl)).mono ?_
  rintro e w1 ⟨b1, rfl, hb⟩
  replace E := hid (E.out.up hb)
  clear hb
  cases b1 with
  | false =>
    go_wp2_with (go_at_call 10; refine (law23_example _).mono ?_; rintro e w9 ⟨rfl, hb9⟩)
    exact hR.out _ _ ⟨rfl, (E.out.up hb9).ext⟩
  | true =>
  obtain ⟨q00, q01, q02, q03⟩ := (E.out.hdr 0 rfl).all
  obtain ⟨q10, q11, q12, q13⟩ := (E.out.hdr 1 rfl).all
  go_wp2_with fail
  clear q00 q01 q02 q03 q10 q11 q12 q13
  refine (indexing_Amend x _ _ _ _ _ _ y _ _ _ _ _ _ _ _ (E.out.arr 2 rfl) (E.out.arr 3 rfl) hcy).mono ?_
  intro e w3 h
  obtain ⟨s101, c101, n101, m101, i101, j101, rfl, hA, hb, hC101⟩ := h
  replace E := hid ((E.out.up hb).addArr hA (fun b _ hq => E.out.fresh (Ext.refl _) hq))
  clear hA hb hC101
  (try simp only [List.cons_append, List.nil_append, List.set_cons_zero, List.set_cons_succ] at E)
  obtain ⟨r, hr⟩ : ∃ r, r = amdS x y := ⟨_, rfl⟩
  rw [← hr] at E ⊢
  obtain ⟨e1, he1⟩ : ∃ r, r = amdE x y := ⟨_, rfl⟩
  rw [← he1]
  replace hr := hid hr
  replace he1 := hid he1
  go_upto_region 4 with (refine wpl_store4 rfl (.tmp 5) (.tmp 18) rfl _ rfl rfl ((E.out.alloc _).hdr 5 rfl) ?_; intro V1 HV CV; replace E := hid ((E.out.alloc _).chg 5 rfl CV HV); clear CV HV; (try simp only [List.cons_append, List.nil_append, List.set_cons_zero, List.set_cons_succ] at E))
  generalize w3.heap.size = p1 at E ⊢
  obtain ⟨q00, q01, q02, q03⟩ := (E.out.hdr 0 rfl).all
  obtain ⟨q10, q11, q12, q13⟩ := (E.out.hdr 1 rfl).all
  go_wp2_with fail
  clear q00 q01 q02 q03 q10 q11 q12 q13
  refine (ref23_Amend x _ _ _ _ _ _ y _ _ _ _ _ _ _ _ (E.out.arr 2 rfl) (E.out.arr 3 rfl) hcy).mono ?_
  intro e w4 h
  obtain ⟨s102, c102, n102, m102, i102, j102, rfl, hA, hb, hC102⟩ := h.eq rfl rfl
  replace E := hid ((E.out.up hb).addArr hA (fun b _ hq => E.out.res (Ext.refl _) hq))
  replace hC102 := hid hC102
  clear hA hb h
  (try simp only [List.cons_append, List.nil_append, List.set_cons_zero, List.set_cons_succ] at E)
  rw [← hr.out] at E hC102 ⊢
  rw [← he1.out]
  go_upto_region 5 with (refine wpl_store4 rfl (.tmp 7) (.tmp 24) rfl _ rfl rfl ((E.out.alloc _).hdr 7 rfl) ?_; intro V2 HV CV; replace E := hid ((E.out.alloc _).chg 7 rfl CV HV); clear CV HV; (try simp only [List.cons_append, List.nil_append, List.set_cons_zero, List.set_cons_succ] at E))
  generalize w4.heap.size = p2 at E ⊢
  have cb : (e1 == e1) = true := by simp
  obtain ⟨q50, q51, q52, q53⟩ := (E.out.hdr 5 rfl).all
  obtain ⟨q70, q71, q72, q73⟩ := (E.out.hdr 7 rfl).all
  go_wp2_with fail
  clear q50 q51 q52 q53 q70 q71 q72 q73
  refine (ref03_Same r r _ _ _ _ _ _ _ _ _ _ _ _ _ _ _ (E.out.arr 4 rfl) (E.out.arr 6 rfl)).mono ?_
  rintro e w5 ⟨rfl, hb⟩
  replace E := hid (E.out.up hb)
  clear hb
  rw [show sameB r r = true from sameB_self _]
  go_wp2_with (go_at_call 10; refine (law23_example _).mono ?_; rintro e w9 ⟨rfl, hb9⟩)
  exact hR.out _ _ ⟨rfl, (E.out.up hb9).ext⟩
end Go.Proofs.Ytcoknjlkhefgpaa
