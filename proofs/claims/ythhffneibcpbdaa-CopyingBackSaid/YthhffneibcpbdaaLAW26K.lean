/- The law CopyingBack: true. Conditions: the arrays are read; a slice's capacity is at least its length. -/
import Derived.Test.YthhffneibcpbdaaLAW26X
import Derived.Test.YthhffneibcpbdaaP26Y
set_option linter.unusedVariables false
set_option linter.unusedSimpArgs false
namespace Go.Proofs.Ythhffneibcpbdaa
open Go.RowKit Go.Sort
attribute [local go_sem ↓] run_max2 run_min2
attribute [local go_sem] eql_ints_nil eql_arrs_nil
set_option maxRecDepth 100000 in
set_option maxHeartbeats 8000000 in
theorem law26_CopyingBack (x : Arr) (sx : Option Addr) (cx : Nat) (nx : Option Addr) (mx : Nat) (ix : Option Addr) (jx : Nat) (y : Arr) (sy : Option Addr) (cy : Nat) (ny : Option Addr) (my : Nat) (iy : Option Addr) (jy : Nat) (S : Nat → Prop) (w : World) (h : ArrAt w S x sx nx ix) (g : ArrAt w S y sy ny iy) (hcx : x.shape.length ≤ cx ∧ x.nums.length ≤ mx ∧ x.items.length ≤ jx) (hcy : y.shape.length ≤ cy ∧ y.nums.length ≤ my ∧ y.items.length ≤ jy) :
    Calls Try.prog 13 #[.agg #[.int .i64 x.kind, .slice sx x.shape.length cx, .slice nx x.nums.length mx, .slice ix x.items.length jx], .agg #[.int .i64 y.kind, .slice sy y.shape.length cy, .slice ny y.nums.length my, .slice iy y.items.length jy]] w fun e w' => e = .returned (.bool true) ∧ Below w.heap.size w w' := by
  refine calls_post fun R' hR => ?_
  have hsx := h.shape.1
  have hsy := g.shape.1
  have h0 := hid h
  have g0 := hid g
  replace hcx := hid hcx
  replace hcy := hid hcy
  clear h g
  go_enter Try.func13, Try.ntmps13
  go_upto_region 1 with (fail)
  generalize hEW : ((w).alloc (.cells #[.int .i64 x.kind, .slice sx x.shape.length cx, .slice nx x.nums.length mx, .slice ix x.items.length jx] 26)).alloc (.cells #[.int .i64 y.kind, .slice sy y.shape.length cy, .slice ny y.nums.length my, .slice iy y.items.length jy] 26) = W
  have E := hid (env2 w S hEW)
  clear hEW
  replace E := hid ((E.out.arg h0.out).arg g0.out)
  (try simp only [List.cons_append, List.nil_append, List.set_cons_zero, List.set_cons_succ] at E)
  obtain ⟨q00, q01, q02, q03⟩ := (E.out.hdr 0 rfl).all
  obtain ⟨q10, q11, q12, q13⟩ := (E.out.hdr 1 rfl).all
  go_wp2_with fail
  clear q00 q01 q02 q03 q10 q11 q12 q13
  refine (law26_small x _ _ _ _ _ _ y _ _ _ _ _ _ _ _ (E.out.arr 2 rfl) (E.out.arr 3 rfl)).mono ?_
  rintro e w1 ⟨b1, rfl, hb⟩
  replace E := hid (E.out.up hb)
  clear hb
  cases b1 with
  | false =>
    go_wp2_with (go_at_call 28; refine (law26_example _).mono ?_; rintro e w9 ⟨rfl, hb9⟩)
    exact hR.out _ _ ⟨rfl, (E.out.up hb9).ext⟩
  | true =>
  by_cases c1 : x.shape.length = 1
  case neg =>
    have cb : ((x.shape.length : Int) != 1) = true := bne_iff_ne.2 (by omega)
    replace c1 := hid c1
    obtain ⟨q00, q01, q02, q03⟩ := (E.out.hdr 0 rfl).all
    go_upto_region 2 with fail
    clear q00 q01 q02 q03
    go_wp2_with (go_at_call 28; refine (law26_example _).mono ?_; rintro e w9 ⟨rfl, hb9⟩)
    exact hR.out _ _ ⟨rfl, (E.out.up hb9).ext⟩
  have cb : ((x.shape.length : Int) != 1) = false := bne_eq_false_iff_eq.2 (by omega)
  have c1' := hid c1
  replace c1 := hid c1
  obtain ⟨q00, q01, q02, q03⟩ := (E.out.hdr 0 rfl).all
  obtain ⟨q10, q11, q12, q13⟩ := (E.out.hdr 1 rfl).all
  go_upto_region 3 with fail
  go_wp2_with fail
  clear q00 q01 q02 q03 q10 q11 q12 q13
  clear cb
  refine (copying_Expand x _ _ _ _ _ _ y _ _ _ _ _ _ _ _ (E.out.arr 2 rfl) (E.out.arr 3 rfl) hcx.out hcy.out).mono ?_
  intro e w3 h
  obtain ⟨s101, c101, n101, m101, i101, j101, rfl, hA, hb, hC101⟩ := h.eq rfl rfl
  replace E := hid ((E.out.up hb).addArr hA (fun b _ hq => E.out.res (Ext.refl _) hq))
  replace hC101 := hid hC101
  clear hA hb h
  (try simp only [List.cons_append, List.nil_append, List.set_cons_zero, List.set_cons_succ] at E)
  have NO := fun q => expS_no (x := x) (y := y) q
  have YES := fun q => copy_back (x := x) (y := y) q c1'.out
  have YE := fun q => expS_yes (x := x) (y := y) q
  obtain ⟨r, hr⟩ : ∃ r, r = expS x y := ⟨_, rfl⟩
  rw [← hr] at E hC101 NO ⊢
  obtain ⟨e1, he1⟩ : ∃ r, r = expE x y := ⟨_, rfl⟩
  rw [← he1] at NO YES YE ⊢
  rw [← hr] at YE
  replace hr := hid hr
  replace he1 := hid he1
  go_upto_region 4 with (refine wpl_store4 rfl (.tmp 5) (.tmp 25) rfl _ rfl rfl ((E.out.alloc _).hdr 5 rfl) ?_; intro V1 HV CV; replace E := hid ((E.out.alloc _).chg 5 rfl CV HV); clear CV HV; (try simp only [List.cons_append, List.nil_append, List.set_cons_zero, List.set_cons_succ] at E))
  generalize w3.heap.size = p1 at E ⊢
  by_cases f1 : e1 = 0
  case neg =>
    have cb : (e1 != 0) = true := by simpa using f1
    have hz : Hid (r = .zero) := hid (NO f1)
    clear NO YES YE
    replace f1 := hid f1
    obtain ⟨q50, q51, q52, q53⟩ := (E.out.hdr 5 rfl).all
    go_wp2_with fail
    clear q50 q51 q52 q53
    refine (ref03_Same r .zero _ _ _ _ _ _ none 0 none 0 none 0 _ (fun _ => True) _ (E.out.arr 4 rfl) (zero_at _ _ _ _ _)).mono ?_
    rintro e w5 ⟨rfl, hb⟩
    replace E := hid (E.out.up hb)
    clear hb
    rw [show sameB r .zero = true by rw [hz.out]; exact sameB_self _]
    go_wp2_with (go_at_call 28; refine (law26_example _).mono ?_; rintro e w9 ⟨rfl, hb9⟩)
    exact hR.out _ _ ⟨rfl, (E.out.up hb9).ext⟩
  have cb : (e1 != 0) = false := by simpa using f1
  have B := YES f1
  rw [← YE f1] at B
  have Be := hid B.1
  obtain ⟨r2, hr2⟩ : ∃ r, r = wantA y := ⟨_, rfl⟩
  rw [← hr2] at B
  have Bs := hid B.2
  clear B YES YE NO
  replace hr2 := hid hr2
  replace f1 := hid f1
  obtain ⟨q00, q01, q02, q03⟩ := (E.out.hdr 0 rfl).all
  obtain ⟨q50, q51, q52, q53⟩ := (E.out.hdr 5 rfl).all
  go_upto_region 6 with fail
  clear cb
  go_wp2_with fail
  clear q00 q01 q02 q03 q50 q51 q52 q53
  refine (copying_Copy x _ _ _ _ _ _ r _ _ _ _ _ _ _ _ (E.out.arr 2 rfl) (E.out.arr 4 rfl) hcx.out hC101.out).mono ?_
  intro e w4 h
  obtain ⟨s102, c102, n102, m102, i102, j102, rfl, hA, hb, hC102⟩ := h.eq Bs.out.symm Be.out
  replace E := hid ((E.out.up hb).addArr hA (fun b _ hq => E.out.res (Ext.refl _) hq))
  replace hC102 := hid hC102
  clear hA hb h
  (try simp only [List.cons_append, List.nil_append, List.set_cons_zero, List.set_cons_succ] at E)
  go_upto_region 7 with (refine wpl_store4 rfl (.tmp 7) (.tmp 39) rfl _ rfl rfl ((E.out.alloc _).hdr 7 rfl) ?_; intro V2 HV CV; replace E := hid ((E.out.alloc _).chg 7 rfl CV HV); clear CV HV; (try simp only [List.cons_append, List.nil_append, List.set_cons_zero, List.set_cons_succ] at E))
  generalize w4.heap.size = p2 at E ⊢
  obtain ⟨q10, q11, q12, q13⟩ := (E.out.hdr 1 rfl).all
  go_wp2_with fail
  clear q10 q11 q12 q13
  refine (ref03_Clone y _ _ _ _ _ _ _ _ (E.out.arr 3 rfl)).mono ?_
  rintro e w5 ⟨s7, c7, n7, m7, i7, j7, rfl, hA, hb⟩
  replace E := hid ((E.out.up hb).addArr hA (fun b _ hq => E.out.fresh (Ext.refl _) hq))
  clear hA hb
  (try simp only [List.cons_append, List.nil_append, List.set_cons_zero, List.set_cons_succ] at E)
  go_upto_region 8 with (refine wpl_store4 rfl (.tmp 9) (.tmp 42) rfl _ rfl rfl ((E.out.alloc _).hdr 9 rfl) ?_; intro V5 HV CV; replace E := hid ((E.out.alloc _).chg 9 rfl CV HV); clear CV HV; (try simp only [List.cons_append, List.nil_append, List.set_cons_zero, List.set_cons_succ] at E))
  generalize w5.heap.size = p5 at E ⊢
  by_cases c0 : y.shape.length = 0
  case pos =>
    have cb : ((y.shape.length : Int) == 0) = true := by simpa using c0
    have hW : Hid (sameB r2 (.mk y.kind [1] y.nums y.items) = true) := hid (by rw [hr2.out, wantA_0 c0]; exact sameB_self _)
    replace c0 := hid c0
    obtain ⟨q10, q11, q12, q13⟩ := (E.out.hdr 1 rfl).all
    go_upto_region 10 with (first
      | (refine wpl_buildV rfl 1 (.const (.int .i64 1)) rfl rfl ?_; replace E := hid (E.out.lit [1] (by decide)); generalize V5.heap.size = g5 at E ⊢; have E1 : Env w S (World.alloc V5 (.cells #[.int .i64 1] 3)) _ := E.out; clear E; have E := hid E1; clear E1; generalize World.alloc V5 (.cells #[.int .i64 1] 3) = V6 at E ⊢; (try simp only [List.cons_append, List.nil_append, List.set_cons_zero, List.set_cons_succ] at E); clear q10 q11 q12 q13; obtain ⟨q10, q11, q12, q13⟩ := (E.out.hdr 1 rfl).all)
      | (refine wpl_store1 rfl (.tmp 48) (.tmp 47) rfl p5 rfl rfl (E.out.hdr 9 rfl) ?_; intro V HV CV; replace E := hid (E.out.chg 9 rfl CV HV); clear HV CV; (try simp only [List.cons_append, List.nil_append, List.set_cons_zero, List.set_cons_succ] at E)))
    clear cb
    clear q10 q11 q12 q13
    have hy := E.out.arr 8 rfl
    replace E := hid (E.out.addArr (a := .mk y.kind [1] y.nums y.items) (ArrAt.iff.2 ⟨E.out.ints 10 rfl, hy.nums, hy.len, hy.items⟩) (fun _ _ h => h))
    clear hy
    (try simp only [List.cons_append, List.nil_append, List.set_cons_zero, List.set_cons_succ] at E)
    obtain ⟨q70, q71, q72, q73⟩ := (E.out.hdr 7 rfl).all
    obtain ⟨q90, q91, q92, q93⟩ := (E.out.hdr 9 rfl).all
    go_wp2_with fail
    clear q70 q71 q72 q73 q90 q91 q92 q93
    refine (ref03_Same r2 (.mk y.kind [1] y.nums y.items) _ _ _ _ _ _ _ _ _ _ _ _ _ _ _ (E.out.arr 6 rfl) (E.out.arr 11 rfl)).mono ?_
    rintro e w8 ⟨rfl, hb⟩
    replace E := hid (E.out.up hb)
    clear hb
    rw [hW.out]
    go_wp2_with (go_at_call 28; refine (law26_example _).mono ?_; rintro e w9 ⟨rfl, hb9⟩)
    exact hR.out _ _ ⟨rfl, (E.out.up hb9).ext⟩
  case neg =>
    have cb : ((y.shape.length : Int) == 0) = false := by simpa using c0
    have hW : Hid (sameB r2 y = true) := hid (by rw [hr2.out, wantA_1 c0]; exact sameB_self _)
    replace c0 := hid c0
    obtain ⟨q10, q11, q12, q13⟩ := (E.out.hdr 1 rfl).all
    go_upto_region 10 with fail
    clear cb
    clear q10 q11 q12 q13
    obtain ⟨q70, q71, q72, q73⟩ := (E.out.hdr 7 rfl).all
    obtain ⟨q90, q91, q92, q93⟩ := (E.out.hdr 9 rfl).all
    go_wp2_with fail
    clear q70 q71 q72 q73 q90 q91 q92 q93
    refine (ref03_Same r2 y _ _ _ _ _ _ _ _ _ _ _ _ _ _ _ (E.out.arr 6 rfl) (E.out.arr 8 rfl)).mono ?_
    rintro e w8 ⟨rfl, hb⟩
    replace E := hid (E.out.up hb)
    clear hb
    rw [hW.out]
    go_wp2_with (go_at_call 28; refine (law26_example _).mono ?_; rintro e w9 ⟨rfl, hb9⟩)
    exact hR.out _ _ ⟨rfl, (E.out.up hb9).ext⟩
end Go.Proofs.Ythhffneibcpbdaa
