/- Ord and Chr, the program's and the reference's: contracts. Conditions: the arrays are read. -/
import Derived.Test.YtkbbdlibamcilaaC17
set_option linter.unusedVariables false
set_option linter.unusedSimpArgs false
namespace Go.Proofs.Ytkbbdlibamcilaa
open Go.RowKit Go.Sort
attribute [local go_sem ↓] run_max2 run_min2
attribute [local go_sem] eql_ints_nil eql_arrs_nil
theorem turS_no {fr tk : Int} {y : Arr} (h : turE fr tk y ≠ 0) : turS fr tk y = .zero := if_neg h
theorem turS_yes {fr tk : Int} {y : Arr} (h : turE fr tk y = 0) : turS fr tk y = turA tk y := if_pos h
theorem turE_1 {fr tk : Int} {y : Arr} (h : rightS y ≠ 0) : turE fr tk y = 1 := if_pos h
theorem turE_14 {fr tk : Int} {y : Arr} (h : rightS y = 0) (k : y.kind ≠ fr) : turE fr tk y = 14 := by unfold turE; rw [if_neg (by simp [h]), if_pos k]
theorem turE_17 {fr tk : Int} {y : Arr} (h : rightS y = 0) (k : y.kind = fr) (v : rightS (turA tk y) ≠ 0) : turE fr tk y = 17 := by unfold turE; rw [if_neg (by simp [h]), if_neg (by simp [k]), if_pos v]
theorem turE_0 {fr tk : Int} {y : Arr} (h : rightS y = 0) (k : y.kind = fr) (v : rightS (turA tk y) = 0) : turE fr tk y = 0 := by unfold turE; rw [if_neg (by simp [h]), if_neg (by simp [k]), if_neg (by simp [v])]
set_option maxHeartbeats 4000000 in
theorem structure_turned (y : Arr) (sy : Option Addr) (cy : Nat) (ny : Option Addr) (my : Nat) (iy : Option Addr) (jy : Nat) (fr tk : Int) (S : Nat → Prop) (w : World) (h : ArrAt w S y sy ny iy) : Calls Try.prog 50 #[.agg #[.int .i64 y.kind, .slice sy y.shape.length cy, .slice ny y.nums.length my, .slice iy y.items.length jy], .int .i64 fr, .int .i64 tk] w (RetAE w (fun b => S b ∨ w.heap.size ≤ b) (turS fr tk y) (turE fr tk y)) := by
  refine calls_post fun R' hR => ?_
  have h0 := hid h
  clear h
  by_cases c : rightS y = 0
  case neg =>
    have cb : (rightS y == 0) = false := by simpa using c
    have cb2 : (rightS y != 0) = true := by simpa using c
    have hn := hid (turE_1 (fr := fr) (tk := tk) c)
    have hv := hid (turS_no (fr := fr) (tk := tk) (y := y) (by rw [hn.out]; decide))
    replace c := hid c
    go_enter Try.func50, Try.ntmps50
    go_wp2_with fail
    generalize hEW : ((w).alloc (.cells #[.int .i64 y.kind, .slice sy y.shape.length cy, .slice ny y.nums.length my, .slice iy y.items.length jy] 26)).alloc (.cells #[.int .i64 0, .slice none 0 0, .slice none 0 0, .slice none 0 0] 26) = W
    have E := hid (env2 w S hEW)
    clear hEW
    replace E := hid (E.out.arg h0.out)
    (try simp only [List.cons_append, List.nil_append, List.set_cons_zero, List.set_cons_succ] at E)
    refine (structure_right y _ _ _ _ _ _ _ _ (E.out.arr 2 rfl)).mono ?_
    rintro e w1 ⟨rfl, hb⟩
    replace E := hid (E.out.up hb)
    clear hb
    go_wp2_with (refine wpl_store4 rfl (.tmp 6) (.tmp 13) rfl _ rfl rfl (E.out.hdr 1 rfl) ?_; intro V HV CV; replace E := hid (E.out.chg 1 rfl CV HV))
    exact bodyPost_ret (end_arr2 rfl HV rfl rfl) rfl (hR.out _ _ (RetAE.zero hv.out hn.out E.out.ext))
  have cb : (rightS y == 0) = true := by simpa using c
  have cb2 : (rightS y != 0) = false := by simpa using c
  by_cases k : y.kind = fr
  case neg =>
    have kb : (y.kind != fr) = true := by simp [k]
    have hn := hid (turE_14 (fr := fr) (tk := tk) c k)
    have hv := hid (turS_no (fr := fr) (tk := tk) (y := y) (by rw [hn.out]; decide))
    replace c := hid c
    replace k := hid k
    go_enter Try.func50, Try.ntmps50
    go_wp2_with fail
    generalize hEW : ((w).alloc (.cells #[.int .i64 y.kind, .slice sy y.shape.length cy, .slice ny y.nums.length my, .slice iy y.items.length jy] 26)).alloc (.cells #[.int .i64 0, .slice none 0 0, .slice none 0 0, .slice none 0 0] 26) = W
    have E := hid (env2 w S hEW)
    clear hEW
    replace E := hid (E.out.arg h0.out)
    (try simp only [List.cons_append, List.nil_append, List.set_cons_zero, List.set_cons_succ] at E)
    refine (structure_right y _ _ _ _ _ _ _ _ (E.out.arr 2 rfl)).mono ?_
    rintro e w1 ⟨rfl, hb⟩
    replace E := hid (E.out.up hb)
    clear hb
    obtain ⟨q00, q01, q02, q03⟩ := (E.out.hdr 0 rfl).all
    go_wp2_with (refine wpl_store4 rfl (.tmp 6) (.tmp 19) rfl _ rfl rfl (E.out.hdr 1 rfl) ?_; intro V HV CV; replace E := hid (E.out.chg 1 rfl CV HV))
    exact bodyPost_ret (end_arr2 rfl HV rfl rfl) rfl (hR.out _ _ (RetAE.zero hv.out hn.out E.out.ext))
  have kb : (y.kind != fr) = false := by simp [k]
  by_cases v : rightS (turA tk y) = 0
  case pos =>
    have vb : (rightS (turA tk y) == 0) = true := by simpa using v
    have hn := hid (turE_0 c k v)
    have hv := hid (turS_yes hn.out)
    replace c := hid c
    replace k := hid k
    replace v := hid v
    go_enter Try.func50, Try.ntmps50
    go_wp2_with fail
    generalize hEW : ((w).alloc (.cells #[.int .i64 y.kind, .slice sy y.shape.length cy, .slice ny y.nums.length my, .slice iy y.items.length jy] 26)).alloc (.cells #[.int .i64 0, .slice none 0 0, .slice none 0 0, .slice none 0 0] 26) = W
    have E := hid (env2 w S hEW)
    clear hEW
    replace E := hid (E.out.arg h0.out)
    (try simp only [List.cons_append, List.nil_append, List.set_cons_zero, List.set_cons_succ] at E)
    refine (structure_right y _ _ _ _ _ _ _ _ (E.out.arr 2 rfl)).mono ?_
    rintro e w1 ⟨rfl, hb⟩
    replace E := hid (E.out.up hb)
    clear hb
    obtain ⟨q00, q01, q02, q03⟩ := (E.out.hdr 0 rfl).all
    go_wp2_with fail
    clear q00 q01 q02 q03
    refine (array_Clone y _ _ _ _ _ _ _ _ (E.out.arr 2 rfl)).mono ?_
    intro e w2 h
    obtain ⟨s1, c1, n1, m1, i1, j1, rfl, hA, hb⟩ := h.eq rfl
    replace E := hid ((E.out.up hb).addArr hA (fun b _ hq => E.out.fresh (Ext.refl _) hq))
    clear hA hb h
    (try simp only [List.cons_append, List.nil_append, List.set_cons_zero, List.set_cons_succ] at E)
    go_upto_region 6 with (refine wpl_store4 rfl (.tmp 8) (.tmp 21) rfl _ rfl rfl ((E.out.alloc _).hdr 4 rfl) ?_; intro V1 HV CV; replace E := hid ((E.out.alloc _).chg 4 rfl CV HV); clear CV HV; (try simp only [List.cons_append, List.nil_append, List.set_cons_zero, List.set_cons_succ] at E))
    generalize w2.heap.size = p1 at E ⊢
    go_upto_region 7 with (refine wpl_store0 rfl (.tmp 23) (.tmp 22) rfl p1 rfl rfl (E.out.hdr 4 rfl) ?_; intro V2 HV CV; replace E := hid (E.out.chg 4 rfl CV HV); clear CV HV; (try simp only [List.cons_append, List.nil_append, List.set_cons_zero, List.set_cons_succ] at E))
    replace E := hid (E.out.addArr (tur_at (k := tk) (E.out.arr 3 rfl)) (fun _ _ h => h))
    (try simp only [List.cons_append, List.nil_append, List.set_cons_zero, List.set_cons_succ] at E)
    have hT : Hid (turA tk y = .mk tk y.shape y.nums y.items) := rfl
    obtain ⟨q40, q41, q42, q43⟩ := (E.out.hdr 4 rfl).all
    go_wp2_with fail
    refine (structure_right (turA tk y) _ _ _ _ _ _ _ _ (E.out.arr 5 rfl)).mono ?_
    rintro e w3 ⟨rfl, hb⟩
    replace E := hid (E.out.up hb)
    clear hb
    clear q40 q41 q42 q43
    obtain ⟨q40, q41, q42, q43⟩ := (E.out.hdr 4 rfl).all
    go_wp2_with (refine wpl_store4 rfl (.tmp 6) (.tmp 28) rfl _ rfl rfl (E.out.hdr 1 rfl) ?_; intro V HV CV; replace E := hid (E.out.chg 1 rfl CV HV))
    exact bodyPost_ret (end_arr2 rfl HV rfl rfl) rfl (hR.out _ _ (RetAE.to (by rw [hv.out, hT.out]) hn.out (ArrAt.mono (fun b _ h => h.1) _ (E.out.arr 5 rfl)) E.out.ext))
  case neg =>
    have vb : (rightS (turA tk y) == 0) = false := by simpa using v
    have hn := hid (turE_17 c k v)
    have hv := hid (turS_no (by rw [hn.out]; decide) : turS fr tk y = .zero)
    replace c := hid c
    replace k := hid k
    replace v := hid v
    go_enter Try.func50, Try.ntmps50
    go_wp2_with fail
    generalize hEW : ((w).alloc (.cells #[.int .i64 y.kind, .slice sy y.shape.length cy, .slice ny y.nums.length my, .slice iy y.items.length jy] 26)).alloc (.cells #[.int .i64 0, .slice none 0 0, .slice none 0 0, .slice none 0 0] 26) = W
    have E := hid (env2 w S hEW)
    clear hEW
    replace E := hid (E.out.arg h0.out)
    (try simp only [List.cons_append, List.nil_append, List.set_cons_zero, List.set_cons_succ] at E)
    refine (structure_right y _ _ _ _ _ _ _ _ (E.out.arr 2 rfl)).mono ?_
    rintro e w1 ⟨rfl, hb⟩
    replace E := hid (E.out.up hb)
    clear hb
    obtain ⟨q00, q01, q02, q03⟩ := (E.out.hdr 0 rfl).all
    go_wp2_with fail
    clear q00 q01 q02 q03
    refine (array_Clone y _ _ _ _ _ _ _ _ (E.out.arr 2 rfl)).mono ?_
    intro e w2 h
    obtain ⟨s1, c1, n1, m1, i1, j1, rfl, hA, hb⟩ := h.eq rfl
    replace E := hid ((E.out.up hb).addArr hA (fun b _ hq => E.out.fresh (Ext.refl _) hq))
    clear hA hb h
    (try simp only [List.cons_append, List.nil_append, List.set_cons_zero, List.set_cons_succ] at E)
    go_upto_region 6 with (refine wpl_store4 rfl (.tmp 8) (.tmp 21) rfl _ rfl rfl ((E.out.alloc _).hdr 4 rfl) ?_; intro V1 HV CV; replace E := hid ((E.out.alloc _).chg 4 rfl CV HV); clear CV HV; (try simp only [List.cons_append, List.nil_append, List.set_cons_zero, List.set_cons_succ] at E))
    generalize w2.heap.size = p1 at E ⊢
    go_upto_region 7 with (refine wpl_store0 rfl (.tmp 23) (.tmp 22) rfl p1 rfl rfl (E.out.hdr 4 rfl) ?_; intro V2 HV CV; replace E := hid (E.out.chg 4 rfl CV HV); clear CV HV; (try simp only [List.cons_append, List.nil_append, List.set_cons_zero, List.set_cons_succ] at E))
    replace E := hid (E.out.addArr (tur_at (k := tk) (E.out.arr 3 rfl)) (fun _ _ h => h))
    (try simp only [List.cons_append, List.nil_append, List.set_cons_zero, List.set_cons_succ] at E)
    have hT : Hid (turA tk y = .mk tk y.shape y.nums y.items) := rfl
    obtain ⟨q40, q41, q42, q43⟩ := (E.out.hdr 4 rfl).all
    go_wp2_with fail
    refine (structure_right (turA tk y) _ _ _ _ _ _ _ _ (E.out.arr 5 rfl)).mono ?_
    rintro e w3 ⟨rfl, hb⟩
    replace E := hid (E.out.up hb)
    clear hb
    go_wp2_with (refine wpl_store4 rfl (.tmp 6) (.tmp 27) rfl _ rfl rfl (E.out.hdr 1 rfl) ?_; intro V HV CV; replace E := hid (E.out.chg 1 rfl CV HV))
    exact bodyPost_ret (end_arr2 rfl HV rfl rfl) rfl (hR.out _ _ (RetAE.zero hv.out hn.out E.out.ext))
set_option maxHeartbeats 4000000 in
theorem structure_Ord (y : Arr) (sy : Option Addr) (cy : Nat) (ny : Option Addr) (my : Nat) (iy : Option Addr) (jy : Nat) (S : Nat → Prop) (w : World) (h : ArrAt w S y sy ny iy) : Calls Try.prog 20 #[.agg #[.int .i64 y.kind, .slice sy y.shape.length cy, .slice ny y.nums.length my, .slice iy y.items.length jy]] w (RetAE w (fun b => S b ∨ w.heap.size ≤ b) (turS 2 1 y) (turE 2 1 y)) := by
  refine calls_post fun R' hR => ?_
  have h0 := hid h
  clear h
  obtain ⟨r, hr⟩ : ∃ r, r = turS 2 1 y := ⟨_, rfl⟩
  obtain ⟨n, hn⟩ : ∃ n, turE 2 1 y = n := ⟨_, rfl⟩
  replace hr := hid hr
  replace hn := hid hn
  go_enter Try.func20, Try.ntmps20
  go_wp2_with fail
  generalize hEW : ((w).alloc (.cells #[.int .i64 y.kind, .slice sy y.shape.length cy, .slice ny y.nums.length my, .slice iy y.items.length jy] 26)).alloc (.cells #[.int .i64 0, .slice none 0 0, .slice none 0 0, .slice none 0 0] 26) = W
  have E := hid (env2 w S hEW)
  clear hEW
  replace E := hid (E.out.arg h0.out)
  (try simp only [List.cons_append, List.nil_append, List.set_cons_zero, List.set_cons_succ] at E)
  refine (structure_turned y _ _ _ _ _ _ 2 1 _ _ (E.out.arr 2 rfl)).mono ?_
  intro e w1 h
  obtain ⟨s1, c1, n1, m1, i1, j1, rfl, hA, hb⟩ := h.eq hr.out hn.out
  replace E := hid ((E.out.up hb).addArr hA (fun b _ hq => E.out.res (Ext.refl _) hq))
  clear hA hb h
  (try simp only [List.cons_append, List.nil_append, List.set_cons_zero, List.set_cons_succ] at E)
  go_wp2_with (refine wpl_store4 rfl (.tmp 2) (.tmp 6) rfl _ rfl rfl (E.out.hdr 1 rfl) ?_; intro V HV CV; replace E := hid (E.out.chg 1 rfl CV HV))
  exact bodyPost_ret (end_arr2 rfl HV rfl rfl) rfl (hR.out _ _ (RetAE.to hr.out.symm hn.out (ArrAt.mono (fun b _ h => h.1) _ (E.out.arr 3 rfl)) E.out.ext))
set_option maxHeartbeats 4000000 in
theorem structure_Chr (y : Arr) (sy : Option Addr) (cy : Nat) (ny : Option Addr) (my : Nat) (iy : Option Addr) (jy : Nat) (S : Nat → Prop) (w : World) (h : ArrAt w S y sy ny iy) : Calls Try.prog 22 #[.agg #[.int .i64 y.kind, .slice sy y.shape.length cy, .slice ny y.nums.length my, .slice iy y.items.length jy]] w (RetAE w (fun b => S b ∨ w.heap.size ≤ b) (turS 1 2 y) (turE 1 2 y)) := by
  refine calls_post fun R' hR => ?_
  have h0 := hid h
  clear h
  obtain ⟨r, hr⟩ : ∃ r, r = turS 1 2 y := ⟨_, rfl⟩
  obtain ⟨n, hn⟩ : ∃ n, turE 1 2 y = n := ⟨_, rfl⟩
  replace hr := hid hr
  replace hn := hid hn
  go_enter Try.func22, Try.ntmps22
  go_wp2_with fail
  generalize hEW : ((w).alloc (.cells #[.int .i64 y.kind, .slice sy y.shape.length cy, .slice ny y.nums.length my, .slice iy y.items.length jy] 26)).alloc (.cells #[.int .i64 0, .slice none 0 0, .slice none 0 0, .slice none 0 0] 26) = W
  have E := hid (env2 w S hEW)
  clear hEW
  replace E := hid (E.out.arg h0.out)
  (try simp only [List.cons_append, List.nil_append, List.set_cons_zero, List.set_cons_succ] at E)
  refine (structure_turned y _ _ _ _ _ _ 1 2 _ _ (E.out.arr 2 rfl)).mono ?_
  intro e w1 h
  obtain ⟨s1, c1, n1, m1, i1, j1, rfl, hA, hb⟩ := h.eq hr.out hn.out
  replace E := hid ((E.out.up hb).addArr hA (fun b _ hq => E.out.res (Ext.refl _) hq))
  clear hA hb h
  (try simp only [List.cons_append, List.nil_append, List.set_cons_zero, List.set_cons_succ] at E)
  go_wp2_with (refine wpl_store4 rfl (.tmp 2) (.tmp 6) rfl _ rfl rfl (E.out.hdr 1 rfl) ?_; intro V HV CV; replace E := hid (E.out.chg 1 rfl CV HV))
  exact bodyPost_ret (end_arr2 rfl HV rfl rfl) rfl (hR.out _ _ (RetAE.to hr.out.symm hn.out (ArrAt.mono (fun b _ h => h.1) _ (E.out.arr 3 rfl)) E.out.ext))
set_option maxHeartbeats 4000000 in
theorem ref17_Ord (y : Arr) (sy : Option Addr) (cy : Nat) (ny : Option Addr) (my : Nat) (iy : Option Addr) (jy : Nat) (S : Nat → Prop) (w : World) (h : ArrAt w S y sy ny iy) : Calls Try.prog 21 #[.agg #[.int .i64 y.kind, .slice sy y.shape.length cy, .slice ny y.nums.length my, .slice iy y.items.length jy]] w (RetAE w (fun b => S b ∨ w.heap.size ≤ b) (turS 2 1 y) (turE 2 1 y)) := by
  refine calls_post fun R' hR => ?_
  have h0 := hid h
  clear h
  by_cases c : rightS y = 0
  case neg =>
    have cb : (rightS y == 0) = false := by simpa using c
    have cb2 : (rightS y != 0) = true := by simpa using c
    have hn := hid (turE_1 (fr := 2) (tk := 1) c)
    have hv := hid (turS_no (fr := 2) (tk := 1) (y := y) (by rw [hn.out]; decide))
    replace c := hid c
    go_enter Try.func21, Try.ntmps21
    go_wp2_with fail
    generalize hEW : ((w).alloc (.cells #[.int .i64 y.kind, .slice sy y.shape.length cy, .slice ny y.nums.length my, .slice iy y.items.length jy] 26)).alloc (.cells #[.int .i64 0, .slice none 0 0, .slice none 0 0, .slice none 0 0] 26) = W
    have E := hid (env2 w S hEW)
    clear hEW
    replace E := hid (E.out.arg h0.out)
    (try simp only [List.cons_append, List.nil_append, List.set_cons_zero, List.set_cons_succ] at E)
    refine (ref03_Right y _ _ _ _ _ _ _ _ (E.out.arr 2 rfl)).mono ?_
    rintro e w1 ⟨rfl, hb⟩
    replace E := hid (E.out.up hb)
    clear hb
    go_wp2_with (refine wpl_store4 rfl (.tmp 2) (.tmp 8) rfl _ rfl rfl (E.out.hdr 1 rfl) ?_; intro V HV CV; replace E := hid (E.out.chg 1 rfl CV HV))
    exact bodyPost_ret (end_arr2 rfl HV rfl rfl) rfl (hR.out _ _ (RetAE.zero hv.out hn.out E.out.ext))
  have cb : (rightS y == 0) = true := by simpa using c
  have cb2 : (rightS y != 0) = false := by simpa using c
  by_cases k : y.kind = 2
  case neg =>
    have kb : (y.kind != 2) = true := by simp [k]
    have hn := hid (turE_14 (fr := 2) (tk := 1) c k)
    have hv := hid (turS_no (fr := 2) (tk := 1) (y := y) (by rw [hn.out]; decide))
    replace c := hid c
    replace k := hid k
    go_enter Try.func21, Try.ntmps21
    go_wp2_with fail
    generalize hEW : ((w).alloc (.cells #[.int .i64 y.kind, .slice sy y.shape.length cy, .slice ny y.nums.length my, .slice iy y.items.length jy] 26)).alloc (.cells #[.int .i64 0, .slice none 0 0, .slice none 0 0, .slice none 0 0] 26) = W
    have E := hid (env2 w S hEW)
    clear hEW
    replace E := hid (E.out.arg h0.out)
    (try simp only [List.cons_append, List.nil_append, List.set_cons_zero, List.set_cons_succ] at E)
    refine (ref03_Right y _ _ _ _ _ _ _ _ (E.out.arr 2 rfl)).mono ?_
    rintro e w1 ⟨rfl, hb⟩
    replace E := hid (E.out.up hb)
    clear hb
    obtain ⟨q00, q01, q02, q03⟩ := (E.out.hdr 0 rfl).all
    go_wp2_with (refine wpl_store4 rfl (.tmp 2) (.tmp 12) rfl _ rfl rfl (E.out.hdr 1 rfl) ?_; intro V HV CV; replace E := hid (E.out.chg 1 rfl CV HV))
    exact bodyPost_ret (end_arr2 rfl HV rfl rfl) rfl (hR.out _ _ (RetAE.zero hv.out hn.out E.out.ext))
  have kb : (y.kind != 2) = false := by simp [k]
  have hn := hid (turE_0 c k (ord_right c k))
  have hv := hid (turS_yes hn.out)
  replace c := hid c
  replace k := hid k
  go_enter Try.func21, Try.ntmps21
  go_wp2_with fail
  generalize hEW : ((w).alloc (.cells #[.int .i64 y.kind, .slice sy y.shape.length cy, .slice ny y.nums.length my, .slice iy y.items.length jy] 26)).alloc (.cells #[.int .i64 0, .slice none 0 0, .slice none 0 0, .slice none 0 0] 26) = W
  have E := hid (env2 w S hEW)
  clear hEW
  replace E := hid (E.out.arg h0.out)
  (try simp only [List.cons_append, List.nil_append, List.set_cons_zero, List.set_cons_succ] at E)
  refine (ref03_Right y _ _ _ _ _ _ _ _ (E.out.arr 2 rfl)).mono ?_
  rintro e w1 ⟨rfl, hb⟩
  replace E := hid (E.out.up hb)
  clear hb
  obtain ⟨q00, q01, q02, q03⟩ := (E.out.hdr 0 rfl).all
  go_wp2_with fail
  clear q00 q01 q02 q03
  refine (ref03_Clone y _ _ _ _ _ _ _ _ (E.out.arr 2 rfl)).mono ?_
  intro e w2 h
  obtain ⟨s1, c1, n1, m1, i1, j1, rfl, hA, hb⟩ := h.eq rfl
  replace E := hid ((E.out.up hb).addArr hA (fun b _ hq => E.out.fresh (Ext.refl _) hq))
  clear hA hb h
  (try simp only [List.cons_append, List.nil_append, List.set_cons_zero, List.set_cons_succ] at E)
  go_upto_region 6 with (refine wpl_store4 rfl (.tmp 4) (.tmp 14) rfl _ rfl rfl ((E.out.alloc _).hdr 4 rfl) ?_; intro V1 HV CV; replace E := hid ((E.out.alloc _).chg 4 rfl CV HV); clear CV HV; (try simp only [List.cons_append, List.nil_append, List.set_cons_zero, List.set_cons_succ] at E))
  generalize w2.heap.size = p1 at E ⊢
  go_upto_region 7 with (refine wpl_store0 rfl (.tmp 15) (.const (.int .i64 1)) rfl p1 rfl rfl (E.out.hdr 4 rfl) ?_; intro V2 HV CV; replace E := hid (E.out.chg 4 rfl CV HV); clear CV HV; (try simp only [List.cons_append, List.nil_append, List.set_cons_zero, List.set_cons_succ] at E))
  replace E := hid (E.out.addArr (tur_at (k := 1) (E.out.arr 3 rfl)) (fun _ _ h => h))
  (try simp only [List.cons_append, List.nil_append, List.set_cons_zero, List.set_cons_succ] at E)
  have hT : Hid (turA 1 y = .mk 1 y.shape y.nums y.items) := rfl
  obtain ⟨q40, q41, q42, q43⟩ := (E.out.hdr 4 rfl).all
  go_wp2_with (refine wpl_store4 rfl (.tmp 2) (.tmp 16) rfl _ rfl rfl (E.out.hdr 1 rfl) ?_; intro V HV CV; replace E := hid (E.out.chg 1 rfl CV HV))
  exact bodyPost_ret (end_arr2 rfl HV rfl rfl) rfl (hR.out _ _ (RetAE.to (by rw [hv.out, hT.out]) hn.out (ArrAt.mono (fun b _ h => h.1) _ (E.out.arr 5 rfl)) E.out.ext))
set_option maxHeartbeats 4000000 in
theorem ref17_Chr (y : Arr) (sy : Option Addr) (cy : Nat) (ny : Option Addr) (my : Nat) (iy : Option Addr) (jy : Nat) (S : Nat → Prop) (w : World) (h : ArrAt w S y sy ny iy) : Calls Try.prog 23 #[.agg #[.int .i64 y.kind, .slice sy y.shape.length cy, .slice ny y.nums.length my, .slice iy y.items.length jy]] w (RetAE w (fun b => S b ∨ w.heap.size ≤ b) (turS 1 2 y) (turE 1 2 y)) := by
  refine calls_post fun R' hR => ?_
  have h0 := hid h
  clear h
  by_cases c : rightS y = 0
  case neg =>
    have cb : (rightS y == 0) = false := by simpa using c
    have cb2 : (rightS y != 0) = true := by simpa using c
    have hn := hid (turE_1 (fr := 1) (tk := 2) c)
    have hv := hid (turS_no (fr := 1) (tk := 2) (y := y) (by rw [hn.out]; decide))
    replace c := hid c
    go_enter Try.func23, Try.ntmps23
    go_wp2_with fail
    generalize hEW : ((w).alloc (.cells #[.int .i64 y.kind, .slice sy y.shape.length cy, .slice ny y.nums.length my, .slice iy y.items.length jy] 26)).alloc (.cells #[.int .i64 0, .slice none 0 0, .slice none 0 0, .slice none 0 0] 26) = W
    have E := hid (env2 w S hEW)
    clear hEW
    replace E := hid (E.out.arg h0.out)
    (try simp only [List.cons_append, List.nil_append, List.set_cons_zero, List.set_cons_succ] at E)
    refine (ref03_Right y _ _ _ _ _ _ _ _ (E.out.arr 2 rfl)).mono ?_
    rintro e w1 ⟨rfl, hb⟩
    replace E := hid (E.out.up hb)
    clear hb
    go_wp2_with (refine wpl_store4 rfl (.tmp 2) (.tmp 8) rfl _ rfl rfl (E.out.hdr 1 rfl) ?_; intro V HV CV; replace E := hid (E.out.chg 1 rfl CV HV))
    exact bodyPost_ret (end_arr2 rfl HV rfl rfl) rfl (hR.out _ _ (RetAE.zero hv.out hn.out E.out.ext))
  have cb : (rightS y == 0) = true := by simpa using c
  have cb2 : (rightS y != 0) = false := by simpa using c
  by_cases k : y.kind = 1
  case neg =>
    have kb : (y.kind != 1) = true := by simp [k]
    have hn := hid (turE_14 (fr := 1) (tk := 2) c k)
    have hv := hid (turS_no (fr := 1) (tk := 2) (y := y) (by rw [hn.out]; decide))
    replace c := hid c
    replace k := hid k
    go_enter Try.func23, Try.ntmps23
    go_wp2_with fail
    generalize hEW : ((w).alloc (.cells #[.int .i64 y.kind, .slice sy y.shape.length cy, .slice ny y.nums.length my, .slice iy y.items.length jy] 26)).alloc (.cells #[.int .i64 0, .slice none 0 0, .slice none 0 0, .slice none 0 0] 26) = W
    have E := hid (env2 w S hEW)
    clear hEW
    replace E := hid (E.out.arg h0.out)
    (try simp only [List.cons_append, List.nil_append, List.set_cons_zero, List.set_cons_succ] at E)
    refine (ref03_Right y _ _ _ _ _ _ _ _ (E.out.arr 2 rfl)).mono ?_
    rintro e w1 ⟨rfl, hb⟩
    replace E := hid (E.out.up hb)
    clear hb
    obtain ⟨q00, q01, q02, q03⟩ := (E.out.hdr 0 rfl).all
    go_wp2_with (refine wpl_store4 rfl (.tmp 2) (.tmp 12) rfl _ rfl rfl (E.out.hdr 1 rfl) ?_; intro V HV CV; replace E := hid (E.out.chg 1 rfl CV HV))
    exact bodyPost_ret (end_arr2 rfl HV rfl rfl) rfl (hR.out _ _ (RetAE.zero hv.out hn.out E.out.ext))
  have kb : (y.kind != 1) = false := by simp [k]
  by_cases v : rightS (turA 2 y) = 0
  case pos =>
    have vb : (rightS (turA 2 y) != 0) = false := by simpa using v
    have hn := hid (turE_0 c k v)
    have hv := hid (turS_yes hn.out)
    replace c := hid c
    replace k := hid k
    replace v := hid v
    go_enter Try.func23, Try.ntmps23
    go_wp2_with fail
    generalize hEW : ((w).alloc (.cells #[.int .i64 y.kind, .slice sy y.shape.length cy, .slice ny y.nums.length my, .slice iy y.items.length jy] 26)).alloc (.cells #[.int .i64 0, .slice none 0 0, .slice none 0 0, .slice none 0 0] 26) = W
    have E := hid (env2 w S hEW)
    clear hEW
    replace E := hid (E.out.arg h0.out)
    (try simp only [List.cons_append, List.nil_append, List.set_cons_zero, List.set_cons_succ] at E)
    refine (ref03_Right y _ _ _ _ _ _ _ _ (E.out.arr 2 rfl)).mono ?_
    rintro e w1 ⟨rfl, hb⟩
    replace E := hid (E.out.up hb)
    clear hb
    obtain ⟨q00, q01, q02, q03⟩ := (E.out.hdr 0 rfl).all
    go_wp2_with fail
    clear q00 q01 q02 q03
    refine (ref03_Clone y _ _ _ _ _ _ _ _ (E.out.arr 2 rfl)).mono ?_
    intro e w2 h
    obtain ⟨s1, c1, n1, m1, i1, j1, rfl, hA, hb⟩ := h.eq rfl
    replace E := hid ((E.out.up hb).addArr hA (fun b _ hq => E.out.fresh (Ext.refl _) hq))
    clear hA hb h
    (try simp only [List.cons_append, List.nil_append, List.set_cons_zero, List.set_cons_succ] at E)
    go_upto_region 6 with (refine wpl_store4 rfl (.tmp 4) (.tmp 14) rfl _ rfl rfl ((E.out.alloc _).hdr 4 rfl) ?_; intro V1 HV CV; replace E := hid ((E.out.alloc _).chg 4 rfl CV HV); clear CV HV; (try simp only [List.cons_append, List.nil_append, List.set_cons_zero, List.set_cons_succ] at E))
    generalize w2.heap.size = p1 at E ⊢
    go_upto_region 7 with (refine wpl_store0 rfl (.tmp 15) (.const (.int .i64 2)) rfl p1 rfl rfl (E.out.hdr 4 rfl) ?_; intro V2 HV CV; replace E := hid (E.out.chg 4 rfl CV HV); clear CV HV; (try simp only [List.cons_append, List.nil_append, List.set_cons_zero, List.set_cons_succ] at E))
    replace E := hid (E.out.addArr (tur_at (k := 2) (E.out.arr 3 rfl)) (fun _ _ h => h))
    (try simp only [List.cons_append, List.nil_append, List.set_cons_zero, List.set_cons_succ] at E)
    have hT : Hid (turA 2 y = .mk 2 y.shape y.nums y.items) := rfl
    obtain ⟨q40, q41, q42, q43⟩ := (E.out.hdr 4 rfl).all
    go_wp2_with fail
    refine (ref03_Right (turA 2 y) _ _ _ _ _ _ _ _ (E.out.arr 5 rfl)).mono ?_
    rintro e w3 ⟨rfl, hb⟩
    replace E := hid (E.out.up hb)
    clear hb
    clear q40 q41 q42 q43
    obtain ⟨q40, q41, q42, q43⟩ := (E.out.hdr 4 rfl).all
    go_wp2_with (refine wpl_store4 rfl (.tmp 2) (.tmp 20) rfl _ rfl rfl (E.out.hdr 1 rfl) ?_; intro V HV CV; replace E := hid (E.out.chg 1 rfl CV HV))
    exact bodyPost_ret (end_arr2 rfl HV rfl rfl) rfl (hR.out _ _ (RetAE.to (by rw [hv.out, hT.out]) hn.out (ArrAt.mono (fun b _ h => h.1) _ (E.out.arr 5 rfl)) E.out.ext))
  case neg =>
    have vb : (rightS (turA 2 y) != 0) = true := by simpa using v
    have hn := hid (turE_17 c k v)
    have hv := hid (turS_no (by rw [hn.out]; decide) : turS 1 2 y = .zero)
    replace c := hid c
    replace k := hid k
    replace v := hid v
    go_enter Try.func23, Try.ntmps23
    go_wp2_with fail
    generalize hEW : ((w).alloc (.cells #[.int .i64 y.kind, .slice sy y.shape.length cy, .slice ny y.nums.length my, .slice iy y.items.length jy] 26)).alloc (.cells #[.int .i64 0, .slice none 0 0, .slice none 0 0, .slice none 0 0] 26) = W
    have E := hid (env2 w S hEW)
    clear hEW
    replace E := hid (E.out.arg h0.out)
    (try simp only [List.cons_append, List.nil_append, List.set_cons_zero, List.set_cons_succ] at E)
    refine (ref03_Right y _ _ _ _ _ _ _ _ (E.out.arr 2 rfl)).mono ?_
    rintro e w1 ⟨rfl, hb⟩
    replace E := hid (E.out.up hb)
    clear hb
    obtain ⟨q00, q01, q02, q03⟩ := (E.out.hdr 0 rfl).all
    go_wp2_with fail
    clear q00 q01 q02 q03
    refine (ref03_Clone y _ _ _ _ _ _ _ _ (E.out.arr 2 rfl)).mono ?_
    intro e w2 h
    obtain ⟨s1, c1, n1, m1, i1, j1, rfl, hA, hb⟩ := h.eq rfl
    replace E := hid ((E.out.up hb).addArr hA (fun b _ hq => E.out.fresh (Ext.refl _) hq))
    clear hA hb h
    (try simp only [List.cons_append, List.nil_append, List.set_cons_zero, List.set_cons_succ] at E)
    go_upto_region 6 with (refine wpl_store4 rfl (.tmp 4) (.tmp 14) rfl _ rfl rfl ((E.out.alloc _).hdr 4 rfl) ?_; intro V1 HV CV; replace E := hid ((E.out.alloc _).chg 4 rfl CV HV); clear CV HV; (try simp only [List.cons_append, List.nil_append, List.set_cons_zero, List.set_cons_succ] at E))
    generalize w2.heap.size = p1 at E ⊢
    go_upto_region 7 with (refine wpl_store0 rfl (.tmp 15) (.const (.int .i64 2)) rfl p1 rfl rfl (E.out.hdr 4 rfl) ?_; intro V2 HV CV; replace E := hid (E.out.chg 4 rfl CV HV); clear CV HV; (try simp only [List.cons_append, List.nil_append, List.set_cons_zero, List.set_cons_succ] at E))
    replace E := hid (E.out.addArr (tur_at (k := 2) (E.out.arr 3 rfl)) (fun _ _ h => h))
    (try simp only [List.cons_append, List.nil_append, List.set_cons_zero, List.set_cons_succ] at E)
    have hT : Hid (turA 2 y = .mk 2 y.shape y.nums y.items) := rfl
    obtain ⟨q40, q41, q42, q43⟩ := (E.out.hdr 4 rfl).all
    go_wp2_with fail
    refine (ref03_Right (turA 2 y) _ _ _ _ _ _ _ _ (E.out.arr 5 rfl)).mono ?_
    rintro e w3 ⟨rfl, hb⟩
    replace E := hid (E.out.up hb)
    clear hb
    go_wp2_with (refine wpl_store4 rfl (.tmp 2) (.tmp 19) rfl _ rfl rfl (E.out.hdr 1 rfl) ?_; intro V HV CV; replace E := hid (E.out.chg 1 rfl CV HV))
    exact bodyPost_ret (end_arr2 rfl HV rfl rfl) rfl (hR.out _ _ (RetAE.zero hv.out hn.out E.out.ext))
end Go.Proofs.Ytkbbdlibamcilaa
