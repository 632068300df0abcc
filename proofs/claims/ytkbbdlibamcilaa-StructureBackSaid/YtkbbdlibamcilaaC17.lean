/- The functions of package structure and of its reference: contracts. Conditions: the arrays are read. -/
import Derived.Test.YtkbbdlibamcilaaA17
set_option linter.unusedVariables false
set_option linter.unusedSimpArgs false
namespace Go.Proofs.Ytkbbdlibamcilaa
open Go.RowKit Go.Sort
attribute [local go_sem ↓] run_max2 run_min2
attribute [local go_sem] eql_ints_nil eql_arrs_nil
set_option maxHeartbeats 4000000 in
theorem ref03_Few (y : Arr) : ∀ (sy : Option Addr) (cy : Nat) (ny : Option Addr) (my : Nat) (iy : Option Addr) (jy : Nat) (m : Int) (S : Nat → Prop) (w : World), 0 ≤ m → m ≤ 3000 → ArrAt w S y sy ny iy → Calls Try.prog 49 #[.agg #[.int .i64 y.kind, .slice sy y.shape.length cy, .slice ny y.nums.length my, .slice iy y.items.length jy], .int .i64 m] w fun e w' => ∃ r : Int, e = .returned (.int .i64 r) ∧ r ≤ 3000 ∧ -70368744177664 ≤ r ∧ Ext w w' := by
  induction y using Arr.ind with
  | h y IH =>
    intro sy cy ny my iy jy m S w h1 h2 h
    have IH := hid IH
    refine calls_post fun R' hR => ?_
    have hsl := h.shape.1
    have hnl := h.nums.1
    have hil := h.len
    have h0 := hid h
    clear h
    go_enter Try.func49, Try.ntmps49
    go_upto_region 1 with (fail)
    generalize hEW : (w).alloc (.cells #[.int .i64 y.kind, .slice sy y.shape.length cy, .slice ny y.nums.length my, .slice iy y.items.length jy] 26) = W
    have E := hid (env1 w S hEW)
    clear hEW
    replace E := hid (E.out.arg h0.out)
    (try simp only [List.cons_append, List.nil_append, List.set_cons_zero, List.set_cons_succ] at E)
    obtain ⟨q00, q01, q02, q03⟩ := (E.out.hdr 0 rfl).all
    go_wp2_with fail
    clear q00 q01 q02 q03
    obtain ⟨m1, hm1⟩ : ∃ m1 : Int, m1 = m - 1 - (y.shape.length : Int) - (y.nums.length : Int) - (y.items.length : Int) := ⟨_, rfl⟩
    go_loopw [1, 5] (fun s i wr => ∃ (k : Nat) (n : Int), k ≤ y.items.length ∧ i = .int .i64 k ∧ s = .int .i64 n ∧ n ≤ 3000 ∧ -70368744177664 ≤ n ∧ Env w S wr [.obj w.heap.size (.cells #[.int .i64 y.kind, .slice sy y.shape.length cy, .slice ny y.nums.length my, .slice iy y.items.length jy] 26 (0, 0)), .arr y sy ny iy]) (fun _ i _ => y.items.length - (intOf i).toNat)
    case atStart => exact ⟨0, _, Nat.zero_le _, rfl, rfl, by omega, by omega, E.out⟩
    case round =>
      clear E
      obtain ⟨k, n, hk, rfl, rfl, n1, n2, E⟩ := hrel
      replace E := hid E
      obtain ⟨q00, q01, q02, q03⟩ := (E.out.hdr 0 rfl).all
      by_cases hlt : k < y.items.length
      · by_cases hn : 0 ≤ n
        · obtain ⟨b, off, sx, cx, nx, mx, ix, jx, hia, hS, hbl, e0, e1, e2, e3, hx⟩ := (E.out.arr 1 rfl).items.at hlt
          have hmem := hid (List.getElem_mem hlt)
          subst hia
          generalize y.items[k] = x at e0 e1 e2 e3 hx hmem
          have HX := hid hx
          clear hx
          go_wp2_with fail
          refine (IH.out x hmem.out _ cx _ mx _ jx n _ wr hn n1 HX.out).mono ?_
          rintro e w2 ⟨r, rfl, r1, r2, hb2⟩
          replace E := hid (E.out.up hb2)
          clear e0 e1 e2 e3 hb2
          clear q00 q01 q02 q03
          go_wp2_with fail
          go_roundw
          case rel => exact ⟨k + 1, _, by omega, by go_num, rfl, by omega, by omega, E.out⟩
          case measure => simp [intOf]; omega
        · go_wp2_with fail
          exact hR.out _ _ ⟨_, rfl, by omega, by omega, E.out.ext⟩
      · go_wp2_with fail
        exact hR.out _ _ ⟨_, rfl, by omega, by omega, E.out.ext⟩
set_option maxHeartbeats 4000000 in
theorem ref03_Small (y : Arr) (sy : Option Addr) (cy : Nat) (ny : Option Addr) (my : Nat) (iy : Option Addr) (jy : Nat) (S : Nat → Prop) (w : World) (h : ArrAt w S y sy ny iy) : Calls Try.prog 19 #[.agg #[.int .i64 y.kind, .slice sy y.shape.length cy, .slice ny y.nums.length my, .slice iy y.items.length jy]] w fun e w' => ∃ r : Bool, e = .returned (.bool r) ∧ Below w.heap.size w w' := by
  refine calls_post fun R' hR => ?_
  have h0 := hid h
  clear h
  go_enter Try.func19, Try.ntmps19
  go_wp2_with fail
  generalize hEW : (w).alloc (.cells #[.int .i64 y.kind, .slice sy y.shape.length cy, .slice ny y.nums.length my, .slice iy y.items.length jy] 26) = W
  have E := hid (env1 w S hEW)
  clear hEW
  refine (ref03_Few y _ _ _ _ _ _ 3000 S W (by omega) (by omega) (h0.out.later E.out.ext)).mono ?_
  rintro e w1 ⟨r, rfl, _, _, hb⟩
  replace E := hid (E.out.up hb)
  go_wp2_with fail
  exact hR.out _ _ ⟨_, rfl, E.out.ext⟩
set_option maxHeartbeats 4000000 in
theorem ref03_Deep (y : Arr) (sy : Option Addr) (cy : Nat) (ny : Option Addr) (my : Nat) (iy : Option Addr) (jy : Nat) (S : Nat → Prop) (w : World) (h : ArrAt w S y sy ny iy) : Calls Try.prog 58 #[.agg #[.int .i64 y.kind, .slice sy y.shape.length cy, .slice ny y.nums.length my, .slice iy y.items.length jy]] w fun e w' => e = .returned (.int .i64 (depA y)) ∧ Below w.heap.size w w' := by
  refine calls_post fun R' hR => ?_
  have h0 := hid h
  clear h
  have hd : Hid ((chk y).2.1 = depA y) := rfl
  go_enter Try.func58, Try.ntmps58
  go_wp2_with fail
  generalize hEW : (w).alloc (.cells #[.int .i64 y.kind, .slice sy y.shape.length cy, .slice ny y.nums.length my, .slice iy y.items.length jy] 26) = W
  have E := hid (env1 w S hEW)
  clear hEW
  replace E := hid (E.out.arg h0.out)
  (try simp only [List.cons_append, List.nil_append, List.set_cons_zero, List.set_cons_succ] at E)
  refine (ref03_check y _ _ _ _ _ _ _ _ (E.out.arr 1 rfl)).mono ?_
  rintro e w1 ⟨rfl, hb⟩
  rw [hd.out]
  replace E := hid (E.out.up hb)
  go_wp2_with fail
  exact hR.out _ _ ⟨rfl, E.out.ext⟩
set_option maxHeartbeats 4000000 in
theorem structure_right (y : Arr) (sy : Option Addr) (cy : Nat) (ny : Option Addr) (my : Nat) (iy : Option Addr) (jy : Nat) (S : Nat → Prop) (w : World) (h : ArrAt w S y sy ny iy) : Calls Try.prog 40 #[.agg #[.int .i64 y.kind, .slice sy y.shape.length cy, .slice ny y.nums.length my, .slice iy y.items.length jy]] w fun e w' => e = .returned (.bool (rightS y == 0)) ∧ Below w.heap.size w w' := by
  refine calls_post fun R' hR => ?_
  have h0 := hid h
  clear h
  go_enter Try.func40, Try.ntmps40
  go_wp2_with fail
  generalize hEW : (w).alloc (.cells #[.int .i64 y.kind, .slice sy y.shape.length cy, .slice ny y.nums.length my, .slice iy y.items.length jy] 26) = W
  have E := hid (env1 w S hEW)
  clear hEW
  replace E := hid (E.out.arg h0.out)
  (try simp only [List.cons_append, List.nil_append, List.set_cons_zero, List.set_cons_succ] at E)
  refine (array_Right y _ _ _ _ _ _ _ _ (E.out.arr 1 rfl)).mono ?_
  rintro e w1 ⟨rfl, hb⟩
  replace E := hid (E.out.up hb)
  clear hb
  go_wp2_with fail
  exact hR.out _ _ ⟨rfl, E.out.ext⟩
set_option maxHeartbeats 4000000 in
theorem structure_Shape (y : Arr) (sy : Option Addr) (cy : Nat) (ny : Option Addr) (my : Nat) (iy : Option Addr) (jy : Nat) (S : Nat → Prop) (w : World) (h : ArrAt w S y sy ny iy) : Calls Try.prog 18 #[.agg #[.int .i64 y.kind, .slice sy y.shape.length cy, .slice ny y.nums.length my, .slice iy y.items.length jy]] w (RetA w (fun b => S b ∨ w.heap.size ≤ b) (shpS y)) := by
  refine calls_post fun R' hR => ?_
  have h0 := hid h
  have hsl := h.shape.1
  have hnl := h.nums.1
  have hil := h.len
  clear h
  by_cases c : rightS y = 0
  case neg =>
    have cb : (rightS y == 0) = false := by simpa using c
    have cb2 : (rightS y != 0) = true := by simpa using c
    have hv : Hid (shpS y = .zero) := hid (if_neg c)
    replace c := hid c
    go_enter Try.func18, Try.ntmps18
    go_wp2_with fail
    generalize hEW : ((w).alloc (.cells #[.int .i64 y.kind, .slice sy y.shape.length cy, .slice ny y.nums.length my, .slice iy y.items.length jy] 26)).alloc (.cells #[.int .i64 0, .slice none 0 0, .slice none 0 0, .slice none 0 0] 26) = W
    have E := hid (env2 w S hEW)
    clear hEW
    replace E := hid (E.out.arg h0.out)
    (try simp only [List.cons_append, List.nil_append, List.set_cons_zero, List.set_cons_succ] at E)
    refine (structure_right y _ _ _ _ _ _ _ _ (E.out.arr 2 rfl)).mono ?_
    rintro e w1 ⟨rfl, hb⟩
    replace E := hid (E.out.up hb)
    clear hb
    go_wp2_with (refine wpl_store4 rfl (.tmp 2) (.tmp 6) rfl _ rfl rfl (E.out.hdr 1 rfl) ?_; intro V HV CV; replace E := hid (E.out.chg 1 rfl CV HV))
    exact bodyPost_ret (end_arr rfl HV rfl) rfl (hR.out _ _ (RetA.zero hv.out E.out.ext))
  have cb : (rightS y == 0) = true := by simpa using c
  have cb2 : (rightS y != 0) = false := by simpa using c
  obtain ⟨r, hr⟩ : ∃ r, r = validS (vctA y.shape) := ⟨_, rfl⟩
  have hv : Hid (shpS y = r) := hid (by rw [hr]; exact if_pos c)
  replace c := hid c
  replace hr := hid hr
  go_enter Try.func18, Try.ntmps18
  go_wp2_with fail
  generalize hEW : ((w).alloc (.cells #[.int .i64 y.kind, .slice sy y.shape.length cy, .slice ny y.nums.length my, .slice iy y.items.length jy] 26)).alloc (.cells #[.int .i64 0, .slice none 0 0, .slice none 0 0, .slice none 0 0] 26) = W
  have E := hid (env2 w S hEW)
  clear hEW
  replace E := hid (E.out.arg h0.out)
  (try simp only [List.cons_append, List.nil_append, List.set_cons_zero, List.set_cons_succ] at E)
  refine (structure_right y _ _ _ _ _ _ _ _ (E.out.arr 2 rfl)).mono ?_
  rintro e w1 ⟨rfl, hb⟩
  replace E := hid (E.out.up hb)
  clear hb
  obtain ⟨q00, q01, q02, q03⟩ := (E.out.hdr 0 rfl).all
  go_wp2_with fail
  clear q00 q01 q02 q03
  refine (array_Vector y.shape _ _ _ _ (E.out.arr 2 rfl).shape).mono ?_
  intro e w2 h
  obtain ⟨s1, c1, n1, m1, i1, j1, rfl, hA, hb⟩ := h.eq hr.out
  replace E := hid ((E.out.up hb).addArr hA (fun b _ hq => E.out.res (Ext.refl _) hq))
  clear hA hb h
  (try simp only [List.cons_append, List.nil_append, List.set_cons_zero, List.set_cons_succ] at E)
  go_wp2_with (refine wpl_store4 rfl (.tmp 2) (.tmp 9) rfl _ rfl rfl (E.out.hdr 1 rfl) ?_; intro V HV CV; replace E := hid (E.out.chg 1 rfl CV HV))
  exact bodyPost_ret (end_arr rfl HV rfl) rfl (hR.out _ _ (RetA.to hv.out (ArrAt.mono (fun b _ h => h.1) _ (E.out.arr 3 rfl)) E.out.ext))
set_option maxHeartbeats 4000000 in
theorem ref17_Shape (y : Arr) (sy : Option Addr) (cy : Nat) (ny : Option Addr) (my : Nat) (iy : Option Addr) (jy : Nat) (S : Nat → Prop) (w : World) (h : ArrAt w S y sy ny iy) : Calls Try.prog 24 #[.agg #[.int .i64 y.kind, .slice sy y.shape.length cy, .slice ny y.nums.length my, .slice iy y.items.length jy]] w (RetA w (fun b => S b ∨ w.heap.size ≤ b) (shpS y)) := by
  refine calls_post fun R' hR => ?_
  have h0 := hid h
  have hsl := h.shape.1
  have hnl := h.nums.1
  have hil := h.len
  clear h
  by_cases c : rightS y = 0
  case neg =>
    have cb : (rightS y == 0) = false := by simpa using c
    have cb2 : (rightS y != 0) = true := by simpa using c
    have hv : Hid (shpS y = .zero) := hid (if_neg c)
    replace c := hid c
    go_enter Try.func24, Try.ntmps24
    go_wp2_with fail
    generalize hEW : ((w).alloc (.cells #[.int .i64 y.kind, .slice sy y.shape.length cy, .slice ny y.nums.length my, .slice iy y.items.length jy] 26)).alloc (.cells #[.int .i64 0, .slice none 0 0, .slice none 0 0, .slice none 0 0] 26) = W
    have E := hid (env2 w S hEW)
    clear hEW
    replace E := hid (E.out.arg h0.out)
    (try simp only [List.cons_append, List.nil_append, List.set_cons_zero, List.set_cons_succ] at E)
    refine (ref03_Right y _ _ _ _ _ _ _ _ (E.out.arr 2 rfl)).mono ?_
    rintro e w1 ⟨rfl, hb⟩
    replace E := hid (E.out.up hb)
    clear hb
    go_wp2_with (refine wpl_store4 rfl (.tmp 2) (.tmp 6) rfl _ rfl rfl (E.out.hdr 1 rfl) ?_; intro V HV CV; replace E := hid (E.out.chg 1 rfl CV HV))
    exact bodyPost_ret (end_arr rfl HV rfl) rfl (hR.out _ _ (RetA.zero hv.out E.out.ext))
  have cb : (rightS y == 0) = true := by simpa using c
  have cb2 : (rightS y != 0) = false := by simpa using c
  obtain ⟨r, hr⟩ : ∃ r, r = validS (vctA y.shape) := ⟨_, rfl⟩
  have hv : Hid (shpS y = r) := hid (by rw [hr]; exact if_pos c)
  replace c := hid c
  replace hr := hid hr
  go_enter Try.func24, Try.ntmps24
  go_wp2_with fail
  generalize hEW : ((w).alloc (.cells #[.int .i64 y.kind, .slice sy y.shape.length cy, .slice ny y.nums.length my, .slice iy y.items.length jy] 26)).alloc (.cells #[.int .i64 0, .slice none 0 0, .slice none 0 0, .slice none 0 0] 26) = W
  have E := hid (env2 w S hEW)
  clear hEW
  replace E := hid (E.out.arg h0.out)
  (try simp only [List.cons_append, List.nil_append, List.set_cons_zero, List.set_cons_succ] at E)
  refine (ref03_Right y _ _ _ _ _ _ _ _ (E.out.arr 2 rfl)).mono ?_
  rintro e w1 ⟨rfl, hb⟩
  replace E := hid (E.out.up hb)
  clear hb
  obtain ⟨q00, q01, q02, q03⟩ := (E.out.hdr 0 rfl).all
  go_wp2_with fail
  clear q00 q01 q02 q03
  refine (ref03_Vector y.shape _ _ _ _ (E.out.arr 2 rfl).shape).mono ?_
  intro e w2 h
  obtain ⟨s1, c1, n1, m1, i1, j1, rfl, hA, hb⟩ := h.eq hr.out
  replace E := hid ((E.out.up hb).addArr hA (fun b _ hq => E.out.res (Ext.refl _) hq))
  clear hA hb h
  (try simp only [List.cons_append, List.nil_append, List.set_cons_zero, List.set_cons_succ] at E)
  go_wp2_with (refine wpl_store4 rfl (.tmp 2) (.tmp 9) rfl _ rfl rfl (E.out.hdr 1 rfl) ?_; intro V HV CV; replace E := hid (E.out.chg 1 rfl CV HV))
  exact bodyPost_ret (end_arr rfl HV rfl) rfl (hR.out _ _ (RetA.to hv.out (ArrAt.mono (fun b _ h => h.1) _ (E.out.arr 3 rfl)) E.out.ext))
set_option maxHeartbeats 4000000 in
theorem structure_Kind (y : Arr) (sy : Option Addr) (cy : Nat) (ny : Option Addr) (my : Nat) (iy : Option Addr) (jy : Nat) (S : Nat → Prop) (w : World) (h : ArrAt w S y sy ny iy) : Calls Try.prog 30 #[.agg #[.int .i64 y.kind, .slice sy y.shape.length cy, .slice ny y.nums.length my, .slice iy y.items.length jy]] w (RetA w (fun b => S b ∨ w.heap.size ≤ b) (kndS y)) := by
  refine calls_post fun R' hR => ?_
  have h0 := hid h
  have hsl := h.shape.1
  have hnl := h.nums.1
  have hil := h.len
  clear h
  by_cases c : rightS y = 0
  case neg =>
    have cb : (rightS y == 0) = false := by simpa using c
    have cb2 : (rightS y != 0) = true := by simpa using c
    have hv : Hid (kndS y = .zero) := hid (if_neg c)
    replace c := hid c
    go_enter Try.func30, Try.ntmps30
    go_wp2_with fail
    generalize hEW : ((w).alloc (.cells #[.int .i64 y.kind, .slice sy y.shape.length cy, .slice ny y.nums.length my, .slice iy y.items.length jy] 26)).alloc (.cells #[.int .i64 0, .slice none 0 0, .slice none 0 0, .slice none 0 0] 26) = W
    have E := hid (env2 w S hEW)
    clear hEW
    replace E := hid (E.out.arg h0.out)
    (try simp only [List.cons_append, List.nil_append, List.set_cons_zero, List.set_cons_succ] at E)
    refine (structure_right y _ _ _ _ _ _ _ _ (E.out.arr 2 rfl)).mono ?_
    rintro e w1 ⟨rfl, hb⟩
    replace E := hid (E.out.up hb)
    clear hb
    go_wp2_with (refine wpl_store4 rfl (.tmp 2) (.tmp 6) rfl _ rfl rfl (E.out.hdr 1 rfl) ?_; intro V HV CV; replace E := hid (E.out.chg 1 rfl CV HV))
    exact bodyPost_ret (end_arr rfl HV rfl) rfl (hR.out _ _ (RetA.zero hv.out E.out.ext))
  have cb : (rightS y == 0) = true := by simpa using c
  have cb2 : (rightS y != 0) = false := by simpa using c
  obtain ⟨r, hr⟩ : ∃ r, r = validS (numA y.kind) := ⟨_, rfl⟩
  have hv : Hid (kndS y = r) := hid (by rw [hr]; exact if_pos c)
  replace c := hid c
  replace hr := hid hr
  go_enter Try.func30, Try.ntmps30
  go_wp2_with fail
  generalize hEW : ((w).alloc (.cells #[.int .i64 y.kind, .slice sy y.shape.length cy, .slice ny y.nums.length my, .slice iy y.items.length jy] 26)).alloc (.cells #[.int .i64 0, .slice none 0 0, .slice none 0 0, .slice none 0 0] 26) = W
  have E := hid (env2 w S hEW)
  clear hEW
  replace E := hid (E.out.arg h0.out)
  (try simp only [List.cons_append, List.nil_append, List.set_cons_zero, List.set_cons_succ] at E)
  refine (structure_right y _ _ _ _ _ _ _ _ (E.out.arr 2 rfl)).mono ?_
  rintro e w1 ⟨rfl, hb⟩
  replace E := hid (E.out.up hb)
  clear hb
  obtain ⟨q00, q01, q02, q03⟩ := (E.out.hdr 0 rfl).all
  go_wp2_with fail
  clear q00 q01 q02 q03
  refine (array_Scalar y.kind _).mono ?_
  intro e w2 h
  obtain ⟨s1, c1, n1, m1, i1, j1, rfl, hA, hb⟩ := h.eq hr.out
  replace E := hid ((E.out.up hb).addArr hA (fun b _ hq => E.out.fresh (Ext.refl _) hq))
  clear hA hb h
  (try simp only [List.cons_append, List.nil_append, List.set_cons_zero, List.set_cons_succ] at E)
  go_wp2_with (refine wpl_store4 rfl (.tmp 2) (.tmp 9) rfl _ rfl rfl (E.out.hdr 1 rfl) ?_; intro V HV CV; replace E := hid (E.out.chg 1 rfl CV HV))
  exact bodyPost_ret (end_arr rfl HV rfl) rfl (hR.out _ _ (RetA.to hv.out (ArrAt.mono (fun b _ h => h.1) _ (E.out.arr 3 rfl)) E.out.ext))
set_option maxHeartbeats 4000000 in
theorem ref17_Kind (y : Arr) (sy : Option Addr) (cy : Nat) (ny : Option Addr) (my : Nat) (iy : Option Addr) (jy : Nat) (S : Nat → Prop) (w : World) (h : ArrAt w S y sy ny iy) : Calls Try.prog 31 #[.agg #[.int .i64 y.kind, .slice sy y.shape.length cy, .slice ny y.nums.length my, .slice iy y.items.length jy]] w (RetA w (fun b => S b ∨ w.heap.size ≤ b) (kndS y)) := by
  refine calls_post fun R' hR => ?_
  have h0 := hid h
  have hsl := h.shape.1
  have hnl := h.nums.1
  have hil := h.len
  clear h
  by_cases c : rightS y = 0
  case neg =>
    have cb : (rightS y == 0) = false := by simpa using c
    have cb2 : (rightS y != 0) = true := by simpa using c
    have hv : Hid (kndS y = .zero) := hid (if_neg c)
    replace c := hid c
    go_enter Try.func31, Try.ntmps31
    go_wp2_with fail
    generalize hEW : ((w).alloc (.cells #[.int .i64 y.kind, .slice sy y.shape.length cy, .slice ny y.nums.length my, .slice iy y.items.length jy] 26)).alloc (.cells #[.int .i64 0, .slice none 0 0, .slice none 0 0, .slice none 0 0] 26) = W
    have E := hid (env2 w S hEW)
    clear hEW
    replace E := hid (E.out.arg h0.out)
    (try simp only [List.cons_append, List.nil_append, List.set_cons_zero, List.set_cons_succ] at E)
    refine (ref03_Right y _ _ _ _ _ _ _ _ (E.out.arr 2 rfl)).mono ?_
    rintro e w1 ⟨rfl, hb⟩
    replace E := hid (E.out.up hb)
    clear hb
    go_wp2_with (refine wpl_store4 rfl (.tmp 2) (.tmp 6) rfl _ rfl rfl (E.out.hdr 1 rfl) ?_; intro V HV CV; replace E := hid (E.out.chg 1 rfl CV HV))
    exact bodyPost_ret (end_arr rfl HV rfl) rfl (hR.out _ _ (RetA.zero hv.out E.out.ext))
  have cb : (rightS y == 0) = true := by simpa using c
  have cb2 : (rightS y != 0) = false := by simpa using c
  obtain ⟨r, hr⟩ : ∃ r, r = validS (numA y.kind) := ⟨_, rfl⟩
  have hv : Hid (kndS y = r) := hid (by rw [hr]; exact if_pos c)
  replace c := hid c
  replace hr := hid hr
  go_enter Try.func31, Try.ntmps31
  go_wp2_with fail
  generalize hEW : ((w).alloc (.cells #[.int .i64 y.kind, .slice sy y.shape.length cy, .slice ny y.nums.length my, .slice iy y.items.length jy] 26)).alloc (.cells #[.int .i64 0, .slice none 0 0, .slice none 0 0, .slice none 0 0] 26) = W
  have E := hid (env2 w S hEW)
  clear hEW
  replace E := hid (E.out.arg h0.out)
  (try simp only [List.cons_append, List.nil_append, List.set_cons_zero, List.set_cons_succ] at E)
  refine (ref03_Right y _ _ _ _ _ _ _ _ (E.out.arr 2 rfl)).mono ?_
  rintro e w1 ⟨rfl, hb⟩
  replace E := hid (E.out.up hb)
  clear hb
  obtain ⟨q00, q01, q02, q03⟩ := (E.out.hdr 0 rfl).all
  go_wp2_with fail
  clear q00 q01 q02 q03
  refine (ref03_Scalar y.kind _).mono ?_
  intro e w2 h
  obtain ⟨s1, c1, n1, m1, i1, j1, rfl, hA, hb⟩ := h.eq hr.out
  replace E := hid ((E.out.up hb).addArr hA (fun b _ hq => E.out.fresh (Ext.refl _) hq))
  clear hA hb h
  (try simp only [List.cons_append, List.nil_append, List.set_cons_zero, List.set_cons_succ] at E)
  go_wp2_with (refine wpl_store4 rfl (.tmp 2) (.tmp 9) rfl _ rfl rfl (E.out.hdr 1 rfl) ?_; intro V HV CV; replace E := hid (E.out.chg 1 rfl CV HV))
  exact bodyPost_ret (end_arr rfl HV rfl) rfl (hR.out _ _ (RetA.to hv.out (ArrAt.mono (fun b _ h => h.1) _ (E.out.arr 3 rfl)) E.out.ext))
set_option maxHeartbeats 4000000 in
theorem ref17_Depth (y : Arr) (sy : Option Addr) (cy : Nat) (ny : Option Addr) (my : Nat) (iy : Option Addr) (jy : Nat) (S : Nat → Prop) (w : World) (h : ArrAt w S y sy ny iy) : Calls Try.prog 29 #[.agg #[.int .i64 y.kind, .slice sy y.shape.length cy, .slice ny y.nums.length my, .slice iy y.items.length jy]] w (RetA w (fun b => S b ∨ w.heap.size ≤ b) (depS y)) := by
  refine calls_post fun R' hR => ?_
  have h0 := hid h
  have hsl := h.shape.1
  have hnl := h.nums.1
  have hil := h.len
  clear h
  by_cases c : rightS y = 0
  case neg =>
    have cb : (rightS y == 0) = false := by simpa using c
    have cb2 : (rightS y != 0) = true := by simpa using c
    have hv : Hid (depS y = .zero) := hid (if_neg c)
    replace c := hid c
    go_enter Try.func29, Try.ntmps29
    go_wp2_with fail
    generalize hEW : ((w).alloc (.cells #[.int .i64 y.kind, .slice sy y.shape.length cy, .slice ny y.nums.length my, .slice iy y.items.length jy] 26)).alloc (.cells #[.int .i64 0, .slice none 0 0, .slice none 0 0, .slice none 0 0] 26) = W
    have E := hid (env2 w S hEW)
    clear hEW
    replace E := hid (E.out.arg h0.out)
    (try simp only [List.cons_append, List.nil_append, List.set_cons_zero, List.set_cons_succ] at E)
    refine (ref03_Right y _ _ _ _ _ _ _ _ (E.out.arr 2 rfl)).mono ?_
    rintro e w1 ⟨rfl, hb⟩
    replace E := hid (E.out.up hb)
    clear hb
    go_wp2_with (refine wpl_store4 rfl (.tmp 2) (.tmp 6) rfl _ rfl rfl (E.out.hdr 1 rfl) ?_; intro V HV CV; replace E := hid (E.out.chg 1 rfl CV HV))
    exact bodyPost_ret (end_arr rfl HV rfl) rfl (hR.out _ _ (RetA.zero hv.out E.out.ext))
  have cb : (rightS y == 0) = true := by simpa using c
  have cb2 : (rightS y != 0) = false := by simpa using c
  obtain ⟨r, hr⟩ : ∃ r, r = validS (numA (depA y)) := ⟨_, rfl⟩
  have hv : Hid (depS y = r) := hid (by rw [hr]; exact if_pos c)
  replace c := hid c
  replace hr := hid hr
  go_enter Try.func29, Try.ntmps29
  go_wp2_with fail
  generalize hEW : ((w).alloc (.cells #[.int .i64 y.kind, .slice sy y.shape.length cy, .slice ny y.nums.length my, .slice iy y.items.length jy] 26)).alloc (.cells #[.int .i64 0, .slice none 0 0, .slice none 0 0, .slice none 0 0] 26) = W
  have E := hid (env2 w S hEW)
  clear hEW
  replace E := hid (E.out.arg h0.out)
  (try simp only [List.cons_append, List.nil_append, List.set_cons_zero, List.set_cons_succ] at E)
  refine (ref03_Right y _ _ _ _ _ _ _ _ (E.out.arr 2 rfl)).mono ?_
  rintro e w1 ⟨rfl, hb⟩
  replace E := hid (E.out.up hb)
  clear hb
  obtain ⟨q00, q01, q02, q03⟩ := (E.out.hdr 0 rfl).all
  go_wp2_with fail
  clear q00 q01 q02 q03
  refine (ref03_Deep y _ _ _ _ _ _ _ _ (E.out.arr 2 rfl)).mono ?_
  rintro e w2 ⟨rfl, hb⟩
  replace E := hid (E.out.up hb)
  clear hb
  go_wp2_with fail
  refine (ref03_Scalar (depA y) _).mono ?_
  intro e w3 h
  obtain ⟨s1, c1, n1, m1, i1, j1, rfl, hA, hb⟩ := h.eq hr.out
  replace E := hid ((E.out.up hb).addArr hA (fun b _ hq => E.out.fresh (Ext.refl _) hq))
  clear hA hb h
  (try simp only [List.cons_append, List.nil_append, List.set_cons_zero, List.set_cons_succ] at E)
  go_wp2_with (refine wpl_store4 rfl (.tmp 2) (.tmp 9) rfl _ rfl rfl (E.out.hdr 1 rfl) ?_; intro V HV CV; replace E := hid (E.out.chg 1 rfl CV HV))
  exact bodyPost_ret (end_arr rfl HV rfl) rfl (hR.out _ _ (RetA.to hv.out (ArrAt.mono (fun b _ h => h.1) _ (E.out.arr 3 rfl)) E.out.ext))
set_option maxHeartbeats 4000000 in
theorem structure_Tally (y : Arr) (sy : Option Addr) (cy : Nat) (ny : Option Addr) (my : Nat) (iy : Option Addr) (jy : Nat) (S : Nat → Prop) (w : World) (h : ArrAt w S y sy ny iy) : Calls Try.prog 16 #[.agg #[.int .i64 y.kind, .slice sy y.shape.length cy, .slice ny y.nums.length my, .slice iy y.items.length jy]] w (RetA w (fun b => S b ∨ w.heap.size ≤ b) (talS y)) := by
  refine calls_post fun R' hR => ?_
  have h0 := hid h
  have hsl := h.shape.1
  have hnl := h.nums.1
  have hil := h.len
  clear h
  by_cases c : rightS y = 0
  case neg =>
    have cb : (rightS y == 0) = false := by simpa using c
    have cb2 : (rightS y != 0) = true := by simpa using c
    have hv : Hid (talS y = .zero) := hid (if_neg c)
    replace c := hid c
    go_enter Try.func16, Try.ntmps16
    go_wp2_with fail
    generalize hEW : ((w).alloc (.cells #[.int .i64 y.kind, .slice sy y.shape.length cy, .slice ny y.nums.length my, .slice iy y.items.length jy] 26)).alloc (.cells #[.int .i64 0, .slice none 0 0, .slice none 0 0, .slice none 0 0] 26) = W
    have E := hid (env2 w S hEW)
    clear hEW
    replace E := hid (E.out.arg h0.out)
    (try simp only [List.cons_append, List.nil_append, List.set_cons_zero, List.set_cons_succ] at E)
    refine (structure_right y _ _ _ _ _ _ _ _ (E.out.arr 2 rfl)).mono ?_
    rintro e w1 ⟨rfl, hb⟩
    replace E := hid (E.out.up hb)
    clear hb
    go_wp2_with (refine wpl_store4 rfl (.tmp 2) (.tmp 7) rfl _ rfl rfl (E.out.hdr 1 rfl) ?_; intro V HV CV; replace E := hid (E.out.chg 1 rfl CV HV))
    exact bodyPost_ret (end_arr rfl HV rfl) rfl (hR.out _ _ (RetA.zero hv.out E.out.ext))
  have cb : (rightS y == 0) = true := by simpa using c
  have cb2 : (rightS y != 0) = false := by simpa using c
  obtain ⟨r, hr⟩ : ∃ r, r = validS (numA (talN y)) := ⟨_, rfl⟩
  have hv : Hid (talS y = r) := hid (by rw [hr]; exact if_pos c)
  replace c := hid c
  by_cases z : y.shape.length = 0
  case pos =>
    have zb : ((y.shape.length : Int) == 0) = true := by rw [z]; rfl
    have ht : talN y = 1 := if_pos z
    rw [ht] at hr
    replace hr := hid hr
    replace z := hid z
    clear ht
    go_enter Try.func16, Try.ntmps16
    go_wp2_with fail
    generalize hEW : ((w).alloc (.cells #[.int .i64 y.kind, .slice sy y.shape.length cy, .slice ny y.nums.length my, .slice iy y.items.length jy] 26)).alloc (.cells #[.int .i64 0, .slice none 0 0, .slice none 0 0, .slice none 0 0] 26) = W
    have E := hid (env2 w S hEW)
    clear hEW
    replace E := hid (E.out.arg h0.out)
    (try simp only [List.cons_append, List.nil_append, List.set_cons_zero, List.set_cons_succ] at E)
    refine (structure_right y _ _ _ _ _ _ _ _ (E.out.arr 2 rfl)).mono ?_
    rintro e w1 ⟨rfl, hb⟩
    replace E := hid (E.out.up hb)
    clear hb
    obtain ⟨q00, q01, q02, q03⟩ := (E.out.hdr 0 rfl).all
    go_wp2_with fail
    clear q00 q01 q02 q03
    refine (array_Scalar 1 _).mono ?_
    intro e w2 h
    obtain ⟨s1, c1, n1, m1, i1, j1, rfl, hA, hb⟩ := h.eq hr.out
    replace E := hid ((E.out.up hb).addArr hA (fun b _ hq => E.out.fresh (Ext.refl _) hq))
    clear hA hb h
    (try simp only [List.cons_append, List.nil_append, List.set_cons_zero, List.set_cons_succ] at E)
    go_wp2_with (refine wpl_store4 rfl (.tmp 2) (.tmp 13) rfl _ rfl rfl (E.out.hdr 1 rfl) ?_; intro V HV CV; replace E := hid (E.out.chg 1 rfl CV HV))
    exact bodyPost_ret (end_arr rfl HV rfl) rfl (hR.out _ _ (RetA.to hv.out (ArrAt.mono (fun b _ h => h.1) _ (E.out.arr 3 rfl)) E.out.ext))
  case neg =>
    have zb : ((y.shape.length : Int) == 0) = false := by rw [beq_eq_false_iff_ne]; omega
    have ht : talN y = y.shape.getD 0 0 := if_neg z
    rw [ht] at hr
    replace hr := hid hr
    have z1 : (0 : Int) < (y.shape.length : Int) := by omega
    clear ht
    go_enter Try.func16, Try.ntmps16
    go_wp2_with fail
    generalize hEW : ((w).alloc (.cells #[.int .i64 y.kind, .slice sy y.shape.length cy, .slice ny y.nums.length my, .slice iy y.items.length jy] 26)).alloc (.cells #[.int .i64 0, .slice none 0 0, .slice none 0 0, .slice none 0 0] 26) = W
    have E := hid (env2 w S hEW)
    clear hEW
    replace E := hid (E.out.arg h0.out)
    (try simp only [List.cons_append, List.nil_append, List.set_cons_zero, List.set_cons_succ] at E)
    refine (structure_right y _ _ _ _ _ _ _ _ (E.out.arr 2 rfl)).mono ?_
    rintro e w1 ⟨rfl, hb⟩
    replace E := hid (E.out.up hb)
    clear hb
    obtain ⟨b1, o1, hsa, hbl1, hS1, hc⟩ := (E.out.arr 2 rfl).shape.at (k := 0) (by omega)
    rw [Nat.add_zero] at hc
    generalize y.shape.getD 0 0 = d at hr hc
    subst hsa
    obtain ⟨q00, q01, q02, q03⟩ := (E.out.hdr 0 rfl).all
    go_wp2_with fail
    clear q00 q01 q02 q03
    refine (array_Scalar d _).mono ?_
    intro e w2 h
    obtain ⟨s1, c1, n1, m1, i1, j1, rfl, hA, hb⟩ := h.eq hr.out
    replace E := hid ((E.out.up hb).addArr hA (fun b _ hq => E.out.fresh (Ext.refl _) hq))
    clear hA hb h
    (try simp only [List.cons_append, List.nil_append, List.set_cons_zero, List.set_cons_succ] at E)
    go_wp2_with (refine wpl_store4 rfl (.tmp 2) (.tmp 18) rfl _ rfl rfl (E.out.hdr 1 rfl) ?_; intro V HV CV; replace E := hid (E.out.chg 1 rfl CV HV))
    exact bodyPost_ret (end_arr rfl HV rfl) rfl (hR.out _ _ (RetA.to hv.out (ArrAt.mono (fun b _ h => h.1) _ (E.out.arr 3 rfl)) E.out.ext))
set_option maxHeartbeats 4000000 in
theorem ref17_Tally (y : Arr) (sy : Option Addr) (cy : Nat) (ny : Option Addr) (my : Nat) (iy : Option Addr) (jy : Nat) (S : Nat → Prop) (w : World) (h : ArrAt w S y sy ny iy) : Calls Try.prog 25 #[.agg #[.int .i64 y.kind, .slice sy y.shape.length cy, .slice ny y.nums.length my, .slice iy y.items.length jy]] w (RetA w (fun b => S b ∨ w.heap.size ≤ b) (talS y)) := by
  refine calls_post fun R' hR => ?_
  have h0 := hid h
  have hsl := h.shape.1
  have hnl := h.nums.1
  have hil := h.len
  clear h
  by_cases c : rightS y = 0
  case neg =>
    have cb : (rightS y == 0) = false := by simpa using c
    have cb2 : (rightS y != 0) = true := by simpa using c
    have hv : Hid (talS y = .zero) := hid (if_neg c)
    replace c := hid c
    go_enter Try.func25, Try.ntmps25
    go_wp2_with fail
    generalize hEW : ((w).alloc (.cells #[.int .i64 y.kind, .slice sy y.shape.length cy, .slice ny y.nums.length my, .slice iy y.items.length jy] 26)).alloc (.cells #[.int .i64 0, .slice none 0 0, .slice none 0 0, .slice none 0 0] 26) = W
    have E := hid (env2 w S hEW)
    clear hEW
    replace E := hid (E.out.arg h0.out)
    (try simp only [List.cons_append, List.nil_append, List.set_cons_zero, List.set_cons_succ] at E)
    refine (ref03_Right y _ _ _ _ _ _ _ _ (E.out.arr 2 rfl)).mono ?_
    rintro e w1 ⟨rfl, hb⟩
    replace E := hid (E.out.up hb)
    clear hb
    go_wp2_with (refine wpl_store4 rfl (.tmp 2) (.tmp 6) rfl _ rfl rfl (E.out.hdr 1 rfl) ?_; intro V HV CV; replace E := hid (E.out.chg 1 rfl CV HV))
    exact bodyPost_ret (end_arr rfl HV rfl) rfl (hR.out _ _ (RetA.zero hv.out E.out.ext))
  have cb : (rightS y == 0) = true := by simpa using c
  have cb2 : (rightS y != 0) = false := by simpa using c
  obtain ⟨r, hr⟩ : ∃ r, r = validS (numA (talN y)) := ⟨_, rfl⟩
  have hv : Hid (talS y = r) := hid (by rw [hr]; exact if_pos c)
  replace c := hid c
  by_cases z : y.shape.length = 0
  case pos =>
    have zb : ((y.shape.length : Int) == 0) = true := by rw [z]; rfl
    have ht : talN y = 1 := if_pos z
    rw [ht] at hr
    replace hr := hid hr
    replace z := hid z
    clear ht
    go_enter Try.func25, Try.ntmps25
    go_wp2_with fail
    generalize hEW : ((w).alloc (.cells #[.int .i64 y.kind, .slice sy y.shape.length cy, .slice ny y.nums.length my, .slice iy y.items.length jy] 26)).alloc (.cells #[.int .i64 0, .slice none 0 0, .slice none 0 0, .slice none 0 0] 26) = W
    have E := hid (env2 w S hEW)
    clear hEW
    replace E := hid (E.out.arg h0.out)
    (try simp only [List.cons_append, List.nil_append, List.set_cons_zero, List.set_cons_succ] at E)
    refine (ref03_Right y _ _ _ _ _ _ _ _ (E.out.arr 2 rfl)).mono ?_
    rintro e w1 ⟨rfl, hb⟩
    replace E := hid (E.out.up hb)
    clear hb
    obtain ⟨q00, q01, q02, q03⟩ := (E.out.hdr 0 rfl).all
    go_wp2_with fail
    clear q00 q01 q02 q03
    refine (ref03_Scalar 1 _).mono ?_
    intro e w2 h
    obtain ⟨s1, c1, n1, m1, i1, j1, rfl, hA, hb⟩ := h.eq hr.out
    replace E := hid ((E.out.up hb).addArr hA (fun b _ hq => E.out.fresh (Ext.refl _) hq))
    clear hA hb h
    (try simp only [List.cons_append, List.nil_append, List.set_cons_zero, List.set_cons_succ] at E)
    go_wp2_with (refine wpl_store4 rfl (.tmp 2) (.tmp 11) rfl _ rfl rfl (E.out.hdr 1 rfl) ?_; intro V HV CV; replace E := hid (E.out.chg 1 rfl CV HV))
    exact bodyPost_ret (end_arr rfl HV rfl) rfl (hR.out _ _ (RetA.to hv.out (ArrAt.mono (fun b _ h => h.1) _ (E.out.arr 3 rfl)) E.out.ext))
  case neg =>
    have zb : ((y.shape.length : Int) == 0) = false := by rw [beq_eq_false_iff_ne]; omega
    have ht : talN y = y.shape.getD 0 0 := if_neg z
    rw [ht] at hr
    replace hr := hid hr
    have z1 : (0 : Int) < (y.shape.length : Int) := by omega
    clear ht
    go_enter Try.func25, Try.ntmps25
    go_wp2_with fail
    generalize hEW : ((w).alloc (.cells #[.int .i64 y.kind, .slice sy y.shape.length cy, .slice ny y.nums.length my, .slice iy y.items.length jy] 26)).alloc (.cells #[.int .i64 0, .slice none 0 0, .slice none 0 0, .slice none 0 0] 26) = W
    have E := hid (env2 w S hEW)
    clear hEW
    replace E := hid (E.out.arg h0.out)
    (try simp only [List.cons_append, List.nil_append, List.set_cons_zero, List.set_cons_succ] at E)
    refine (ref03_Right y _ _ _ _ _ _ _ _ (E.out.arr 2 rfl)).mono ?_
    rintro e w1 ⟨rfl, hb⟩
    replace E := hid (E.out.up hb)
    clear hb
    obtain ⟨b1, o1, hsa, hbl1, hS1, hc⟩ := (E.out.arr 2 rfl).shape.at (k := 0) (by omega)
    rw [Nat.add_zero] at hc
    generalize y.shape.getD 0 0 = d at hr hc
    subst hsa
    obtain ⟨q00, q01, q02, q03⟩ := (E.out.hdr 0 rfl).all
    go_wp2_with fail
    clear q00 q01 q02 q03
    refine (ref03_Scalar d _).mono ?_
    intro e w2 h
    obtain ⟨s1, c1, n1, m1, i1, j1, rfl, hA, hb⟩ := h.eq hr.out
    replace E := hid ((E.out.up hb).addArr hA (fun b _ hq => E.out.fresh (Ext.refl _) hq))
    clear hA hb h
    (try simp only [List.cons_append, List.nil_append, List.set_cons_zero, List.set_cons_succ] at E)
    go_wp2_with (refine wpl_store4 rfl (.tmp 2) (.tmp 16) rfl _ rfl rfl (E.out.hdr 1 rfl) ?_; intro V HV CV; replace E := hid (E.out.chg 1 rfl CV HV))
    exact bodyPost_ret (end_arr rfl HV rfl) rfl (hR.out _ _ (RetA.to hv.out (ArrAt.mono (fun b _ h => h.1) _ (E.out.arr 3 rfl)) E.out.ext))
set_option maxHeartbeats 4000000 in
theorem structure_Ravel (y : Arr) (sy : Option Addr) (cy : Nat) (ny : Option Addr) (my : Nat) (iy : Option Addr) (jy : Nat) (S : Nat → Prop) (w : World) (h : ArrAt w S y sy ny iy) : Calls Try.prog 26 #[.agg #[.int .i64 y.kind, .slice sy y.shape.length cy, .slice ny y.nums.length my, .slice iy y.items.length jy]] w (RetA w (fun b => S b ∨ w.heap.size ≤ b) (ravS y)) := by
  refine calls_post fun R' hR => ?_
  have h0 := hid h
  have hsl := h.shape.1
  have hnl := h.nums.1
  have hil := h.len
  clear h
  by_cases c : rightS y = 0
  case neg =>
    have cb : (rightS y == 0) = false := by simpa using c
    have cb2 : (rightS y != 0) = true := by simpa using c
    have hv : Hid (ravS y = .zero) := hid (if_neg c)
    replace c := hid c
    go_enter Try.func26, Try.ntmps26
    go_wp2_with fail
    generalize hEW : ((w).alloc (.cells #[.int .i64 y.kind, .slice sy y.shape.length cy, .slice ny y.nums.length my, .slice iy y.items.length jy] 26)).alloc (.cells #[.int .i64 0, .slice none 0 0, .slice none 0 0, .slice none 0 0] 26) = W
    have E := hid (env2 w S hEW)
    clear hEW
    replace E := hid (E.out.arg h0.out)
    (try simp only [List.cons_append, List.nil_append, List.set_cons_zero, List.set_cons_succ] at E)
    refine (structure_right y _ _ _ _ _ _ _ _ (E.out.arr 2 rfl)).mono ?_
    rintro e w1 ⟨rfl, hb⟩
    replace E := hid (E.out.up hb)
    clear hb
    go_wp2_with (refine wpl_store4 rfl (.tmp 2) (.tmp 7) rfl _ rfl rfl (E.out.hdr 1 rfl) ?_; intro V HV CV; replace E := hid (E.out.chg 1 rfl CV HV))
    exact bodyPost_ret (end_arr rfl HV rfl) rfl (hR.out _ _ (RetA.zero hv.out E.out.ext))
  have cb : (rightS y == 0) = true := by simpa using c
  have cb2 : (rightS y != 0) = false := by simpa using c
  have hv : Hid (ravS y = .mk y.kind [(szN y.kind y.nums.length y.items.length : Int)] y.nums y.items) := hid (if_pos c)
  obtain ⟨sz, hsz⟩ : ∃ n : Int, n = (szN y.kind y.nums.length y.items.length : Int) := ⟨_, rfl⟩
  rw [← hsz] at hv
  replace hsz := hid hsz
  replace c := hid c
  go_enter Try.func26, Try.ntmps26
  go_wp2_with fail
  generalize hEW : ((w).alloc (.cells #[.int .i64 y.kind, .slice sy y.shape.length cy, .slice ny y.nums.length my, .slice iy y.items.length jy] 26)).alloc (.cells #[.int .i64 0, .slice none 0 0, .slice none 0 0, .slice none 0 0] 26) = W
  have E := hid (env2 w S hEW)
  clear hEW
  replace E := hid (E.out.arg h0.out)
  (try simp only [List.cons_append, List.nil_append, List.set_cons_zero, List.set_cons_succ] at E)
  refine (structure_right y _ _ _ _ _ _ _ _ (E.out.arr 2 rfl)).mono ?_
  rintro e w1 ⟨rfl, hb⟩
  replace E := hid (E.out.up hb)
  clear hb
  obtain ⟨q00, q01, q02, q03⟩ := (E.out.hdr 0 rfl).all
  go_wp2_with fail
  clear q00 q01 q02 q03
  refine (array_Clone y _ _ _ _ _ _ _ _ (E.out.arr 2 rfl)).mono ?_
  intro e w2 h
  obtain ⟨s1, c1, n1, m1, i1, j1, rfl, hA, hb⟩ := h.eq rfl
  replace E := hid ((E.out.up hb).addArr hA (fun b _ hq => E.out.fresh (Ext.refl _) hq))
  clear hA hb h
  (try simp only [List.cons_append, List.nil_append, List.set_cons_zero, List.set_cons_succ] at E)
  go_upto_region 4 with (refine wpl_store4 rfl (.tmp 3) (.tmp 9) rfl _ rfl rfl ((E.out.alloc _).hdr 4 rfl) ?_; intro V1 HV CV; replace E := hid ((E.out.alloc _).chg 4 rfl CV HV); clear CV HV; (try simp only [List.cons_append, List.nil_append, List.set_cons_zero, List.set_cons_succ] at E))
  generalize w2.heap.size = p1 at E ⊢
  obtain ⟨q00, q01, q02, q03⟩ := (E.out.hdr 0 rfl).all
  go_wp2_with fail
  clear q00 q01 q02 q03
  refine (size_array_Size y _ _ _ _ _ _ _ _ (E.out.arr 2 rfl)).mono ?_
  rintro e w3 ⟨rfl, hb⟩
  replace E := hid (E.out.up hb)
  clear hb
  rw [← hsz.out]
  go_upto_region 5 with (refine wpl_store1 rfl (.tmp 13) (.tmp 12) rfl p1 rfl rfl ((E.out.lit [sz] (by simp)).hdr 4 rfl) ?_; intro V2 HV CV; replace E := hid ((E.out.lit [sz] (by simp)).chg 4 rfl CV HV); clear CV HV; (try simp only [List.cons_append, List.nil_append, List.set_cons_zero, List.set_cons_succ] at E))
  obtain ⟨q40, q41, q42, q43⟩ := (E.out.hdr 4 rfl).all
  go_wp2_with (refine wpl_store4 rfl (.tmp 2) (.tmp 14) rfl _ rfl rfl (E.out.hdr 1 rfl) ?_; intro V HV CV; replace E := hid (E.out.chg 1 rfl CV HV))
  exact bodyPost_ret (end_arr rfl HV rfl) rfl (hR.out _ _ (RetA.to hv.out (ArrAt.mono (fun b _ h => h.1) _ (ArrAt.iff.2 ⟨E.out.ints 5 rfl, (E.out.arr 3 rfl).nums, (E.out.arr 3 rfl).len, (E.out.arr 3 rfl).items⟩)) E.out.ext))
set_option maxHeartbeats 4000000 in
theorem ref17_Ravel (y : Arr) (sy : Option Addr) (cy : Nat) (ny : Option Addr) (my : Nat) (iy : Option Addr) (jy : Nat) (S : Nat → Prop) (w : World) (h : ArrAt w S y sy ny iy) : Calls Try.prog 27 #[.agg #[.int .i64 y.kind, .slice sy y.shape.length cy, .slice ny y.nums.length my, .slice iy y.items.length jy]] w (RetA w (fun b => S b ∨ w.heap.size ≤ b) (ravS y)) := by
  refine calls_post fun R' hR => ?_
  have h0 := hid h
  have hsl := h.shape.1
  have hnl := h.nums.1
  have hil := h.len
  clear h
  by_cases c : rightS y = 0
  case neg =>
    have cb : (rightS y == 0) = false := by simpa using c
    have cb2 : (rightS y != 0) = true := by simpa using c
    have hv : Hid (ravS y = .zero) := hid (if_neg c)
    replace c := hid c
    go_enter Try.func27, Try.ntmps27
    go_wp2_with fail
    generalize hEW : ((w).alloc (.cells #[.int .i64 y.kind, .slice sy y.shape.length cy, .slice ny y.nums.length my, .slice iy y.items.length jy] 26)).alloc (.cells #[.int .i64 0, .slice none 0 0, .slice none 0 0, .slice none 0 0] 26) = W
    have E := hid (env2 w S hEW)
    clear hEW
    replace E := hid (E.out.arg h0.out)
    (try simp only [List.cons_append, List.nil_append, List.set_cons_zero, List.set_cons_succ] at E)
    refine (ref03_Right y _ _ _ _ _ _ _ _ (E.out.arr 2 rfl)).mono ?_
    rintro e w1 ⟨rfl, hb⟩
    replace E := hid (E.out.up hb)
    clear hb
    go_wp2_with (refine wpl_store4 rfl (.tmp 2) (.tmp 7) rfl _ rfl rfl (E.out.hdr 1 rfl) ?_; intro V HV CV; replace E := hid (E.out.chg 1 rfl CV HV))
    exact bodyPost_ret (end_arr rfl HV rfl) rfl (hR.out _ _ (RetA.zero hv.out E.out.ext))
  have cb : (rightS y == 0) = true := by simpa using c
  have cb2 : (rightS y != 0) = false := by simpa using c
  have hv : Hid (ravS y = .mk y.kind [(szN y.kind y.nums.length y.items.length : Int)] y.nums y.items) := hid (if_pos c)
  obtain ⟨sz, hsz⟩ : ∃ n : Int, n = (szN y.kind y.nums.length y.items.length : Int) := ⟨_, rfl⟩
  rw [← hsz] at hv
  replace hsz := hid hsz
  replace c := hid c
  go_enter Try.func27, Try.ntmps27
  go_wp2_with fail
  generalize hEW : ((w).alloc (.cells #[.int .i64 y.kind, .slice sy y.shape.length cy, .slice ny y.nums.length my, .slice iy y.items.length jy] 26)).alloc (.cells #[.int .i64 0, .slice none 0 0, .slice none 0 0, .slice none 0 0] 26) = W
  have E := hid (env2 w S hEW)
  clear hEW
  replace E := hid (E.out.arg h0.out)
  (try simp only [List.cons_append, List.nil_append, List.set_cons_zero, List.set_cons_succ] at E)
  refine (ref03_Right y _ _ _ _ _ _ _ _ (E.out.arr 2 rfl)).mono ?_
  rintro e w1 ⟨rfl, hb⟩
  replace E := hid (E.out.up hb)
  clear hb
  obtain ⟨q00, q01, q02, q03⟩ := (E.out.hdr 0 rfl).all
  go_wp2_with fail
  clear q00 q01 q02 q03
  refine (ref03_Clone y _ _ _ _ _ _ _ _ (E.out.arr 2 rfl)).mono ?_
  intro e w2 h
  obtain ⟨s1, c1, n1, m1, i1, j1, rfl, hA, hb⟩ := h.eq rfl
  replace E := hid ((E.out.up hb).addArr hA (fun b _ hq => E.out.fresh (Ext.refl _) hq))
  clear hA hb h
  (try simp only [List.cons_append, List.nil_append, List.set_cons_zero, List.set_cons_succ] at E)
  go_upto_region 4 with (refine wpl_store4 rfl (.tmp 3) (.tmp 9) rfl _ rfl rfl ((E.out.alloc _).hdr 4 rfl) ?_; intro V1 HV CV; replace E := hid ((E.out.alloc _).chg 4 rfl CV HV); clear CV HV; (try simp only [List.cons_append, List.nil_append, List.set_cons_zero, List.set_cons_succ] at E))
  generalize w2.heap.size = p1 at E ⊢
  obtain ⟨q00, q01, q02, q03⟩ := (E.out.hdr 0 rfl).all
  go_wp2_with fail
  clear q00 q01 q02 q03
  refine (size_ref03_Size y _ _ _ _ _ _ _ _ (E.out.arr 2 rfl)).mono ?_
  rintro e w3 ⟨rfl, hb⟩
  replace E := hid (E.out.up hb)
  clear hb
  rw [← hsz.out]
  go_upto_region 5 with (refine wpl_store1 rfl (.tmp 13) (.tmp 12) rfl p1 rfl rfl ((E.out.lit [sz] (by simp)).hdr 4 rfl) ?_; intro V2 HV CV; replace E := hid ((E.out.lit [sz] (by simp)).chg 4 rfl CV HV); clear CV HV; (try simp only [List.cons_append, List.nil_append, List.set_cons_zero, List.set_cons_succ] at E))
  obtain ⟨q40, q41, q42, q43⟩ := (E.out.hdr 4 rfl).all
  go_wp2_with (refine wpl_store4 rfl (.tmp 2) (.tmp 14) rfl _ rfl rfl (E.out.hdr 1 rfl) ?_; intro V HV CV; replace E := hid (E.out.chg 1 rfl CV HV))
  exact bodyPost_ret (end_arr rfl HV rfl) rfl (hR.out _ _ (RetA.to hv.out (ArrAt.mono (fun b _ h => h.1) _ (ArrAt.iff.2 ⟨E.out.ints 5 rfl, (E.out.arr 3 rfl).nums, (E.out.arr 3 rfl).len, (E.out.arr 3 rfl).items⟩)) E.out.ext))
end Go.Proofs.Ytkbbdlibamcilaa
