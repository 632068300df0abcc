/- The functions of package structure and of its reference: contracts. Conditions: the arrays are read. -/
import Derived.Test.YtkbbdlibamcilaaC17B
set_option linter.unusedVariables false
set_option linter.unusedSimpArgs false
namespace Go.Proofs.Ytkbbdlibamcilaa
open Go.RowKit Go.Sort
attribute [local go_sem ↓] run_max2 run_min2
attribute [local go_sem] eql_ints_nil eql_arrs_nil
set_option maxHeartbeats 4000000 in
theorem structure_Disclose (y : Arr) (sy : Option Addr) (cy : Nat) (ny : Option Addr) (my : Nat) (iy : Option Addr) (jy : Nat) (S : Nat → Prop) (w : World) (h : ArrAt w S y sy ny iy) : Calls Try.prog 33 #[.agg #[.int .i64 y.kind, .slice sy y.shape.length cy, .slice ny y.nums.length my, .slice iy y.items.length jy]] w (RetAE w (fun b => S b ∨ w.heap.size ≤ b) (disS y) (disE y)) := by
  refine calls_post fun R' hR => ?_
  have h0 := hid h
  have hsl := h.shape.1
  have hnl := h.nums.1
  have hil := h.len
  clear h
  by_cases c : rightS y = 0
  case neg =>
    have cb : (rightS y == 0) = false := by simpa using c
    have cb2 : (rightS y != 0) = true := by simpa using c
    have hn : Hid (disE y = 1) := hid (if_pos c)
    have hv : Hid (disS y = .zero) := hid (if_pos (by rw [hn.out]; decide))
    replace c := hid c
    go_enter Try.func33, Try.ntmps33
    go_wp2_with fail
    generalize hEW : ((w).alloc (.cells #[.int .i64 y.kind, .slice sy y.shape.length cy, .slice ny y.nums.length my, .slice iy y.items.length jy] 26)).alloc (.cells #[.int .i64 0, .slice none 0 0, .slice none 0 0, .slice none 0 0] 26) = W
    have E := hid (env2 w S hEW)
    clear hEW
    replace E := hid (E.out.arg h0.out)
    (try simp only [List.cons_append, List.nil_append, List.set_cons_zero, List.set_cons_succ] at E)
    refine (structure_right y _ _ _ _ _ _ _ _ (E.out.arr 2 rfl)).mono ?_
    rintro e w1 ⟨rfl, hb⟩
    replace E := hid (E.out.up hb)
    clear hb
    go_wp2_with (refine wpl_store4 rfl (.tmp 2) (.tmp 8) rfl _ rfl rfl (E.out.hdr 1 rfl) ?_; intro V HV CV; replace E := hid (E.out.chg 1 rfl CV HV))
    exact bodyPost_ret (end_arr2 rfl HV rfl rfl) rfl (hR.out _ _ (RetAE.zero hv.out hn.out E.out.ext))
  have cb : (rightS y == 0) = true := by simpa using c
  have cb2 : (rightS y != 0) = false := by simpa using c
  by_cases k : y.kind = 3
  case neg =>
    have kb : (y.kind != 3) = true := by simp [k]
    have hn : Hid (disE y = 0) := hid (by unfold disE; rw [if_neg (by simp [c]), if_pos k])
    have hv : Hid (disS y = y) := hid (by unfold disS; rw [if_neg (by simp [hn.out]), if_pos k])
    replace k := hid k
    replace c := hid c
    go_enter Try.func33, Try.ntmps33
    go_wp2_with fail
    generalize hEW : ((w).alloc (.cells #[.int .i64 y.kind, .slice sy y.shape.length cy, .slice ny y.nums.length my, .slice iy y.items.length jy] 26)).alloc (.cells #[.int .i64 0, .slice none 0 0, .slice none 0 0, .slice none 0 0] 26) = W
    have E := hid (env2 w S hEW)
    clear hEW
    replace E := hid (E.out.arg h0.out)
    (try simp only [List.cons_append, List.nil_append, List.set_cons_zero, List.set_cons_succ] at E)
    refine (structure_right y _ _ _ _ _ _ _ _ (E.out.arr 2 rfl)).mono ?_
    rintro e w1 ⟨rfl, hb⟩
    replace E := hid (E.out.up hb)
    clear hb
    obtain ⟨q00, q01, q02, q03⟩ := (E.out.hdr 0 rfl).all
    go_wp2_with fail
    clear q00 q01 q02 q03
    refine (array_Clone y _ _ _ _ _ _ _ _ (E.out.arr 2 rfl)).mono ?_
    intro e w2 h
    obtain ⟨s1, c1, n1, m1, i1, j1, rfl, hA, hb⟩ := h.eq rfl
    replace E := hid ((E.out.up hb).addArr hA (fun b _ hq => E.out.fresh (Ext.refl _) hq))
    clear hA hb h
    (try simp only [List.cons_append, List.nil_append, List.set_cons_zero, List.set_cons_succ] at E)
    go_wp2_with (refine wpl_store4 rfl (.tmp 2) (.tmp 14) rfl _ rfl rfl (E.out.hdr 1 rfl) ?_; intro V HV CV; replace E := hid (E.out.chg 1 rfl CV HV))
    exact bodyPost_ret (end_arr2 rfl HV rfl rfl) rfl (hR.out _ _ (RetAE.to hv.out hn.out (ArrAt.mono (fun b _ h => h.1) _ (E.out.arr 3 rfl)) E.out.ext))
  have kb : (y.kind != 3) = false := by simp [k]
  by_cases z : y.items.length = 1
  case neg =>
    have zb : ((y.items.length : Int) != 1) = true := by simp; omega
    have hn : Hid (disE y = 16) := hid (by unfold disE; rw [if_neg (by simp [c]), if_neg (by simp [k]), if_pos z])
    have hv : Hid (disS y = .zero) := hid (if_pos (by rw [hn.out]; decide))
    replace k := hid k
    replace c := hid c
    replace z := hid z
    go_enter Try.func33, Try.ntmps33
    go_wp2_with fail
    generalize hEW : ((w).alloc (.cells #[.int .i64 y.kind, .slice sy y.shape.length cy, .slice ny y.nums.length my, .slice iy y.items.length jy] 26)).alloc (.cells #[.int .i64 0, .slice none 0 0, .slice none 0 0, .slice none 0 0] 26) = W
    have E := hid (env2 w S hEW)
    clear hEW
    replace E := hid (E.out.arg h0.out)
    (try simp only [List.cons_append, List.nil_append, List.set_cons_zero, List.set_cons_succ] at E)
    refine (structure_right y _ _ _ _ _ _ _ _ (E.out.arr 2 rfl)).mono ?_
    rintro e w1 ⟨rfl, hb⟩
    replace E := hid (E.out.up hb)
    clear hb
    obtain ⟨q00, q01, q02, q03⟩ := (E.out.hdr 0 rfl).all
    go_wp2_with (refine wpl_store4 rfl (.tmp 2) (.tmp 20) rfl _ rfl rfl (E.out.hdr 1 rfl) ?_; intro V HV CV; replace E := hid (E.out.chg 1 rfl CV HV))
    exact bodyPost_ret (end_arr2 rfl HV rfl rfl) rfl (hR.out _ _ (RetAE.zero hv.out hn.out E.out.ext))
  have zb : ((y.items.length : Int) != 1) = false := by simp; omega
  have hn : Hid (disE y = 0) := hid (by unfold disE; rw [if_neg (by simp [c]), if_neg (by simp [k]), if_neg (by simp [z])])
  have z2 : 0 < y.items.length := by omega
  obtain ⟨z0, hz0⟩ : ∃ x, y.items[0]? = some x := ⟨_, List.getElem?_eq_getElem z2⟩
  have hv : Hid (disS y = z0) := hid (by unfold disS; rw [if_neg (by simp [hn.out]), if_neg (by simp [k]), List.getD_eq_getElem?_getD, hz0]; rfl)
  replace hz0 := hid hz0
  have z1 : (0 : Int) < (y.items.length : Int) := by omega
  replace k := hid k
  replace c := hid c
  replace z := hid z
  go_enter Try.func33, Try.ntmps33
  go_wp2_with fail
  generalize hEW : ((w).alloc (.cells #[.int .i64 y.kind, .slice sy y.shape.length cy, .slice ny y.nums.length my, .slice iy y.items.length jy] 26)).alloc (.cells #[.int .i64 0, .slice none 0 0, .slice none 0 0, .slice none 0 0] 26) = W
  have E := hid (env2 w S hEW)
  clear hEW
  replace E := hid (E.out.arg h0.out)
  (try simp only [List.cons_append, List.nil_append, List.set_cons_zero, List.set_cons_succ] at E)
  refine (structure_right y _ _ _ _ _ _ _ _ (E.out.arr 2 rfl)).mono ?_
  rintro e w1 ⟨rfl, hb⟩
  replace E := hid (E.out.up hb)
  clear hb
  obtain ⟨b1, o1, sz, cz, nz, mz, iz, jz, hia, hS1, hbl1, e0, e1, e2, e3, hz⟩ := (E.out.arr 2 rfl).items.at z2
  rw [Nat.zero_mul, Nat.add_zero] at e0 e1 e2 e3
  have hzz : y.items[0] = z0 := by have := hz0.out; rw [List.getElem?_eq_getElem z2] at this; injection this
  rw [hzz] at e0 e1 e2 e3 hz
  clear hzz
  subst hia
  replace E := hid (E.out.addArr hz (fun _ _ h => h))
  (try simp only [List.cons_append, List.nil_append, List.set_cons_zero, List.set_cons_succ] at E)
  clear hz
  obtain ⟨q00, q01, q02, q03⟩ := (E.out.hdr 0 rfl).all
  go_wp2_with fail
  clear q00 q01 q02 q03
  clear e0 e1 e2 e3
  refine (array_Clone z0 _ _ _ _ _ _ _ _ (E.out.arr 3 rfl)).mono ?_
  intro e w2 h
  obtain ⟨s1, c1, n1, m1, i1, j1, rfl, hA, hb⟩ := h.eq rfl
  replace E := hid ((E.out.up hb).addArr hA (fun b _ hq => E.out.fresh (Ext.refl _) hq))
  clear hA hb h
  (try simp only [List.cons_append, List.nil_append, List.set_cons_zero, List.set_cons_succ] at E)
  go_wp2_with (refine wpl_store4 rfl (.tmp 2) (.tmp 25) rfl _ rfl rfl (E.out.hdr 1 rfl) ?_; intro V HV CV; replace E := hid (E.out.chg 1 rfl CV HV))
  exact bodyPost_ret (end_arr2 rfl HV rfl rfl) rfl (hR.out _ _ (RetAE.to hv.out hn.out (ArrAt.mono (fun b _ h => h.1) _ (E.out.arr 4 rfl)) E.out.ext))
set_option maxHeartbeats 4000000 in
theorem ref17_Disclose (y : Arr) (sy : Option Addr) (cy : Nat) (ny : Option Addr) (my : Nat) (iy : Option Addr) (jy : Nat) (S : Nat → Prop) (w : World) (h : ArrAt w S y sy ny iy) : Calls Try.prog 35 #[.agg #[.int .i64 y.kind, .slice sy y.shape.length cy, .slice ny y.nums.length my, .slice iy y.items.length jy]] w (RetAE w (fun b => S b ∨ w.heap.size ≤ b) (disS y) (disE y)) := by
  refine calls_post fun R' hR => ?_
  have h0 := hid h
  have hsl := h.shape.1
  have hnl := h.nums.1
  have hil := h.len
  clear h
  by_cases c : rightS y = 0
  case neg =>
    have cb : (rightS y == 0) = false := by simpa using c
    have cb2 : (rightS y != 0) = true := by simpa using c
    have hn : Hid (disE y = 1) := hid (if_pos c)
    have hv : Hid (disS y = .zero) := hid (if_pos (by rw [hn.out]; decide))
    replace c := hid c
    go_enter Try.func35, Try.ntmps35
    go_wp2_with fail
    generalize hEW : ((w).alloc (.cells #[.int .i64 y.kind, .slice sy y.shape.length cy, .slice ny y.nums.length my, .slice iy y.items.length jy] 26)).alloc (.cells #[.int .i64 0, .slice none 0 0, .slice none 0 0, .slice none 0 0] 26) = W
    have E := hid (env2 w S hEW)
    clear hEW
    replace E := hid (E.out.arg h0.out)
    (try simp only [List.cons_append, List.nil_append, List.set_cons_zero, List.set_cons_succ] at E)
    refine (ref03_Right y _ _ _ _ _ _ _ _ (E.out.arr 2 rfl)).mono ?_
    rintro e w1 ⟨rfl, hb⟩
    replace E := hid (E.out.up hb)
    clear hb
    go_wp2_with (refine wpl_store4 rfl (.tmp 2) (.tmp 7) rfl _ rfl rfl (E.out.hdr 1 rfl) ?_; intro V HV CV; replace E := hid (E.out.chg 1 rfl CV HV))
    exact bodyPost_ret (end_arr2 rfl HV rfl rfl) rfl (hR.out _ _ (RetAE.zero hv.out hn.out E.out.ext))
  have cb : (rightS y == 0) = true := by simpa using c
  have cb2 : (rightS y != 0) = false := by simpa using c
  by_cases k : y.kind = 3
  case neg =>
    have kb : (y.kind != 3) = true := by simp [k]
    have hn : Hid (disE y = 0) := hid (by unfold disE; rw [if_neg (by simp [c]), if_pos k])
    have hv : Hid (disS y = y) := hid (by unfold disS; rw [if_neg (by simp [hn.out]), if_pos k])
    replace k := hid k
    replace c := hid c
    go_enter Try.func35, Try.ntmps35
    go_wp2_with fail
    generalize hEW : ((w).alloc (.cells #[.int .i64 y.kind, .slice sy y.shape.length cy, .slice ny y.nums.length my, .slice iy y.items.length jy] 26)).alloc (.cells #[.int .i64 0, .slice none 0 0, .slice none 0 0, .slice none 0 0] 26) = W
    have E := hid (env2 w S hEW)
    clear hEW
    replace E := hid (E.out.arg h0.out)
    (try simp only [List.cons_append, List.nil_append, List.set_cons_zero, List.set_cons_succ] at E)
    refine (ref03_Right y _ _ _ _ _ _ _ _ (E.out.arr 2 rfl)).mono ?_
    rintro e w1 ⟨rfl, hb⟩
    replace E := hid (E.out.up hb)
    clear hb
    obtain ⟨q00, q01, q02, q03⟩ := (E.out.hdr 0 rfl).all
    go_wp2_with fail
    clear q00 q01 q02 q03
    refine (ref03_Clone y _ _ _ _ _ _ _ _ (E.out.arr 2 rfl)).mono ?_
    intro e w2 h
    obtain ⟨s1, c1, n1, m1, i1, j1, rfl, hA, hb⟩ := h.eq rfl
    replace E := hid ((E.out.up hb).addArr hA (fun b _ hq => E.out.fresh (Ext.refl _) hq))
    clear hA hb h
    (try simp only [List.cons_append, List.nil_append, List.set_cons_zero, List.set_cons_succ] at E)
    go_wp2_with (refine wpl_store4 rfl (.tmp 2) (.tmp 12) rfl _ rfl rfl (E.out.hdr 1 rfl) ?_; intro V HV CV; replace E := hid (E.out.chg 1 rfl CV HV))
    exact bodyPost_ret (end_arr2 rfl HV rfl rfl) rfl (hR.out _ _ (RetAE.to hv.out hn.out (ArrAt.mono (fun b _ h => h.1) _ (E.out.arr 3 rfl)) E.out.ext))
  have kb : (y.kind != 3) = false := by simp [k]
  by_cases z : y.items.length = 1
  case neg =>
    have zb : ((y.items.length : Int) != 1) = true := by simp; omega
    have hn : Hid (disE y = 16) := hid (by unfold disE; rw [if_neg (by simp [c]), if_neg (by simp [k]), if_pos z])
    have hv : Hid (disS y = .zero) := hid (if_pos (by rw [hn.out]; decide))
    replace k := hid k
    replace c := hid c
    replace z := hid z
    go_enter Try.func35, Try.ntmps35
    go_wp2_with fail
    generalize hEW : ((w).alloc (.cells #[.int .i64 y.kind, .slice sy y.shape.length cy, .slice ny y.nums.length my, .slice iy y.items.length jy] 26)).alloc (.cells #[.int .i64 0, .slice none 0 0, .slice none 0 0, .slice none 0 0] 26) = W
    have E := hid (env2 w S hEW)
    clear hEW
    replace E := hid (E.out.arg h0.out)
    (try simp only [List.cons_append, List.nil_append, List.set_cons_zero, List.set_cons_succ] at E)
    refine (ref03_Right y _ _ _ _ _ _ _ _ (E.out.arr 2 rfl)).mono ?_
    rintro e w1 ⟨rfl, hb⟩
    replace E := hid (E.out.up hb)
    clear hb
    obtain ⟨q00, q01, q02, q03⟩ := (E.out.hdr 0 rfl).all
    go_wp2_with (refine wpl_store4 rfl (.tmp 2) (.tmp 17) rfl _ rfl rfl (E.out.hdr 1 rfl) ?_; intro V HV CV; replace E := hid (E.out.chg 1 rfl CV HV))
    exact bodyPost_ret (end_arr2 rfl HV rfl rfl) rfl (hR.out _ _ (RetAE.zero hv.out hn.out E.out.ext))
  have zb : ((y.items.length : Int) != 1) = false := by simp; omega
  have hn : Hid (disE y = 0) := hid (by unfold disE; rw [if_neg (by simp [c]), if_neg (by simp [k]), if_neg (by simp [z])])
  have z2 : 0 < y.items.length := by omega
  obtain ⟨z0, hz0⟩ : ∃ x, y.items[0]? = some x := ⟨_, List.getElem?_eq_getElem z2⟩
  have hv : Hid (disS y = z0) := hid (by unfold disS; rw [if_neg (by simp [hn.out]), if_neg (by simp [k]), List.getD_eq_getElem?_getD, hz0]; rfl)
  replace hz0 := hid hz0
  have z1 : (0 : Int) < (y.items.length : Int) := by omega
  replace k := hid k
  replace c := hid c
  replace z := hid z
  go_enter Try.func35, Try.ntmps35
  go_wp2_with fail
  generalize hEW : ((w).alloc (.cells #[.int .i64 y.kind, .slice sy y.shape.length cy, .slice ny y.nums.length my, .slice iy y.items.length jy] 26)).alloc (.cells #[.int .i64 0, .slice none 0 0, .slice none 0 0, .slice none 0 0] 26) = W
  have E := hid (env2 w S hEW)
  clear hEW
  replace E := hid (E.out.arg h0.out)
  (try simp only [List.cons_append, List.nil_append, List.set_cons_zero, List.set_cons_succ] at E)
  refine (ref03_Right y _ _ _ _ _ _ _ _ (E.out.arr 2 rfl)).mono ?_
  rintro e w1 ⟨rfl, hb⟩
  replace E := hid (E.out.up hb)
  clear hb
  obtain ⟨b1, o1, sz, cz, nz, mz, iz, jz, hia, hS1, hbl1, e0, e1, e2, e3, hz⟩ := (E.out.arr 2 rfl).items.at z2
  rw [Nat.zero_mul, Nat.add_zero] at e0 e1 e2 e3
  have hzz : y.items[0] = z0 := by have := hz0.out; rw [List.getElem?_eq_getElem z2] at this; injection this
  rw [hzz] at e0 e1 e2 e3 hz
  clear hzz
  subst hia
  replace E := hid (E.out.addArr hz (fun _ _ h => h))
  (try simp only [List.cons_append, List.nil_append, List.set_cons_zero, List.set_cons_succ] at E)
  clear hz
  obtain ⟨q00, q01, q02, q03⟩ := (E.out.hdr 0 rfl).all
  go_wp2_with fail
  clear q00 q01 q02 q03
  clear e0 e1 e2 e3
  refine (ref03_Clone z0 _ _ _ _ _ _ _ _ (E.out.arr 3 rfl)).mono ?_
  intro e w2 h
  obtain ⟨s1, c1, n1, m1, i1, j1, rfl, hA, hb⟩ := h.eq rfl
  replace E := hid ((E.out.up hb).addArr hA (fun b _ hq => E.out.fresh (Ext.refl _) hq))
  clear hA hb h
  (try simp only [List.cons_append, List.nil_append, List.set_cons_zero, List.set_cons_succ] at E)
  go_wp2_with (refine wpl_store4 rfl (.tmp 2) (.tmp 22) rfl _ rfl rfl (E.out.hdr 1 rfl) ?_; intro V HV CV; replace E := hid (E.out.chg 1 rfl CV HV))
  exact bodyPost_ret (end_arr2 rfl HV rfl rfl) rfl (hR.out _ _ (RetAE.to hv.out hn.out (ArrAt.mono (fun b _ h => h.1) _ (E.out.arr 4 rfl)) E.out.ext))
end Go.Proofs.Ytkbbdlibamcilaa
