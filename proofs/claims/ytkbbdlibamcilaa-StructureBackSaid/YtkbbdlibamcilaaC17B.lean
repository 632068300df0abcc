/- The functions of package structure and of its reference: contracts. Conditions: the arrays are read. -/
import Derived.Test.YtkbbdlibamcilaaC17
set_option linter.unusedVariables false
set_option linter.unusedSimpArgs false
namespace Go.Proofs.Ytkbbdlibamcilaa
open Go.RowKit Go.Sort
attribute [local go_sem ↓] run_max2 run_min2
attribute [local go_sem] eql_ints_nil eql_arrs_nil
set_option maxHeartbeats 4000000 in
theorem structure_First (y : Arr) (sy : Option Addr) (cy : Nat) (ny : Option Addr) (my : Nat) (iy : Option Addr) (jy : Nat) (S : Nat → Prop) (w : World) (h : ArrAt w S y sy ny iy) : Calls Try.prog 36 #[.agg #[.int .i64 y.kind, .slice sy y.shape.length cy, .slice ny y.nums.length my, .slice iy y.items.length jy]] w (RetA w (fun b => S b ∨ w.heap.size ≤ b) (fstS y)) := by
  refine calls_post fun R' hR => ?_
  have h0 := hid h
  have hsl := h.shape.1
  have hnl := h.nums.1
  have hil := h.len
  clear h
  by_cases c : rightS y = 0
  case neg =>
    have cb : (rightS y == 0) = false := by simpa using c
    have cb2 : (rightS y != 0) = true := by simpa using c
    have hv : Hid (fstS y = .zero) := hid (if_pos c)
    replace c := hid c
    go_enter Try.func36, Try.ntmps36
    go_wp2_with fail
    generalize hEW : ((w).alloc (.cells #[.int .i64 y.kind, .slice sy y.shape.length cy, .slice ny y.nums.length my, .slice iy y.items.length jy] 26)).alloc (.cells #[.int .i64 0, .slice none 0 0, .slice none 0 0, .slice none 0 0] 26) = W
    have E := hid (env2 w S hEW)
    clear hEW
    replace E := hid (E.out.arg h0.out)
    (try simp only [List.cons_append, List.nil_append, List.set_cons_zero, List.set_cons_succ] at E)
    refine (structure_right y _ _ _ _ _ _ _ _ (E.out.arr 2 rfl)).mono ?_
    rintro e w1 ⟨rfl, hb⟩
    replace E := hid (E.out.up hb)
    clear hb
    go_wp2_with (refine wpl_store4 rfl (.tmp 2) (.tmp 7) rfl _ rfl rfl (E.out.hdr 1 rfl) ?_; intro V HV CV; replace E := hid (E.out.chg 1 rfl CV HV))
    exact bodyPost_ret (end_arr rfl HV rfl) rfl (hR.out _ _ (RetA.zero hv.out E.out.ext))
  have cb : (rightS y == 0) = true := by simpa using c
  have cb2 : (rightS y != 0) = false := by simpa using c
  have hs0 : fstS y = if szA y = 0 then fillS y else atS y 0 := if_neg (by simp [c])
  replace c := hid c
  by_cases z : szA y = 0
  case pos =>
    have zb : (((szN y.kind y.nums.length y.items.length : Nat) : Int) == 0) = true := by rw [show szN y.kind y.nums.length y.items.length = 0 from z]; rfl
    obtain ⟨r, hr⟩ : ∃ r, r = fillS y := ⟨_, rfl⟩
    have hv : Hid (fstS y = r) := hid (by rw [hs0, if_pos z, hr])
    replace hr := hid hr
    replace z := hid z
    clear hs0
    go_enter Try.func36, Try.ntmps36
    go_wp2_with fail
    generalize hEW : ((w).alloc (.cells #[.int .i64 y.kind, .slice sy y.shape.length cy, .slice ny y.nums.length my, .slice iy y.items.length jy] 26)).alloc (.cells #[.int .i64 0, .slice none 0 0, .slice none 0 0, .slice none 0 0] 26) = W
    have E := hid (env2 w S hEW)
    clear hEW
    replace E := hid (E.out.arg h0.out)
    (try simp only [List.cons_append, List.nil_append, List.set_cons_zero, List.set_cons_succ] at E)
    refine (structure_right y _ _ _ _ _ _ _ _ (E.out.arr 2 rfl)).mono ?_
    rintro e w1 ⟨rfl, hb⟩
    replace E := hid (E.out.up hb)
    clear hb
    obtain ⟨q00, q01, q02, q03⟩ := (E.out.hdr 0 rfl).all
    go_wp2_with fail
    refine (size_array_Size y _ _ _ _ _ _ _ _ (E.out.arr 2 rfl)).mono ?_
    rintro e w2 ⟨rfl, hb⟩
    replace E := hid (E.out.up hb)
    clear hb
    clear q00 q01 q02 q03
    obtain ⟨q00, q01, q02, q03⟩ := (E.out.hdr 0 rfl).all
    go_wp2_with fail
    clear q00 q01 q02 q03
    refine (fill_array_Fill y _ _ _ _ _ _ _).mono ?_
    intro e w3 h
    obtain ⟨s1, c1, n1, m1, i1, j1, rfl, hA, hb⟩ := h.eq hr.out
    replace E := hid ((E.out.up hb).addArr hA (fun b _ hq => E.out.fresh (Ext.refl _) hq))
    clear hA hb h
    (try simp only [List.cons_append, List.nil_append, List.set_cons_zero, List.set_cons_succ] at E)
    go_wp2_with (refine wpl_store4 rfl (.tmp 2) (.tmp 13) rfl _ rfl rfl (E.out.hdr 1 rfl) ?_; intro V HV CV; replace E := hid (E.out.chg 1 rfl CV HV))
    exact bodyPost_ret (end_arr rfl HV rfl) rfl (hR.out _ _ (RetA.to hv.out (ArrAt.mono (fun b _ h => h.1) _ (E.out.arr 3 rfl)) E.out.ext))
  case neg =>
    have zb : (((szN y.kind y.nums.length y.items.length : Nat) : Int) == 0) = false := by rw [beq_eq_false_iff_ne]; intro q; exact z (by unfold szA; omega)
    obtain ⟨r, hr⟩ : ∃ r, r = atS y 0 := ⟨_, rfl⟩
    have hv : Hid (fstS y = r) := hid (by rw [hs0, if_neg z, hr])
    replace hr := hid hr
    replace z := hid z
    clear hs0
    go_enter Try.func36, Try.ntmps36
    go_wp2_with fail
    generalize hEW : ((w).alloc (.cells #[.int .i64 y.kind, .slice sy y.shape.length cy, .slice ny y.nums.length my, .slice iy y.items.length jy] 26)).alloc (.cells #[.int .i64 0, .slice none 0 0, .slice none 0 0, .slice none 0 0] 26) = W
    have E := hid (env2 w S hEW)
    clear hEW
    replace E := hid (E.out.arg h0.out)
    (try simp only [List.cons_append, List.nil_append, List.set_cons_zero, List.set_cons_succ] at E)
    refine (structure_right y _ _ _ _ _ _ _ _ (E.out.arr 2 rfl)).mono ?_
    rintro e w1 ⟨rfl, hb⟩
    replace E := hid (E.out.up hb)
    clear hb
    obtain ⟨q00, q01, q02, q03⟩ := (E.out.hdr 0 rfl).all
    go_wp2_with fail
    refine (size_array_Size y _ _ _ _ _ _ _ _ (E.out.arr 2 rfl)).mono ?_
    rintro e w2 ⟨rfl, hb⟩
    replace E := hid (E.out.up hb)
    clear hb
    clear q00 q01 q02 q03
    obtain ⟨q00, q01, q02, q03⟩ := (E.out.hdr 0 rfl).all
    go_wp2_with fail
    clear q00 q01 q02 q03
    refine (array_At y _ _ _ _ _ _ 0 _ _ (E.out.arr 2 rfl)).mono ?_
    intro e w3 h
    obtain ⟨s1, c1, n1, m1, i1, j1, rfl, hA, hb⟩ := h.eq hr.out
    replace E := hid ((E.out.up hb).addArr hA (fun b _ hq => E.out.res (Ext.refl _) hq))
    clear hA hb h
    (try simp only [List.cons_append, List.nil_append, List.set_cons_zero, List.set_cons_succ] at E)
    go_wp2_with (refine wpl_store4 rfl (.tmp 2) (.tmp 15) rfl _ rfl rfl (E.out.hdr 1 rfl) ?_; intro V HV CV; replace E := hid (E.out.chg 1 rfl CV HV))
    exact bodyPost_ret (end_arr rfl HV rfl) rfl (hR.out _ _ (RetA.to hv.out (ArrAt.mono (fun b _ h => h.1) _ (E.out.arr 3 rfl)) E.out.ext))
set_option maxHeartbeats 4000000 in
theorem ref17_First (y : Arr) (sy : Option Addr) (cy : Nat) (ny : Option Addr) (my : Nat) (iy : Option Addr) (jy : Nat) (S : Nat → Prop) (w : World) (h : ArrAt w S y sy ny iy) : Calls Try.prog 37 #[.agg #[.int .i64 y.kind, .slice sy y.shape.length cy, .slice ny y.nums.length my, .slice iy y.items.length jy]] w (RetA w (fun b => S b ∨ w.heap.size ≤ b) (fstS y)) := by
  refine calls_post fun R' hR => ?_
  have h0 := hid h
  have hsl := h.shape.1
  have hnl := h.nums.1
  have hil := h.len
  clear h
  by_cases c : rightS y = 0
  case neg =>
    have cb : (rightS y == 0) = false := by simpa using c
    have cb2 : (rightS y != 0) = true := by simpa using c
    have hv : Hid (fstS y = .zero) := hid (if_pos c)
    replace c := hid c
    go_enter Try.func37, Try.ntmps37
    go_wp2_with fail
    generalize hEW : ((w).alloc (.cells #[.int .i64 y.kind, .slice sy y.shape.length cy, .slice ny y.nums.length my, .slice iy y.items.length jy] 26)).alloc (.cells #[.int .i64 0, .slice none 0 0, .slice none 0 0, .slice none 0 0] 26) = W
    have E := hid (env2 w S hEW)
    clear hEW
    replace E := hid (E.out.arg h0.out)
    (try simp only [List.cons_append, List.nil_append, List.set_cons_zero, List.set_cons_succ] at E)
    refine (ref03_Right y _ _ _ _ _ _ _ _ (E.out.arr 2 rfl)).mono ?_
    rintro e w1 ⟨rfl, hb⟩
    replace E := hid (E.out.up hb)
    clear hb
    go_wp2_with (refine wpl_store4 rfl (.tmp 2) (.tmp 6) rfl _ rfl rfl (E.out.hdr 1 rfl) ?_; intro V HV CV; replace E := hid (E.out.chg 1 rfl CV HV))
    exact bodyPost_ret (end_arr rfl HV rfl) rfl (hR.out _ _ (RetA.zero hv.out E.out.ext))
  have cb : (rightS y == 0) = true := by simpa using c
  have cb2 : (rightS y != 0) = false := by simpa using c
  have hs0 : fstS y = if szA y = 0 then fillS y else atS y 0 := if_neg (by simp [c])
  replace c := hid c
  by_cases z : szA y = 0
  case pos =>
    have zb : (((szN y.kind y.nums.length y.items.length : Nat) : Int) == 0) = true := by rw [show szN y.kind y.nums.length y.items.length = 0 from z]; rfl
    obtain ⟨r, hr⟩ : ∃ r, r = fillS y := ⟨_, rfl⟩
    have hv : Hid (fstS y = r) := hid (by rw [hs0, if_pos z, hr])
    replace hr := hid hr
    replace z := hid z
    clear hs0
    go_enter Try.func37, Try.ntmps37
    go_wp2_with fail
    generalize hEW : ((w).alloc (.cells #[.int .i64 y.kind, .slice sy y.shape.length cy, .slice ny y.nums.length my, .slice iy y.items.length jy] 26)).alloc (.cells #[.int .i64 0, .slice none 0 0, .slice none 0 0, .slice none 0 0] 26) = W
    have E := hid (env2 w S hEW)
    clear hEW
    replace E := hid (E.out.arg h0.out)
    (try simp only [List.cons_append, List.nil_append, List.set_cons_zero, List.set_cons_succ] at E)
    refine (ref03_Right y _ _ _ _ _ _ _ _ (E.out.arr 2 rfl)).mono ?_
    rintro e w1 ⟨rfl, hb⟩
    replace E := hid (E.out.up hb)
    clear hb
    obtain ⟨q00, q01, q02, q03⟩ := (E.out.hdr 0 rfl).all
    go_wp2_with fail
    refine (size_ref03_Size y _ _ _ _ _ _ _ _ (E.out.arr 2 rfl)).mono ?_
    rintro e w2 ⟨rfl, hb⟩
    replace E := hid (E.out.up hb)
    clear hb
    clear q00 q01 q02 q03
    obtain ⟨q00, q01, q02, q03⟩ := (E.out.hdr 0 rfl).all
    go_wp2_with fail
    clear q00 q01 q02 q03
    refine (fill_ref03_Fill y _ _ _ _ _ _ _).mono ?_
    intro e w3 h
    obtain ⟨s1, c1, n1, m1, i1, j1, rfl, hA, hb⟩ := h.eq hr.out
    replace E := hid ((E.out.up hb).addArr hA (fun b _ hq => E.out.fresh (Ext.refl _) hq))
    clear hA hb h
    (try simp only [List.cons_append, List.nil_append, List.set_cons_zero, List.set_cons_succ] at E)
    go_wp2_with (refine wpl_store4 rfl (.tmp 2) (.tmp 11) rfl _ rfl rfl (E.out.hdr 1 rfl) ?_; intro V HV CV; replace E := hid (E.out.chg 1 rfl CV HV))
    exact bodyPost_ret (end_arr rfl HV rfl) rfl (hR.out _ _ (RetA.to hv.out (ArrAt.mono (fun b _ h => h.1) _ (E.out.arr 3 rfl)) E.out.ext))
  case neg =>
    have zb : (((szN y.kind y.nums.length y.items.length : Nat) : Int) == 0) = false := by rw [beq_eq_false_iff_ne]; intro q; exact z (by unfold szA; omega)
    obtain ⟨r, hr⟩ : ∃ r, r = atS y 0 := ⟨_, rfl⟩
    have hv : Hid (fstS y = r) := hid (by rw [hs0, if_neg z, hr])
    replace hr := hid hr
    replace z := hid z
    clear hs0
    go_enter Try.func37, Try.ntmps37
    go_wp2_with fail
    generalize hEW : ((w).alloc (.cells #[.int .i64 y.kind, .slice sy y.shape.length cy, .slice ny y.nums.length my, .slice iy y.items.length jy] 26)).alloc (.cells #[.int .i64 0, .slice none 0 0, .slice none 0 0, .slice none 0 0] 26) = W
    have E := hid (env2 w S hEW)
    clear hEW
    replace E := hid (E.out.arg h0.out)
    (try simp only [List.cons_append, List.nil_append, List.set_cons_zero, List.set_cons_succ] at E)
    refine (ref03_Right y _ _ _ _ _ _ _ _ (E.out.arr 2 rfl)).mono ?_
    rintro e w1 ⟨rfl, hb⟩
    replace E := hid (E.out.up hb)
    clear hb
    obtain ⟨q00, q01, q02, q03⟩ := (E.out.hdr 0 rfl).all
    go_wp2_with fail
    refine (size_ref03_Size y _ _ _ _ _ _ _ _ (E.out.arr 2 rfl)).mono ?_
    rintro e w2 ⟨rfl, hb⟩
    replace E := hid (E.out.up hb)
    clear hb
    clear q00 q01 q02 q03
    obtain ⟨q00, q01, q02, q03⟩ := (E.out.hdr 0 rfl).all
    go_wp2_with fail
    clear q00 q01 q02 q03
    refine (ref03_At y _ _ _ _ _ _ 0 _ _ (E.out.arr 2 rfl)).mono ?_
    intro e w3 h
    obtain ⟨s1, c1, n1, m1, i1, j1, rfl, hA, hb⟩ := h.eq hr.out
    replace E := hid ((E.out.up hb).addArr hA (fun b _ hq => E.out.res (Ext.refl _) hq))
    clear hA hb h
    (try simp only [List.cons_append, List.nil_append, List.set_cons_zero, List.set_cons_succ] at E)
    go_wp2_with (refine wpl_store4 rfl (.tmp 2) (.tmp 13) rfl _ rfl rfl (E.out.hdr 1 rfl) ?_; intro V HV CV; replace E := hid (E.out.chg 1 rfl CV HV))
    exact bodyPost_ret (end_arr rfl HV rfl) rfl (hR.out _ _ (RetA.to hv.out (ArrAt.mono (fun b _ h => h.1) _ (E.out.arr 3 rfl)) E.out.ext))
set_option maxHeartbeats 4000000 in
theorem structure_Enclose (y : Arr) (sy : Option Addr) (cy : Nat) (ny : Option Addr) (my : Nat) (iy : Option Addr) (jy : Nat) (S : Nat → Prop) (w : World) (h : ArrAt w S y sy ny iy) : Calls Try.prog 32 #[.agg #[.int .i64 y.kind, .slice sy y.shape.length cy, .slice ny y.nums.length my, .slice iy y.items.length jy]] w (RetAE w (fun b => S b ∨ w.heap.size ≤ b) (encS y) (encE y)) := by
  refine calls_post fun R' hR => ?_
  have h0 := hid h
  have hsl := h.shape.1
  have hnl := h.nums.1
  have hil := h.len
  clear h
  by_cases c : rightS y = 0
  case neg =>
    have cb : (rightS y == 0) = false := by simpa using c
    have cb2 : (rightS y != 0) = true := by simpa using c
    have hn : Hid (encE y = 1) := hid (if_pos c)
    have hv : Hid (encS y = .zero) := hid (if_neg (by rw [hn.out]; decide))
    replace c := hid c
    go_enter Try.func32, Try.ntmps32
    go_wp2_with fail
    generalize hEW : ((w).alloc (.cells #[.int .i64 y.kind, .slice sy y.shape.length cy, .slice ny y.nums.length my, .slice iy y.items.length jy] 26)).alloc (.cells #[.int .i64 0, .slice none 0 0, .slice none 0 0, .slice none 0 0] 26) = W
    have E := hid (env2 w S hEW)
    clear hEW
    replace E := hid (E.out.arg h0.out)
    (try simp only [List.cons_append, List.nil_append, List.set_cons_zero, List.set_cons_succ] at E)
    refine (structure_right y _ _ _ _ _ _ _ _ (E.out.arr 2 rfl)).mono ?_
    rintro e w1 ⟨rfl, hb⟩
    replace E := hid (E.out.up hb)
    clear hb
    go_wp2_with (refine wpl_store4 rfl (.tmp 2) (.tmp 8) rfl _ rfl rfl (E.out.hdr 1 rfl) ?_; intro V HV CV; replace E := hid (E.out.chg 1 rfl CV HV))
    exact bodyPost_ret (end_arr2 rfl HV rfl rfl) rfl (hR.out _ _ (RetAE.zero hv.out hn.out E.out.ext))
  have cb : (rightS y == 0) = true := by simpa using c
  have cb2 : (rightS y != 0) = false := by simpa using c
  obtain ⟨r, hr⟩ : ∃ r, r = validS (boxA y) := ⟨_, rfl⟩
  have hq : encE y = if r.kind ≠ 3 then 21 else 0 := by rw [hr]; exact if_neg (by simp [c])
  have hs : encE y = 0 → encS y = r := fun q => by rw [hr]; exact if_pos q
  have hs' : encE y ≠ 0 → encS y = .zero := fun q => if_neg q
  replace hr := hid hr
  replace c := hid c
  by_cases k : r.kind = 3
  case pos =>
    have kb : (r.kind != 3) = false := by simp [k]
    have hn : Hid (encE y = 0) := hid (by rw [hq, if_neg (by simp [k])])
    have hv : Hid (encS y = r) := hid (hs hn.out)
    replace k := hid k
    clear hq hs hs'
    go_enter Try.func32, Try.ntmps32
    go_wp2_with fail
    generalize hEW : ((w).alloc (.cells #[.int .i64 y.kind, .slice sy y.shape.length cy, .slice ny y.nums.length my, .slice iy y.items.length jy] 26)).alloc (.cells #[.int .i64 0, .slice none 0 0, .slice none 0 0, .slice none 0 0] 26) = W
    have E := hid (env2 w S hEW)
    clear hEW
    replace E := hid (E.out.arg h0.out)
    (try simp only [List.cons_append, List.nil_append, List.set_cons_zero, List.set_cons_succ] at E)
    refine (structure_right y _ _ _ _ _ _ _ _ (E.out.arr 2 rfl)).mono ?_
    rintro e w1 ⟨rfl, hb⟩
    replace E := hid (E.out.up hb)
    clear hb
    obtain ⟨q00, q01, q02, q03⟩ := (E.out.hdr 0 rfl).all
    go_wp2_with fail
    clear q00 q01 q02 q03
    refine (array_Box y _ _ _ _ _ _ _ _ (E.out.arr 2 rfl)).mono ?_
    intro e w2 h
    obtain ⟨s1, c1, n1, m1, i1, j1, rfl, hA, hb⟩ := h.eq hr.out
    replace E := hid ((E.out.up hb).addArr hA (fun b _ hq => E.out.res (Ext.refl _) hq))
    clear hA hb h
    (try simp only [List.cons_append, List.nil_append, List.set_cons_zero, List.set_cons_succ] at E)
    go_upto_region 4 with (refine wpl_store4 rfl (.tmp 4) (.tmp 10) rfl _ rfl rfl ((E.out.alloc _).hdr 4 rfl) ?_; intro V1 HV CV; replace E := hid ((E.out.alloc _).chg 4 rfl CV HV); clear CV HV; (try simp only [List.cons_append, List.nil_append, List.set_cons_zero, List.set_cons_succ] at E))
    generalize w2.heap.size = p1 at E ⊢
    obtain ⟨q40, q41, q42, q43⟩ := (E.out.hdr 4 rfl).all
    go_wp2_with (refine wpl_store4 rfl (.tmp 2) (.tmp 15) rfl _ rfl rfl (E.out.hdr 1 rfl) ?_; intro V HV CV; replace E := hid (E.out.chg 1 rfl CV HV))
    exact bodyPost_ret (end_arr2 rfl HV rfl rfl) rfl (hR.out _ _ (RetAE.to hv.out hn.out (ArrAt.mono (fun b _ h => h.1) _ (E.out.arr 3 rfl)) E.out.ext))
  case neg =>
    have kb : (r.kind != 3) = true := by simp [k]
    have hn : Hid (encE y = 21) := hid (by rw [hq, if_pos (by simp [k])])
    have hv : Hid (encS y = .zero) := hid (hs' (by rw [hn.out]; decide))
    replace k := hid k
    clear hq hs hs'
    go_enter Try.func32, Try.ntmps32
    go_wp2_with fail
    generalize hEW : ((w).alloc (.cells #[.int .i64 y.kind, .slice sy y.shape.length cy, .slice ny y.nums.length my, .slice iy y.items.length jy] 26)).alloc (.cells #[.int .i64 0, .slice none 0 0, .slice none 0 0, .slice none 0 0] 26) = W
    have E := hid (env2 w S hEW)
    clear hEW
    replace E := hid (E.out.arg h0.out)
    (try simp only [List.cons_append, List.nil_append, List.set_cons_zero, List.set_cons_succ] at E)
    refine (structure_right y _ _ _ _ _ _ _ _ (E.out.arr 2 rfl)).mono ?_
    rintro e w1 ⟨rfl, hb⟩
    replace E := hid (E.out.up hb)
    clear hb
    obtain ⟨q00, q01, q02, q03⟩ := (E.out.hdr 0 rfl).all
    go_wp2_with fail
    clear q00 q01 q02 q03
    refine (array_Box y _ _ _ _ _ _ _ _ (E.out.arr 2 rfl)).mono ?_
    intro e w2 h
    obtain ⟨s1, c1, n1, m1, i1, j1, rfl, hA, hb⟩ := h.eq hr.out
    replace E := hid ((E.out.up hb).addArr hA (fun b _ hq => E.out.res (Ext.refl _) hq))
    clear hA hb h
    (try simp only [List.cons_append, List.nil_append, List.set_cons_zero, List.set_cons_succ] at E)
    go_upto_region 4 with (refine wpl_store4 rfl (.tmp 4) (.tmp 10) rfl _ rfl rfl ((E.out.alloc _).hdr 4 rfl) ?_; intro V1 HV CV; replace E := hid ((E.out.alloc _).chg 4 rfl CV HV); clear CV HV; (try simp only [List.cons_append, List.nil_append, List.set_cons_zero, List.set_cons_succ] at E))
    generalize w2.heap.size = p1 at E ⊢
    obtain ⟨q40, q41, q42, q43⟩ := (E.out.hdr 4 rfl).all
    go_wp2_with (refine wpl_store4 rfl (.tmp 2) (.tmp 14) rfl _ rfl rfl (E.out.hdr 1 rfl) ?_; intro V HV CV; replace E := hid (E.out.chg 1 rfl CV HV))
    exact bodyPost_ret (end_arr2 rfl HV rfl rfl) rfl (hR.out _ _ (RetAE.zero hv.out hn.out E.out.ext))
set_option maxHeartbeats 4000000 in
theorem ref17_Enclose (y : Arr) (sy : Option Addr) (cy : Nat) (ny : Option Addr) (my : Nat) (iy : Option Addr) (jy : Nat) (S : Nat → Prop) (w : World) (h : ArrAt w S y sy ny iy) : Calls Try.prog 34 #[.agg #[.int .i64 y.kind, .slice sy y.shape.length cy, .slice ny y.nums.length my, .slice iy y.items.length jy]] w (RetAE w (fun b => S b ∨ w.heap.size ≤ b) (encS y) (encE y)) := by
  refine calls_post fun R' hR => ?_
  have h0 := hid h
  have hsl := h.shape.1
  have hnl := h.nums.1
  have hil := h.len
  clear h
  by_cases c : rightS y = 0
  case neg =>
    have cb : (rightS y == 0) = false := by simpa using c
    have cb2 : (rightS y != 0) = true := by simpa using c
    have hn : Hid (encE y = 1) := hid (if_pos c)
    have hv : Hid (encS y = .zero) := hid (if_neg (by rw [hn.out]; decide))
    replace c := hid c
    go_enter Try.func34, Try.ntmps34
    go_wp2_with fail
    generalize hEW : ((w).alloc (.cells #[.int .i64 y.kind, .slice sy y.shape.length cy, .slice ny y.nums.length my, .slice iy y.items.length jy] 26)).alloc (.cells #[.int .i64 0, .slice none 0 0, .slice none 0 0, .slice none 0 0] 26) = W
    have E := hid (env2 w S hEW)
    clear hEW
    replace E := hid (E.out.arg h0.out)
    (try simp only [List.cons_append, List.nil_append, List.set_cons_zero, List.set_cons_succ] at E)
    refine (ref03_Right y _ _ _ _ _ _ _ _ (E.out.arr 2 rfl)).mono ?_
    rintro e w1 ⟨rfl, hb⟩
    replace E := hid (E.out.up hb)
    clear hb
    go_wp2_with (refine wpl_store4 rfl (.tmp 2) (.tmp 8) rfl _ rfl rfl (E.out.hdr 1 rfl) ?_; intro V HV CV; replace E := hid (E.out.chg 1 rfl CV HV))
    exact bodyPost_ret (end_arr2 rfl HV rfl rfl) rfl (hR.out _ _ (RetAE.zero hv.out hn.out E.out.ext))
  have cb : (rightS y == 0) = true := by simpa using c
  have cb2 : (rightS y != 0) = false := by simpa using c
  obtain ⟨r, hr⟩ : ∃ r, r = validS (boxA y) := ⟨_, rfl⟩
  have hq : encE y = if r.kind ≠ 3 then 21 else 0 := by rw [hr]; exact if_neg (by simp [c])
  have hs : encE y = 0 → encS y = r := fun q => by rw [hr]; exact if_pos q
  have hs' : encE y ≠ 0 → encS y = .zero := fun q => if_neg q
  replace hr := hid hr
  replace c := hid c
  by_cases k : r.kind = 3
  case pos =>
    have kb : (r.kind != 3) = false := by simp [k]
    have hn : Hid (encE y = 0) := hid (by rw [hq, if_neg (by simp [k])])
    have hv : Hid (encS y = r) := hid (hs hn.out)
    replace k := hid k
    clear hq hs hs'
    go_enter Try.func34, Try.ntmps34
    go_wp2_with fail
    generalize hEW : ((w).alloc (.cells #[.int .i64 y.kind, .slice sy y.shape.length cy, .slice ny y.nums.length my, .slice iy y.items.length jy] 26)).alloc (.cells #[.int .i64 0, .slice none 0 0, .slice none 0 0, .slice none 0 0] 26) = W
    have E := hid (env2 w S hEW)
    clear hEW
    replace E := hid (E.out.arg h0.out)
    (try simp only [List.cons_append, List.nil_append, List.set_cons_zero, List.set_cons_succ] at E)
    refine (ref03_Right y _ _ _ _ _ _ _ _ (E.out.arr 2 rfl)).mono ?_
    rintro e w1 ⟨rfl, hb⟩
    replace E := hid (E.out.up hb)
    clear hb
    obtain ⟨q00, q01, q02, q03⟩ := (E.out.hdr 0 rfl).all
    go_wp2_with fail
    clear q00 q01 q02 q03
    refine (ref03_Box y _ _ _ _ _ _ _ _ (E.out.arr 2 rfl)).mono ?_
    intro e w2 h
    obtain ⟨s1, c1, n1, m1, i1, j1, rfl, hA, hb⟩ := h.eq hr.out
    replace E := hid ((E.out.up hb).addArr hA (fun b _ hq => E.out.res (Ext.refl _) hq))
    clear hA hb h
    (try simp only [List.cons_append, List.nil_append, List.set_cons_zero, List.set_cons_succ] at E)
    go_upto_region 4 with (refine wpl_store4 rfl (.tmp 4) (.tmp 10) rfl _ rfl rfl ((E.out.alloc _).hdr 4 rfl) ?_; intro V1 HV CV; replace E := hid ((E.out.alloc _).chg 4 rfl CV HV); clear CV HV; (try simp only [List.cons_append, List.nil_append, List.set_cons_zero, List.set_cons_succ] at E))
    generalize w2.heap.size = p1 at E ⊢
    obtain ⟨q40, q41, q42, q43⟩ := (E.out.hdr 4 rfl).all
    go_wp2_with (refine wpl_store4 rfl (.tmp 2) (.tmp 15) rfl _ rfl rfl (E.out.hdr 1 rfl) ?_; intro V HV CV; replace E := hid (E.out.chg 1 rfl CV HV))
    exact bodyPost_ret (end_arr2 rfl HV rfl rfl) rfl (hR.out _ _ (RetAE.to hv.out hn.out (ArrAt.mono (fun b _ h => h.1) _ (E.out.arr 3 rfl)) E.out.ext))
  case neg =>
    have kb : (r.kind != 3) = true := by simp [k]
    have hn : Hid (encE y = 21) := hid (by rw [hq, if_pos (by simp [k])])
    have hv : Hid (encS y = .zero) := hid (hs' (by rw [hn.out]; decide))
    replace k := hid k
    clear hq hs hs'
    go_enter Try.func34, Try.ntmps34
    go_wp2_with fail
    generalize hEW : ((w).alloc (.cells #[.int .i64 y.kind, .slice sy y.shape.length cy, .slice ny y.nums.length my, .slice iy y.items.length jy] 26)).alloc (.cells #[.int .i64 0, .slice none 0 0, .slice none 0 0, .slice none 0 0] 26) = W
    have E := hid (env2 w S hEW)
    clear hEW
    replace E := hid (E.out.arg h0.out)
    (try simp only [List.cons_append, List.nil_append, List.set_cons_zero, List.set_cons_succ] at E)
    refine (ref03_Right y _ _ _ _ _ _ _ _ (E.out.arr 2 rfl)).mono ?_
    rintro e w1 ⟨rfl, hb⟩
    replace E := hid (E.out.up hb)
    clear hb
    obtain ⟨q00, q01, q02, q03⟩ := (E.out.hdr 0 rfl).all
    go_wp2_with fail
    clear q00 q01 q02 q03
    refine (ref03_Box y _ _ _ _ _ _ _ _ (E.out.arr 2 rfl)).mono ?_
    intro e w2 h
    obtain ⟨s1, c1, n1, m1, i1, j1, rfl, hA, hb⟩ := h.eq hr.out
    replace E := hid ((E.out.up hb).addArr hA (fun b _ hq => E.out.res (Ext.refl _) hq))
    clear hA hb h
    (try simp only [List.cons_append, List.nil_append, List.set_cons_zero, List.set_cons_succ] at E)
    go_upto_region 4 with (refine wpl_store4 rfl (.tmp 4) (.tmp 10) rfl _ rfl rfl ((E.out.alloc _).hdr 4 rfl) ?_; intro V1 HV CV; replace E := hid ((E.out.alloc _).chg 4 rfl CV HV); clear CV HV; (try simp only [List.cons_append, List.nil_append, List.set_cons_zero, List.set_cons_succ] at E))
    generalize w2.heap.size = p1 at E ⊢
    obtain ⟨q40, q41, q42, q43⟩ := (E.out.hdr 4 rfl).all
    go_wp2_with (refine wpl_store4 rfl (.tmp 2) (.tmp 14) rfl _ rfl rfl (E.out.hdr 1 rfl) ?_; intro V HV CV; replace E := hid (E.out.chg 1 rfl CV HV))
    exact bodyPost_ret (end_arr2 rfl HV rfl rfl) rfl (hR.out _ _ (RetAE.zero hv.out hn.out E.out.ext))
end Go.Proofs.Ytkbbdlibamcilaa
