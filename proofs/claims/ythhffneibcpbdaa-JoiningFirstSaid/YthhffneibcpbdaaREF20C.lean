/- ref20.join, ref20.First, ref20.Last: contracts. Conditions: the arrays are read; a slice's capacity is at least its length. -/
import Derived.Test.YthhffneibcpbdaaREF20B
set_option linter.unusedVariables false
set_option linter.unusedSimpArgs false
namespace Go.Proofs.Ythhffneibcpbdaa
open Go.RowKit Go.Sort
attribute [local go_sem ↓] run_max2 run_min2
attribute [local go_sem] eql_ints_nil eql_arrs_nil
theorem jA_full {last : Bool} {x y : Arr} (h : x.shape.length = jR x y) : jA last x y = x.shape := by
  have hr : 1 ≤ jR x y := by unfold jR; omega
  unfold jA extSh; rw [if_neg (by omega), if_neg (by omega)]
theorem dif_zero {last : Bool} {x y : Arr} (h0 : x.shape.length = 0 ∨ y.shape.length = 0) : difB (jA last x y) (jB last x y) (jX last x y) (jR x y) = false := by
  have key : ∀ {x y : Arr}, x.shape.length = 0 → ∀ i, i < jR x y → i ≠ jX last x y → (jA last x y).getD i 0 = (jB last x y).getD i 0 := by
    intro x y h0 i hi hne
    by_cases hy : y.shape.length = 0
    · have : jR x y = 1 := by unfold jR; omega
      have : jX last x y = 0 := by have := jX_lt (last := last) (x := x) (y := y); omega
      omega
    · have hr : y.shape.length = jR y x := by unfold jR; omega
      rw [jA_zero h0, if_neg hy, jB_eq, jA_full hr]
      exact getD_set_ne hne 1
  rcases h0 with h0 | h0
  · exact difB_none (key h0)
  · refine difB_none fun i hi hne => ?_
    have := key (x := y) (y := x) h0 i (by rw [jR_comm]; exact hi) (by rw [jX_comm]; exact hne)
    rw [jB_eq] at this ⊢
    exact this.symm
theorem exW_nn {x : Arr} {s : List Int} (h : shapeB s = true) : 0 ≤ exW x s := (exW_bd h).1
theorem ext_err {last : Bool} {x y : Arr} (hx : rightS x = 0) (hy : rightS y = 0) (hk : x.kind = y.kind) (h : extE last x y ≠ 0) : joinE last x y = extE last x y := by
  unfold extE at h ⊢
  split at h
  · rename_i q
    rw [if_pos q]
    exact joinE_r hx hy hk ⟨by omega, by have := q.2; unfold jR at this; omega, by have := q.2; unfold jR at this; omega⟩
  · rename_i q
    rw [if_neg q]
    split at h
    · rename_i q2
      rw [if_pos q2]
      have hr : ¬ rankB x y := by unfold rankB; omega
      have hB : shapeB (jB last x y) = true := by rw [jB_eq]; exact shapeB_ext (right_ok hy).2.1 (right_ok hx).2.1 (fun r => hr (rankB_comm.2 r))
      exact joinE_s hx hy hk hr (dif_zero (Or.inl q2.1)) (Or.inr (by have := exW_nn (x := y) hB; have := q2.2.2; omega))
    · exact absurd rfl h
theorem ext_err2 {last : Bool} {x y : Arr} (hx : rightS x = 0) (hy : rightS y = 0) (hk : x.kind = y.kind) (h : extE last y x ≠ 0) (h0 : extE last x y = 0) : joinE last x y = extE last y x := by
  unfold extE at h ⊢
  split at h
  · rename_i q
    rw [if_pos q]
    have q0 : ¬ (x.shape.length = 0) := by have := q.2; unfold jR at this; omega
    exact joinE_r hx hy hk ⟨by omega, by omega, by have := q.2; unfold jR at this; omega⟩
  · rename_i q
    rw [if_neg q]
    split at h
    · rename_i q2
      rw [if_pos q2]
      have hr : ¬ rankB x y := by unfold rankB; omega
      have hA : shapeB (jA last x y) = true := shapeB_ext (right_ok hx).2.1 (right_ok hy).2.1 hr
      exact joinE_s hx hy hk hr (dif_zero (Or.inr q2.1)) (Or.inr (by have := exW_nn (x := x) hA; have := q2.2.2; rw [jB_eq]; omega))
    · exact absurd rfl h
theorem ext_rank {last : Bool} {x y : Arr} (h : extE last x y = 0) (g : extE last y x = 0) : ¬ rankB x y := by
  intro r
  unfold rankB at r
  unfold extE at h g
  have hR := jR_comm (x := x) (y := y)
  rcases r with ⟨r1, r2, r3⟩
  rcases r3 with r3 | r3
  · rw [if_pos ⟨by omega, by rw [← hR]; unfold jR; omega⟩] at g; cases g
  · rw [if_pos ⟨by omega, by unfold jR; omega⟩] at h; cases h
theorem flat_ext {last : Bool} {x y : Arr} (h : rightS x = 0) : Flat (extA last x y) := by
  have F := flat_of h
  refine ⟨F.k, fun q => ?_, fun q => ?_⟩
  · show exL x.shape (cnt (jA last x y)).toNat x.nums = []
    rw [F.n q]; exact exL_nil
  · show exL x.shape (cnt (jA last x y)).toNat x.items = []
    rw [F.i q]; exact exL_nil
theorem szA_ext {last : Bool} {x y : Arr} (h : rightS x = 0) : szA (extA last x y) = (cnt (jA last x y)).toNat := by
  have hk := (formE_zero (right_form h)).1
  unfold szA szN
  show (if x.kind = 1 ∨ x.kind = 2 then (exL x.shape (cnt (jA last x y)).toNat x.nums).length else if x.kind = 3 then (exL x.shape (cnt (jA last x y)).toNat x.items).length else 0) = _
  by_cases k : x.kind = 3
  · rw [if_neg (by omega), if_pos k]; exact (exL_lenA h k).1
  · rw [if_pos (by omega)]; exact (exL_lenN h k).1
theorem idx_lt {k m j p : Nat} (h : k < m) (g : j < p) : k * p + j < m * p := by
  have := Nat.mul_le_mul_right p (show k + 1 ≤ m from h)
  rw [Nat.succ_mul] at this
  omega
set_option maxRecDepth 100000 in
set_option maxHeartbeats 8000000 in
theorem ref20_join (first : Bool) (x : Arr) (sx : Option Addr) (cx : Nat) (nx : Option Addr) (mx : Nat) (ix : Option Addr) (jx : Nat) (y : Arr) (sy : Option Addr) (cy : Nat) (ny : Option Addr) (my : Nat) (iy : Option Addr) (jy : Nat) (S : Nat → Prop) (w : World) (h : ArrAt w S x sx nx ix) (g : ArrAt w S y sy ny iy) (hcx : x.shape.length ≤ cx ∧ x.nums.length ≤ mx ∧ x.items.length ≤ jx) (hcy : y.shape.length ≤ cy ∧ y.nums.length ≤ my ∧ y.items.length ≤ jy) :
    Calls Try.prog 42 #[.agg #[.int .i64 x.kind, .slice sx x.shape.length cx, .slice nx x.nums.length mx, .slice ix x.items.length jx], .agg #[.int .i64 y.kind, .slice sy y.shape.length cy, .slice ny y.nums.length my, .slice iy y.items.length jy], .bool first] w (RetAEC w (fun b => S b ∨ w.heap.size ≤ b) (joinS (!first) x y) (joinE (!first) x y)) := by
  refine calls_post fun R' hR => ?_
  have h0 := hid h
  have g0 := hid g
  replace hcx := hid hcx
  replace hcy := hid hcy
  clear h g
  go_enter Try.func42, Try.ntmps42
  go_upto_region 1 with (fail)
  generalize hEW : (((w).alloc (.cells #[.int .i64 x.kind, .slice sx x.shape.length cx, .slice nx x.nums.length mx, .slice ix x.items.length jx] 26)).alloc (.cells #[.int .i64 y.kind, .slice sy y.shape.length cy, .slice ny y.nums.length my, .slice iy y.items.length jy] 26)).alloc (.cells #[.int .i64 0, .slice none 0 0, .slice none 0 0, .slice none 0 0] 26) = W
  have E := hid (env3 w S hEW)
  clear hEW
  replace E := hid ((E.out.arg h0.out).arg g0.out)
  (try simp only [List.cons_append, List.nil_append, List.set_cons_zero, List.set_cons_succ] at E)
  obtain ⟨q00, q01, q02, q03⟩ := (E.out.hdr 0 rfl).all
  go_wp2_with fail
  clear q00 q01 q02 q03
  refine (ref03_Right x _ _ _ _ _ _ _ _ (E.out.arr 3 rfl)).mono ?_
  rintro e w1 ⟨rfl, hb⟩
  replace E := hid (E.out.up hb)
  clear hb
  by_cases c : rightS x = 0
  case neg =>
    have cb : (rightS x != 0) = true := by simpa using c
    have hn := hid (joinE_x (last := !first) (y := y) c)
    have hv := hid (joinS_no (last := !first) (x := x) (y := y) (by rw [hn.out]; decide))
    replace c := hid c
    go_wp2_with (refine wpl_store4 rfl (.tmp 6) (.tmp 32) rfl _ rfl rfl (E.out.hdr 2 rfl) ?_; intro V HV CV; replace E := hid (E.out.chg 2 rfl CV HV))
    exact bodyPost_ret (end_arr2 rfl HV rfl rfl) rfl (hR.out _ _ (RetAEC.zero hv.out hn.out E.out.ext))
  have cb : (rightS x != 0) = false := by simpa using c
  obtain ⟨q10, q11, q12, q13⟩ := (E.out.hdr 1 rfl).all
  go_wp2_with fail
  clear q10 q11 q12 q13
  refine (ref03_Right y _ _ _ _ _ _ _ _ (E.out.arr 4 rfl)).mono ?_
  rintro e w2 ⟨rfl, hb⟩
  replace E := hid (E.out.up hb)
  clear hb
  by_cases d : rightS y = 0
  case neg =>
    have db : (rightS y != 0) = true := by simpa using d
    have hn := hid (joinE_y (last := !first) (x := x) d)
    have hv := hid (joinS_no (last := !first) (x := x) (y := y) (by rw [hn.out]; decide))
    replace c := hid c
    replace d := hid d
    go_wp2_with (refine wpl_store4 rfl (.tmp 6) (.tmp 32) rfl _ rfl rfl (E.out.hdr 2 rfl) ?_; intro V HV CV; replace E := hid (E.out.chg 2 rfl CV HV))
    exact bodyPost_ret (end_arr2 rfl HV rfl rfl) rfl (hR.out _ _ (RetAEC.zero hv.out hn.out E.out.ext))
  have db : (rightS y != 0) = false := by simpa using d
  have xok := right_ok c
  have yok := right_ok d
  have xs8 := (shapeB_iff.1 xok.2.1).1
  have ys8 := (shapeB_iff.1 yok.2.1).1
  replace xok := hid xok
  replace yok := hid yok
  replace c := hid c
  replace d := hid d
  go_upto_region 3 with (fail)
  by_cases k : x.kind = y.kind
  case neg =>
    have kb : (x.kind != y.kind) = true := by simpa using k
    have hn := hid (joinE_k (last := !first) c.out d.out k)
    have hv := hid (joinS_no (last := !first) (x := x) (y := y) (by rw [hn.out]; decide))
    replace k := hid k
    obtain ⟨q00, q01, q02, q03⟩ := (E.out.hdr 0 rfl).all
    obtain ⟨q10, q11, q12, q13⟩ := (E.out.hdr 1 rfl).all
    go_upto_region 4 with (fail)
    clear q00 q01 q02 q03 q10 q11 q12 q13
    go_wp2_with (refine wpl_store4 rfl (.tmp 6) (.tmp 38) rfl _ rfl rfl (E.out.hdr 2 rfl) ?_; intro V HV CV; replace E := hid (E.out.chg 2 rfl CV HV))
    exact bodyPost_ret (end_arr2 rfl HV rfl rfl) rfl (hR.out _ _ (RetAEC.zero hv.out hn.out E.out.ext))
  have kb : (x.kind != y.kind) = false := by simpa using k
  replace k := hid k
  obtain ⟨q00, q01, q02, q03⟩ := (E.out.hdr 0 rfl).all
  obtain ⟨q10, q11, q12, q13⟩ := (E.out.hdr 1 rfl).all
  go_upto_region 6 with (fail)
  clear q00 q01 q02 q03 q10 q11 q12 q13
  have hmx : (if (if 1 < (x.shape.length : Int) then (x.shape.length : Int) else 1) < (y.shape.length : Int) then (y.shape.length : Int) else if 1 < (x.shape.length : Int) then (x.shape.length : Int) else 1) = ((jR x y : Nat) : Int) := by unfold jR; split <;> split <;> omega
  rw [hmx]
  clear hmx
  have hr9 : jR x y ≤ 8 := by unfold jR; omega
  have hr1 : 1 ≤ jR x y := by unfold jR; omega
  have hax := jX_lt (last := !first) (x := x) (y := y)
  have hzA : x.shape.length = 0 → shapeB (jA (!first) x y) = true := fun q => shapeB_ext xok.out.2.1 yok.out.2.1 (fun r => by unfold rankB at r; omega)
  have hzB : y.shape.length = 0 → shapeB (jA (!first) y x) = true := fun q => shapeB_ext yok.out.2.1 xok.out.2.1 (fun r => by unfold rankB at r; omega)
  have XE1 := fun q => ext_err (last := !first) c.out d.out k.out q
  have XE2 := fun q => ext_err2 (last := !first) c.out d.out k.out q
  have XR := fun q => ext_rank (last := !first) (x := x) (y := y) q
  have hRc := jR_comm (x := x) (y := y)
  have EX := fun wz (sx : Option Addr) (cx : Nat) (nx : Option Addr) (mx : Nat) (ix : Option Addr) (jx : Nat) (sy : Option Addr) (cy : Nat) (ny : Option Addr) (my : Nat) (iy : Option Addr) (jy : Nat) (T : Nat → Prop) (h : ArrAt wz T x sx nx ix) (g : ArrAt wz T y sy ny iy) q => ref20_extended first x sx cx nx mx ix jx y sy cy ny my iy jy T wz h g q c.out d.out hzA
  have EY := fun wz (sx : Option Addr) (cx : Nat) (nx : Option Addr) (mx : Nat) (ix : Option Addr) (jx : Nat) (sy : Option Addr) (cy : Nat) (ny : Option Addr) (my : Nat) (iy : Option Addr) (jy : Nat) (T : Nat → Prop) (h : ArrAt wz T x sx nx ix) (g : ArrAt wz T y sy ny iy) q => ref20_extended first y sy cy ny my iy jy x sx cx nx mx ix jx T wz g h q d.out c.out hzB
  rw [← hRc] at EY
  obtain ⟨r, hrr⟩ : ∃ r, r = jR x y := ⟨_, rfl⟩
  rw [← hrr] at hr9 hr1 hax EX EY ⊢
  replace hrr := hid hrr
  replace XE1 := hid XE1
  replace XE2 := hid XE2
  replace XR := hid XR
  replace EX := hid EX
  replace EY := hid EY
  clear hzA hzB hRc
  obtain ⟨q00, q01, q02, q03⟩ := (E.out.hdr 0 rfl).all
  obtain ⟨q10, q11, q12, q13⟩ := (E.out.hdr 1 rfl).all
  go_wp2_with fail
  clear q00 q01 q02 q03 q10 q11 q12 q13
  refine (EX.out _ _ _ _ _ _ _ _ _ _ _ _ _ _ (E.out.arr 3 rfl) (E.out.arr 4 rfl) hcx.out).mono ?_
  intro e w3 h
  obtain ⟨s101, c101, n101, m101, i101, j101, rfl, hA, hb, hC101⟩ := h.eq rfl rfl
  replace E := hid ((E.out.up hb).addArr hA (fun b _ hq => E.out.res (Ext.refl _) hq))
  replace hC101 := hid hC101
  clear hA hb h
  (try simp only [List.cons_append, List.nil_append, List.set_cons_zero, List.set_cons_succ] at E)
  obtain ⟨a, ha⟩ : ∃ a, a = extS (!first) x y := ⟨_, rfl⟩
  rw [← ha] at E hC101 ⊢
  obtain ⟨e1, he1⟩ : ∃ a, a = extE (!first) x y := ⟨_, rfl⟩
  rw [← he1] at XE1 XE2 XR ⊢
  replace ha := hid ha
  replace he1 := hid he1
  go_upto_region 7 with (refine wpl_store4 rfl (.tmp 9) (.tmp 52) rfl _ rfl rfl ((E.out.alloc _).hdr 6 rfl) ?_; intro V1 HV CV; replace E := hid ((E.out.alloc _).chg 6 rfl CV HV); clear CV HV; (try simp only [List.cons_append, List.nil_append, List.set_cons_zero, List.set_cons_succ] at E))
  generalize w3.heap.size = p9 at E ⊢
  obtain ⟨q00, q01, q02, q03⟩ := (E.out.hdr 0 rfl).all
  obtain ⟨q10, q11, q12, q13⟩ := (E.out.hdr 1 rfl).all
  go_wp2_with fail
  clear q00 q01 q02 q03 q10 q11 q12 q13
  refine (EY.out _ _ _ _ _ _ _ _ _ _ _ _ _ _ (E.out.arr 3 rfl) (E.out.arr 4 rfl) hcy.out).mono ?_
  intro e w4 h
  obtain ⟨s102, c102, n102, m102, i102, j102, rfl, hA, hb, hC102⟩ := h.eq rfl rfl
  replace E := hid ((E.out.up hb).addArr hA (fun b _ hq => E.out.res (Ext.refl _) hq))
  replace hC102 := hid hC102
  clear hA hb h
  (try simp only [List.cons_append, List.nil_append, List.set_cons_zero, List.set_cons_succ] at E)
  obtain ⟨b, hb⟩ : ∃ a, a = extS (!first) y x := ⟨_, rfl⟩
  rw [← hb] at E hC102 ⊢
  obtain ⟨e2, he2⟩ : ∃ a, a = extE (!first) y x := ⟨_, rfl⟩
  rw [← he2] at XE2 XR ⊢
  replace hb := hid hb
  replace he2 := hid he2
  go_upto_region 8 with (refine wpl_store4 rfl (.tmp 11) (.tmp 60) rfl _ rfl rfl ((E.out.alloc _).hdr 8 rfl) ?_; intro V2 HV CV; replace E := hid ((E.out.alloc _).chg 8 rfl CV HV); clear CV HV; (try simp only [List.cons_append, List.nil_append, List.set_cons_zero, List.set_cons_succ] at E))
  generalize w4.heap.size = p11 at E ⊢
  clear EX EY
  by_cases f1 : e1 = 0
  case neg =>
    have cb1 : (e1 != 0) = true := by simpa using f1
    have hn := hid (XE1.out f1)
    have hv := hid (joinS_no (last := !first) (x := x) (y := y) (by rw [hn.out]; exact f1))
    replace f1 := hid f1
    go_wp2_with (refine wpl_store4 rfl (.tmp 6) (.tmp 64) rfl _ rfl rfl (E.out.hdr 2 rfl) ?_; intro V HV CV; replace E := hid (E.out.chg 2 rfl CV HV))
    exact bodyPost_ret (end_arr2 rfl HV rfl rfl) rfl (hR.out _ _ (RetAEC.zero hv.out hn.out E.out.ext))
  have cb1 : (e1 != 0) = false := by simpa using f1
  by_cases f2 : e2 = 0
  case neg =>
    have cb2 : (e2 != 0) = true := by simpa using f2
    have hn := hid (XE2.out f2 f1)
    have hv := hid (joinS_no (last := !first) (x := x) (y := y) (by rw [hn.out]; exact f2))
    replace f1 := hid f1
    replace f2 := hid f2
    go_wp2_with (refine wpl_store4 rfl (.tmp 6) (.tmp 68) rfl _ rfl rfl (E.out.hdr 2 rfl) ?_; intro V HV CV; replace E := hid (E.out.chg 2 rfl CV HV))
    exact bodyPost_ret (end_arr2 rfl HV rfl rfl) rfl (hR.out _ _ (RetAEC.zero hv.out hn.out E.out.ext))
  have cb2 : (e2 != 0) = false := by simpa using f2
  have hr := hid (XR.out f1 f2)
  have haA : a = extA (!first) x y := by rw [ha.out]; exact extS_yes (by rw [← he1.out]; exact f1)
  have hbA : b = extA (!first) y x := by rw [hb.out]; exact extS_yes (by rw [← he2.out]; exact f2)
  replace f1 := hid f1
  replace f2 := hid f2
  clear XE1 XE2 XR
  obtain ⟨A, hA⟩ : ∃ A, A = jA (!first) x y := ⟨_, rfl⟩
  obtain ⟨B, hB⟩ : ∃ A, A = jB (!first) x y := ⟨_, rfl⟩
  have sa : Hid (a.shape = A) := hid (by rw [haA, hA]; rfl)
  have sb : Hid (b.shape = B) := hid (by rw [hbA, hB, jB_eq]; rfl)
  have na' : Hid (a.nums = exL x.shape (cnt A).toNat x.nums) := hid (by rw [haA, hA]; rfl)
  have ia' : Hid (a.items = exL x.shape (cnt A).toNat x.items) := hid (by rw [haA, hA]; rfl)
  have nb' : Hid (b.nums = exL y.shape (cnt B).toNat y.nums) := hid (by rw [hbA, hB, jB_eq]; rfl)
  have ib' : Hid (b.items = exL y.shape (cnt B).toNat y.items) := hid (by rw [hbA, hB, jB_eq]; rfl)
  have ka : Hid (x.kind = a.kind) := hid (by rw [haA]; rfl)
  have kb' : Hid (x.kind = b.kind) := hid (by rw [hbA]; exact k.out)
  have Fa : Hid (Flat a) := hid (by rw [haA]; exact flat_ext c.out)
  have Fb : Hid (Flat b) := hid (by rw [hbA]; exact flat_ext d.out)
  have za : Hid (szA a = (cnt A).toNat) := hid (by rw [haA, hA]; exact szA_ext c.out)
  have zb : Hid (szA b = (cnt B).toNat) := hid (by rw [hbA, hB, jB_eq]; exact szA_ext d.out)
  have lA : a.shape.length = r := by rw [sa.out, hA, hrr.out]; exact jA_len hr.out
  have lB : b.shape.length = r := by rw [sb.out, hB, hrr.out]; exact jB_len hr.out
  clear haA hbA
  replace lA := hid lA
  replace lB := hid lB
  replace hA := hid hA
  replace hB := hid hB
  go_upto_if 72 with (fail)
  go_cut [13] (fun v wc => v = .int .i64 ((jX (!first) x y : Nat) : Int) ∧ Env w S wc [.obj w.heap.size (.cells #[.int .i64 x.kind, .slice sx x.shape.length cx, .slice nx x.nums.length mx, .slice ix x.items.length jx] 26 (0, 0)), .obj (w.heap.size + 1) (.cells #[.int .i64 y.kind, .slice sy y.shape.length cy, .slice ny y.nums.length my, .slice iy y.items.length jy] 26 (0, 0)), .obj (w.heap.size + 1 + 1) (.cells #[.int .i64 0, .slice none 0 0, .slice none 0 0, .slice none 0 0] 26 (0, 0)), .arr x sx nx ix, .arr y sy ny iy, .arr a s101 n101 i101, .obj p9 (.cells #[.int .i64 a.kind, .slice s101 a.shape.length c101, .slice n101 a.nums.length m101, .slice i101 a.items.length j101] 26 (0, 0)), .arr b s102 n102 i102, .obj p11 (.cells #[.int .i64 b.kind, .slice s102 b.shape.length c102, .slice n102 b.nums.length m102, .slice i102 b.items.length j102] 26 (0, 0))])
  case first =>
    cases first with
    | false =>
      have f1 : ((r : Nat) : Int) - 1 = ((jX (!false) x y : Nat) : Int) := by rw [hrr.out]; unfold jX; simp; rw [← hrr.out]; omega
      go_wp2_with fail
      go_meet
      case rel => exact ⟨by rw [← f1], E.out⟩
    | true =>
      go_wp2_with fail
      go_meet
      case rel => exact ⟨rfl, E.out⟩
  case rest =>
  clear E
  obtain ⟨rfl, E⟩ := hcut
  replace E := hid E
  obtain ⟨ax, haxx⟩ : ∃ r, r = jX (!first) x y := ⟨_, rfl⟩
  rw [← haxx] at hax ⊢
  replace haxx := hid haxx
  replace E := hid E.out.row0I
  (try simp only [List.cons_append, List.nil_append, List.set_cons_zero, List.set_cons_succ] at E)
  obtain ⟨q60, q61, q62, q63⟩ := (E.out.hdr 6 rfl).all
  go_upto_region 17 with (at_builtin; refine wplE_appI E.out 9 rfl rfl (.const (.slice none 0 0)) (.tmp 74) rfl rfl _ _ _ a.shape rfl (E.out.arr 5 rfl).shape (by have q := lA.out; (try simp only [List.length_nil]); omega) ?_; intro V3 so so2 E1; rw [List.nil_append] at E1 ⊢; clear E; have E := hid E1; clear E1; (try simp only [List.cons_append, List.nil_append, List.set_cons_zero, List.set_cons_succ] at E))
  clear q60 q61 q62 q63
  go_loopw [15] (fun v wr => ∃ i : Nat, i ≤ r ∧ v = .int .i64 i ∧ Hid (∀ j, j < i → j ≠ ax → a.shape.getD j 0 = b.shape.getD j 0) ∧ Env w S wr [.obj w.heap.size (.cells #[.int .i64 x.kind, .slice sx x.shape.length cx, .slice nx x.nums.length mx, .slice ix x.items.length jx] 26 (0, 0)), .obj (w.heap.size + 1) (.cells #[.int .i64 y.kind, .slice sy y.shape.length cy, .slice ny y.nums.length my, .slice iy y.items.length jy] 26 (0, 0)), .obj (w.heap.size + 1 + 1) (.cells #[.int .i64 0, .slice none 0 0, .slice none 0 0, .slice none 0 0] 26 (0, 0)), .arr x sx nx ix, .arr y sy ny iy, .arr a s101 n101 i101, .obj p9 (.cells #[.int .i64 a.kind, .slice s101 a.shape.length c101, .slice n101 a.nums.length m101, .slice i101 a.items.length j101] 26 (0, 0)), .arr b s102 n102 i102, .obj p11 (.cells #[.int .i64 b.kind, .slice s102 b.shape.length c102, .slice n102 b.nums.length m102, .slice i102 b.items.length j102] 26 (0, 0)), .rowI so so2 a.shape]) (fun v _ => r - (intOf v).toNat)
  case atStart => exact ⟨0, Nat.zero_le _, rfl, hid (fun j hj => by omega), E.out⟩
  case round =>
    clear E
    obtain ⟨i, hi, rfl, hsame, E⟩ := hrel
    replace E := hid E
    by_cases hlt : i < r
    · by_cases e : i = ax
      · have eb : ((i : Int) != (ax : Int)) = false := by simp [e]
        have hsame2 : Hid (∀ j, j < i + 1 → j ≠ ax → a.shape.getD j 0 = b.shape.getD j 0) := hid (fun j hj hne => hsame.out j (by omega) hne)
        replace e := hid e
        go_upto_region 19 with (fail)
        refine wp_region_mono (Sees wr []) [] (fun k v u u' => match k with  | _ => False) (fun _ _ h e => h.up e) (Sees.start (all_nil)) (by kernel_rfl) (by kernel_rfl) ?_
        repeat (first | (refine m_plain (v := ?_) (by rfl) (by rfl) ?_ ?_; rotate_left; (intro wz hSw; obtain ⟨-, hSc⟩ := hSw; (try simp only [List.forall_mem_cons, List.forall_mem_nil, and_true] at hSc); go_simp; (first | done | with_reducible rfl)); (intro K hK; (try simp only [Act.put, List.setIfInBounds_toArray, List.set_cons_zero, List.set_cons_succ]); refine hK _ _ ?_; clear hK K)) | (refine m_skip (by rfl) (by rfl) ?_; (intro K hK; (try simp only [Act.put, List.setIfInBounds_toArray, List.set_cons_zero, List.set_cons_succ]); refine hK _ _ ?_; clear hK K)))
        refine m_nil ?_
        intro wf hSf hAf
        replace E := hid (E.out.up hSf.1)
        clear hSf hAf
        go_wp2_with fail
        go_roundw
        case rel => exact ⟨i + 1, by omega, by go_num, hsame2, E.out⟩
        case measure => simp [intOf]; omega
      · have eb : ((i : Int) != (ax : Int)) = true := by simp; omega
        obtain ⟨b1, o1, hs1, hbl1, hS1, hc1⟩ := (E.out.arr 5 rfl).shape.at (k := i) (by rw [lA.out]; exact hlt)
        obtain ⟨b2, o2, hs2, hbl2, hS2, hc2⟩ := (E.out.arr 7 rfl).shape.at (k := i) (by rw [lB.out]; exact hlt)
        have hdif : Hid (a.shape.getD i 0 ≠ b.shape.getD i 0 → difB a.shape b.shape ax r = true) := hid (fun q => difB_true hlt e q)
        have hsame2 : Hid (a.shape.getD i 0 = b.shape.getD i 0 → ∀ j, j < i + 1 → j ≠ ax → a.shape.getD j 0 = b.shape.getD j 0) := hid (fun q j hj hne => by
          rcases Nat.lt_succ_iff_lt_or_eq.1 hj with h1 | h1
          · exact hsame.out j h1 hne
          · rw [h1]; exact q)
        generalize a.shape.getD i 0 = da at hc1 hdif hsame2
        generalize b.shape.getD i 0 = db' at hc2 hdif hsame2
        subst hs1
        subst hs2
        obtain ⟨q60, q61, q62, q63⟩ := (E.out.hdr 6 rfl).all
        obtain ⟨q80, q81, q82, q83⟩ := (E.out.hdr 8 rfl).all
        have i0 : (0 : Int) ≤ (i : Int) := by omega
        have i1 : (i : Int) < (a.shape.length : Int) := by rw [lA.out]; omega
        have i2 : (i : Int) < (b.shape.length : Int) := by rw [lB.out]; omega
        replace e := hid e
        go_upto_region 19 with (fail)
        refine wp_region_mono (Sees wr [(⟨p9, 1, none⟩, .slice (some ⟨b1, o1, none⟩) a.shape.length c101), (⟨p11, 1, none⟩, .slice (some ⟨b2, o2, none⟩) b.shape.length c102), (⟨b1, o1 + i, none⟩, .int .i64 da), (⟨b2, o2 + i, none⟩, .int .i64 db')]) [] (fun k v u u' => match k with  | _ => False) (fun _ _ h e => h.up e) (Sees.start (all_cons (q61) (all_cons (q81) (all_cons (hc1) (all_cons (hc2) (all_nil)))))) (by kernel_rfl) (by kernel_rfl) ?_
        repeat (first | (refine m_plain (v := ?_) (by rfl) (by rfl) ?_ ?_; rotate_left; (intro wz hSw; obtain ⟨-, hSc⟩ := hSw; (try simp only [List.forall_mem_cons, List.forall_mem_nil, and_true] at hSc); go_simp; (first | done | with_reducible rfl)); (intro K hK; (try simp only [Act.put, List.setIfInBounds_toArray, List.set_cons_zero, List.set_cons_succ]); refine hK _ _ ?_; clear hK K)) | (refine m_skip (by rfl) (by rfl) ?_; (intro K hK; (try simp only [Act.put, List.setIfInBounds_toArray, List.set_cons_zero, List.set_cons_succ]); refine hK _ _ ?_; clear hK K)))
        refine m_nil ?_
        intro wf hSf hAf
        replace E := hid (E.out.up hSf.1)
        clear hSf hAf hc1 hc2
        clear q60 q61 q62 q63 q80 q81 q82 q83
        by_cases c1 : da = db'
        · have c1b : (da != db') = false := by simp [c1]
          have hs3 := hid (hsame2.out c1)
          replace c1 := hid c1
          go_wp2_with fail
          go_roundw
          case rel => exact ⟨i + 1, by omega, by go_num, hs3, E.out⟩
          case measure => simp [intOf]; omega
        · have c1b : (da != db') = true := by simpa using c1
          have hd1 := hid (hdif.out c1)
          have hn : Hid (joinE (!first) x y = 16) := hid (joinE_d c.out d.out k.out hr.out (by rw [← hA.out, ← hB.out, ← sa.out, ← sb.out, ← haxx.out, ← hrr.out]; exact hd1.out))
          have hv := hid (joinS_no (last := !first) (x := x) (y := y) (by rw [hn.out]; decide))
          replace c1 := hid c1
          go_wp2_with (refine wpl_store4 rfl (.tmp 6) (.tmp 97) rfl _ rfl rfl (E.out.hdr 2 rfl) ?_; intro V HV CV; replace E := hid (E.out.chg 2 rfl CV HV))
          exact bodyPost_ret (end_arr2 rfl HV rfl rfl) rfl (hR.out _ _ (RetAEC.zero hv.out hn.out E.out.ext))
    · obtain rfl : i = r := by omega
      have hdif : Hid (difB a.shape b.shape ax i = false) := hid (difB_none hsame.out)
      have hG : Hid (Geo (!first) x y) := hid (geo xok.out.2.1 yok.out.2.1 hr.out (by rw [← hA.out, ← hB.out, ← sa.out, ← sb.out, ← haxx.out, ← hrr.out]; exact hdif.out))
      have sA : Hid (shapeB a.shape = true) := hid (by rw [sa.out, hA.out]; exact hG.out.a)
      have sB : Hid (shapeB b.shape = true) := hid (by rw [sb.out, hB.out]; exact hG.out.b)
      obtain ⟨Sx, hSx⟩ : ∃ s, s = jS (!first) x y := ⟨_, rfl⟩
      obtain ⟨pa, hpa⟩ : ∃ n, n = a.shape.getD ax 0 := ⟨_, rfl⟩
      obtain ⟨pb, hpb⟩ : ∃ n, n = b.shape.getD ax 0 := ⟨_, rfl⟩
      have hSA : Hid (a.shape.set ax (pa + pb) = Sx) := hid (by rw [hSx, hpa, hpb, sa.out, sb.out, hA.out, hB.out, haxx.out]; rfl)
      have lS : Hid (Sx.length = i) := hid (by rw [← hSA.out, List.length_set, lA.out])
      have axA : ax < a.shape.length := by rw [lA.out]; exact hax
      have axB : ax < b.shape.length := by rw [lB.out]; exact hax
      have ba : 0 ≤ pa ∧ pa ≤ 65536 := by rw [hpa]; exact dim_bd sA.out axA
      have bb : 0 ≤ pb ∧ pb ≤ 65536 := by rw [hpb]; exact dim_bd sB.out axB
      obtain ⟨gs, hso, -⟩ := (E.out.rowI 9 rfl).set (j := ax) axA
      subst hso
      obtain ⟨b1, o1, hs1, hbl1, -, hc1⟩ := (E.out.rowIr 9 rfl (by rw [lA.out]; omega)).at axA
      injection hs1 with hs1
      injection hs1 with e1' e2'
      subst e1'
      subst e2'
      obtain ⟨b2, o2, hs2, hbl2, hS2, hc2⟩ := (E.out.arr 7 rfl).shape.at axB
      subst hs2
      rw [← hpa, Nat.zero_add] at hc1
      rw [← hpb] at hc2
      have hcap := hid (OwnI.cap (E.out.rowI 9 rfl))
      replace hpa := hid hpa
      replace hpb := hid hpb
      replace hSx := hid hSx
      obtain ⟨q80, q81, q82, q83⟩ := (E.out.hdr 8 rfl).all
      go_upto_region 21 with (fail)
      have i0 : (0 : Int) ≤ (ax : Int) := by omega
      have i1 : (ax : Int) < (a.shape.length : Int) := by omega
      have i2 : (ax : Int) < (b.shape.length : Int) := by omega
      have hwr : IntKind.i64.wrap (pa + pb) = pa + pb := IntWalk.i64_in _ (by omega)
      refine wp_region_mono_tail 13 (Sees wr [(⟨gs, ax, none⟩, .int .i64 pa), (⟨p11, 1, none⟩, .slice (some ⟨b2, o2, none⟩) b.shape.length c102), (⟨b2, o2 + ax, none⟩, .int .i64 pb)]) [] (fun k v u u' => match k with  | _ => False) (fun _ _ h e => h.up e) (Sees.start (all_cons (hc1) (all_cons (q81) (all_cons (hc2) (all_nil))))) (by kernel_rfl) (by kernel_rfl) ?_
      simp only [List.take_succ_cons, List.take_zero, List.drop_succ_cons, List.drop_zero]
      repeat (first | (refine m_plain (v := ?_) (by rfl) (by rfl) ?_ ?_; rotate_left; (intro wz hSw; obtain ⟨-, hSc⟩ := hSw; (try simp only [List.forall_mem_cons, List.forall_mem_nil, and_true] at hSc); go_simp; (first | done | with_reducible rfl)); (intro K hK; (try simp only [Act.put, List.setIfInBounds_toArray, List.set_cons_zero, List.set_cons_succ]); refine hK _ _ ?_; clear hK K)) | (refine m_skip (by rfl) (by rfl) ?_; (intro K hK; (try simp only [Act.put, List.setIfInBounds_toArray, List.set_cons_zero, List.set_cons_succ]); refine hK _ _ ?_; clear hK K)))
      refine m_nil ?_
      intro wf hSf hAf
      replace E := hid (E.out.up hSf.1)
      clear hSf hAf hwr hc1 hc2 i0 i1 i2
      clear q80 q81 q82 q83
      refine wplE_setI E.out 9 rfl (by rfl) (.tmp 110) (.tmp 109) (by rfl) ax axA (pa + pb) (fun g e => by cases e; simp [Act.eval, Act.put]) (by rfl) ?_
      intro V3 E1
      clear E
      have E := hid E1
      clear E1
      (try simp only [List.cons_append, List.nil_append, List.set_cons_zero, List.set_cons_succ] at E)
      rw [hSA.out] at E
      replace hcap : Hid (Sx.length ≤ so2) := hid (by rw [lS.out, ← lA.out]; exact hcap.out)
      replace E := hid (E.out.doneI 9 rfl (by rw [lS.out]; omega))
      (try simp only [List.cons_append, List.nil_append, List.set_cons_zero, List.set_cons_succ] at E)
      generalize (some ⟨b2, o2, none⟩ : Option Addr) = s102 at E ⊢
      have lS' : Hid (Sx.length = a.shape.length) := hid (by rw [lS.out, lA.out])
      go_wp2_with fail
      refine (lenP (n := a.shape.length) lS'.out (fun h => ref03_Dims Sx _ _ _ V3 h) (E.out.ints 9 rfl)).mono ?_
      rintro e w5 ⟨rfl, rfl⟩
      by_cases hsS : dimsE Sx = 0
      case neg =>
        have sb2 : (dimsE Sx != 0) = true := by simpa using hsS
        have hn : Hid (joinE (!first) x y = 21) := hid (joinE_s c.out d.out k.out hr.out (by rw [← hA.out, ← hB.out, ← sa.out, ← sb.out, ← haxx.out, ← hrr.out]; exact hdif.out) (Or.inl (by rw [← hSx.out]; cases q : shapeB Sx with | false => rfl | true => exact absurd (dimsE_zero.2 q) hsS)))
        have hv := hid (joinS_no (last := !first) (x := x) (y := y) (by rw [hn.out]; decide))
        replace hsS := hid hsS
        go_wp2_with (refine wpl_store4 rfl (.tmp 6) (.tmp 114) rfl _ rfl rfl (E.out.hdr 2 rfl) ?_; intro V HV CV; replace E := hid (E.out.chg 2 rfl CV HV))
        exact bodyPost_ret (end_arr2 rfl HV rfl rfl) rfl (hR.out _ _ (RetAEC.zero hv.out hn.out E.out.ext))
      have sb2 : (dimsE Sx != 0) = false := by simpa using hsS
      have hsT : Hid (shapeB Sx = true) := hid (dimsE_zero.1 hsS)
      replace hsS := hid hsS
      obtain ⟨m, hm⟩ : ∃ m, m = jM (!first) x y := ⟨_, rfl⟩
      obtain ⟨p, hp⟩ : ∃ m, m = jP (!first) x y := ⟨_, rfl⟩
      obtain ⟨q, hq⟩ : ∃ m, m = jQ (!first) x y := ⟨_, rfl⟩
      have gm : Hid (cnt (a.shape.take ax) = (m : Int)) := hid (by rw [sa.out, hA.out, haxx.out, hm, hG.out.ma]; exact hG.out.m.symm)
      have gp : Hid (cnt (a.shape.drop ax) = (p : Int)) := hid (by rw [sa.out, hA.out, haxx.out, hp]; exact hG.out.pa)
      have gq : Hid (cnt (b.shape.drop ax) = (q : Int)) := hid (by rw [sb.out, hB.out, haxx.out, hq]; exact hG.out.pb)
      have gna : Hid (szA a = m * p) := hid (by rw [za.out, hA.out, hm, hp]; exact hG.out.na)
      have gnb : Hid (szA b = m * q) := hid (by rw [zb.out, hB.out, hm, hq]; exact hG.out.nb)
      have gns : (cnt Sx).toNat = m * p + m * q := by rw [hSx.out, hm, hp, hq]; exact hG.out.ns
      have cS := cnt_le hsT.out
      have gns2 : m * p + m * q ≤ 65536 := by omega
      have cA1 := (cnt_le (shapeB_take sA.out ax))
      rw [gm.out] at cA1
      have cA2 := (cnt_le (shapeB_drop sA.out ax))
      rw [gp.out] at cA2
      have cB2 := (cnt_le (shapeB_drop sB.out ax))
      rw [gq.out] at cB2
      clear cS
      replace gns := hid gns
      replace gns2 := hid gns2
      replace hm := hid hm
      replace hp := hid hp
      replace hq := hid hq
      obtain ⟨q00, q01, q02, q03⟩ := (E.out.hdr 0 rfl).all
      go_upto_region 25 with (refine wpl_store4 rfl (.tmp 16) (.tmp 118) rfl _ rfl rfl ((E.out.alloc _).hdr 10 rfl) ?_; intro V4 HV CV; replace E := hid ((E.out.alloc _).chg 10 rfl CV HV); clear CV HV; (try simp only [List.cons_append, List.nil_append, List.set_cons_zero, List.set_cons_succ] at E))
      clear q00 q01 q02 q03
      generalize V3.heap.size = po at E ⊢
      obtain ⟨q60, q61, q62, q63⟩ := (E.out.hdr 6 rfl).all
      go_wp2_with fail
      clear q60 q61 q62 q63
      refine (ref20_blocks a.shape _ _ ax _ _ (E.out.arr 5 rfl).shape sA.out (by omega) hC101.out.1).mono ?_
      rintro e w7 ⟨rfl, hb⟩
      replace E := hid (E.out.up hb)
      clear hb
      rw [gm.out, gp.out]
      obtain ⟨q80, q81, q82, q83⟩ := (E.out.hdr 8 rfl).all
      go_wp2_with fail
      clear q80 q81 q82 q83
      refine (ref20_blocks b.shape _ _ ax _ _ (E.out.arr 7 rfl).shape sB.out (by omega) hC102.out.1).mono ?_
      rintro e w8 ⟨rfl, hb⟩
      replace E := hid (E.out.up hb)
      clear hb
      rw [gq.out]
      generalize cnt (b.shape.take ax) = dum
      replace E := hid (((E.out.row0I).row0A))
      (try simp only [List.cons_append, List.nil_append, List.set_cons_zero, List.set_cons_succ] at E)
      replace E := hid (E.out.pick 12 rfl)
      simp only [List.eraseIdx_cons_succ, List.eraseIdx_cons_zero] at E
      replace E := hid (E.out.pick 12 rfl)
      simp only [List.eraseIdx_cons_succ, List.eraseIdx_cons_zero] at E
      go_upto_region 28 with (fail)
      go_loopw [21] (fun v wr => ∃ (kk : Nat) (na : Option Addr) (nc : Nat) (ia : Option Addr) (ic : Nat), kk ≤ m ∧ v = .int .i64 kk ∧ Env w S wr [.rowI na nc (joinL p q a.nums b.nums kk), .rowA ia ic (joinL p q a.items b.items kk), .obj w.heap.size (.cells #[.int .i64 x.kind, .slice sx x.shape.length cx, .slice nx x.nums.length mx, .slice ix x.items.length jx] 26 (0, 0)), .obj (w.heap.size + 1) (.cells #[.int .i64 y.kind, .slice sy y.shape.length cy, .slice ny y.nums.length my, .slice iy y.items.length jy] 26 (0, 0)), .obj (w.heap.size + 1 + 1) (.cells #[.int .i64 0, .slice none 0 0, .slice none 0 0, .slice none 0 0] 26 (0, 0)), .arr x sx nx ix, .arr y sy ny iy, .arr a s101 n101 i101, .obj p9 (.cells #[.int .i64 a.kind, .slice s101 a.shape.length c101, .slice n101 a.nums.length m101, .slice i101 a.items.length j101] 26 (0, 0)), .arr b s102 n102 i102, .obj p11 (.cells #[.int .i64 b.kind, .slice s102 b.shape.length c102, .slice n102 b.nums.length m102, .slice i102 b.items.length j102] 26 (0, 0)), .ints Sx (some ⟨gs, 0, none⟩), .obj po (.cells #[.int .i64 x.kind, .slice (some ⟨gs, 0, none⟩) a.shape.length so2, .slice na (joinL p q a.nums b.nums kk).length nc, .slice ia (joinL p q a.items b.items kk).length ic] 26 (0, 0))]) (fun v _ => m - (intOf v).toNat)
      case atStart => exact ⟨0, none, 0, none, 0, Nat.zero_le _, rfl, E.out⟩
      case round =>
        clear E
        obtain ⟨kk, na, nc, ia, ic, hkm, rfl, E⟩ := hrel
        replace E := hid E
        by_cases hlt : kk < m
        · obtain ⟨n0, hn0⟩ : ∃ n, n = joinL p q a.nums b.nums kk := ⟨_, rfl⟩
          obtain ⟨i0, hi0⟩ : ∃ n, n = joinL p q a.items b.items kk := ⟨_, rfl⟩
          have hjl : kk * (p + q) ≤ 65536 := Nat.le_trans (Nat.mul_le_mul_right _ (Nat.le_of_lt hlt)) (by rw [Nat.mul_add]; exact gns2.out)
          have hn0l : n0.length ≤ 65536 := by rw [hn0]; exact Nat.le_trans (joinL_le _ _ _ _ _) hjl
          have hi0l : i0.length ≤ 65536 := by rw [hi0]; exact Nat.le_trans (joinL_le _ _ _ _ _) hjl
          have pq1 : p ≤ 65536 ∧ q ≤ 65536 := by omega
          rw [← hn0, ← hi0] at E
          have s1 : n0 ++ blkL a.nums kk p ++ blkL b.nums kk q = joinL p q a.nums b.nums (kk + 1) := by rw [hn0, List.append_assoc]; rfl
          have s2 : i0 ++ blkL a.items kk p ++ blkL b.items kk q = joinL p q a.items b.items (kk + 1) := by rw [hi0, List.append_assoc]; rfl
          clear hjl
          replace hn0 := hid hn0
          replace hi0 := hid hi0
          go_upto_region 31 with (fail)
          have z1 : n0 ++ (blkL a.nums kk p).take 0 = n0 := by simp
          have z2 : i0 ++ (blkL a.items kk p).take 0 = i0 := by simp
          replace z1 := hid z1
          replace z2 := hid z2
          go_loopw [22] (fun v wr => ∃ (j : Nat) (na : Option Addr) (nc : Nat) (ia : Option Addr) (ic : Nat), j ≤ p ∧ v = .int .i64 j ∧ Env w S wr [.rowI na nc (n0 ++ (blkL a.nums kk p).take j), .rowA ia ic (i0 ++ (blkL a.items kk p).take j), .obj w.heap.size (.cells #[.int .i64 x.kind, .slice sx x.shape.length cx, .slice nx x.nums.length mx, .slice ix x.items.length jx] 26 (0, 0)), .obj (w.heap.size + 1) (.cells #[.int .i64 y.kind, .slice sy y.shape.length cy, .slice ny y.nums.length my, .slice iy y.items.length jy] 26 (0, 0)), .obj (w.heap.size + 1 + 1) (.cells #[.int .i64 0, .slice none 0 0, .slice none 0 0, .slice none 0 0] 26 (0, 0)), .arr x sx nx ix, .arr y sy ny iy, .arr a s101 n101 i101, .obj p9 (.cells #[.int .i64 a.kind, .slice s101 a.shape.length c101, .slice n101 a.nums.length m101, .slice i101 a.items.length j101] 26 (0, 0)), .arr b s102 n102 i102, .obj p11 (.cells #[.int .i64 b.kind, .slice s102 b.shape.length c102, .slice n102 b.nums.length m102, .slice i102 b.items.length j102] 26 (0, 0)), .ints Sx (some ⟨gs, 0, none⟩), .obj po (.cells #[.int .i64 x.kind, .slice (some ⟨gs, 0, none⟩) a.shape.length so2, .slice na (n0 ++ (blkL a.nums kk p).take j).length nc, .slice ia (i0 ++ (blkL a.items kk p).take j).length ic] 26 (0, 0))]) (fun v _ => p - (intOf v).toNat)
          case atStart => exact ⟨0, na, nc, ia, ic, Nat.zero_le _, rfl, by rw [z1.out, z2.out]; exact E.out⟩
          case round =>
            clear E na nc ia ic
            obtain ⟨j, na, nc, ia, ic, hj, rfl, E⟩ := hrel
            replace E := hid E
            by_cases hl2 : j < p
            · have hix := idx_lt hlt hl2
              obtain ⟨kp, hkp⟩ : ∃ n, n = kk * p := ⟨_, rfl⟩
              rw [← hkp] at hix
              have hg2 := gns2.out
              have hmp : m * p ≤ 65536 := by omega
              have hw1 : IntKind.i64.wrap ((kk : Int) * (p : Int)) = (kp : Int) := by rw [← Int.natCast_mul, ← hkp]; exact IntWalk.i64_in _ (by omega)
              have hw2 : IntKind.i64.wrap ((kp : Int) + (j : Int)) = ((kp + j : Nat) : Int) := by rw [Int.natCast_add]; exact IntWalk.i64_in _ (by omega)
              have hz : kp + j < szA a := by rw [gna.out]; exact hix
              have hN : putN x.kind (n0 ++ (blkL a.nums kk p).take j) (atS a ((kp + j : Nat) : Int)) = n0 ++ (blkL a.nums kk p).take (j + 1) := by rw [putN_cell Fa.out ka.out hz, List.append_assoc, hkp, ← blk_step hl2]
              have hI : putI x.kind (i0 ++ (blkL a.items kk p).take j) (atS a ((kp + j : Nat) : Int)) = i0 ++ (blkL a.items kk p).take (j + 1) := by rw [putI_cell Fa.out ka.out hz, List.append_assoc, hkp, ← blk_step hl2]
              have hbN : (n0 ++ (blkL a.nums kk p).take j).length ≤ 1000000 := by rw [List.length_append]; have := take_len_le (blkL a.nums kk p) j; omega
              have hbI : (i0 ++ (blkL a.items kk p).take j).length ≤ 1000000 := by rw [List.length_append]; have := take_len_le (blkL a.items kk p) j; omega
              obtain ⟨nn, hnn⟩ : ∃ l, l = n0 ++ (blkL a.nums kk p).take j := ⟨_, rfl⟩
              obtain ⟨ii, hii⟩ : ∃ l, l = i0 ++ (blkL a.items kk p).take j := ⟨_, rfl⟩
              rw [← hnn, ← hii] at E
              rw [← hnn] at hN hbN
              rw [← hii] at hI hbI
              replace hnn := hid hnn
              replace hii := hid hii
              clear hix hmp hg2
              replace hkp := hid hkp
              replace hN := hid hN
              replace hI := hid hI
              replace hbN := hid hbN
              replace hbI := hid hbI
              replace hz := hid hz
              generalize kp + j = t at hN hI hw2 hz
              go_upto_region 33 with (fail)
              obtain ⟨q120, q121, q122, q123⟩ := (E.out.hdr 12 rfl).all
              obtain ⟨q80, q81, q82, q83⟩ := (E.out.hdr 8 rfl).all
              obtain ⟨T, hT1, hT2, hT3⟩ := E.out.tw
              refine wp_region_mono_tail 8 (Sees wr [(⟨po, 0, none⟩, .int .i64 x.kind), (⟨po, 1, none⟩, .slice (some ⟨gs, 0, none⟩) a.shape.length so2), (⟨po, 2, none⟩, .slice na nn.length nc), (⟨po, 3, none⟩, .slice ia ii.length ic), (⟨p9, 0, none⟩, .int .i64 a.kind), (⟨p9, 1, none⟩, .slice s101 a.shape.length c101), (⟨p9, 2, none⟩, .slice n101 a.nums.length m101), (⟨p9, 3, none⟩, .slice i101 a.items.length j101)]) [7] (fun k v u u' => match k with | 7 => RetA u T (atS a t) (.returned v) u' | _ => False) (fun _ _ h e => h.up e) (Sees.start (all_cons (q120) (all_cons (q121) (all_cons (q122) (all_cons (q123) (all_cons ((E.out.hdr 8 rfl).c0) (all_cons ((E.out.hdr 8 rfl).c1) (all_cons ((E.out.hdr 8 rfl).c2) (all_cons ((E.out.hdr 8 rfl).c3) (all_nil)))))))))) (by kernel_rfl) (by kernel_rfl) ?_
              simp only [List.take_succ_cons, List.take_zero, List.drop_succ_cons, List.drop_zero]
              repeat (first | (refine m_plain (v := ?_) (by rfl) (by rfl) ?_ ?_; rotate_left; (intro wz hSw; obtain ⟨-, hSc⟩ := hSw; (try simp only [List.forall_mem_cons, List.forall_mem_nil, and_true] at hSc); go_simp; (first | done | with_reducible rfl)); (intro K hK; (try simp only [Act.put, List.setIfInBounds_toArray, List.set_cons_zero, List.set_cons_succ]); refine hK _ _ ?_; clear hK K)) | (refine m_skip (by rfl) (by rfl) ?_; (intro K hK; (try simp only [Act.put, List.setIfInBounds_toArray, List.set_cons_zero, List.set_cons_succ]); refine hK _ _ ?_; clear hK K)))
              refine m_make (by rfl) (by rfl) ?_ ?_
              · intro wz hSw hdep R hRz
                obtain ⟨hSe, hSc⟩ := hSw
                (try simp only [List.forall_mem_cons, List.forall_mem_nil, and_true] at hSc)
                unfold does
                (go_simp; refine Calls.mono (ref03_At a _ _ _ _ _ _ (t : Int) _ wz (ArrAt.up (ArrAt.mono (fun b _ h => hT1 b h) _ (E.out.arr 7 rfl)) hSe)) ?_; intro e wq h; obtain ⟨v, rfl, h1⟩ := retA_arm hT2 hSe (h.eq rfl); exact ⟨_, rfl, hRz.out _ _ h1⟩)
              intro v7 u7 x7 hG7 K hK
              have hF7 := hG7.fact
              (try dsimp only at hF7)
              obtain ⟨s7, c7, n7, m7, i7, j7, he, hA7, hb7⟩ := hF7
              injection he with he
              subst he
              (try simp only [Act.put, List.setIfInBounds_toArray, List.set_cons_zero, List.set_cons_succ]); refine hK _ _ ?_; clear hK K
              repeat (first | (refine m_plain (v := ?_) (by rfl) (by rfl) ?_ ?_; rotate_left; (intro wz hSw; obtain ⟨-, hSc⟩ := hSw; (try simp only [List.forall_mem_cons, List.forall_mem_nil, and_true] at hSc); go_simp; (first | done | with_reducible rfl)); (intro K hK; (try simp only [Act.put, List.setIfInBounds_toArray, List.set_cons_zero, List.set_cons_succ]); refine hK _ _ ?_; clear hK K)) | (refine m_skip (by rfl) (by rfl) ?_; (intro K hK; (try simp only [Act.put, List.setIfInBounds_toArray, List.set_cons_zero, List.set_cons_succ]); refine hK _ _ ?_; clear hK K)))
              refine m_nil ?_
              intro wf hSf hAf
              have hAt := hid (ArrAt.mono (fun b _ q => hT3 b q) _ (hA7.up (hAf 7 _ rfl)))
              replace E := hid (E.out.up hSf.1)
              clear hSf hAf hG7 hA7 hb7 hT1 hT2 hT3 hw1 hw2
              clear q120 q121 q122 q123 q80 q81 q82 q83
              have hl := at_len a (t : Int)
              go_wp2_with fail
              refine (ref03_Put x.kind (some ⟨gs, 0, none⟩) a.shape.length so2 _ _ _ _ _ _ (atS a (t : Int)) _ _ _ _ _ _ w S wf _ E.out hAt.out (by have := hbN.out; omega) (by have := hbI.out; omega)).mono ?_
              rintro e w9 ⟨na2, nc2, ia2, ic2, rfl, E1⟩
              generalize hn2 : putN x.kind nn (atS a (t : Int)) = nn2 at E1 ⊢
              generalize hi2 : putI x.kind ii (atS a (t : Int)) = ii2 at E1 ⊢
              replace hn2 := hid (hn2.symm.trans hN.out)
              replace hi2 := hid (hi2.symm.trans hI.out)
              clear E
              have E := hid E1
              clear E1
              go_wp2_with (refine wpl_store4 rfl (.tmp 16) (.tmp 151) rfl _ rfl rfl (E.out.hdr 12 rfl) ?_; intro V2 HV CV; replace E := hid (E.out.chg 12 rfl CV HV); (try simp only [List.cons_append, List.nil_append, List.set_cons_zero, List.set_cons_succ] at E))
              go_roundw
              case rel => exact ⟨j + 1, na2, nc2, ia2, ic2, by omega, by go_num, by rw [← hn2.out, ← hi2.out]; exact E.out⟩
              case measure => simp [intOf]; omega
            · obtain rfl : j = p := by omega
              rw [blk_all, blk_all] at E
              obtain ⟨n1, hn1⟩ : ∃ l, l = n0 ++ blkL a.nums kk j := ⟨_, rfl⟩
              obtain ⟨i1, hi1⟩ : ∃ l, l = i0 ++ blkL a.items kk j := ⟨_, rfl⟩
              have hn1l : n1.length ≤ 131072 := by rw [hn1, List.length_append]; have := blkL_le a.nums kk j; omega
              have hi1l : i1.length ≤ 131072 := by rw [hi1, List.length_append]; have := blkL_le a.items kk j; omega
              rw [← hn1, ← hi1] at E
              rw [← hn1] at s1
              rw [← hi1] at s2
              replace hn1 := hid hn1
              replace hi1 := hid hi1
              go_upto_region 35 with (fail)
              have z1 : n1 ++ (blkL b.nums kk q).take 0 = n1 := by simp
              have z2 : i1 ++ (blkL b.items kk q).take 0 = i1 := by simp
              replace z1 := hid z1
              replace z2 := hid z2
              go_loopw [23] (fun v wr => ∃ (j : Nat) (na : Option Addr) (nc : Nat) (ia : Option Addr) (ic : Nat), j ≤ q ∧ v = .int .i64 j ∧ Env w S wr [.rowI na nc (n1 ++ (blkL b.nums kk q).take j), .rowA ia ic (i1 ++ (blkL b.items kk q).take j), .obj w.heap.size (.cells #[.int .i64 x.kind, .slice sx x.shape.length cx, .slice nx x.nums.length mx, .slice ix x.items.length jx] 26 (0, 0)), .obj (w.heap.size + 1) (.cells #[.int .i64 y.kind, .slice sy y.shape.length cy, .slice ny y.nums.length my, .slice iy y.items.length jy] 26 (0, 0)), .obj (w.heap.size + 1 + 1) (.cells #[.int .i64 0, .slice none 0 0, .slice none 0 0, .slice none 0 0] 26 (0, 0)), .arr x sx nx ix, .arr y sy ny iy, .arr a s101 n101 i101, .obj p9 (.cells #[.int .i64 a.kind, .slice s101 a.shape.length c101, .slice n101 a.nums.length m101, .slice i101 a.items.length j101] 26 (0, 0)), .arr b s102 n102 i102, .obj p11 (.cells #[.int .i64 b.kind, .slice s102 b.shape.length c102, .slice n102 b.nums.length m102, .slice i102 b.items.length j102] 26 (0, 0)), .ints Sx (some ⟨gs, 0, none⟩), .obj po (.cells #[.int .i64 x.kind, .slice (some ⟨gs, 0, none⟩) a.shape.length so2, .slice na (n1 ++ (blkL b.nums kk q).take j).length nc, .slice ia (i1 ++ (blkL b.items kk q).take j).length ic] 26 (0, 0))]) (fun v _ => q - (intOf v).toNat)
              case atStart => exact ⟨0, na, nc, ia, ic, Nat.zero_le _, rfl, by rw [z1.out, z2.out]; exact E.out⟩
              case round =>
                clear E na nc ia ic
                obtain ⟨j, na, nc, ia, ic, hj, rfl, E⟩ := hrel
                replace E := hid E
                by_cases hl2 : j < q
                · have hix := idx_lt hlt hl2
                  obtain ⟨kp, hkp⟩ : ∃ n, n = kk * q := ⟨_, rfl⟩
                  rw [← hkp] at hix
                  have hg2 := gns2.out
                  have hmp : m * q ≤ 65536 := by omega
                  have hw1 : IntKind.i64.wrap ((kk : Int) * (q : Int)) = (kp : Int) := by rw [← Int.natCast_mul, ← hkp]; exact IntWalk.i64_in _ (by omega)
                  have hw2 : IntKind.i64.wrap ((kp : Int) + (j : Int)) = ((kp + j : Nat) : Int) := by rw [Int.natCast_add]; exact IntWalk.i64_in _ (by omega)
                  have hz : kp + j < szA b := by rw [gnb.out]; exact hix
                  have hN : putN x.kind (n1 ++ (blkL b.nums kk q).take j) (atS b ((kp + j : Nat) : Int)) = n1 ++ (blkL b.nums kk q).take (j + 1) := by rw [putN_cell Fb.out kb'.out hz, List.append_assoc, hkp, ← blk_step hl2]
                  have hI : putI x.kind (i1 ++ (blkL b.items kk q).take j) (atS b ((kp + j : Nat) : Int)) = i1 ++ (blkL b.items kk q).take (j + 1) := by rw [putI_cell Fb.out kb'.out hz, List.append_assoc, hkp, ← blk_step hl2]
                  have hbN : (n1 ++ (blkL b.nums kk q).take j).length ≤ 1000000 := by rw [List.length_append]; have := take_len_le (blkL b.nums kk q) j; omega
                  have hbI : (i1 ++ (blkL b.items kk q).take j).length ≤ 1000000 := by rw [List.length_append]; have := take_len_le (blkL b.items kk q) j; omega
                  obtain ⟨nn, hnn⟩ : ∃ l, l = n1 ++ (blkL b.nums kk q).take j := ⟨_, rfl⟩
                  obtain ⟨ii, hii⟩ : ∃ l, l = i1 ++ (blkL b.items kk q).take j := ⟨_, rfl⟩
                  rw [← hnn, ← hii] at E
                  rw [← hnn] at hN hbN
                  rw [← hii] at hI hbI
                  replace hnn := hid hnn
                  replace hii := hid hii
                  clear hix hmp hg2
                  replace hkp := hid hkp
                  replace hN := hid hN
                  replace hI := hid hI
                  replace hbN := hid hbN
                  replace hbI := hid hbI
                  replace hz := hid hz
                  generalize kp + j = t at hN hI hw2 hz
                  go_upto_region 37 with (fail)
                  obtain ⟨q120, q121, q122, q123⟩ := (E.out.hdr 12 rfl).all
                  obtain ⟨q100, q101, q102, q103⟩ := (E.out.hdr 10 rfl).all
                  obtain ⟨T, hT1, hT2, hT3⟩ := E.out.tw
                  refine wp_region_mono_tail 8 (Sees wr [(⟨po, 0, none⟩, .int .i64 x.kind), (⟨po, 1, none⟩, .slice (some ⟨gs, 0, none⟩) a.shape.length so2), (⟨po, 2, none⟩, .slice na nn.length nc), (⟨po, 3, none⟩, .slice ia ii.length ic), (⟨p11, 0, none⟩, .int .i64 b.kind), (⟨p11, 1, none⟩, .slice s102 b.shape.length c102), (⟨p11, 2, none⟩, .slice n102 b.nums.length m102), (⟨p11, 3, none⟩, .slice i102 b.items.length j102)]) [7] (fun k v u u' => match k with | 7 => RetA u T (atS b t) (.returned v) u' | _ => False) (fun _ _ h e => h.up e) (Sees.start (all_cons (q120) (all_cons (q121) (all_cons (q122) (all_cons (q123) (all_cons ((E.out.hdr 10 rfl).c0) (all_cons ((E.out.hdr 10 rfl).c1) (all_cons ((E.out.hdr 10 rfl).c2) (all_cons ((E.out.hdr 10 rfl).c3) (all_nil)))))))))) (by kernel_rfl) (by kernel_rfl) ?_
                  simp only [List.take_succ_cons, List.take_zero, List.drop_succ_cons, List.drop_zero]
                  repeat (first | (refine m_plain (v := ?_) (by rfl) (by rfl) ?_ ?_; rotate_left; (intro wz hSw; obtain ⟨-, hSc⟩ := hSw; (try simp only [List.forall_mem_cons, List.forall_mem_nil, and_true] at hSc); go_simp; (first | done | with_reducible rfl)); (intro K hK; (try simp only [Act.put, List.setIfInBounds_toArray, List.set_cons_zero, List.set_cons_succ]); refine hK _ _ ?_; clear hK K)) | (refine m_skip (by rfl) (by rfl) ?_; (intro K hK; (try simp only [Act.put, List.setIfInBounds_toArray, List.set_cons_zero, List.set_cons_succ]); refine hK _ _ ?_; clear hK K)))
                  refine m_make (by rfl) (by rfl) ?_ ?_
                  · intro wz hSw hdep R hRz
                    obtain ⟨hSe, hSc⟩ := hSw
                    (try simp only [List.forall_mem_cons, List.forall_mem_nil, and_true] at hSc)
                    unfold does
                    (go_simp; refine Calls.mono (ref03_At b _ _ _ _ _ _ (t : Int) _ wz (ArrAt.up (ArrAt.mono (fun b _ h => hT1 b h) _ (E.out.arr 9 rfl)) hSe)) ?_; intro e wq h; obtain ⟨v, rfl, h1⟩ := retA_arm hT2 hSe (h.eq rfl); exact ⟨_, rfl, hRz.out _ _ h1⟩)
                  intro v7 u7 x7 hG7 K hK
                  have hF7 := hG7.fact
                  (try dsimp only at hF7)
                  obtain ⟨s7, c7, n7, m7, i7, j7, he, hA7, hb7⟩ := hF7
                  injection he with he
                  subst he
                  (try simp only [Act.put, List.setIfInBounds_toArray, List.set_cons_zero, List.set_cons_succ]); refine hK _ _ ?_; clear hK K
                  repeat (first | (refine m_plain (v := ?_) (by rfl) (by rfl) ?_ ?_; rotate_left; (intro wz hSw; obtain ⟨-, hSc⟩ := hSw; (try simp only [List.forall_mem_cons, List.forall_mem_nil, and_true] at hSc); go_simp; (first | done | with_reducible rfl)); (intro K hK; (try simp only [Act.put, List.setIfInBounds_toArray, List.set_cons_zero, List.set_cons_succ]); refine hK _ _ ?_; clear hK K)) | (refine m_skip (by rfl) (by rfl) ?_; (intro K hK; (try simp only [Act.put, List.setIfInBounds_toArray, List.set_cons_zero, List.set_cons_succ]); refine hK _ _ ?_; clear hK K)))
                  refine m_nil ?_
                  intro wf hSf hAf
                  have hAt := hid (ArrAt.mono (fun b _ q => hT3 b q) _ (hA7.up (hAf 7 _ rfl)))
                  replace E := hid (E.out.up hSf.1)
                  clear hSf hAf hG7 hA7 hb7 hT1 hT2 hT3 hw1 hw2
                  clear q120 q121 q122 q123 q100 q101 q102 q103
                  have hl := at_len b (t : Int)
                  go_wp2_with fail
                  refine (ref03_Put x.kind (some ⟨gs, 0, none⟩) a.shape.length so2 _ _ _ _ _ _ (atS b (t : Int)) _ _ _ _ _ _ w S wf _ E.out hAt.out (by have := hbN.out; omega) (by have := hbI.out; omega)).mono ?_
                  rintro e w9 ⟨na2, nc2, ia2, ic2, rfl, E1⟩
                  generalize hn2 : putN x.kind nn (atS b (t : Int)) = nn2 at E1 ⊢
                  generalize hi2 : putI x.kind ii (atS b (t : Int)) = ii2 at E1 ⊢
                  replace hn2 := hid (hn2.symm.trans hN.out)
                  replace hi2 := hid (hi2.symm.trans hI.out)
                  clear E
                  have E := hid E1
                  clear E1
                  go_wp2_with (refine wpl_store4 rfl (.tmp 16) (.tmp 165) rfl _ rfl rfl (E.out.hdr 12 rfl) ?_; intro V2 HV CV; replace E := hid (E.out.chg 12 rfl CV HV); (try simp only [List.cons_append, List.nil_append, List.set_cons_zero, List.set_cons_succ] at E))
                  go_roundw
                  case rel => exact ⟨j + 1, na2, nc2, ia2, ic2, by omega, by go_num, by rw [← hn2.out, ← hi2.out]; exact E.out⟩
                  case measure => simp [intOf]; omega
                · obtain rfl : j = q := by omega
                  rw [blk_all, blk_all] at E
                  rw [s1, s2] at E
                  go_wp2_with fail
                  go_roundw
                  case rel => exact ⟨kk + 1, na, nc, ia, ic, by omega, by go_num, E.out⟩
                  case measure => simp [intOf]; omega
        · obtain rfl : kk = m := by omega
          have hj1 : joinA (!first) x y = .mk x.kind Sx (joinL p q a.nums b.nums kk) (joinL p q a.items b.items kk) := by rw [joinA_eq, jNN, jII, ← hSx.out, ← hp.out, ← hq.out, ← hm.out, na'.out, ia'.out, nb'.out, ib'.out, hA.out, hB.out]
          obtain ⟨n0, hn0⟩ : ∃ n, n = joinL p q a.nums b.nums kk := ⟨_, rfl⟩
          obtain ⟨i0, hi0⟩ : ∃ n, n = joinL p q a.items b.items kk := ⟨_, rfl⟩
          have hjl : kk * (p + q) ≤ 65536 := by rw [Nat.mul_add]; exact gns2.out
          have hn0l : n0.length ≤ 65536 := by rw [hn0]; exact Nat.le_trans (joinL_le _ _ _ _ _) hjl
          have hi0l : i0.length ≤ 65536 := by rw [hi0]; exact Nat.le_trans (joinL_le _ _ _ _ _) hjl
          rw [← hn0, ← hi0] at E hj1
          have hwj := wt_join c.out d.out k.out hG.out
          rw [hj1] at hwj
          have c2 := OwnI.cap (E.out.rowI 0 rfl)
          have c3 := OwnA.cap (E.out.rowA 1 rfl)
          replace E := hid (E.out.doneI 0 rfl (by omega))
          (try simp only [List.cons_append, List.nil_append, List.set_cons_zero, List.set_cons_succ] at E)
          replace E := hid (E.out.doneA 1 rfl)
          (try simp only [List.cons_append, List.nil_append, List.set_cons_zero, List.set_cons_succ] at E)
          obtain ⟨wx, hwx⟩ : ∃ n, n = exW x (jA (!first) x y) + exW y (jB (!first) x y) := ⟨_, rfl⟩
          rw [← hwx] at hwj
          have hQ : ArrAt wr _ (.mk x.kind Sx n0 i0) _ _ _ := ArrAt.iff.2 ⟨E.out.ints 11 rfl, E.out.ints 0 rfl, by show i0.length ≤ _; omega, E.out.items 1 rfl⟩
          have hWt := ref03_Weight (.mk x.kind Sx n0 i0) _ so2 _ nc _ ic _ wr hQ
          rw [hwj, show (Arr.mk x.kind Sx n0 i0).shape.length = a.shape.length from lS'.out] at hWt
          replace hWt := hid hWt
          replace hwj := hid hwj
          replace hj1 := hid hj1
          replace hn0 := hid hn0
          replace hi0 := hid hi0
          clear hQ hjl
          obtain ⟨q120, q121, q122, q123⟩ := (E.out.hdr 12 rfl).all
          go_wp2_with fail
          clear q120 q121 q122 q123
          refine hWt.out.mono ?_
          rintro e w9 ⟨rfl, hb⟩
          replace E := hid (E.out.up hb)
          clear hb hWt
          have hJ := joinE_s (last := !first) c.out d.out k.out hr.out (by rw [← hA.out, ← hB.out, ← sa.out, ← sb.out, ← haxx.out, ← hrr.out]; exact hdif.out)
          have hJ0 := joinE_0 (last := !first) c.out d.out k.out hr.out (by rw [← hA.out, ← hB.out, ← sa.out, ← sb.out, ← haxx.out, ← hrr.out]; exact hdif.out) (by rw [← hSx.out]; exact hsT.out)
          rw [← hwx] at hJ hJ0
          replace hwx := hid hwx
          by_cases hw : 262144 < wx
          case pos =>
            have wb : (262144 : Int) < min wx 262145 := by omega
            have hn := hid (hJ (Or.inr hw))
            have hv := hid (joinS_no (last := !first) (x := x) (y := y) (by rw [hn.out]; decide))
            clear hJ hJ0
            replace hw := hid hw
            go_wp2_with (refine wpl_store4 rfl (.tmp 6) (.tmp 169) rfl _ rfl rfl (E.out.hdr 4 rfl) ?_; intro V HV CV; replace E := hid (E.out.chg 4 rfl CV HV))
            exact bodyPost_ret (end_arr2 rfl HV rfl rfl) rfl (hR.out _ _ (RetAEC.zero hv.out hn.out E.out.ext))
          case neg =>
            have wb : ¬ (262144 : Int) < min wx 262145 := by omega
            have hn := hid (hJ0 hw)
            have hv : Hid (joinS (!first) x y = .mk x.kind Sx n0 i0) := hid (by rw [joinS_yes hn.out]; exact hj1.out)
            clear hJ hJ0
            replace hw := hid hw
            obtain ⟨q120, q121, q122, q123⟩ := (E.out.hdr 12 rfl).all
            go_wp2_with (refine wpl_store4 rfl (.tmp 6) (.tmp 170) rfl _ rfl rfl (E.out.hdr 4 rfl) ?_; intro V6 HV CV; replace E := hid (E.out.chg 4 rfl CV HV); clear CV; (try simp only [List.cons_append, List.nil_append, List.set_cons_zero, List.set_cons_succ] at E))
            refine bodyPost_ret (end_arr2 rfl HV rfl rfl) rfl (hR.out _ _ ?_)
            exact RetAEC.of hv.out hn.out lS'.out ((E.out.ints 11 rfl).mono fun b _ h => h.1) ((E.out.ints 0 rfl).mono fun b _ h => h.1) (by omega) ((E.out.items 1 rfl).mono fun b _ h => h.1) E.out.ext hcap.out c2 c3
set_option maxHeartbeats 2000000 in
theorem ref20_Last (x : Arr) (sx : Option Addr) (cx : Nat) (nx : Option Addr) (mx : Nat) (ix : Option Addr) (jx : Nat) (y : Arr) (sy : Option Addr) (cy : Nat) (ny : Option Addr) (my : Nat) (iy : Option Addr) (jy : Nat) (S : Nat → Prop) (w : World) (h : ArrAt w S x sx nx ix) (g : ArrAt w S y sy ny iy) (hcx : x.shape.length ≤ cx ∧ x.nums.length ≤ mx ∧ x.items.length ≤ jx) (hcy : y.shape.length ≤ cy ∧ y.nums.length ≤ my ∧ y.items.length ≤ jy) :
    Calls Try.prog 18 #[.agg #[.int .i64 x.kind, .slice sx x.shape.length cx, .slice nx x.nums.length mx, .slice ix x.items.length jx], .agg #[.int .i64 y.kind, .slice sy y.shape.length cy, .slice ny y.nums.length my, .slice iy y.items.length jy]] w (RetAEC w (fun b => S b ∨ w.heap.size ≤ b) (joinS true x y) (joinE true x y)) := by
  refine calls_post fun R' hR => ?_
  have h0 := hid h
  have g0 := hid g
  replace hcx := hid hcx
  replace hcy := hid hcy
  clear h g
  go_enter Try.func18, Try.ntmps18
  go_upto_region 1 with (fail)
  generalize hEW : (((w).alloc (.cells #[.int .i64 x.kind, .slice sx x.shape.length cx, .slice nx x.nums.length mx, .slice ix x.items.length jx] 26)).alloc (.cells #[.int .i64 y.kind, .slice sy y.shape.length cy, .slice ny y.nums.length my, .slice iy y.items.length jy] 26)).alloc (.cells #[.int .i64 0, .slice none 0 0, .slice none 0 0, .slice none 0 0] 26) = W
  have E := hid (env3 w S hEW)
  clear hEW
  replace E := hid ((E.out.arg h0.out).arg g0.out)
  (try simp only [List.cons_append, List.nil_append, List.set_cons_zero, List.set_cons_succ] at E)
  obtain ⟨q00, q01, q02, q03⟩ := (E.out.hdr 0 rfl).all
  obtain ⟨q10, q11, q12, q13⟩ := (E.out.hdr 1 rfl).all
  go_wp2_with fail
  clear q00 q01 q02 q03 q10 q11 q12 q13
  refine (ref20_join false x _ _ _ _ _ _ y _ _ _ _ _ _ _ _ (E.out.arr 3 rfl) (E.out.arr 4 rfl) hcx.out hcy.out).mono ?_
  intro e w1 h
  obtain ⟨s101, c101, n101, m101, i101, j101, rfl, hA, hb, hC101⟩ := h.eq rfl rfl
  replace E := hid ((E.out.up hb).addArr hA (fun b _ hq => E.out.res (Ext.refl _) hq))
  replace hC101 := hid hC101
  clear hA hb h
  (try simp only [List.cons_append, List.nil_append, List.set_cons_zero, List.set_cons_succ] at E)
  go_wp2_with (refine wpl_store4 rfl (.tmp 4) (.tmp 9) rfl _ rfl rfl (E.out.hdr 2 rfl) ?_; intro V HV CV; replace E := hid (E.out.chg 2 rfl CV HV); clear CV; (try simp only [List.cons_append, List.nil_append, List.set_cons_zero, List.set_cons_succ] at E))
  refine bodyPost_ret (end_arr2 rfl HV rfl rfl) rfl (hR.out _ _ ?_)
  exact RetAEC.at rfl rfl (ArrAt.mono (fun b _ h => h.1) _ (E.out.arr 5 rfl)) E.out.ext hC101.out
set_option maxHeartbeats 2000000 in
theorem ref20_First (x : Arr) (sx : Option Addr) (cx : Nat) (nx : Option Addr) (mx : Nat) (ix : Option Addr) (jx : Nat) (y : Arr) (sy : Option Addr) (cy : Nat) (ny : Option Addr) (my : Nat) (iy : Option Addr) (jy : Nat) (S : Nat → Prop) (w : World) (h : ArrAt w S x sx nx ix) (g : ArrAt w S y sy ny iy) (hcx : x.shape.length ≤ cx ∧ x.nums.length ≤ mx ∧ x.items.length ≤ jx) (hcy : y.shape.length ≤ cy ∧ y.nums.length ≤ my ∧ y.items.length ≤ jy) :
    Calls Try.prog 21 #[.agg #[.int .i64 x.kind, .slice sx x.shape.length cx, .slice nx x.nums.length mx, .slice ix x.items.length jx], .agg #[.int .i64 y.kind, .slice sy y.shape.length cy, .slice ny y.nums.length my, .slice iy y.items.length jy]] w (RetAEC w (fun b => S b ∨ w.heap.size ≤ b) (joinS false x y) (joinE false x y)) := by
  refine calls_post fun R' hR => ?_
  have h0 := hid h
  have g0 := hid g
  replace hcx := hid hcx
  replace hcy := hid hcy
  clear h g
  go_enter Try.func21, Try.ntmps21
  go_upto_region 1 with (fail)
  generalize hEW : (((w).alloc (.cells #[.int .i64 x.kind, .slice sx x.shape.length cx, .slice nx x.nums.length mx, .slice ix x.items.length jx] 26)).alloc (.cells #[.int .i64 y.kind, .slice sy y.shape.length cy, .slice ny y.nums.length my, .slice iy y.items.length jy] 26)).alloc (.cells #[.int .i64 0, .slice none 0 0, .slice none 0 0, .slice none 0 0] 26) = W
  have E := hid (env3 w S hEW)
  clear hEW
  replace E := hid ((E.out.arg h0.out).arg g0.out)
  (try simp only [List.cons_append, List.nil_append, List.set_cons_zero, List.set_cons_succ] at E)
  obtain ⟨q00, q01, q02, q03⟩ := (E.out.hdr 0 rfl).all
  obtain ⟨q10, q11, q12, q13⟩ := (E.out.hdr 1 rfl).all
  go_wp2_with fail
  clear q00 q01 q02 q03 q10 q11 q12 q13
  refine (ref20_join true x _ _ _ _ _ _ y _ _ _ _ _ _ _ _ (E.out.arr 3 rfl) (E.out.arr 4 rfl) hcx.out hcy.out).mono ?_
  intro e w1 h
  obtain ⟨s101, c101, n101, m101, i101, j101, rfl, hA, hb, hC101⟩ := h.eq rfl rfl
  replace E := hid ((E.out.up hb).addArr hA (fun b _ hq => E.out.res (Ext.refl _) hq))
  replace hC101 := hid hC101
  clear hA hb h
  (try simp only [List.cons_append, List.nil_append, List.set_cons_zero, List.set_cons_succ] at E)
  go_wp2_with (refine wpl_store4 rfl (.tmp 4) (.tmp 9) rfl _ rfl rfl (E.out.hdr 2 rfl) ?_; intro V HV CV; replace E := hid (E.out.chg 2 rfl CV HV); clear CV; (try simp only [List.cons_append, List.nil_append, List.set_cons_zero, List.set_cons_succ] at E))
  refine bodyPost_ret (end_arr2 rfl HV rfl rfl) rfl (hR.out _ _ ?_)
  exact RetAEC.at rfl rfl (ArrAt.mono (fun b _ h => h.1) _ (E.out.arr 5 rfl)) E.out.ext hC101.out
end Go.Proofs.Ythhffneibcpbdaa
