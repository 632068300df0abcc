/- The theorem TopFinds: true. Conditions: the array is read; a slice's capacity is at least its length. -/
import Derived.Test.YtdpdcjadedcglaaK27
import Derived.Test.YtdpdcjadedcglaaHA
set_option linter.unusedVariables false
set_option maxRecDepth 20000
set_option linter.unusedSimpArgs false
namespace Go.Proofs.Ytdpdcjadedcglaa
open Go.RowKit Go.Sort
attribute [local go_sem ↓] run_max2 run_min2
attribute [local go_sem] eql_ints_nil eql_arrs_nil
set_option maxRecDepth 100000 in
set_option maxHeartbeats 8000000 in
theorem top_TopFinds (y : Arr) (sy : Option Addr) (cy : Nat) (ny : Option Addr) (my : Nat) (iy : Option Addr) (jy : Nat) (S : Nat → Prop) (w : World) (h : ArrAt w S y sy ny iy) (hcy : y.shape.length ≤ cy ∧ y.nums.length ≤ my ∧ y.items.length ≤ jy) :
    Calls Try.prog 4 #[.agg #[.int .i64 y.kind, .slice sy y.shape.length cy, .slice ny y.nums.length my, .slice iy y.items.length jy]] w fun e w' => e = .returned (.bool true) ∧ Below w.heap.size w w' := by
  refine calls_post fun R' hR => ?_
  have h0 := hid h
  replace hcy := hid hcy
  clear h
  go_enter Try.func4, Try.ntmps4
  go_upto_region 1 with (fail)
  generalize hEW : (w).alloc (.cells #[.int .i64 y.kind, .slice sy y.shape.length cy, .slice ny y.nums.length my, .slice iy y.items.length jy] 27) = W
  have E := hid (env1 w S hEW)
  clear hEW
  replace E := hid (E.out.arg h0.out)
  (try simp only [List.cons_append, List.nil_append, List.set_cons_zero, List.set_cons_succ] at E)
  obtain ⟨q00, q01, q02, q03⟩ := (E.out.hdr 0 rfl).all
  go_wp2_with fail
  clear q00 q01 q02 q03
  refine (top_few y _ _ _ _ _ _ 100 _ _ (E.out.arr 1 rfl)).mono ?_
  rintro e w1 ⟨b1, rfl, hfw, hb⟩
  replace E := hid (E.out.up hb)
  clear hb
  cases b1 with
  | false =>
    clear hfw
    go_wp2_with (go_at_call 8; refine (top_knows27 _).mono ?_; rintro e w9 ⟨rfl, hb9⟩)
    exact hR.out _ _ ⟨rfl, (E.out.up hb9).ext⟩
  | true =>
  obtain ⟨ry, _⟩ := hfw rfl
  clear hfw
  by_cases c0 : y.shape.length = 0
  case pos =>
    have cb0 : ((y.shape.length : Int) == 0) = true := by simpa using c0
    replace ry := hid ry
    replace c0 := hid c0
    obtain ⟨q00, q01, q02, q03⟩ := (E.out.hdr 0 rfl).all
    go_wp2_with (go_at_call 8; refine (top_knows27 _).mono ?_; rintro e w9 ⟨rfl, hb9⟩)
    exact hR.out _ _ ⟨rfl, (E.out.up hb9).ext⟩
  have cb0 : ((y.shape.length : Int) == 0) = false := by simpa using c0
  have hyl : Hid (y.shape.length ≤ 8) := hid (shapeB_iff.1 (right_ok ry).2.1).1
  have hnp : Hid (0 < y.shape.length) := hid (by omega)
  have ht6 := hid (tal_le (right_ok ry).2.1)
  have hry := hid ry
  clear ry c0
  obtain ⟨q00, q01, q02, q03⟩ := (E.out.hdr 0 rfl).all
  go_wp2_with fail
  clear cb0
  clear q00 q01 q02 q03
  refine (search_Unique y _ _ _ _ _ _ _ w1 (E.out.arr 1 rfl) hry.out hnp.out hcy.out).mono ?_
  rintro e w3 ⟨σ, hO, h⟩
  have ru := hid (uni_right (σ := σ) hry.out hnp.out)
  have hul : Hid ((uniS y σ).shape.length = y.shape.length) := hid (by show (_ :: celL y).length = _; unfold celL; have := hnp.out; simp; omega)
  have law := hid (fun (τ : List Int) (hT : Ords (celsN (uniS y σ) (talM (uniS y σ))) τ) => uni_law hry.out hnp.out hO hT)
  clear hO
  generalize uniS y σ = u at h ru hul law
  obtain ⟨s101, c101, n101, m101, i101, j101, rfl, hA, hb, hC101⟩ := h
  replace E := hid ((E.out.up hb).addArr hA (fun b _ hq => E.out.res (Ext.refl _) hq))
  replace hC101 := hid hC101
  clear hA hb
  (try simp only [List.cons_append, List.nil_append, List.set_cons_zero, List.set_cons_succ] at E)
  go_upto_region 4 with (refine wpl_store4 rfl (.tmp 3) (.tmp 25) rfl _ rfl rfl ((E.out.alloc _).hdr 3 rfl) ?_; intro V1 HV CV; replace E := hid ((E.out.alloc _).chg 3 rfl CV HV); clear CV HV; (try simp only [List.cons_append, List.nil_append, List.set_cons_zero, List.set_cons_succ] at E))
  generalize w3.heap.size = p1 at E ⊢
  obtain ⟨q00, q01, q02, q03⟩ := (E.out.hdr 0 rfl).all
  obtain ⟨q30, q31, q32, q33⟩ := (E.out.hdr 3 rfl).all
  go_wp2_with fail
  clear q00 q01 q02 q03 q30 q31 q32 q33
  refine (search_Find u _ _ _ _ _ _ y _ _ _ _ _ _ _ V1 (E.out.arr 2 rfl) (E.out.arr 1 rfl) ru.out hry.out hul.out hnp.out hC101.out hcy.out).mono ?_
  rintro e w4 ⟨τ, hT, h⟩
  obtain ⟨l1, l2, l3⟩ := law.out τ hT
  have hF := hid (fun (τ : List Int) (hT : Ords (celsN u (talM u)) τ) => (law.out τ hT).1)
  clear hT l1 law
  obtain ⟨xa, hxa⟩ : ∃ a, a = Arr.mk 1 [(talM y : Int)] (fndN u y τ (talM y)) [] := ⟨_, rfl⟩
  rw [← hxa] at h l2 l3
  have hxl : Hid (xa.shape.length ≤ 10000) := hid (by rw [hxa]; simp [Arr.shape])
  replace hxa := hid hxa
  have z1 := hid l2
  have z2 := hid l3.symm
  clear l2 l3
  obtain ⟨s102, c102, n102, m102, i102, j102, rfl, hA, hb, hC102⟩ := h
  replace E := hid ((E.out.up hb).addArr hA (fun b _ hq => E.out.res (Ext.refl _) hq))
  replace hC102 := hid hC102
  clear hA hb
  (try simp only [List.cons_append, List.nil_append, List.set_cons_zero, List.set_cons_succ] at E)
  go_upto_region 5 with (refine wpl_store4 rfl (.tmp 5) (.tmp 31) rfl _ rfl rfl ((E.out.alloc _).hdr 5 rfl) ?_; intro V2 HV CV; replace E := hid ((E.out.alloc _).chg 5 rfl CV HV); clear CV HV; (try simp only [List.cons_append, List.nil_append, List.set_cons_zero, List.set_cons_succ] at E))
  generalize w4.heap.size = p2 at E ⊢
  obtain ⟨q30, q31, q32, q33⟩ := (E.out.hdr 3 rfl).all
  obtain ⟨q50, q51, q52, q53⟩ := (E.out.hdr 5 rfl).all
  go_wp2_with fail
  clear q30 q31 q32 q33 q50 q51 q52 q53
  refine (indexing_FromC xa _ _ _ _ _ _ u _ _ _ _ _ _ _ V2 (E.out.arr 4 rfl) (E.out.arr 2 rfl) hC101.out.1 hxl.out (by have := hul.out; have := hyl.out; omega)).mono ?_
  intro e w5 h
  rw [← z2.out, z1.out] at h
  obtain ⟨s103, c103, n103, m103, i103, j103, rfl, hA, hb, hC103⟩ := h
  replace E := hid ((E.out.up hb).addArr hA (fun b _ hq => E.out.res (Ext.refl _) hq))
  replace hC103 := hid hC103
  clear hA hb
  (try simp only [List.cons_append, List.nil_append, List.set_cons_zero, List.set_cons_succ] at E)
  go_upto_region 6 with (refine wpl_store4 rfl (.tmp 7) (.tmp 37) rfl _ rfl rfl ((E.out.alloc _).hdr 7 rfl) ?_; intro V3 HV CV; replace E := hid ((E.out.alloc _).chg 7 rfl CV HV); clear CV HV; (try simp only [List.cons_append, List.nil_append, List.set_cons_zero, List.set_cons_succ] at E))
  generalize w5.heap.size = p3 at E ⊢
  obtain ⟨q00, q01, q02, q03⟩ := (E.out.hdr 0 rfl).all
  obtain ⟨q30, q31, q32, q33⟩ := (E.out.hdr 3 rfl).all
  go_wp2_with fail
  clear q00 q01 q02 q03 q30 q31 q32 q33
  refine (search_In u _ _ _ _ _ _ y _ _ _ _ _ _ _ V3 (E.out.arr 2 rfl) (E.out.arr 1 rfl) ru.out hry.out hul.out hnp.out hC101.out hcy.out hF.out).mono ?_
  intro e w6 h
  obtain ⟨xi, hxi⟩ : ∃ a, a = Arr.mk 1 [(talM y : Int)] (List.replicate (talM y) 1) [] := ⟨_, rfl⟩
  rw [← hxi] at h
  have hil : Hid (xi.nums.length = talM y) := hid (by rw [hxi]; simp [Arr.nums])
  have hig : Hid (∀ k, k < xi.nums.length → xi.nums.getD k 0 = 1) := hid (by rw [hxi]; intro k hk; simp [Arr.nums] at hk; simp [Arr.nums, List.getD_eq_getElem?_getD, hk])
  replace hxi := hid hxi
  obtain ⟨s104, c104, n104, m104, i104, j104, rfl, hA, hb, hC104⟩ := h
  replace E := hid ((E.out.up hb).addArr hA (fun b _ hq => E.out.res (Ext.refl _) hq))
  replace hC104 := hid hC104
  clear hA hb
  (try simp only [List.cons_append, List.nil_append, List.set_cons_zero, List.set_cons_succ] at E)
  go_upto_region 7 with (refine wpl_store4 rfl (.tmp 9) (.tmp 43) rfl _ rfl rfl ((E.out.alloc _).hdr 9 rfl) ?_; intro V4 HV CV; replace E := hid ((E.out.alloc _).chg 9 rfl CV HV); clear CV HV; (try simp only [List.cons_append, List.nil_append, List.set_cons_zero, List.set_cons_succ] at E))
  generalize w6.heap.size = p4 at E ⊢
  have hu2 : Hid (sameB y y = true) := hid (sameB_self _)
  obtain ⟨q00, q01, q02, q03⟩ := (E.out.hdr 0 rfl).all
  obtain ⟨q70, q71, q72, q73⟩ := (E.out.hdr 7 rfl).all
  go_wp2_with fail
  clear q00 q01 q02 q03 q70 q71 q72 q73
  refine (array_Same y y _ _ _ _ _ _ _ _ _ _ _ _ _ _ _ (E.out.arr 6 rfl) (E.out.arr 1 rfl)).mono ?_
  rintro e w7 ⟨rfl, hb⟩
  replace E := hid (E.out.up hb)
  clear hb
  rw [hu2.out]
  go_wp2_with fail
  replace E := hid (E.out.sub (List.drop_sublist 8 _))
  simp only [List.drop_succ_cons, List.drop_zero] at E
  go_loopw [11] (fun r wr => ∃ k : Nat, k ≤ xi.nums.length ∧ r = .int .i64 k ∧ Env w S wr [.arr xi s104 n104 i104, .obj p4 (.cells #[.int .i64 xi.kind, .slice s104 xi.shape.length c104, .slice n104 xi.nums.length m104, .slice i104 xi.items.length j104] 27 (0, 0))]) (fun r _ => xi.nums.length - (intOf r).toNat)
  case atStart => exact ⟨0, Nat.zero_le _, rfl, E.out⟩
  case round =>
    clear E
    obtain ⟨k, hk, rfl, E⟩ := hrel
    replace E := hid E
    by_cases hlt : k < xi.nums.length
    case pos =>
      obtain ⟨b1, o1, e1, _, _, x0⟩ := (ArrAt.nums (E.out.arr 0 rfl)).at hlt
      rw [hig.out k hlt] at x0
      have hk6 := hid (show k < xi.nums.length ∧ k < 65536 from ⟨hlt, by have := hil.out; have := ht6.out; omega⟩)
      have wk : IntKind.i64.wrap ((k : Int) + 1) = (k : Int) + 1 := IntWalk.i64_in _ (by have := hk6.out; omega)
      have tt0 : (0 : Int) ≤ (k : Int) := by omega
      have tt1 : (k : Int) < (xi.nums.length : Int) := by omega
      subst e1
      obtain ⟨q10, q11, q12, q13⟩ := (E.out.hdr 1 rfl).all
      go_wp2_with fail
      go_roundw
      case rel => exact ⟨k + 1, hk6.out.1, by have := hk6.out; go_num, E.out⟩
      case measure => have := hk6.out; simp [intOf]; omega
    case neg =>
      have tt1 : ¬ (k : Int) < (xi.nums.length : Int) := by omega
      obtain ⟨q10, q11, q12, q13⟩ := (E.out.hdr 1 rfl).all
      go_wp2_with (go_at_call 8; refine (top_knows27 _).mono ?_; rintro e w9 ⟨rfl, hb9⟩)
      exact hR.out _ _ ⟨rfl, (E.out.up hb9).ext⟩
end Go.Proofs.Ytdpdcjadedcglaa
