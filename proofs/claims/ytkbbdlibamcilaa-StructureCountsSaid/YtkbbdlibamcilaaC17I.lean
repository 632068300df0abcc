/- Iota, the program's and the reference's: contracts. Conditions: the array is read. -/
import Derived.Test.YtkbbdlibamcilaaC17
import Derived.Test.YtkbbdlibamcilaaDIMS
set_option linter.unusedVariables false
set_option linter.unusedSimpArgs false
namespace Go.Proofs.Ytkbbdlibamcilaa
open Go.RowKit Go.Sort
attribute [local go_sem ↓] run_max2 run_min2
attribute [local go_sem] eql_ints_nil eql_arrs_nil
def iotS (y : Arr) : Arr := if ndE y = 0 then .mk 1 y.nums (rngL (cnt y.nums).toNat) [] else .zero
theorem iotS_no {y : Arr} (h : ndE y ≠ 0) : iotS y = .zero := if_neg h
theorem iotS_yes {y : Arr} (h : ndE y = 0) : iotS y = .mk 1 y.nums (rngL (cnt y.nums).toNat) [] := if_pos h
set_option maxHeartbeats 1000000 in
theorem structure_Iota_1 (d : Int) (w : World) : Calls Try.prog 42 #[.int .i64 d] w fun e w' => e = .returned (.bool (negB d)) ∧ w = w' := by
  refine calls_post fun R' hR => ?_
  go_enter Try.func42, Try.ntmps42
  go_wp2
  exact hR.out _ _ ⟨rfl, rfl⟩
set_option maxRecDepth 100000 in
set_option maxHeartbeats 4000000 in
theorem structure_Iota (y : Arr) (sy : Option Addr) (cy : Nat) (ny : Option Addr) (my : Nat) (iy : Option Addr) (jy : Nat) (S : Nat → Prop) (w : World) (h : ArrAt w S y sy ny iy) : Calls Try.prog 11 #[.agg #[.int .i64 y.kind, .slice sy y.shape.length cy, .slice ny y.nums.length my, .slice iy y.items.length jy]] w (RetAE w (fun b => S b ∨ w.heap.size ≤ b) (iotS y) (ndE y)) := by
  refine calls_post fun R' hR => ?_
  have h0 := hid h
  have hsl := h.shape.1
  have hnl := h.nums.1
  clear h
  by_cases c : rightS y = 0
  case neg =>
    have cb : (rightS y == 0) = false := by simpa using c
    have cb2 : (rightS y != 0) = true := by simpa using c
    have hn := hid (ndE1 c)
    have hv := hid (iotS_no (y := y) (by rw [hn.out]; decide))
    replace c := hid c
    go_enter Try.func11, Try.ntmps11
    go_wp2_with fail
    generalize hEW : ((w).alloc (.cells #[.int .i64 y.kind, .slice sy y.shape.length cy, .slice ny y.nums.length my, .slice iy y.items.length jy] 26)).alloc (.cells #[.int .i64 0, .slice none 0 0, .slice none 0 0, .slice none 0 0] 26) = W
    have E := hid (env2 w S hEW)
    clear hEW
    replace E := hid (E.out.arg h0.out)
    (try simp only [List.cons_append, List.nil_append, List.set_cons_zero, List.set_cons_succ] at E)
    refine (structure_right y _ _ _ _ _ _ _ _ (E.out.arr 2 rfl)).mono ?_
    rintro e w1 ⟨rfl, hb⟩
    replace E := hid (E.out.up hb)
    clear hb
    go_wp2_with (refine wpl_store4 rfl (.tmp 2) (.tmp 10) rfl _ rfl rfl (E.out.hdr 1 rfl) ?_; intro V HV CV; replace E := hid (E.out.chg 1 rfl CV HV))
    exact bodyPost_ret (end_arr2 rfl HV rfl rfl) rfl (hR.out _ _ (RetAE.zero hv.out hn.out E.out.ext))
  have cb : (rightS y == 0) = true := by simpa using c
  have cb2 : (rightS y != 0) = false := by simpa using c
  by_cases k : y.kind = 1
  case neg =>
    have kb : (y.kind != 1) = true := by simp [k]
    have hn := hid (ndE14 c k)
    have hv := hid (iotS_no (y := y) (by rw [hn.out]; decide))
    replace c := hid c
    replace k := hid k
    go_enter Try.func11, Try.ntmps11
    go_wp2_with fail
    generalize hEW : ((w).alloc (.cells #[.int .i64 y.kind, .slice sy y.shape.length cy, .slice ny y.nums.length my, .slice iy y.items.length jy] 26)).alloc (.cells #[.int .i64 0, .slice none 0 0, .slice none 0 0, .slice none 0 0] 26) = W
    have E := hid (env2 w S hEW)
    clear hEW
    replace E := hid (E.out.arg h0.out)
    (try simp only [List.cons_append, List.nil_append, List.set_cons_zero, List.set_cons_succ] at E)
    refine (structure_right y _ _ _ _ _ _ _ _ (E.out.arr 2 rfl)).mono ?_
    rintro e w1 ⟨rfl, hb⟩
    replace E := hid (E.out.up hb)
    clear hb
    obtain ⟨q00, q01, q02, q03⟩ := (E.out.hdr 0 rfl).all
    go_wp2_with (refine wpl_store4 rfl (.tmp 2) (.tmp 15) rfl _ rfl rfl (E.out.hdr 1 rfl) ?_; intro V HV CV; replace E := hid (E.out.chg 1 rfl CV HV))
    exact bodyPost_ret (end_arr2 rfl HV rfl rfl) rfl (hR.out _ _ (RetAE.zero hv.out hn.out E.out.ext))
  have kb : (y.kind != 1) = false := by simp [k]
  by_cases z : 1 < y.shape.length
  case pos =>
    have hn := hid (ndE15 c k z)
    have hv := hid (iotS_no (y := y) (by rw [hn.out]; decide))
    replace c := hid c
    replace k := hid k
    go_enter Try.func11, Try.ntmps11
    go_wp2_with fail
    generalize hEW : ((w).alloc (.cells #[.int .i64 y.kind, .slice sy y.shape.length cy, .slice ny y.nums.length my, .slice iy y.items.length jy] 26)).alloc (.cells #[.int .i64 0, .slice none 0 0, .slice none 0 0, .slice none 0 0] 26) = W
    have E := hid (env2 w S hEW)
    clear hEW
    replace E := hid (E.out.arg h0.out)
    (try simp only [List.cons_append, List.nil_append, List.set_cons_zero, List.set_cons_succ] at E)
    refine (structure_right y _ _ _ _ _ _ _ _ (E.out.arr 2 rfl)).mono ?_
    rintro e w1 ⟨rfl, hb⟩
    replace E := hid (E.out.up hb)
    clear hb
    obtain ⟨q00, q01, q02, q03⟩ := (E.out.hdr 0 rfl).all
    go_wp2_with (refine wpl_store4 rfl (.tmp 2) (.tmp 21) rfl _ rfl rfl (E.out.hdr 1 rfl) ?_; intro V HV CV; replace E := hid (E.out.chg 1 rfl CV HV))
    exact bodyPost_ret (end_arr2 rfl HV rfl rfl) rfl (hR.out _ _ (RetAE.zero hv.out hn.out E.out.ext))
  cases d : y.nums.any negB with
  | true =>
    have hn := hid (ndE17 c k z d)
    have hv := hid (iotS_no (y := y) (by rw [hn.out]; decide))
    replace c := hid c
    replace k := hid k
    replace d := hid d
    go_enter Try.func11, Try.ntmps11
    go_wp2_with fail
    generalize hEW : ((w).alloc (.cells #[.int .i64 y.kind, .slice sy y.shape.length cy, .slice ny y.nums.length my, .slice iy y.items.length jy] 26)).alloc (.cells #[.int .i64 0, .slice none 0 0, .slice none 0 0, .slice none 0 0] 26) = W
    have E := hid (env2 w S hEW)
    clear hEW
    replace E := hid (E.out.arg h0.out)
    (try simp only [List.cons_append, List.nil_append, List.set_cons_zero, List.set_cons_succ] at E)
    refine (structure_right y _ _ _ _ _ _ _ _ (E.out.arr 2 rfl)).mono ?_
    rintro e w1 ⟨rfl, hb⟩
    replace E := hid (E.out.up hb)
    clear hb
    obtain ⟨q00, q01, q02, q03⟩ := (E.out.hdr 0 rfl).all
    go_wp2_with fail
    refine (slices_ContainsFunc_structure_Iota_1 negB y.nums _ _ _ w1 (E.out.arr 2 rfl).nums (fun n => structure_Iota_1 n w1)).mono ?_
    rintro e w' ⟨rfl, rfl⟩
    rw [d.out]
    go_wp2_with (refine wpl_store4 rfl (.tmp 2) (.tmp 26) rfl _ rfl rfl (E.out.hdr 1 rfl) ?_; intro V HV CV; replace E := hid (E.out.chg 1 rfl CV HV))
    exact bodyPost_ret (end_arr2 rfl HV rfl rfl) rfl (hR.out _ _ (RetAE.zero hv.out hn.out E.out.ext))
  | false =>
  cases s : shapeB y.nums with
  | false =>
    have hn := hid (ndE21 c k z d s)
    have hv := hid (iotS_no (y := y) (by rw [hn.out]; decide))
    replace c := hid c
    replace k := hid k
    replace d := hid d
    replace s := hid s
    go_enter Try.func11, Try.ntmps11
    go_wp2_with fail
    generalize hEW : ((w).alloc (.cells #[.int .i64 y.kind, .slice sy y.shape.length cy, .slice ny y.nums.length my, .slice iy y.items.length jy] 26)).alloc (.cells #[.int .i64 0, .slice none 0 0, .slice none 0 0, .slice none 0 0] 26) = W
    have E := hid (env2 w S hEW)
    clear hEW
    replace E := hid (E.out.arg h0.out)
    (try simp only [List.cons_append, List.nil_append, List.set_cons_zero, List.set_cons_succ] at E)
    refine (structure_right y _ _ _ _ _ _ _ _ (E.out.arr 2 rfl)).mono ?_
    rintro e w1 ⟨rfl, hb⟩
    replace E := hid (E.out.up hb)
    clear hb
    obtain ⟨q00, q01, q02, q03⟩ := (E.out.hdr 0 rfl).all
    go_wp2_with fail
    refine (slices_ContainsFunc_structure_Iota_1 negB y.nums _ _ _ w1 (E.out.arr 2 rfl).nums (fun n => structure_Iota_1 n w1)).mono ?_
    rintro e w' ⟨rfl, rfl⟩
    rw [d.out]
    go_wp2_with fail
    refine (shape_Right y.nums _ _ _ w1 (E.out.arr 2 rfl).nums).mono ?_
    rintro e w' ⟨rfl, rfl⟩
    rw [s.out]
    go_wp2_with (refine wpl_store4 rfl (.tmp 2) (.tmp 32) rfl _ rfl rfl (E.out.hdr 1 rfl) ?_; intro V HV CV; replace E := hid (E.out.chg 1 rfl CV HV))
    exact bodyPost_ret (end_arr2 rfl HV rfl rfl) rfl (hR.out _ _ (RetAE.zero hv.out hn.out E.out.ext))
  | true =>
  have hn := hid (ndE0 c k z d s)
  have hv := hid (iotS_yes hn.out)
  obtain ⟨n, hnn⟩ : ∃ n, n = (cnt y.nums).toNat := ⟨_, rfl⟩
  have hcb := cnt_le s
  have hsz : Hid (sizeS y.nums = (n : Int)) := hid (by rw [sizeS_true s]; omega)
  have hn6 : n ≤ 65536 := by omega
  rw [← hnn] at hv
  replace hnn := hid hnn
  replace c := hid c
  replace k := hid k
  replace d := hid d
  replace s := hid s
  clear hcb
  go_enter Try.func11, Try.ntmps11
  go_wp2_with fail
  generalize hEW : ((w).alloc (.cells #[.int .i64 y.kind, .slice sy y.shape.length cy, .slice ny y.nums.length my, .slice iy y.items.length jy] 26)).alloc (.cells #[.int .i64 0, .slice none 0 0, .slice none 0 0, .slice none 0 0] 26) = W
  have E := hid (env2 w S hEW)
  clear hEW
  replace E := hid (E.out.arg h0.out)
  (try simp only [List.cons_append, List.nil_append, List.set_cons_zero, List.set_cons_succ] at E)
  refine (structure_right y _ _ _ _ _ _ _ _ (E.out.arr 2 rfl)).mono ?_
  rintro e w1 ⟨rfl, hb⟩
  replace E := hid (E.out.up hb)
  clear hb
  obtain ⟨q00, q01, q02, q03⟩ := (E.out.hdr 0 rfl).all
  go_wp2_with fail
  refine (slices_ContainsFunc_structure_Iota_1 negB y.nums _ _ _ w1 (E.out.arr 2 rfl).nums (fun n => structure_Iota_1 n w1)).mono ?_
  rintro e w' ⟨rfl, rfl⟩
  rw [d.out]
  go_wp2_with fail
  refine (shape_Right y.nums _ _ _ w1 (E.out.arr 2 rfl).nums).mono ?_
  rintro e w' ⟨rfl, rfl⟩
  rw [s.out]
  go_wp2_with fail
  refine (slices_Clone y.nums _ _ _ w1 (E.out.arr 2 rfl).nums).mono ?_
  rintro e w2 ⟨da, dc, rfl, hO, hb⟩
  replace E := hid ((E.out.up hb).addIntsF (u := w1) ((hO.ints hnl).mono fun b _ hq => hq.1) E.out.blt E.out.size)
  (try simp only [List.cons_append, List.nil_append, List.set_cons_zero, List.set_cons_succ] at E)
  clear hO hb
  clear q00 q01 q02 q03
  go_upto_region 12 with (refine wpl_store4 rfl (.tmp 4) (.tmp 36) rfl _ rfl rfl ((E.out.alloc _).hdr 4 rfl) ?_; intro V1 HV CV; replace E := hid ((E.out.alloc _).chg 4 rfl CV HV); clear CV HV; (try simp only [List.cons_append, List.nil_append, List.set_cons_zero, List.set_cons_succ] at E))
  generalize w2.heap.size = bo at E ⊢
  obtain ⟨q00, q01, q02, q03⟩ := (E.out.hdr 0 rfl).all
  go_wp2_with fail
  refine (shape_Size y.nums _ _ _ V1 (E.out.arr 2 rfl).nums).mono ?_
  rintro e w' ⟨rfl, rfl⟩
  rw [hsz.out]
  clear q00 q01 q02 q03
  go_wp2_with fail
  replace E := hid E.out.row0I
  (try simp only [List.cons_append, List.nil_append, List.set_cons_zero, List.set_cons_succ] at E)
  go_loopw [40] (fun i wr => ∃ (m : Nat) (ra : Option Addr) (rc : Nat), m ≤ n ∧ i = .int .i64 m ∧ Env w S wr [.obj w.heap.size (.cells #[.int .i64 y.kind, .slice sy y.shape.length cy, .slice ny y.nums.length my, .slice iy y.items.length jy] 26 (0, 0)), .obj (w.heap.size + 1) (.cells #[.int .i64 0, .slice none 0 0, .slice none 0 0, .slice none 0 0] 26 (0, 0)), .arr y sy ny iy, .intsF y.nums da, .obj bo (.cells #[.int .i64 1, .slice da y.nums.length dc, .slice ra (rngL m).length rc, .slice none 0 0] 26 (0, 0)), .rowI ra rc (rngL m)]) (fun i _ => n - (intOf i).toNat)
  case atStart => exact ⟨0, none, 0, Nat.zero_le _, rfl, E.out⟩
  case round =>
    clear E
    obtain ⟨m, ra, rc, hm, rfl, E⟩ := hrel
    replace E := hid E
    by_cases hlt : m < n
    · have hPs := hid (rngL_succ m)
      have hPl := hid (rngL_len m)
      obtain ⟨q40, q41, q42, q43⟩ := (E.out.hdr 4 rfl).all
      go_upto_region 15 with (fail)
      refine wp_region_seq_tail 4 (Sees wr [(⟨bo, 2, none⟩, .slice ra (rngL m).length rc)]) [3] (fun k v u u' => match k with | 3 => v = .slice (some ⟨u.heap.size, 0, none⟩) 1 1 ∧ u' = u.alloc (.cells (([(m : Int)] : List Int).map (Value.int .i64)).toArray 3) | _ => False) (fun _ _ h e => h.up e) (Sees.start (all_cons (q42) (all_nil))) ?_
      simp only [List.take_succ_cons, List.take_zero, List.drop_succ_cons, List.drop_zero]
      repeat (first | (refine m_plain (v := ?_) (by rfl) (by rfl) ?_ ?_; rotate_left; (intro wz hSw; obtain ⟨-, hSc⟩ := hSw; (try simp only [List.forall_mem_cons, List.forall_mem_nil, and_true] at hSc); go_simp; (first | done | with_reducible rfl)); (intro K hK; (try simp only [Act.put, List.setIfInBounds_toArray, List.set_cons_zero, List.set_cons_succ]); refine hK _ _ ?_; clear hK K)) | (refine m_skip (by rfl) (by rfl) ?_; (intro K hK; (try simp only [Act.put, List.setIfInBounds_toArray, List.set_cons_zero, List.set_cons_succ]); refine hK _ _ ?_; clear hK K)))
      refine m_make (by rfl) (by rfl) ?_ ?_
      · intro wz hSw hdep R hRz
        obtain ⟨hSe, hSc⟩ := hSw
        (try simp only [List.forall_mem_cons, List.forall_mem_nil, and_true] at hSc)
        unfold does
        (go_simp; exact hRz.out _ _ ⟨ext_alloc _ _, rfl, rfl⟩)
      intro v3 u3 x3 hG3 K hK
      have hF3 := hG3.fact
      (try dsimp only at hF3)
      obtain ⟨rfl, rfl⟩ := hF3
      (try simp only [Act.put, List.setIfInBounds_toArray, List.set_cons_zero, List.set_cons_succ]); refine hK _ _ ?_; clear hK K
      repeat (first | (refine m_plain (v := ?_) (by rfl) (by rfl) ?_ ?_; rotate_left; (intro wz hSw; obtain ⟨-, hSc⟩ := hSw; (try simp only [List.forall_mem_cons, List.forall_mem_nil, and_true] at hSc); go_simp; (first | done | with_reducible rfl)); (intro K hK; (try simp only [Act.put, List.setIfInBounds_toArray, List.set_cons_zero, List.set_cons_succ]); refine hK _ _ ?_; clear hK K)) | (refine m_skip (by rfl) (by rfl) ?_; (intro K hK; (try simp only [Act.put, List.setIfInBounds_toArray, List.set_cons_zero, List.set_cons_succ]); refine hK _ _ ?_; clear hK K)))
      refine m_nil ?_
      intro wf hSf hAf
      have oF : Hid (IntsAt wf (fun b => u3.heap.size ≤ b) (some ⟨u3.heap.size, 0, none⟩) [(m : Int)]) := hid (lit_at (l := [(m : Int)]) (hAf 3 _ rfl) (by simp))
      replace E := hid (E.out.up hSf.1)
      clear hSf hAf hG3
      clear q40 q41 q42 q43
      refine wplE_addN E.out 4 5 rfl rfl (by decide) rfl rfl rfl (.tmp 44) (.tmp 46) (.tmp 4) (.tmp 48) (.tmp 47) rfl rfl rfl _ _ 1 [(m : Int)] rfl rfl oF.out (by rw [hPl.out]; simp; omega) (fun _ => rfl) (fun _ _ => rfl) (fun _ _ => rfl) ?_
      intro V na' nc' E'
      clear E oF
      have E := hid E'
      clear E'
      go_wp2_with fail
      go_roundw
      case rel => exact ⟨m + 1, na', nc', by omega, by go_num, by rw [hPs.out]; exact E.out⟩
      case measure => simp [intOf]; omega
    · have hmn : m = n := by omega
      subst hmn
      go_wp2_with (first
        | (refine wpl_load4 rfl (.tmp 4) rfl bo rfl (E.out.hdr 4 rfl) ?_)
        | (refine wpl_store4 rfl (.tmp 2) (.tmp 50) rfl _ rfl rfl (E.out.hdr 1 rfl) ?_; intro V2 H2 C2; replace E := hid (E.out.chg 1 rfl C2 H2)))
      replace E := hid (E.out.doneIF 5 rfl (by rw [rngL_len]; omega))
      refine bodyPost_ret (end_arr2 rfl H2 rfl rfl) rfl (hR.out _ _ ?_)
      refine RetAE.of hv.out hn.out ((E.out.intsF 3 rfl).mono fun b _ h => h.1.1) ((E.out.intsF 5 rfl).mono fun b _ h => h.1.1) (Nat.zero_le _) (by simp only [ItemsAt]) E.out.ext
set_option maxRecDepth 100000 in
set_option maxHeartbeats 4000000 in
theorem ref17_Iota (y : Arr) (sy : Option Addr) (cy : Nat) (ny : Option Addr) (my : Nat) (iy : Option Addr) (jy : Nat) (S : Nat → Prop) (w : World) (h : ArrAt w S y sy ny iy) : Calls Try.prog 12 #[.agg #[.int .i64 y.kind, .slice sy y.shape.length cy, .slice ny y.nums.length my, .slice iy y.items.length jy]] w (RetAE w (fun b => S b ∨ w.heap.size ≤ b) (iotS y) (ndE y)) := by
  refine calls_post fun R' hR => ?_
  have h0 := hid h
  have hsl := h.shape.1
  have hnl := h.nums.1
  clear h
  by_cases c : rightS y = 0
  case neg =>
    have cb : (rightS y == 0) = false := by simpa using c
    have cb2 : (rightS y != 0) = true := by simpa using c
    have hn := hid (ndE1 c)
    have hv := hid (iotS_no (y := y) (by rw [hn.out]; decide))
    replace c := hid c
    go_enter Try.func12, Try.ntmps12
    go_wp2_with fail
    generalize hEW : ((w).alloc (.cells #[.int .i64 y.kind, .slice sy y.shape.length cy, .slice ny y.nums.length my, .slice iy y.items.length jy] 26)).alloc (.cells #[.int .i64 0, .slice none 0 0, .slice none 0 0, .slice none 0 0] 26) = W
    have E := hid (env2 w S hEW)
    clear hEW
    replace E := hid (E.out.arg h0.out)
    (try simp only [List.cons_append, List.nil_append, List.set_cons_zero, List.set_cons_succ] at E)
    refine (ref03_Right y _ _ _ _ _ _ _ _ (E.out.arr 2 rfl)).mono ?_
    rintro e w1 ⟨rfl, hb⟩
    replace E := hid (E.out.up hb)
    clear hb
    go_wp2_with (refine wpl_store4 rfl (.tmp 2) (.tmp 10) rfl _ rfl rfl (E.out.hdr 1 rfl) ?_; intro V HV CV; replace E := hid (E.out.chg 1 rfl CV HV))
    exact bodyPost_ret (end_arr2 rfl HV rfl rfl) rfl (hR.out _ _ (RetAE.zero hv.out hn.out E.out.ext))
  have cb : (rightS y == 0) = true := by simpa using c
  have cb2 : (rightS y != 0) = false := by simpa using c
  by_cases k : y.kind = 1
  case neg =>
    have kb : (y.kind != 1) = true := by simp [k]
    have hn := hid (ndE14 c k)
    have hv := hid (iotS_no (y := y) (by rw [hn.out]; decide))
    replace c := hid c
    replace k := hid k
    go_enter Try.func12, Try.ntmps12
    go_wp2_with fail
    generalize hEW : ((w).alloc (.cells #[.int .i64 y.kind, .slice sy y.shape.length cy, .slice ny y.nums.length my, .slice iy y.items.length jy] 26)).alloc (.cells #[.int .i64 0, .slice none 0 0, .slice none 0 0, .slice none 0 0] 26) = W
    have E := hid (env2 w S hEW)
    clear hEW
    replace E := hid (E.out.arg h0.out)
    (try simp only [List.cons_append, List.nil_append, List.set_cons_zero, List.set_cons_succ] at E)
    refine (ref03_Right y _ _ _ _ _ _ _ _ (E.out.arr 2 rfl)).mono ?_
    rintro e w1 ⟨rfl, hb⟩
    replace E := hid (E.out.up hb)
    clear hb
    obtain ⟨q00, q01, q02, q03⟩ := (E.out.hdr 0 rfl).all
    go_wp2_with (refine wpl_store4 rfl (.tmp 2) (.tmp 14) rfl _ rfl rfl (E.out.hdr 1 rfl) ?_; intro V HV CV; replace E := hid (E.out.chg 1 rfl CV HV))
    exact bodyPost_ret (end_arr2 rfl HV rfl rfl) rfl (hR.out _ _ (RetAE.zero hv.out hn.out E.out.ext))
  have kb : (y.kind != 1) = false := by simp [k]
  by_cases z : 1 < y.shape.length
  case pos =>
    have hn := hid (ndE15 c k z)
    have hv := hid (iotS_no (y := y) (by rw [hn.out]; decide))
    replace c := hid c
    replace k := hid k
    go_enter Try.func12, Try.ntmps12
    go_wp2_with fail
    generalize hEW : ((w).alloc (.cells #[.int .i64 y.kind, .slice sy y.shape.length cy, .slice ny y.nums.length my, .slice iy y.items.length jy] 26)).alloc (.cells #[.int .i64 0, .slice none 0 0, .slice none 0 0, .slice none 0 0] 26) = W
    have E := hid (env2 w S hEW)
    clear hEW
    replace E := hid (E.out.arg h0.out)
    (try simp only [List.cons_append, List.nil_append, List.set_cons_zero, List.set_cons_succ] at E)
    refine (ref03_Right y _ _ _ _ _ _ _ _ (E.out.arr 2 rfl)).mono ?_
    rintro e w1 ⟨rfl, hb⟩
    replace E := hid (E.out.up hb)
    clear hb
    obtain ⟨q00, q01, q02, q03⟩ := (E.out.hdr 0 rfl).all
    go_wp2_with (refine wpl_store4 rfl (.tmp 2) (.tmp 19) rfl _ rfl rfl (E.out.hdr 1 rfl) ?_; intro V HV CV; replace E := hid (E.out.chg 1 rfl CV HV))
    exact bodyPost_ret (end_arr2 rfl HV rfl rfl) rfl (hR.out _ _ (RetAE.zero hv.out hn.out E.out.ext))
  have h17 := hid (fun d => ndE17 c k z d)
  have h21 := hid (fun d s => ndE21 c k z d s)
  have h00 := hid (fun d s => ndE0 c k z d s)
  replace c := hid c
  replace k := hid k
  go_enter Try.func12, Try.ntmps12
  go_wp2_with fail
  generalize hEW : ((w).alloc (.cells #[.int .i64 y.kind, .slice sy y.shape.length cy, .slice ny y.nums.length my, .slice iy y.items.length jy] 26)).alloc (.cells #[.int .i64 0, .slice none 0 0, .slice none 0 0, .slice none 0 0] 26) = W
  have E := hid (env2 w S hEW)
  clear hEW
  replace E := hid (E.out.arg h0.out)
  (try simp only [List.cons_append, List.nil_append, List.set_cons_zero, List.set_cons_succ] at E)
  refine (ref03_Right y _ _ _ _ _ _ _ _ (E.out.arr 2 rfl)).mono ?_
  rintro e w1 ⟨rfl, hb⟩
  replace E := hid (E.out.up hb)
  clear hb
  obtain ⟨q00, q01, q02, q03⟩ := (E.out.hdr 0 rfl).all
  go_wp2_with fail
  clear q00 q01 q02 q03
  go_loopw [4] (fun i wr => ∃ m : Nat, m ≤ y.nums.length ∧ i = .int .i64 m ∧ Hid (∀ j, j < m → 0 ≤ y.nums.getD j 0) ∧ Env w S wr [.obj w.heap.size (.cells #[.int .i64 y.kind, .slice sy y.shape.length cy, .slice ny y.nums.length my, .slice iy y.items.length jy] 26 (0, 0)), .obj (w.heap.size + 1) (.cells #[.int .i64 0, .slice none 0 0, .slice none 0 0, .slice none 0 0] 26 (0, 0)), .arr y sy ny iy]) (fun i _ => y.nums.length - (intOf i).toNat)
  case atStart => exact ⟨0, Nat.zero_le _, rfl, fun j hj => by omega, E.out⟩
  case round =>
    clear E
    obtain ⟨m, hm, rfl, hnn, E⟩ := hrel
    replace E := hid E
    by_cases hlt : m < y.nums.length
    · obtain ⟨b1, o1, hna, hbl1, hS1, hc⟩ := (E.out.arr 2 rfl).nums.at hlt
      have hN : Hid (0 ≤ y.nums.getD m 0 → ∀ j, j < m + 1 → 0 ≤ y.nums.getD j 0) := fun e j hj => by
        rcases Nat.lt_succ_iff_lt_or_eq.1 hj with h1 | h1
        · exact hnn.out j h1
        · rw [h1]; exact e
      have hD : Hid (y.nums.getD m 0 < 0 → y.nums.any negB = true) := fun e => List.any_eq_true.2 ⟨_, getD_mem hlt, decide_eq_true e⟩
      generalize y.nums.getD m 0 = d at hc hN hD
      subst hna
      have t3 : (0 : Int) ≤ (m : Int) := by omega
      have t4 : (m : Int) < (y.nums.length : Int) := by omega
      by_cases dn : d < 0
      · have hn := hid (h17.out (hD.out dn))
        have hv := hid (iotS_no (y := y) (by rw [hn.out]; decide))
        obtain ⟨q00, q01, q02, q03⟩ := (E.out.hdr 0 rfl).all
        go_wp2_with (refine wpl_store4 rfl (.tmp 2) (.tmp 33) rfl _ rfl rfl (E.out.hdr 1 rfl) ?_; intro V HV CV; replace E := hid (E.out.chg 1 rfl CV HV))
        exact bodyPost_ret (end_arr2 rfl HV rfl rfl) rfl (hR.out _ _ (RetAE.zero hv.out hn.out E.out.ext))
      ·
        obtain ⟨q00, q01, q02, q03⟩ := (E.out.hdr 0 rfl).all
        go_wp2_with fail
        go_roundw
        case rel => exact ⟨m + 1, by omega, by go_num, hN.out (by omega), E.out⟩
        case measure => simp [intOf]; omega
    · have hd : y.nums.any negB = false := any_negB.2 (fun d hd => by
        obtain ⟨j, hj, e⟩ := List.getElem_of_mem hd
        have := hnn.out j (by omega)
        simpa [hj, e] using this)
      clear hnn
      cases s : shapeB y.nums with
      | false =>
        have hn := hid (h21.out hd s)
        have hv := hid (iotS_no (y := y) (by rw [hn.out]; decide))
        have hde : (dimsE y.nums != 0) = true := by rw [bne_iff_ne]; intro q; rw [dimsE_zero.1 q] at s; cases s
        replace hd := hid hd
        replace s := hid s
        obtain ⟨q00, q01, q02, q03⟩ := (E.out.hdr 0 rfl).all
        go_wp2_with fail
        refine (ref03_Dims y.nums _ _ _ wr (E.out.arr 2 rfl).nums).mono ?_
        rintro e w' ⟨rfl, rfl⟩
        go_wp2_with (refine wpl_store4 rfl (.tmp 2) (.tmp 38) rfl _ rfl rfl (E.out.hdr 1 rfl) ?_; intro V HV CV; replace E := hid (E.out.chg 1 rfl CV HV))
        exact bodyPost_ret (end_arr2 rfl HV rfl rfl) rfl (hR.out _ _ (RetAE.zero hv.out hn.out E.out.ext))
      | true =>
      have hn := hid (h00.out hd s)
      have hv := hid (iotS_yes hn.out)
      obtain ⟨n, hnn⟩ : ∃ n, n = (cnt y.nums).toNat := ⟨_, rfl⟩
      have hcb := cnt_le s
      have hsz : Hid (cntC y.nums = (n : Int)) := hid (by rw [cntC_eq s]; omega)
      have hn6 : n ≤ 65536 := by omega
      have hde : (dimsE y.nums != 0) = false := by rw [dimsE_zero.2 s]; rfl
      rw [← hnn] at hv
      replace hnn := hid hnn
      replace hd := hid hd
      replace s := hid s
      clear hcb
      obtain ⟨q00, q01, q02, q03⟩ := (E.out.hdr 0 rfl).all
      go_wp2_with fail
      refine (ref03_Dims y.nums _ _ _ wr (E.out.arr 2 rfl).nums).mono ?_
      rintro e w' ⟨rfl, rfl⟩
      go_upto_region 14 with (fail)
      replace E := hid E.out.row0I
      (try simp only [List.cons_append, List.nil_append, List.set_cons_zero, List.set_cons_succ] at E)
      go_upto_region 15 with (first
        | (refine wplE_appI E.out 3 rfl rfl (.const (.slice none 0 0)) (.tmp 40) rfl rfl _ _ _ y.nums rfl (E.out.arr 2 rfl).nums (by simpa using hnl) ?_; intro V1 da dc E'; replace E := hid (E'.doneIF 3 rfl (by simpa using hnl)); clear E'; (try simp only [List.cons_append, List.nil_append, List.set_cons_zero, List.set_cons_succ] at E))
        | (refine wpl_store4 rfl (.tmp 5) (.tmp 42) rfl _ rfl rfl ((E.out.alloc _).hdr 4 rfl) ?_; intro V2 HV CV; replace E := hid ((E.out.alloc _).chg 4 rfl CV HV); clear CV HV; (try simp only [List.cons_append, List.nil_append, List.set_cons_zero, List.set_cons_succ] at E)))
      generalize V1.heap.size = bo at E ⊢
      go_wp2_with fail
      replace E := hid E.out.row0I
      (try simp only [List.cons_append, List.nil_append, List.set_cons_zero, List.set_cons_succ] at E)
      go_loopw [6] (fun i wr => ∃ (m : Nat) (ra : Option Addr) (rc : Nat), m ≤ n ∧ i = .int .i64 m ∧ Env w S wr [.obj w.heap.size (.cells #[.int .i64 y.kind, .slice sy y.shape.length cy, .slice ny y.nums.length my, .slice iy y.items.length jy] 26 (0, 0)), .obj (w.heap.size + 1) (.cells #[.int .i64 0, .slice none 0 0, .slice none 0 0, .slice none 0 0] 26 (0, 0)), .arr y sy ny iy, .intsF y.nums da, .obj bo (.cells #[.int .i64 1, .slice da y.nums.length dc, .slice ra (rngL m).length rc, .slice none 0 0] 26 (0, 0)), .rowI ra rc (rngL m)]) (fun i _ => n - (intOf i).toNat)
      case atStart => exact ⟨0, none, 0, Nat.zero_le _, rfl, E.out⟩
      case round =>
        clear E
        obtain ⟨m, ra, rc, hm, rfl, E⟩ := hrel
        replace E := hid E
        obtain ⟨q40, q41, q42, q43⟩ := (E.out.hdr 4 rfl).all
        go_wp2_with fail
        refine (ref03_Count y.nums _ _ _ _ (E.out.intsF 3 rfl)).mono ?_
        rintro e w' ⟨rfl, rfl⟩
        rw [hsz.out]
        by_cases hlt : m < n
        · have hPs := hid (rngL_succ m)
          have hPl := hid (rngL_len m)
          go_upto_region 18 with (fail)
          refine wp_region_seq_tail 4 (Sees wr [(⟨bo, 2, none⟩, .slice ra (rngL m).length rc)]) [3] (fun k v u u' => match k with | 3 => v = .slice (some ⟨u.heap.size, 0, none⟩) 1 1 ∧ u' = u.alloc (.cells (([(m : Int)] : List Int).map (Value.int .i64)).toArray 3) | _ => False) (fun _ _ h e => h.up e) (Sees.start (all_cons (q42) (all_nil))) ?_
          simp only [List.take_succ_cons, List.take_zero, List.drop_succ_cons, List.drop_zero]
          repeat (first | (refine m_plain (v := ?_) (by rfl) (by rfl) ?_ ?_; rotate_left; (intro wz hSw; obtain ⟨-, hSc⟩ := hSw; (try simp only [List.forall_mem_cons, List.forall_mem_nil, and_true] at hSc); go_simp; (first | done | with_reducible rfl)); (intro K hK; (try simp only [Act.put, List.setIfInBounds_toArray, List.set_cons_zero, List.set_cons_succ]); refine hK _ _ ?_; clear hK K)) | (refine m_skip (by rfl) (by rfl) ?_; (intro K hK; (try simp only [Act.put, List.setIfInBounds_toArray, List.set_cons_zero, List.set_cons_succ]); refine hK _ _ ?_; clear hK K)))
          refine m_make (by rfl) (by rfl) ?_ ?_
          · intro wz hSw hdep R hRz
            obtain ⟨hSe, hSc⟩ := hSw
            (try simp only [List.forall_mem_cons, List.forall_mem_nil, and_true] at hSc)
            unfold does
            (go_simp; exact hRz.out _ _ ⟨ext_alloc _ _, rfl, rfl⟩)
          intro v3 u3 x3 hG3 K hK
          have hF3 := hG3.fact
          (try dsimp only at hF3)
          obtain ⟨rfl, rfl⟩ := hF3
          (try simp only [Act.put, List.setIfInBounds_toArray, List.set_cons_zero, List.set_cons_succ]); refine hK _ _ ?_; clear hK K
          repeat (first | (refine m_plain (v := ?_) (by rfl) (by rfl) ?_ ?_; rotate_left; (intro wz hSw; obtain ⟨-, hSc⟩ := hSw; (try simp only [List.forall_mem_cons, List.forall_mem_nil, and_true] at hSc); go_simp; (first | done | with_reducible rfl)); (intro K hK; (try simp only [Act.put, List.setIfInBounds_toArray, List.set_cons_zero, List.set_cons_succ]); refine hK _ _ ?_; clear hK K)) | (refine m_skip (by rfl) (by rfl) ?_; (intro K hK; (try simp only [Act.put, List.setIfInBounds_toArray, List.set_cons_zero, List.set_cons_succ]); refine hK _ _ ?_; clear hK K)))
          refine m_nil ?_
          intro wf hSf hAf
          have oF : Hid (IntsAt wf (fun b => u3.heap.size ≤ b) (some ⟨u3.heap.size, 0, none⟩) [(m : Int)]) := hid (lit_at (l := [(m : Int)]) (hAf 3 _ rfl) (by simp))
          replace E := hid (E.out.up hSf.1)
          clear hSf hAf hG3
          clear q40 q41 q42 q43
          refine wplE_addN E.out 4 5 rfl rfl (by decide) rfl rfl rfl (.tmp 51) (.tmp 53) (.tmp 5) (.tmp 55) (.tmp 54) rfl rfl rfl _ _ 1 [(m : Int)] rfl rfl oF.out (by rw [hPl.out]; simp; omega) (fun _ => rfl) (fun _ _ => rfl) (fun _ _ => rfl) ?_
          intro V na' nc' E'
          clear E oF
          have E := hid E'
          clear E'
          go_wp2_with fail
          go_roundw
          case rel => exact ⟨m + 1, na', nc', by omega, by go_num, by rw [hPs.out]; exact E.out⟩
          case measure => simp [intOf]; omega
        · have hmn : m = n := by omega
          subst hmn
          clear q40 q41 q42 q43
          go_wp2_with (first
            | (refine wpl_load4 rfl (.tmp 5) rfl bo rfl (E.out.hdr 4 rfl) ?_)
            | (refine wpl_store4 rfl (.tmp 2) (.tmp 56) rfl _ rfl rfl (E.out.hdr 1 rfl) ?_; intro V2 H2 C2; replace E := hid (E.out.chg 1 rfl C2 H2)))
          replace E := hid (E.out.doneIF 5 rfl (by rw [rngL_len]; omega))
          refine bodyPost_ret (end_arr2 rfl H2 rfl rfl) rfl (hR.out _ _ ?_)
          refine RetAE.of hv.out hn.out ((E.out.intsF 3 rfl).mono fun b _ h => h.1.1) ((E.out.intsF 5 rfl).mono fun b _ h => h.1.1) (Nat.zero_le _) (by simp only [ItemsAt]) E.out.ext
end Go.Proofs.Ytkbbdlibamcilaa
