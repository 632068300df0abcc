/- StructureCounts: returns true. Condition: the array is read. -/
import Derived.Test.YtkbbdlibamcilaaLAW17L
import Derived.Test.YtkbbdlibamcilaaP17
set_option linter.unusedVariables false
set_option linter.unusedSimpArgs false
namespace Go.Proofs.Ytkbbdlibamcilaa
open Go.RowKit Go.Sort
attribute [local go_sem ↓] run_max2 run_min2
attribute [local go_sem] eql_ints_nil eql_arrs_nil
set_option maxRecDepth 100000 in
set_option maxHeartbeats 8000000 in
theorem law17_counts (y : Arr) (sy : Option Addr) (cy : Nat) (ny : Option Addr) (my : Nat) (iy : Option Addr) (jy : Nat) (S : Nat → Prop) (w : World) (h : ArrAt w S y sy ny iy) : Calls Try.prog 4 #[.agg #[.int .i64 y.kind, .slice sy y.shape.length cy, .slice ny y.nums.length my, .slice iy y.items.length jy]] w fun e w' => e = .returned (.bool true) ∧ Below w.heap.size w w' := by
  refine calls_post fun R' hR => ?_
  have h0 := hid h
  have hsl := h.shape.1
  have hnl := h.nums.1
  have hil := h.len
  clear h
  go_enter Try.func4, Try.ntmps4
  go_wp2_with fail
  generalize hEW : (w).alloc (.cells #[.int .i64 y.kind, .slice sy y.shape.length cy, .slice ny y.nums.length my, .slice iy y.items.length jy] 26) = W
  have E := hid (env1 w S hEW)
  clear hEW
  replace E := hid (E.out.arg h0.out)
  (try simp only [List.cons_append, List.nil_append, List.set_cons_zero, List.set_cons_succ] at E)
  refine (law17_few y _ _ _ _ _ _ _ _ (E.out.arr 1 rfl)).mono ?_
  rintro e w1 ⟨b1, rfl, hb⟩
  replace E := hid (E.out.up hb)
  clear hb
  cases b1 with
  | false =>
    go_wp2_with (go_at_call 10; refine (law17_example _).mono ?_; rintro e w2 ⟨rfl, hb2⟩)
    exact hR.out _ _ ⟨rfl, (E.out.up hb2).ext⟩
  | true =>
  by_cases c : ndE y = 0
  case neg =>
    obtain ⟨r1, hr1⟩ : ∃ r, r = iotS y := ⟨_, rfl⟩
    obtain ⟨q1, hq1⟩ : ∃ r, ndE y = r := ⟨_, rfl⟩
    have qb : (q1 != 0) = true := by simp only [bne_iff_ne]; omega
    have u1 : Hid (sameB r1 .zero = true) := hid (by rw [hr1, iotS_no c]; exact sameB_self _)
    replace hr1 := hid hr1
    replace hq1 := hid hq1
    replace c := hid c
    obtain ⟨q00, q01, q02, q03⟩ := (E.out.hdr 0 rfl).all
    go_wp2_with fail
    clear q00 q01 q02 q03
    refine (structure_Iota y _ _ _ _ _ _ _ _ (E.out.arr 1 rfl)).mono ?_
    intro e w2 h
    obtain ⟨s1, c1, n1, m1, i1, j1, rfl, hA, hb⟩ := h.eq hr1.out hq1.out
    replace E := hid ((E.out.up hb).addArr hA (fun b _ hq => E.out.res (Ext.refl _) hq))
    clear hA hb h
    (try simp only [List.cons_append, List.nil_append, List.set_cons_zero, List.set_cons_succ] at E)
    go_upto_region 4 with (refine wpl_store4 rfl (.tmp 3) (.tmp 14) rfl _ rfl rfl ((E.out.alloc _).hdr 3 rfl) ?_; intro V1 HV CV; replace E := hid ((E.out.alloc _).chg 3 rfl CV HV); clear CV HV; (try simp only [List.cons_append, List.nil_append, List.set_cons_zero, List.set_cons_succ] at E))
    generalize w2.heap.size = p1 at E ⊢
    obtain ⟨q30, q31, q32, q33⟩ := (E.out.hdr 3 rfl).all
    go_wp2_with fail
    clear q30 q31 q32 q33
    refine (ref03_Same r1 .zero _ _ _ _ _ _ none 0 none 0 none 0 _ (fun _ => True) _ (E.out.arr 2 rfl) (zero_at _ _ _ _ _)).mono ?_
    rintro e w3 ⟨rfl, hb⟩
    replace E := hid (E.out.up hb)
    clear hb
    rw [u1.out]
    go_wp2_with (go_at_call 10; refine (law17_example _).mono ?_; rintro e w2 ⟨rfl, hb2⟩)
    exact hR.out _ _ ⟨rfl, (E.out.up hb2).ext⟩
  obtain ⟨r1, hr1⟩ : ∃ r, r = iotS y := ⟨_, rfl⟩
  have hs1 : r1.shape = y.nums := by rw [hr1, iotS_yes c]; rfl
  have hn1 : Hid (r1.nums = rngL r1.nums.length) := hid (by rw [hr1, iotS_yes c]; simp only [Arr.nums, rngL_len])
  have hsb : Hid (eqI r1.shape y.nums = true) := hid (by rw [hs1]; simp [eqI])
  have hrt : Hid (rightS r1 = 0) := hid (by rw [hr1]; exact iot_right c)
  obtain ⟨r3, hr3⟩ : ∃ r, r = talS r1 := ⟨_, rfl⟩
  obtain ⟨r4, hr4⟩ : ∃ r, r = numA (talN r1) := ⟨_, rfl⟩
  have u34 : Hid (sameB r3 r4 = true) := hid (by rw [hr3, hr4, hr1, iot_tally c]; exact sameB_self _)
  obtain ⟨r5, hr5⟩ : ∃ r, r = shpS r1 := ⟨_, rfl⟩
  obtain ⟨r6, hr6⟩ : ∃ r, r = vctA y.nums := ⟨_, rfl⟩
  have u56 : Hid (sameB r5 r6 = true) := hid (by rw [hr5, hr6, hr1, iot_shape c]; exact sameB_self _)
  replace hr1 := hid hr1
  replace hr3 := hid hr3
  replace hr5 := hid hr5
  replace hr6 := hid hr6
  replace hs1 := hid hs1
  have q1 := hid c
  replace c := hid c
  obtain ⟨q00, q01, q02, q03⟩ := (E.out.hdr 0 rfl).all
  go_wp2_with fail
  clear q00 q01 q02 q03
  refine (structure_Iota y _ _ _ _ _ _ _ _ (E.out.arr 1 rfl)).mono ?_
  intro e w2 h
  obtain ⟨s1, c1, n1, m1, i1, j1, rfl, hA, hb⟩ := h.eq hr1.out c.out
  replace E := hid ((E.out.up hb).addArr hA (fun b _ hq => E.out.res (Ext.refl _) hq))
  clear hA hb h
  (try simp only [List.cons_append, List.nil_append, List.set_cons_zero, List.set_cons_succ] at E)
  have hl1 := (E.out.arr 2 rfl).nums.1
  go_upto_region 4 with (refine wpl_store4 rfl (.tmp 3) (.tmp 14) rfl _ rfl rfl ((E.out.alloc _).hdr 3 rfl) ?_; intro V1 HV CV; replace E := hid ((E.out.alloc _).chg 3 rfl CV HV); clear CV HV; (try simp only [List.cons_append, List.nil_append, List.set_cons_zero, List.set_cons_succ] at E))
  generalize w2.heap.size = p1 at E ⊢
  obtain ⟨q00, q01, q02, q03⟩ := (E.out.hdr 0 rfl).all
  obtain ⟨q30, q31, q32, q33⟩ := (E.out.hdr 3 rfl).all
  go_wp2_with fail
  clear q00 q01 q02 q03 q30 q31 q32 q33
  refine (ref03_Shapes r1.shape y.nums _ _ _ _ _ _ _ (E.out.arr 2 rfl).shape (E.out.arr 1 rfl).nums).mono ?_
  rintro e w3 ⟨rfl, n, hw3⟩
  replace E := hid (E.out.up (show Ext V1 w3 by rw [hw3]; exact ext_drewN _ _))
  clear hw3
  rw [hsb.out]
  obtain ⟨q30, q31, q32, q33⟩ := (E.out.hdr 3 rfl).all
  go_wp2_with fail
  clear q30 q31 q32 q33
  refine (ref03_Right r1 _ _ _ _ _ _ _ _ (E.out.arr 2 rfl)).mono ?_
  rintro e w4 ⟨rfl, hb⟩
  replace E := hid (E.out.up hb)
  clear hb
  rw [hrt.out]
  go_upto_region 9 with (fail)
  go_loopw [5] (fun i wr => ∃ k : Nat, k ≤ r1.nums.length ∧ i = .int .i64 k ∧ Env w S wr [.obj w.heap.size (.cells #[.int .i64 y.kind, .slice sy y.shape.length cy, .slice ny y.nums.length my, .slice iy y.items.length jy] 26 (0, 0)), .arr y sy ny iy, .arr r1 s1 n1 i1, .obj p1 (.cells #[.int .i64 r1.kind, .slice s1 r1.shape.length c1, .slice n1 r1.nums.length m1, .slice i1 r1.items.length j1] 26 (0, 0))]) (fun i _ => r1.nums.length - (intOf i).toNat)
  case atStart => exact ⟨0, Nat.zero_le _, rfl, E.out⟩
  case round =>
    clear E
    obtain ⟨k, hk, rfl, E⟩ := hrel
    replace E := hid E
    by_cases hlt : k < r1.nums.length
    · obtain ⟨b1, o1, hna, hbl1, hS1, hc⟩ := (E.out.arr 2 rfl).nums.at hlt
      rw [show r1.nums.getD k 0 = (k : Int) by rw [hn1.out]; exact rngL_getD hlt] at hc
      subst hna
      obtain ⟨q30, q31, q32, q33⟩ := (E.out.hdr 3 rfl).all
      go_wp2_with fail
      clear q30 q31 q32 q33
      go_roundw
      case rel => exact ⟨k + 1, by omega, by go_num, E.out⟩
      case measure => simp [intOf]; omega
    · by_cases z : r1.shape.length = 0
      case pos =>
        have ht : talN r1 = 1 := if_pos z
        rw [ht] at hr4
        replace hr4 := hid hr4
        clear ht
        have z1 : ¬ (0 : Int) < (r1.shape.length : Int) := by omega
        replace z := hid z
        obtain ⟨q30, q31, q32, q33⟩ := (E.out.hdr 3 rfl).all
        go_upto_region 16 with (fail)
        clear q30 q31 q32 q33
        clear z
        obtain ⟨T, hT1, hT2, hT3⟩ := E.out.tw
        refine wp_region_mono (Sees wr [(⟨p1, 0, none⟩, .int .i64 r1.kind), (⟨p1, 1, none⟩, .slice s1 r1.shape.length c1), (⟨p1, 2, none⟩, .slice n1 r1.nums.length m1), (⟨p1, 3, none⟩, .slice i1 r1.items.length j1), (⟨w.heap.size, 0, none⟩, .int .i64 y.kind), (⟨w.heap.size, 1, none⟩, .slice sy y.shape.length cy), (⟨w.heap.size, 2, none⟩, .slice ny y.nums.length my), (⟨w.heap.size, 3, none⟩, .slice iy y.items.length jy)]) [1, 3, 4, 5, 8, 12, 15, 16, 19] (fun k v u u' => match k with | 1 => RetA u T (r3) (.returned v) u' | 3 => v = .slice (some ⟨u.heap.size, 0, none⟩) 1 1 ∧ u' = u.alloc (.cells (([1] : List Int).map (Value.int .i64)).toArray 3) | 4 => RetA u T (r4) (.returned v) u' | 5 => v = .bool true | 8 => RetA u T (r5) (.returned v) u' | 12 => v = .slice (some ⟨u.heap.size, 0, none⟩) 1 1 ∧ u' = u.alloc (.cells (([(y.nums.length : Int)] : List Int).map (Value.int .i64)).toArray 3) | 15 => RetA u T (r6) (.returned v) u' | 16 => v = .bool true | 19 => v = .bool true | _ => False) (fun _ _ h e => h.up e) (Sees.start (all_cons ((E.out.hdr 3 rfl).c0) (all_cons ((E.out.hdr 3 rfl).c1) (all_cons ((E.out.hdr 3 rfl).c2) (all_cons ((E.out.hdr 3 rfl).c3) (all_cons ((E.out.hdr 0 rfl).c0) (all_cons ((E.out.hdr 0 rfl).c1) (all_cons ((E.out.hdr 0 rfl).c2) (all_cons ((E.out.hdr 0 rfl).c3) (all_nil)))))))))) (by kernel_rfl) (by kernel_rfl) ?_
        repeat (first | (refine m_plain (v := ?_) (by rfl) (by rfl) ?_ ?_; rotate_left; (intro wz hSw; obtain ⟨-, hSc⟩ := hSw; (try simp only [List.forall_mem_cons, List.forall_mem_nil, and_true] at hSc); go_simp; (first | done | with_reducible rfl)); (intro K hK; (try simp only [Act.put, List.setIfInBounds_toArray, List.set_cons_zero, List.set_cons_succ]); refine hK _ _ ?_; clear hK K)) | (refine m_skip (by rfl) (by rfl) ?_; (intro K hK; (try simp only [Act.put, List.setIfInBounds_toArray, List.set_cons_zero, List.set_cons_succ]); refine hK _ _ ?_; clear hK K)))
        refine m_make (by rfl) (by rfl) ?_ ?_
        · intro wz hSw hdep R hRz
          obtain ⟨hSe, hSc⟩ := hSw
          (try simp only [List.forall_mem_cons, List.forall_mem_nil, and_true] at hSc)
          unfold does
          (go_simp; refine Calls.mono (structure_Tally r1 _ _ _ _ _ _ _ wz (ArrAt.up (ArrAt.mono (fun b _ h => hT1 b h) _ (E.out.arr 2 rfl)) hSe)) ?_; intro e wq h; obtain ⟨v, rfl, h1⟩ := retA_arm hT2 hSe (h.eq hr3.out); exact ⟨_, rfl, hRz.out _ _ h1⟩)
        intro v1 u1 x1 hG1 K hK
        have hF1 := hG1.fact
        (try dsimp only at hF1)
        obtain ⟨s1, c1, n1, m1, i1, j1, he, hA1, hb1⟩ := hF1
        injection he with he
        subst he
        (try simp only [Act.put, List.setIfInBounds_toArray, List.set_cons_zero, List.set_cons_succ]); refine hK _ _ ?_; clear hK K
        repeat (first | (refine m_plain (v := ?_) (by rfl) (by rfl) ?_ ?_; rotate_left; (intro wz hSw; obtain ⟨-, hSc⟩ := hSw; (try simp only [List.forall_mem_cons, List.forall_mem_nil, and_true] at hSc); go_simp; (first | done | with_reducible rfl)); (intro K hK; (try simp only [Act.put, List.setIfInBounds_toArray, List.set_cons_zero, List.set_cons_succ]); refine hK _ _ ?_; clear hK K)) | (refine m_skip (by rfl) (by rfl) ?_; (intro K hK; (try simp only [Act.put, List.setIfInBounds_toArray, List.set_cons_zero, List.set_cons_succ]); refine hK _ _ ?_; clear hK K)))
        refine m_make (by rfl) (by rfl) ?_ ?_
        · intro wz hSw hdep R hRz
          obtain ⟨hSe, hSc⟩ := hSw
          (try simp only [List.forall_mem_cons, List.forall_mem_nil, and_true] at hSc)
          unfold does
          (go_simp; exact hRz.out _ _ ⟨ext_alloc _ _, rfl, rfl⟩)
        intro v3 u3 x3 hG3 K hK
        have hF3 := hG3.fact
        (try dsimp only at hF3)
        obtain ⟨rfl, rfl⟩ := hF3
        (try simp only [Act.put, List.setIfInBounds_toArray, List.set_cons_zero, List.set_cons_succ]); refine hK _ _ ?_; clear hK K
        repeat (first | (refine m_plain (v := ?_) (by rfl) (by rfl) ?_ ?_; rotate_left; (intro wz hSw; obtain ⟨-, hSc⟩ := hSw; (try simp only [List.forall_mem_cons, List.forall_mem_nil, and_true] at hSc); go_simp; (first | done | with_reducible rfl)); (intro K hK; (try simp only [Act.put, List.setIfInBounds_toArray, List.set_cons_zero, List.set_cons_succ]); refine hK _ _ ?_; clear hK K)) | (refine m_skip (by rfl) (by rfl) ?_; (intro K hK; (try simp only [Act.put, List.setIfInBounds_toArray, List.set_cons_zero, List.set_cons_succ]); refine hK _ _ ?_; clear hK K)))
        refine m_make (by rfl) (by rfl) ?_ ?_
        · intro wz hSw hdep R hRz
          obtain ⟨hSe, hSc⟩ := hSw
          (try simp only [List.forall_mem_cons, List.forall_mem_nil, and_true] at hSc)
          unfold does
          (go_simp; refine Calls.mono (law17_ints [] [1] none 0 _ _ _ wz (IntsAt.nil _ _ _) ((lit_at (hdep 3 _ rfl (depB_sound (f := 4) (by kernel_rfl))) (by first | decide | simp)).mono (fun b _ hb => hT2 b (Nat.le_trans (Below.size hG3.s.1) hb)))) ?_; intro e wq h; obtain ⟨v, rfl, h1⟩ := retA_arm hT2 hSe (h.eq hr4.out); exact ⟨_, rfl, hRz.out _ _ h1⟩)
        intro v4 u4 x4 hG4 K hK
        have hF4 := hG4.fact
        (try dsimp only at hF4)
        obtain ⟨s4, c4, n4, m4, i4, j4, he, hA4, hb4⟩ := hF4
        injection he with he
        subst he
        (try simp only [Act.put, List.setIfInBounds_toArray, List.set_cons_zero, List.set_cons_succ]); refine hK _ _ ?_; clear hK K
        repeat (first | (refine m_plain (v := ?_) (by rfl) (by rfl) ?_ ?_; rotate_left; (intro wz hSw; obtain ⟨-, hSc⟩ := hSw; (try simp only [List.forall_mem_cons, List.forall_mem_nil, and_true] at hSc); go_simp; (first | done | with_reducible rfl)); (intro K hK; (try simp only [Act.put, List.setIfInBounds_toArray, List.set_cons_zero, List.set_cons_succ]); refine hK _ _ ?_; clear hK K)) | (refine m_skip (by rfl) (by rfl) ?_; (intro K hK; (try simp only [Act.put, List.setIfInBounds_toArray, List.set_cons_zero, List.set_cons_succ]); refine hK _ _ ?_; clear hK K)))
        refine m_make (by rfl) (by rfl) ?_ ?_
        · intro wz hSw hdep R hRz
          obtain ⟨hSe, hSc⟩ := hSw
          (try simp only [List.forall_mem_cons, List.forall_mem_nil, and_true] at hSc)
          unfold does
          (go_simp; refine Calls.mono (ref03_Same r3 r4 _ _ _ _ _ _ _ _ _ _ _ _ _ _ wz (hA1.up (hdep 1 _ rfl (depB_sound (f := 4) (by kernel_rfl)))) (hA4.up (hdep 4 _ rfl (depB_sound (f := 4) (by kernel_rfl))))) ?_; rintro e wq ⟨rfl, hqb⟩; rw [u34.out]; exact ⟨_, rfl, hRz.out _ _ ⟨hqb, rfl⟩⟩)
        intro v5 u5 x5 hG5 K hK
        have hF5 := hG5.fact
        (try dsimp only at hF5)
        subst hF5
        (try simp only [Act.put, List.setIfInBounds_toArray, List.set_cons_zero, List.set_cons_succ]); refine hK _ _ ?_; clear hK K
        repeat (first | (refine m_plain (v := ?_) (by rfl) (by rfl) ?_ ?_; rotate_left; (intro wz hSw; obtain ⟨-, hSc⟩ := hSw; (try simp only [List.forall_mem_cons, List.forall_mem_nil, and_true] at hSc); go_simp; (first | done | with_reducible rfl)); (intro K hK; (try simp only [Act.put, List.setIfInBounds_toArray, List.set_cons_zero, List.set_cons_succ]); refine hK _ _ ?_; clear hK K)) | (refine m_skip (by rfl) (by rfl) ?_; (intro K hK; (try simp only [Act.put, List.setIfInBounds_toArray, List.set_cons_zero, List.set_cons_succ]); refine hK _ _ ?_; clear hK K)))
        refine m_make (by rfl) (by rfl) ?_ ?_
        · intro wz hSw hdep R hRz
          obtain ⟨hSe, hSc⟩ := hSw
          (try simp only [List.forall_mem_cons, List.forall_mem_nil, and_true] at hSc)
          unfold does
          (go_simp; refine Calls.mono (structure_Shape r1 _ _ _ _ _ _ _ wz (ArrAt.up (ArrAt.mono (fun b _ h => hT1 b h) _ (E.out.arr 2 rfl)) hSe)) ?_; intro e wq h; obtain ⟨v, rfl, h1⟩ := retA_arm hT2 hSe (h.eq hr5.out); exact ⟨_, rfl, hRz.out _ _ h1⟩)
        intro v8 u8 x8 hG8 K hK
        have hF8 := hG8.fact
        (try dsimp only at hF8)
        obtain ⟨s8, c8, n8, m8, i8, j8, he, hA8, hb8⟩ := hF8
        injection he with he
        subst he
        (try simp only [Act.put, List.setIfInBounds_toArray, List.set_cons_zero, List.set_cons_succ]); refine hK _ _ ?_; clear hK K
        repeat (first | (refine m_plain (v := ?_) (by rfl) (by rfl) ?_ ?_; rotate_left; (intro wz hSw; obtain ⟨-, hSc⟩ := hSw; (try simp only [List.forall_mem_cons, List.forall_mem_nil, and_true] at hSc); go_simp; (first | done | with_reducible rfl)); (intro K hK; (try simp only [Act.put, List.setIfInBounds_toArray, List.set_cons_zero, List.set_cons_succ]); refine hK _ _ ?_; clear hK K)) | (refine m_skip (by rfl) (by rfl) ?_; (intro K hK; (try simp only [Act.put, List.setIfInBounds_toArray, List.set_cons_zero, List.set_cons_succ]); refine hK _ _ ?_; clear hK K)))
        refine m_make (by rfl) (by rfl) ?_ ?_
        · intro wz hSw hdep R hRz
          obtain ⟨hSe, hSc⟩ := hSw
          (try simp only [List.forall_mem_cons, List.forall_mem_nil, and_true] at hSc)
          unfold does
          (go_simp; exact hRz.out _ _ ⟨ext_alloc _ _, rfl, rfl⟩)
        intro v12 u12 x12 hG12 K hK
        have hF12 := hG12.fact
        (try dsimp only at hF12)
        obtain ⟨rfl, rfl⟩ := hF12
        (try simp only [Act.put, List.setIfInBounds_toArray, List.set_cons_zero, List.set_cons_succ]); refine hK _ _ ?_; clear hK K
        repeat (first | (refine m_plain (v := ?_) (by rfl) (by rfl) ?_ ?_; rotate_left; (intro wz hSw; obtain ⟨-, hSc⟩ := hSw; (try simp only [List.forall_mem_cons, List.forall_mem_nil, and_true] at hSc); go_simp; (first | done | with_reducible rfl)); (intro K hK; (try simp only [Act.put, List.setIfInBounds_toArray, List.set_cons_zero, List.set_cons_succ]); refine hK _ _ ?_; clear hK K)) | (refine m_skip (by rfl) (by rfl) ?_; (intro K hK; (try simp only [Act.put, List.setIfInBounds_toArray, List.set_cons_zero, List.set_cons_succ]); refine hK _ _ ?_; clear hK K)))
        refine m_make (by rfl) (by rfl) ?_ ?_
        · intro wz hSw hdep R hRz
          obtain ⟨hSe, hSc⟩ := hSw
          (try simp only [List.forall_mem_cons, List.forall_mem_nil, and_true] at hSc)
          unfold does
          (go_simp; refine Calls.mono (law17_ints [(y.nums.length : Int)] y.nums _ _ _ _ _ wz ((lit_at (hdep 12 _ rfl (depB_sound (f := 4) (by kernel_rfl))) (by first | decide | simp)).mono (fun b _ hb => hT2 b (Nat.le_trans (Below.size hG12.s.1) hb))) (ArrAt.up (ArrAt.mono (fun b _ h => hT1 b h) _ (E.out.arr 1 rfl)) hSe).nums) ?_; intro e wq h; obtain ⟨v, rfl, h1⟩ := retA_arm hT2 hSe (h.eq hr6.out); exact ⟨_, rfl, hRz.out _ _ h1⟩)
        intro v15 u15 x15 hG15 K hK
        have hF15 := hG15.fact
        (try dsimp only at hF15)
        obtain ⟨s15, c15, n15, m15, i15, j15, he, hA15, hb15⟩ := hF15
        injection he with he
        subst he
        (try simp only [Act.put, List.setIfInBounds_toArray, List.set_cons_zero, List.set_cons_succ]); refine hK _ _ ?_; clear hK K
        repeat (first | (refine m_plain (v := ?_) (by rfl) (by rfl) ?_ ?_; rotate_left; (intro wz hSw; obtain ⟨-, hSc⟩ := hSw; (try simp only [List.forall_mem_cons, List.forall_mem_nil, and_true] at hSc); go_simp; (first | done | with_reducible rfl)); (intro K hK; (try simp only [Act.put, List.setIfInBounds_toArray, List.set_cons_zero, List.set_cons_succ]); refine hK _ _ ?_; clear hK K)) | (refine m_skip (by rfl) (by rfl) ?_; (intro K hK; (try simp only [Act.put, List.setIfInBounds_toArray, List.set_cons_zero, List.set_cons_succ]); refine hK _ _ ?_; clear hK K)))
        refine m_make (by rfl) (by rfl) ?_ ?_
        · intro wz hSw hdep R hRz
          obtain ⟨hSe, hSc⟩ := hSw
          (try simp only [List.forall_mem_cons, List.forall_mem_nil, and_true] at hSc)
          unfold does
          (go_simp; refine Calls.mono (ref03_Same r5 r6 _ _ _ _ _ _ _ _ _ _ _ _ _ _ wz (hA8.up (hdep 8 _ rfl (depB_sound (f := 4) (by kernel_rfl)))) (hA15.up (hdep 15 _ rfl (depB_sound (f := 4) (by kernel_rfl))))) ?_; rintro e wq ⟨rfl, hqb⟩; rw [u56.out]; exact ⟨_, rfl, hRz.out _ _ ⟨hqb, rfl⟩⟩)
        intro v16 u16 x16 hG16 K hK
        have hF16 := hG16.fact
        (try dsimp only at hF16)
        subst hF16
        (try simp only [Act.put, List.setIfInBounds_toArray, List.set_cons_zero, List.set_cons_succ]); refine hK _ _ ?_; clear hK K
        repeat (first | (refine m_plain (v := ?_) (by rfl) (by rfl) ?_ ?_; rotate_left; (intro wz hSw; obtain ⟨-, hSc⟩ := hSw; (try simp only [List.forall_mem_cons, List.forall_mem_nil, and_true] at hSc); go_simp; (first | done | with_reducible rfl)); (intro K hK; (try simp only [Act.put, List.setIfInBounds_toArray, List.set_cons_zero, List.set_cons_succ]); refine hK _ _ ?_; clear hK K)) | (refine m_skip (by rfl) (by rfl) ?_; (intro K hK; (try simp only [Act.put, List.setIfInBounds_toArray, List.set_cons_zero, List.set_cons_succ]); refine hK _ _ ?_; clear hK K)))
        refine m_make (by rfl) (by rfl) ?_ ?_
        · intro wz hSw hdep R hRz
          obtain ⟨hSe, hSc⟩ := hSw
          (try simp only [List.forall_mem_cons, List.forall_mem_nil, and_true] at hSc)
          unfold does
          (go_simp; refine Calls.mono (law17_example wz) ?_; rintro e wq ⟨rfl, hqb⟩; exact ⟨_, rfl, hRz.out _ _ ⟨hqb, rfl⟩⟩)
        intro v19 u19 x19 hG19 K hK
        have hF19 := hG19.fact
        (try dsimp only at hF19)
        subst hF19
        (try simp only [Act.put, List.setIfInBounds_toArray, List.set_cons_zero, List.set_cons_succ]); refine hK _ _ ?_; clear hK K
        repeat (first | (refine m_plain (v := ?_) (by rfl) (by rfl) ?_ ?_; rotate_left; (intro wz hSw; obtain ⟨-, hSc⟩ := hSw; (try simp only [List.forall_mem_cons, List.forall_mem_nil, and_true] at hSc); go_simp; (first | done | with_reducible rfl)); (intro K hK; (try simp only [Act.put, List.setIfInBounds_toArray, List.set_cons_zero, List.set_cons_succ]); refine hK _ _ ?_; clear hK K)) | (refine m_skip (by rfl) (by rfl) ?_; (intro K hK; (try simp only [Act.put, List.setIfInBounds_toArray, List.set_cons_zero, List.set_cons_succ]); refine hK _ _ ?_; clear hK K)))
        refine m_nil ?_
        intro wf hSf hAf
        have ef := hid (E.out.up hSf.1).ext
        clear hSf hAf
        go_wp2_with fail
        exact hR.out _ _ ⟨rfl, ef.out⟩
      case neg =>
        have ht : talN r1 = r1.shape.getD 0 0 := if_neg z
        rw [ht] at hr4
        replace hr4 := hid hr4
        have z1 : (0 : Int) < (r1.shape.length : Int) := by omega
        clear ht
        obtain ⟨b1, o1, hsa, hbl1, hS1, hc⟩ := (E.out.arr 2 rfl).shape.at (k := 0) (by omega)
        rw [Nat.add_zero] at hc
        generalize r1.shape.getD 0 0 = d at hr4 hc
        subst hsa
        obtain ⟨q30, q31, q32, q33⟩ := (E.out.hdr 3 rfl).all
        go_upto_region 16 with (fail)
        clear q30 q31 q32 q33
        clear hc
        generalize (some (⟨b1, o1, none⟩ : Addr)) = s1 at E ⊢
        obtain ⟨T, hT1, hT2, hT3⟩ := E.out.tw
        refine wp_region_mono (Sees wr [(⟨p1, 0, none⟩, .int .i64 r1.kind), (⟨p1, 1, none⟩, .slice s1 r1.shape.length c1), (⟨p1, 2, none⟩, .slice n1 r1.nums.length m1), (⟨p1, 3, none⟩, .slice i1 r1.items.length j1), (⟨w.heap.size, 0, none⟩, .int .i64 y.kind), (⟨w.heap.size, 1, none⟩, .slice sy y.shape.length cy), (⟨w.heap.size, 2, none⟩, .slice ny y.nums.length my), (⟨w.heap.size, 3, none⟩, .slice iy y.items.length jy)]) [1, 3, 4, 5, 8, 12, 15, 16, 19] (fun k v u u' => match k with | 1 => RetA u T (r3) (.returned v) u' | 3 => v = .slice (some ⟨u.heap.size, 0, none⟩) 1 1 ∧ u' = u.alloc (.cells (([d] : List Int).map (Value.int .i64)).toArray 3) | 4 => RetA u T (r4) (.returned v) u' | 5 => v = .bool true | 8 => RetA u T (r5) (.returned v) u' | 12 => v = .slice (some ⟨u.heap.size, 0, none⟩) 1 1 ∧ u' = u.alloc (.cells (([(y.nums.length : Int)] : List Int).map (Value.int .i64)).toArray 3) | 15 => RetA u T (r6) (.returned v) u' | 16 => v = .bool true | 19 => v = .bool true | _ => False) (fun _ _ h e => h.up e) (Sees.start (all_cons ((E.out.hdr 3 rfl).c0) (all_cons ((E.out.hdr 3 rfl).c1) (all_cons ((E.out.hdr 3 rfl).c2) (all_cons ((E.out.hdr 3 rfl).c3) (all_cons ((E.out.hdr 0 rfl).c0) (all_cons ((E.out.hdr 0 rfl).c1) (all_cons ((E.out.hdr 0 rfl).c2) (all_cons ((E.out.hdr 0 rfl).c3) (all_nil)))))))))) (by kernel_rfl) (by kernel_rfl) ?_
        repeat (first | (refine m_plain (v := ?_) (by rfl) (by rfl) ?_ ?_; rotate_left; (intro wz hSw; obtain ⟨-, hSc⟩ := hSw; (try simp only [List.forall_mem_cons, List.forall_mem_nil, and_true] at hSc); go_simp; (first | done | with_reducible rfl)); (intro K hK; (try simp only [Act.put, List.setIfInBounds_toArray, List.set_cons_zero, List.set_cons_succ]); refine hK _ _ ?_; clear hK K)) | (refine m_skip (by rfl) (by rfl) ?_; (intro K hK; (try simp only [Act.put, List.setIfInBounds_toArray, List.set_cons_zero, List.set_cons_succ]); refine hK _ _ ?_; clear hK K)))
        refine m_make (by rfl) (by rfl) ?_ ?_
        · intro wz hSw hdep R hRz
          obtain ⟨hSe, hSc⟩ := hSw
          (try simp only [List.forall_mem_cons, List.forall_mem_nil, and_true] at hSc)
          unfold does
          (go_simp; refine Calls.mono (structure_Tally r1 _ _ _ _ _ _ _ wz (ArrAt.up (ArrAt.mono (fun b _ h => hT1 b h) _ (E.out.arr 2 rfl)) hSe)) ?_; intro e wq h; obtain ⟨v, rfl, h1⟩ := retA_arm hT2 hSe (h.eq hr3.out); exact ⟨_, rfl, hRz.out _ _ h1⟩)
        intro v1 u1 x1 hG1 K hK
        have hF1 := hG1.fact
        (try dsimp only at hF1)
        obtain ⟨s1, c1, n1, m1, i1, j1, he, hA1, hb1⟩ := hF1
        injection he with he
        subst he
        (try simp only [Act.put, List.setIfInBounds_toArray, List.set_cons_zero, List.set_cons_succ]); refine hK _ _ ?_; clear hK K
        repeat (first | (refine m_plain (v := ?_) (by rfl) (by rfl) ?_ ?_; rotate_left; (intro wz hSw; obtain ⟨-, hSc⟩ := hSw; (try simp only [List.forall_mem_cons, List.forall_mem_nil, and_true] at hSc); go_simp; (first | done | with_reducible rfl)); (intro K hK; (try simp only [Act.put, List.setIfInBounds_toArray, List.set_cons_zero, List.set_cons_succ]); refine hK _ _ ?_; clear hK K)) | (refine m_skip (by rfl) (by rfl) ?_; (intro K hK; (try simp only [Act.put, List.setIfInBounds_toArray, List.set_cons_zero, List.set_cons_succ]); refine hK _ _ ?_; clear hK K)))
        refine m_make (by rfl) (by rfl) ?_ ?_
        · intro wz hSw hdep R hRz
          obtain ⟨hSe, hSc⟩ := hSw
          (try simp only [List.forall_mem_cons, List.forall_mem_nil, and_true] at hSc)
          unfold does
          (go_simp; exact hRz.out _ _ ⟨ext_alloc _ _, rfl, rfl⟩)
        intro v3 u3 x3 hG3 K hK
        have hF3 := hG3.fact
        (try dsimp only at hF3)
        obtain ⟨rfl, rfl⟩ := hF3
        (try simp only [Act.put, List.setIfInBounds_toArray, List.set_cons_zero, List.set_cons_succ]); refine hK _ _ ?_; clear hK K
        repeat (first | (refine m_plain (v := ?_) (by rfl) (by rfl) ?_ ?_; rotate_left; (intro wz hSw; obtain ⟨-, hSc⟩ := hSw; (try simp only [List.forall_mem_cons, List.forall_mem_nil, and_true] at hSc); go_simp; (first | done | with_reducible rfl)); (intro K hK; (try simp only [Act.put, List.setIfInBounds_toArray, List.set_cons_zero, List.set_cons_succ]); refine hK _ _ ?_; clear hK K)) | (refine m_skip (by rfl) (by rfl) ?_; (intro K hK; (try simp only [Act.put, List.setIfInBounds_toArray, List.set_cons_zero, List.set_cons_succ]); refine hK _ _ ?_; clear hK K)))
        refine m_make (by rfl) (by rfl) ?_ ?_
        · intro wz hSw hdep R hRz
          obtain ⟨hSe, hSc⟩ := hSw
          (try simp only [List.forall_mem_cons, List.forall_mem_nil, and_true] at hSc)
          unfold does
          (go_simp; refine Calls.mono (law17_ints [] [d] none 0 _ _ _ wz (IntsAt.nil _ _ _) ((lit_at (hdep 3 _ rfl (depB_sound (f := 4) (by kernel_rfl))) (by first | decide | simp)).mono (fun b _ hb => hT2 b (Nat.le_trans (Below.size hG3.s.1) hb)))) ?_; intro e wq h; obtain ⟨v, rfl, h1⟩ := retA_arm hT2 hSe (h.eq hr4.out); exact ⟨_, rfl, hRz.out _ _ h1⟩)
        intro v4 u4 x4 hG4 K hK
        have hF4 := hG4.fact
        (try dsimp only at hF4)
        obtain ⟨s4, c4, n4, m4, i4, j4, he, hA4, hb4⟩ := hF4
        injection he with he
        subst he
        (try simp only [Act.put, List.setIfInBounds_toArray, List.set_cons_zero, List.set_cons_succ]); refine hK _ _ ?_; clear hK K
        repeat (first | (refine m_plain (v := ?_) (by rfl) (by rfl) ?_ ?_; rotate_left; (intro wz hSw; obtain ⟨-, hSc⟩ := hSw; (try simp only [List.forall_mem_cons, List.forall_mem_nil, and_true] at hSc); go_simp; (first | done | with_reducible rfl)); (intro K hK; (try simp only [Act.put, List.setIfInBounds_toArray, List.set_cons_zero, List.set_cons_succ]); refine hK _ _ ?_; clear hK K)) | (refine m_skip (by rfl) (by rfl) ?_; (intro K hK; (try simp only [Act.put, List.setIfInBounds_toArray, List.set_cons_zero, List.set_cons_succ]); refine hK _ _ ?_; clear hK K)))
        refine m_make (by rfl) (by rfl) ?_ ?_
        · intro wz hSw hdep R hRz
          obtain ⟨hSe, hSc⟩ := hSw
          (try simp only [List.forall_mem_cons, List.forall_mem_nil, and_true] at hSc)
          unfold does
          (go_simp; refine Calls.mono (ref03_Same r3 r4 _ _ _ _ _ _ _ _ _ _ _ _ _ _ wz (hA1.up (hdep 1 _ rfl (depB_sound (f := 4) (by kernel_rfl)))) (hA4.up (hdep 4 _ rfl (depB_sound (f := 4) (by kernel_rfl))))) ?_; rintro e wq ⟨rfl, hqb⟩; rw [u34.out]; exact ⟨_, rfl, hRz.out _ _ ⟨hqb, rfl⟩⟩)
        intro v5 u5 x5 hG5 K hK
        have hF5 := hG5.fact
        (try dsimp only at hF5)
        subst hF5
        (try simp only [Act.put, List.setIfInBounds_toArray, List.set_cons_zero, List.set_cons_succ]); refine hK _ _ ?_; clear hK K
        repeat (first | (refine m_plain (v := ?_) (by rfl) (by rfl) ?_ ?_; rotate_left; (intro wz hSw; obtain ⟨-, hSc⟩ := hSw; (try simp only [List.forall_mem_cons, List.forall_mem_nil, and_true] at hSc); go_simp; (first | done | with_reducible rfl)); (intro K hK; (try simp only [Act.put, List.setIfInBounds_toArray, List.set_cons_zero, List.set_cons_succ]); refine hK _ _ ?_; clear hK K)) | (refine m_skip (by rfl) (by rfl) ?_; (intro K hK; (try simp only [Act.put, List.setIfInBounds_toArray, List.set_cons_zero, List.set_cons_succ]); refine hK _ _ ?_; clear hK K)))
        refine m_make (by rfl) (by rfl) ?_ ?_
        · intro wz hSw hdep R hRz
          obtain ⟨hSe, hSc⟩ := hSw
          (try simp only [List.forall_mem_cons, List.forall_mem_nil, and_true] at hSc)
          unfold does
          (go_simp; refine Calls.mono (structure_Shape r1 _ _ _ _ _ _ _ wz (ArrAt.up (ArrAt.mono (fun b _ h => hT1 b h) _ (E.out.arr 2 rfl)) hSe)) ?_; intro e wq h; obtain ⟨v, rfl, h1⟩ := retA_arm hT2 hSe (h.eq hr5.out); exact ⟨_, rfl, hRz.out _ _ h1⟩)
        intro v8 u8 x8 hG8 K hK
        have hF8 := hG8.fact
        (try dsimp only at hF8)
        obtain ⟨s8, c8, n8, m8, i8, j8, he, hA8, hb8⟩ := hF8
        injection he with he
        subst he
        (try simp only [Act.put, List.setIfInBounds_toArray, List.set_cons_zero, List.set_cons_succ]); refine hK _ _ ?_; clear hK K
        repeat (first | (refine m_plain (v := ?_) (by rfl) (by rfl) ?_ ?_; rotate_left; (intro wz hSw; obtain ⟨-, hSc⟩ := hSw; (try simp only [List.forall_mem_cons, List.forall_mem_nil, and_true] at hSc); go_simp; (first | done | with_reducible rfl)); (intro K hK; (try simp only [Act.put, List.setIfInBounds_toArray, List.set_cons_zero, List.set_cons_succ]); refine hK _ _ ?_; clear hK K)) | (refine m_skip (by rfl) (by rfl) ?_; (intro K hK; (try simp only [Act.put, List.setIfInBounds_toArray, List.set_cons_zero, List.set_cons_succ]); refine hK _ _ ?_; clear hK K)))
        refine m_make (by rfl) (by rfl) ?_ ?_
        · intro wz hSw hdep R hRz
          obtain ⟨hSe, hSc⟩ := hSw
          (try simp only [List.forall_mem_cons, List.forall_mem_nil, and_true] at hSc)
          unfold does
          (go_simp; exact hRz.out _ _ ⟨ext_alloc _ _, rfl, rfl⟩)
        intro v12 u12 x12 hG12 K hK
        have hF12 := hG12.fact
        (try dsimp only at hF12)
        obtain ⟨rfl, rfl⟩ := hF12
        (try simp only [Act.put, List.setIfInBounds_toArray, List.set_cons_zero, List.set_cons_succ]); refine hK _ _ ?_; clear hK K
        repeat (first | (refine m_plain (v := ?_) (by rfl) (by rfl) ?_ ?_; rotate_left; (intro wz hSw; obtain ⟨-, hSc⟩ := hSw; (try simp only [List.forall_mem_cons, List.forall_mem_nil, and_true] at hSc); go_simp; (first | done | with_reducible rfl)); (intro K hK; (try simp only [Act.put, List.setIfInBounds_toArray, List.set_cons_zero, List.set_cons_succ]); refine hK _ _ ?_; clear hK K)) | (refine m_skip (by rfl) (by rfl) ?_; (intro K hK; (try simp only [Act.put, List.setIfInBounds_toArray, List.set_cons_zero, List.set_cons_succ]); refine hK _ _ ?_; clear hK K)))
        refine m_make (by rfl) (by rfl) ?_ ?_
        · intro wz hSw hdep R hRz
          obtain ⟨hSe, hSc⟩ := hSw
          (try simp only [List.forall_mem_cons, List.forall_mem_nil, and_true] at hSc)
          unfold does
          (go_simp; refine Calls.mono (law17_ints [(y.nums.length : Int)] y.nums _ _ _ _ _ wz ((lit_at (hdep 12 _ rfl (depB_sound (f := 4) (by kernel_rfl))) (by first | decide | simp)).mono (fun b _ hb => hT2 b (Nat.le_trans (Below.size hG12.s.1) hb))) (ArrAt.up (ArrAt.mono (fun b _ h => hT1 b h) _ (E.out.arr 1 rfl)) hSe).nums) ?_; intro e wq h; obtain ⟨v, rfl, h1⟩ := retA_arm hT2 hSe (h.eq hr6.out); exact ⟨_, rfl, hRz.out _ _ h1⟩)
        intro v15 u15 x15 hG15 K hK
        have hF15 := hG15.fact
        (try dsimp only at hF15)
        obtain ⟨s15, c15, n15, m15, i15, j15, he, hA15, hb15⟩ := hF15
        injection he with he
        subst he
        (try simp only [Act.put, List.setIfInBounds_toArray, List.set_cons_zero, List.set_cons_succ]); refine hK _ _ ?_; clear hK K
        repeat (first | (refine m_plain (v := ?_) (by rfl) (by rfl) ?_ ?_; rotate_left; (intro wz hSw; obtain ⟨-, hSc⟩ := hSw; (try simp only [List.forall_mem_cons, List.forall_mem_nil, and_true] at hSc); go_simp; (first | done | with_reducible rfl)); (intro K hK; (try simp only [Act.put, List.setIfInBounds_toArray, List.set_cons_zero, List.set_cons_succ]); refine hK _ _ ?_; clear hK K)) | (refine m_skip (by rfl) (by rfl) ?_; (intro K hK; (try simp only [Act.put, List.setIfInBounds_toArray, List.set_cons_zero, List.set_cons_succ]); refine hK _ _ ?_; clear hK K)))
        refine m_make (by rfl) (by rfl) ?_ ?_
        · intro wz hSw hdep R hRz
          obtain ⟨hSe, hSc⟩ := hSw
          (try simp only [List.forall_mem_cons, List.forall_mem_nil, and_true] at hSc)
          unfold does
          (go_simp; refine Calls.mono (ref03_Same r5 r6 _ _ _ _ _ _ _ _ _ _ _ _ _ _ wz (hA8.up (hdep 8 _ rfl (depB_sound (f := 4) (by kernel_rfl)))) (hA15.up (hdep 15 _ rfl (depB_sound (f := 4) (by kernel_rfl))))) ?_; rintro e wq ⟨rfl, hqb⟩; rw [u56.out]; exact ⟨_, rfl, hRz.out _ _ ⟨hqb, rfl⟩⟩)
        intro v16 u16 x16 hG16 K hK
        have hF16 := hG16.fact
        (try dsimp only at hF16)
        subst hF16
        (try simp only [Act.put, List.setIfInBounds_toArray, List.set_cons_zero, List.set_cons_succ]); refine hK _ _ ?_; clear hK K
        repeat (first | (refine m_plain (v := ?_) (by rfl) (by rfl) ?_ ?_; rotate_left; (intro wz hSw; obtain ⟨-, hSc⟩ := hSw; (try simp only [List.forall_mem_cons, List.forall_mem_nil, and_true] at hSc); go_simp; (first | done | with_reducible rfl)); (intro K hK; (try simp only [Act.put, List.setIfInBounds_toArray, List.set_cons_zero, List.set_cons_succ]); refine hK _ _ ?_; clear hK K)) | (refine m_skip (by rfl) (by rfl) ?_; (intro K hK; (try simp only [Act.put, List.setIfInBounds_toArray, List.set_cons_zero, List.set_cons_succ]); refine hK _ _ ?_; clear hK K)))
        refine m_make (by rfl) (by rfl) ?_ ?_
        · intro wz hSw hdep R hRz
          obtain ⟨hSe, hSc⟩ := hSw
          (try simp only [List.forall_mem_cons, List.forall_mem_nil, and_true] at hSc)
          unfold does
          (go_simp; refine Calls.mono (law17_example wz) ?_; rintro e wq ⟨rfl, hqb⟩; exact ⟨_, rfl, hRz.out _ _ ⟨hqb, rfl⟩⟩)
        intro v19 u19 x19 hG19 K hK
        have hF19 := hG19.fact
        (try dsimp only at hF19)
        subst hF19
        (try simp only [Act.put, List.setIfInBounds_toArray, List.set_cons_zero, List.set_cons_succ]); refine hK _ _ ?_; clear hK K
        repeat (first | (refine m_plain (v := ?_) (by rfl) (by rfl) ?_ ?_; rotate_left; (intro wz hSw; obtain ⟨-, hSc⟩ := hSw; (try simp only [List.forall_mem_cons, List.forall_mem_nil, and_true] at hSc); go_simp; (first | done | with_reducible rfl)); (intro K hK; (try simp only [Act.put, List.setIfInBounds_toArray, List.set_cons_zero, List.set_cons_succ]); refine hK _ _ ?_; clear hK K)) | (refine m_skip (by rfl) (by rfl) ?_; (intro K hK; (try simp only [Act.put, List.setIfInBounds_toArray, List.set_cons_zero, List.set_cons_succ]); refine hK _ _ ?_; clear hK K)))
        refine m_nil ?_
        intro wf hSf hAf
        have ef := hid (E.out.up hSf.1).ext
        clear hSf hAf
        go_wp2_with fail
        exact hR.out _ _ ⟨rfl, ef.out⟩
end Go.Proofs.Ytkbbdlibamcilaa
