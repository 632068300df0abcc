/- The example of the law of joining: true. -/
import Derived.Test.YthhffneibcpbdaaJ20A
set_option linter.unusedVariables false
set_option linter.unusedSimpArgs false
namespace Go.Proofs.Ythhffneibcpbdaa
open Go.RowKit Go.Sort
attribute [local go_sem ↓] run_max2 run_min2
attribute [local go_sem] eql_ints_nil eql_arrs_nil
set_option maxRecDepth 100000 in
set_option maxHeartbeats 8000000 in
theorem law20_example (w : World) : Calls Try.prog 16 #[] w fun e w' => e = .returned (.bool true) ∧ Ext w w' := by
  refine calls_post fun R' hR => ?_
  obtain ⟨am, ham⟩ : ∃ a, a = Arr.mk 1 [2, 2] [1, 2, 3, 4] [] := ⟨_, rfl⟩
  obtain ⟨a1, ha1⟩ : ∃ a, a = Arr.mk 1 [2] [1, 2] [] := ⟨_, rfl⟩
  obtain ⟨a2, ha2⟩ : ∃ a, a = Arr.mk 1 [] [3] [] := ⟨_, rfl⟩
  obtain ⟨a3, ha3⟩ : ∃ a, a = Arr.mk 1 [2, 1] [5, 6] [] := ⟨_, rfl⟩
  obtain ⟨a4, ha4⟩ : ∃ a, a = Arr.mk 1 [2] [5, 6] [] := ⟨_, rfl⟩
  obtain ⟨a5, ha5⟩ : ∃ a, a = Arr.mk 1 [] [1] [] := ⟨_, rfl⟩
  obtain ⟨a6, ha6⟩ : ∃ a, a = Arr.mk 1 [] [2] [] := ⟨_, rfl⟩
  obtain ⟨b1, hb1⟩ : ∃ a, a = Arr.mk 1 [3] [1, 2, 3] [] := ⟨_, rfl⟩
  obtain ⟨b2, hb2⟩ : ∃ a, a = Arr.mk 1 [2, 3] [1, 2, 5, 3, 4, 6] [] := ⟨_, rfl⟩
  obtain ⟨b3, hb3⟩ : ∃ a, a = Arr.mk 1 [3, 2] [1, 2, 3, 4, 5, 6] [] := ⟨_, rfl⟩
  obtain ⟨b4, hb4⟩ : ∃ a, a = Arr.mk 1 [2] [1, 2] [] := ⟨_, rfl⟩
  obtain ⟨r1, hr1⟩ : ∃ a, a = joinS true a1 a2 := ⟨_, rfl⟩
  obtain ⟨r2, hr2⟩ : ∃ a, a = joinS true am a3 := ⟨_, rfl⟩
  obtain ⟨r3, hr3⟩ : ∃ a, a = joinS false am a4 := ⟨_, rfl⟩
  obtain ⟨r4, hr4⟩ : ∃ a, a = joinS true a5 a6 := ⟨_, rfl⟩
  have z1 : joinE true a1 a2 = 0 := by rw [ha1, ha2]; kernel_rfl
  have z2 : joinE true am a3 = 0 := by rw [ham, ha3]; kernel_rfl
  have z3 : joinE false am a4 = 0 := by rw [ham, ha4]; kernel_rfl
  have z4 : joinE true a5 a6 = 0 := by rw [ha5, ha6]; kernel_rfl
  have y1 : r1 = b1 := by rw [hr1, ha1, ha2, hb1]; kernel_rfl
  have y2 : r2 = b2 := by rw [hr2, ham, ha3, hb2]; kernel_rfl
  have y3 : r3 = b3 := by rw [hr3, ham, ha4, hb3]; kernel_rfl
  have y4 : r4 = b4 := by rw [hr4, ha5, ha6, hb4]; kernel_rfl
  have hit2 : (joinS true am a3).items = [] := by rw [← hr2, y2, hb2]; rfl
  have hit3 : (joinS false am a4).items = [] := by rw [← hr3, y3, hb3]; rfl
  have hu1 : Hid (sameB r1 b1 = true) := hid (by rw [y1]; exact sameB_self _)
  have hu2 : Hid (sameB r2 b2 = true) := hid (by rw [y2]; exact sameB_self _)
  have hu3 : Hid (sameB r3 b3 = true) := hid (by rw [y3]; exact sameB_self _)
  have hu4 : Hid (sameB r4 b4 = true) := hid (by rw [y4]; exact sameB_self _)
  clear y1 y2 y3 y4
  replace ham := hid ham
  replace ha1 := hid ha1
  replace ha2 := hid ha2
  replace ha3 := hid ha3
  replace ha4 := hid ha4
  replace ha5 := hid ha5
  replace ha6 := hid ha6
  replace hb1 := hid hb1
  replace hb2 := hid hb2
  replace hb3 := hid hb3
  replace hb4 := hid hb4
  replace hr1 := hid hr1
  replace hr2 := hid hr2
  replace hr3 := hid hr3
  replace hr4 := hid hr4
  replace hit2 := hid hit2
  replace hit3 := hid hit3
  replace z1 := hid z1
  replace z2 := hid z2
  replace z3 := hid z3
  replace z4 := hid z4
  have E := hid (Env.start w (fun _ => False))
  go_enter Try.func16, Try.ntmps16
  go_wp2_with fail
  replace E := hid (E.out.lit2 [2, 2] [1, 2, 3, 4] (by decide) (by decide))
  (try simp only [List.cons_append, List.nil_append, List.set_cons_zero, List.set_cons_succ] at E)
  refine (law20_ints [2, 2] [1, 2, 3, 4] _ _ _ _ _ _ (E.out.ints 0 rfl) (E.out.ints 1 rfl) (by decide) (by decide)).mono ?_
  intro e w1 h
  obtain ⟨s101, c101, n101, m101, i101, j101, rfl, hA, hb, hC101⟩ := h.eq ham.out
  replace E := hid ((E.out.up hb).addArr hA (fun b _ hq => E.out.res (Ext.refl _) hq))
  replace hC101 := hid hC101
  clear hA hb h
  (try simp only [List.cons_append, List.nil_append, List.set_cons_zero, List.set_cons_succ] at E)
  go_wp2_with (refine wpl_store4 rfl (.tmp 1) (.tmp 12) rfl _ rfl rfl ((E.out.alloc _).hdr 3 rfl) ?_; intro V1 HV CV; replace E := hid ((E.out.alloc _).chg 3 rfl CV HV); clear CV HV; (try simp only [List.cons_append, List.nil_append, List.set_cons_zero, List.set_cons_succ] at E))
  generalize w1.heap.size = p1 at E ⊢
  replace E := hid (E.out.lit2 [2] [1, 2] (by decide) (by decide))
  (try simp only [List.cons_append, List.nil_append, List.set_cons_zero, List.set_cons_succ] at E)
  refine (law20_ints [2] [1, 2] _ _ _ _ _ _ (E.out.ints 4 rfl) (E.out.ints 5 rfl) (by decide) (by decide)).mono ?_
  intro e w2 h
  obtain ⟨s102, c102, n102, m102, i102, j102, rfl, hA, hb, hC102⟩ := h.eq ha1.out
  replace E := hid ((E.out.up hb).addArr hA (fun b _ hq => E.out.res (Ext.refl _) hq))
  replace hC102 := hid hC102
  clear hA hb h
  (try simp only [List.cons_append, List.nil_append, List.set_cons_zero, List.set_cons_succ] at E)
  go_wp2_with fail
  replace E := hid (E.out.lit [3] (by decide))
  (try simp only [List.cons_append, List.nil_append, List.set_cons_zero, List.set_cons_succ] at E)
  refine (law20_ints [] [3] none 0 _ _ _ _ (IntsAt.nil _ _ _) (E.out.ints 7 rfl) (by decide) (by decide)).mono ?_
  intro e w3 h
  obtain ⟨s103, c103, n103, m103, i103, j103, rfl, hA, hb, hC103⟩ := h.eq ha2.out
  replace E := hid ((E.out.up hb).addArr hA (fun b _ hq => E.out.res (Ext.refl _) hq))
  replace hC103 := hid hC103
  clear hA hb h
  (try simp only [List.cons_append, List.nil_append, List.set_cons_zero, List.set_cons_succ] at E)
  go_wp2_with fail
  refine (joining_Last a1 _ _ _ _ _ _ a2 _ _ _ _ _ _ _ _ (E.out.arr 6 rfl) (E.out.arr 8 rfl) hC102.out hC103.out).mono ?_
  intro e w4 h
  obtain ⟨s104, c104, n104, m104, i104, j104, rfl, hA, hb, hC104⟩ := h.eq hr1.out z1.out
  replace E := hid ((E.out.up hb).addArr hA (fun b _ hq => E.out.res (Ext.refl _) hq))
  replace hC104 := hid hC104
  clear hA hb h
  (try simp only [List.cons_append, List.nil_append, List.set_cons_zero, List.set_cons_succ] at E)
  go_upto_region 3 with (refine wpl_store4 rfl (.tmp 2) (.tmp 20) rfl _ rfl rfl ((E.out.alloc _).hdr 10 rfl) ?_; intro V2 HV CV; replace E := hid ((E.out.alloc _).chg 10 rfl CV HV); clear CV HV; (try simp only [List.cons_append, List.nil_append, List.set_cons_zero, List.set_cons_succ] at E))
  generalize w4.heap.size = p2 at E ⊢
  obtain ⟨T, hT1, hT2, hT3⟩ := E.out.tw
  refine wp_region_edge 7 9 (by kernel_rfl) (by kernel_rfl) (fun o _ v c a w h => by cases hd : o.dst <;> (rw [hd] at h; exact h)) _ rfl 9 (Sees V2 [(⟨p1, 0, none⟩, .int .i64 am.kind), (⟨p1, 1, none⟩, .slice s101 am.shape.length c101), (⟨p1, 2, none⟩, .slice n101 am.nums.length m101), (⟨p1, 3, none⟩, .slice i101 am.items.length j101)]) [1, 2, 3, 4, 8] (fun k v u u' => match k with | 1 => v = .slice (some ⟨u.heap.size, 0, none⟩) 2 2 ∧ u' = u.alloc (.cells (([2, 1] : List Int).map (Value.int .i64)).toArray 3) | 2 => v = .slice (some ⟨u.heap.size, 0, none⟩) 2 2 ∧ u' = u.alloc (.cells (([5, 6] : List Int).map (Value.int .i64)).toArray 3) | 3 => RetAC u T (a3) (.returned v) u' | 4 => RetAE u (fun b => u.heap.size ≤ b) (r2) (0) (.returned v) u' | 8 => v = .pointer (some ⟨u.heap.size, 0, none⟩) ∧ u' = u.alloc (.cells #[.int .i64 0, .slice none 0 0, .slice none 0 0, .slice none 0 0] 26) | _ => False) (fun _ _ h e => h.up e) (Sees.start (all_cons ((E.out.hdr 3 rfl).c0) (all_cons ((E.out.hdr 3 rfl).c1) (all_cons ((E.out.hdr 3 rfl).c2) (all_cons ((E.out.hdr 3 rfl).c3) (all_nil)))))) (by kernel_rfl) ?_
  simp only [withEdge, List.modify_succ_cons, List.modify_zero_cons, List.push_toArray, List.cons_append, List.nil_append]
  simp only [List.take_succ_cons, List.take_zero, List.drop_succ_cons, List.drop_zero]
  repeat (first | (refine m_plain (v := ?_) (by rfl) (by rfl) ?_ ?_; rotate_left; (intro wz hSw; obtain ⟨-, hSc⟩ := hSw; (try simp only [List.forall_mem_cons, List.forall_mem_nil, and_true] at hSc); go_simp; (first | done | with_reducible rfl)); (intro K hK; (try simp only [Act.put, List.setIfInBounds_toArray, List.set_cons_zero, List.set_cons_succ]); refine hK _ _ ?_; clear hK K)) | (refine m_skip (by rfl) (by rfl) ?_; (intro K hK; (try simp only [Act.put, List.setIfInBounds_toArray, List.set_cons_zero, List.set_cons_succ]); refine hK _ _ ?_; clear hK K)))
  refine m_make (by rfl) (by rfl) ?_ ?_
  · intro wz hSw hdep R hRz
    obtain ⟨hSe, hSc⟩ := hSw
    (try simp only [List.forall_mem_cons, List.forall_mem_nil, and_true] at hSc)
    unfold does
    (go_simp; exact hRz.out _ _ ⟨ext_alloc _ _, rfl, rfl⟩)
  intro v1 u1 x1 hG1 K hK
  have hF1 := hG1.fact
  (try dsimp only at hF1)
  obtain ⟨rfl, rfl⟩ := hF1
  (try simp only [Act.put, List.setIfInBounds_toArray, List.set_cons_zero, List.set_cons_succ]); refine hK _ _ ?_; clear hK K
  repeat (first | (refine m_plain (v := ?_) (by rfl) (by rfl) ?_ ?_; rotate_left; (intro wz hSw; obtain ⟨-, hSc⟩ := hSw; (try simp only [List.forall_mem_cons, List.forall_mem_nil, and_true] at hSc); go_simp; (first | done | with_reducible rfl)); (intro K hK; (try simp only [Act.put, List.setIfInBounds_toArray, List.set_cons_zero, List.set_cons_succ]); refine hK _ _ ?_; clear hK K)) | (refine m_skip (by rfl) (by rfl) ?_; (intro K hK; (try simp only [Act.put, List.setIfInBounds_toArray, List.set_cons_zero, List.set_cons_succ]); refine hK _ _ ?_; clear hK K)))
  refine m_make (by rfl) (by rfl) ?_ ?_
  · intro wz hSw hdep R hRz
    obtain ⟨hSe, hSc⟩ := hSw
    (try simp only [List.forall_mem_cons, List.forall_mem_nil, and_true] at hSc)
    unfold does
    (go_simp; exact hRz.out _ _ ⟨ext_alloc _ _, rfl, rfl⟩)
  intro v2 u2 x2 hG2 K hK
  have hF2 := hG2.fact
  (try dsimp only at hF2)
  obtain ⟨rfl, rfl⟩ := hF2
  (try simp only [Act.put, List.setIfInBounds_toArray, List.set_cons_zero, List.set_cons_succ]); refine hK _ _ ?_; clear hK K
  repeat (first | (refine m_plain (v := ?_) (by rfl) (by rfl) ?_ ?_; rotate_left; (intro wz hSw; obtain ⟨-, hSc⟩ := hSw; (try simp only [List.forall_mem_cons, List.forall_mem_nil, and_true] at hSc); go_simp; (first | done | with_reducible rfl)); (intro K hK; (try simp only [Act.put, List.setIfInBounds_toArray, List.set_cons_zero, List.set_cons_succ]); refine hK _ _ ?_; clear hK K)) | (refine m_skip (by rfl) (by rfl) ?_; (intro K hK; (try simp only [Act.put, List.setIfInBounds_toArray, List.set_cons_zero, List.set_cons_succ]); refine hK _ _ ?_; clear hK K)))
  refine m_make (by rfl) (by rfl) ?_ ?_
  · intro wz hSw hdep R hRz
    obtain ⟨hSe, hSc⟩ := hSw
    (try simp only [List.forall_mem_cons, List.forall_mem_nil, and_true] at hSc)
    unfold does
    (go_simp; refine Calls.mono (law20_ints [2, 1] [5, 6] _ _ _ _ _ wz ((lit_at (hdep 1 _ rfl (depB_sound (f := 4) (by kernel_rfl))) (by first | decide | simp)).mono (fun b _ hb => hT2 b (Nat.le_trans (Below.size hG1.s.1) hb))) ((lit_at (hdep 2 _ rfl (depB_sound (f := 4) (by kernel_rfl))) (by first | decide | simp)).mono (fun b _ hb => hT2 b (Nat.le_trans (Below.size hG2.s.1) hb))) (by decide) (by decide)) ?_; intro e wq h; obtain ⟨v, rfl, h1⟩ := retAC_arm hT2 hSe (h.eq ha3.out); exact ⟨_, rfl, hRz.out _ _ h1⟩)
  intro v3 u3 x3 hG3 K hK
  have hF3 := hG3.fact
  (try dsimp only at hF3)
  obtain ⟨s3, c3, n3, m3, i3, j3, he, hA3, hb3, hC3⟩ := hF3
  injection he with he
  subst he
  replace hC3 := hid hC3
  (try simp only [Act.put, List.setIfInBounds_toArray, List.set_cons_zero, List.set_cons_succ]); refine hK _ _ ?_; clear hK K
  repeat (first | (refine m_plain (v := ?_) (by rfl) (by rfl) ?_ ?_; rotate_left; (intro wz hSw; obtain ⟨-, hSc⟩ := hSw; (try simp only [List.forall_mem_cons, List.forall_mem_nil, and_true] at hSc); go_simp; (first | done | with_reducible rfl)); (intro K hK; (try simp only [Act.put, List.setIfInBounds_toArray, List.set_cons_zero, List.set_cons_succ]); refine hK _ _ ?_; clear hK K)) | (refine m_skip (by rfl) (by rfl) ?_; (intro K hK; (try simp only [Act.put, List.setIfInBounds_toArray, List.set_cons_zero, List.set_cons_succ]); refine hK _ _ ?_; clear hK K)))
  refine m_make (by rfl) (by rfl) ?_ ?_
  · intro wz hSw hdep R hRz
    obtain ⟨hSe, hSc⟩ := hSw
    (try simp only [List.forall_mem_cons, List.forall_mem_nil, and_true] at hSc)
    unfold does
    (go_simp; refine Calls.mono (N_joining_Last am _ _ _ _ _ _ a3 _ _ _ _ _ _ _ wz (ArrAt.up (ArrAt.mono (fun b _ h => hT1 b h) _ (E.out.arr 2 rfl)) hSe) (hA3.up (hdep 3 _ rfl (depB_sound (f := 4) (by kernel_rfl)))) hC101.out hC3.out hit2.out) ?_; intro e wq h; obtain ⟨ta, tc, tn, tnc, ti, tic, rfl, hq, hqb⟩ := (h.eq hr2.out z2.out); exact ⟨_, rfl, hRz.out _ _ ⟨hqb, ta, tc, tn, tnc, ti, tic, rfl, hq, hqb⟩⟩)
  intro v4 u4 x4 hG4 K hK
  have hF4 := hG4.fact
  (try dsimp only at hF4)
  obtain ⟨s4, c4, n4, m4, i4, j4, he, hA4, hb4⟩ := hF4
  injection he with he
  subst he
  (try simp only [Act.put, List.setIfInBounds_toArray, List.set_cons_zero, List.set_cons_succ]); refine hK _ _ ?_; clear hK K
  repeat (first | (refine m_plain (v := ?_) (by rfl) (by rfl) ?_ ?_; rotate_left; (intro wz hSw; obtain ⟨-, hSc⟩ := hSw; (try simp only [List.forall_mem_cons, List.forall_mem_nil, and_true] at hSc); go_simp; (first | done | with_reducible rfl)); (intro K hK; (try simp only [Act.put, List.setIfInBounds_toArray, List.set_cons_zero, List.set_cons_succ]); refine hK _ _ ?_; clear hK K)) | (refine m_skip (by rfl) (by rfl) ?_; (intro K hK; (try simp only [Act.put, List.setIfInBounds_toArray, List.set_cons_zero, List.set_cons_succ]); refine hK _ _ ?_; clear hK K)))
  refine m_make (by rfl) (by rfl) ?_ ?_
  · intro wz hSw hdep R hRz
    obtain ⟨hSe, hSc⟩ := hSw
    (try simp only [List.forall_mem_cons, List.forall_mem_nil, and_true] at hSc)
    unfold does
    (go_simp; exact hRz.out _ _ ⟨ext_alloc _ _, rfl, rfl⟩)
  intro v8 u8 x8 hG8 K hK
  have hF8 := hG8.fact
  (try dsimp only at hF8)
  obtain ⟨rfl, rfl⟩ := hF8
  (try simp only [Act.put, List.setIfInBounds_toArray, List.set_cons_zero, List.set_cons_succ]); refine hK _ _ ?_; clear hK K
  repeat (first | (refine m_plain (v := ?_) (by rfl) (by rfl) ?_ ?_; rotate_left; (intro wz hSw; obtain ⟨-, hSc⟩ := hSw; (try simp only [List.forall_mem_cons, List.forall_mem_nil, and_true] at hSc); go_simp; (first | done | with_reducible rfl)); (intro K hK; (try simp only [Act.put, List.setIfInBounds_toArray, List.set_cons_zero, List.set_cons_succ]); refine hK _ _ ?_; clear hK K)) | (refine m_skip (by rfl) (by rfl) ?_; (intro K hK; (try simp only [Act.put, List.setIfInBounds_toArray, List.set_cons_zero, List.set_cons_succ]); refine hK _ _ ?_; clear hK K)))
  refine m_nil ?_
  intro wf hSf hAf
  replace E := hid (E.out.varO hA4 (hAf 4 _ rfl) (hG8.order 4 _ rfl) hG4.s.1 hG8.s.1 (hAf 8 _ rfl) hSf.1)
  refine wpl_store4 (by rfl) (.tmp 4) (.tmp 28) (by rfl) _ (by rfl) (by rfl) (E.out.hdr 11 rfl) ?_
  intro V3 HV CV
  replace E := hid (E.out.chg 11 rfl CV HV)
  clear CV HV hSf hAf
  (try simp only [List.cons_append, List.nil_append, List.set_cons_zero, List.set_cons_succ] at E)
  clear hG1 hG2 hG3 hG4 hG8 hA3 hA4 hb3 hb4 hT1 hT2 hT3
  generalize u8.heap.size = p3 at E ⊢
  clear hC3
  obtain ⟨s105, hq⟩ : ∃ s, s = s4 := ⟨_, rfl⟩
  subst hq
  obtain ⟨c105, hq⟩ : ∃ s, s = c4 := ⟨_, rfl⟩
  subst hq
  obtain ⟨n105, hq⟩ : ∃ s, s = n4 := ⟨_, rfl⟩
  subst hq
  obtain ⟨m105, hq⟩ : ∃ s, s = m4 := ⟨_, rfl⟩
  subst hq
  obtain ⟨i105, hq⟩ : ∃ s, s = i4 := ⟨_, rfl⟩
  subst hq
  obtain ⟨j105, hq⟩ : ∃ s, s = j4 := ⟨_, rfl⟩
  subst hq
  go_upto_region 4 with fail
  obtain ⟨T, hT1, hT2, hT3⟩ := E.out.tw
  refine wp_region_edge 7 9 (by kernel_rfl) (by kernel_rfl) (fun o _ v c a w h => by cases hd : o.dst <;> (rw [hd] at h; exact h)) _ rfl 9 (Sees V3 [(⟨p1, 0, none⟩, .int .i64 am.kind), (⟨p1, 1, none⟩, .slice s101 am.shape.length c101), (⟨p1, 2, none⟩, .slice n101 am.nums.length m101), (⟨p1, 3, none⟩, .slice i101 am.items.length j101)]) [1, 2, 3, 4, 8] (fun k v u u' => match k with | 1 => v = .slice (some ⟨u.heap.size, 0, none⟩) 1 1 ∧ u' = u.alloc (.cells (([2] : List Int).map (Value.int .i64)).toArray 3) | 2 => v = .slice (some ⟨u.heap.size, 0, none⟩) 2 2 ∧ u' = u.alloc (.cells (([5, 6] : List Int).map (Value.int .i64)).toArray 3) | 3 => RetAC u T (a4) (.returned v) u' | 4 => RetAE u (fun b => u.heap.size ≤ b) (r3) (0) (.returned v) u' | 8 => v = .pointer (some ⟨u.heap.size, 0, none⟩) ∧ u' = u.alloc (.cells #[.int .i64 0, .slice none 0 0, .slice none 0 0, .slice none 0 0] 26) | _ => False) (fun _ _ h e => h.up e) (Sees.start (all_cons ((E.out.hdr 3 rfl).c0) (all_cons ((E.out.hdr 3 rfl).c1) (all_cons ((E.out.hdr 3 rfl).c2) (all_cons ((E.out.hdr 3 rfl).c3) (all_nil)))))) (by kernel_rfl) ?_
  simp only [withEdge, List.modify_succ_cons, List.modify_zero_cons, List.push_toArray, List.cons_append, List.nil_append]
  simp only [List.take_succ_cons, List.take_zero, List.drop_succ_cons, List.drop_zero]
  repeat (first | (refine m_plain (v := ?_) (by rfl) (by rfl) ?_ ?_; rotate_left; (intro wz hSw; obtain ⟨-, hSc⟩ := hSw; (try simp only [List.forall_mem_cons, List.forall_mem_nil, and_true] at hSc); go_simp; (first | done | with_reducible rfl)); (intro K hK; (try simp only [Act.put, List.setIfInBounds_toArray, List.set_cons_zero, List.set_cons_succ]); refine hK _ _ ?_; clear hK K)) | (refine m_skip (by rfl) (by rfl) ?_; (intro K hK; (try simp only [Act.put, List.setIfInBounds_toArray, List.set_cons_zero, List.set_cons_succ]); refine hK _ _ ?_; clear hK K)))
  refine m_make (by rfl) (by rfl) ?_ ?_
  · intro wz hSw hdep R hRz
    obtain ⟨hSe, hSc⟩ := hSw
    (try simp only [List.forall_mem_cons, List.forall_mem_nil, and_true] at hSc)
    unfold does
    (go_simp; exact hRz.out _ _ ⟨ext_alloc _ _, rfl, rfl⟩)
  intro v1 u1 x1 hG1 K hK
  have hF1 := hG1.fact
  (try dsimp only at hF1)
  obtain ⟨rfl, rfl⟩ := hF1
  (try simp only [Act.put, List.setIfInBounds_toArray, List.set_cons_zero, List.set_cons_succ]); refine hK _ _ ?_; clear hK K
  repeat (first | (refine m_plain (v := ?_) (by rfl) (by rfl) ?_ ?_; rotate_left; (intro wz hSw; obtain ⟨-, hSc⟩ := hSw; (try simp only [List.forall_mem_cons, List.forall_mem_nil, and_true] at hSc); go_simp; (first | done | with_reducible rfl)); (intro K hK; (try simp only [Act.put, List.setIfInBounds_toArray, List.set_cons_zero, List.set_cons_succ]); refine hK _ _ ?_; clear hK K)) | (refine m_skip (by rfl) (by rfl) ?_; (intro K hK; (try simp only [Act.put, List.setIfInBounds_toArray, List.set_cons_zero, List.set_cons_succ]); refine hK _ _ ?_; clear hK K)))
  refine m_make (by rfl) (by rfl) ?_ ?_
  · intro wz hSw hdep R hRz
    obtain ⟨hSe, hSc⟩ := hSw
    (try simp only [List.forall_mem_cons, List.forall_mem_nil, and_true] at hSc)
    unfold does
    (go_simp; exact hRz.out _ _ ⟨ext_alloc _ _, rfl, rfl⟩)
  intro v2 u2 x2 hG2 K hK
  have hF2 := hG2.fact
  (try dsimp only at hF2)
  obtain ⟨rfl, rfl⟩ := hF2
  (try simp only [Act.put, List.setIfInBounds_toArray, List.set_cons_zero, List.set_cons_succ]); refine hK _ _ ?_; clear hK K
  repeat (first | (refine m_plain (v := ?_) (by rfl) (by rfl) ?_ ?_; rotate_left; (intro wz hSw; obtain ⟨-, hSc⟩ := hSw; (try simp only [List.forall_mem_cons, List.forall_mem_nil, and_true] at hSc); go_simp; (first | done | with_reducible rfl)); (intro K hK; (try simp only [Act.put, List.setIfInBounds_toArray, List.set_cons_zero, List.set_cons_succ]); refine hK _ _ ?_; clear hK K)) | (refine m_skip (by rfl) (by rfl) ?_; (intro K hK; (try simp only [Act.put, List.setIfInBounds_toArray, List.set_cons_zero, List.set_cons_succ]); refine hK _ _ ?_; clear hK K)))
  refine m_make (by rfl) (by rfl) ?_ ?_
  · intro wz hSw hdep R hRz
    obtain ⟨hSe, hSc⟩ := hSw
    (try simp only [List.forall_mem_cons, List.forall_mem_nil, and_true] at hSc)
    unfold does
    (go_simp; refine Calls.mono (law20_ints [2] [5, 6] _ _ _ _ _ wz ((lit_at (hdep 1 _ rfl (depB_sound (f := 4) (by kernel_rfl))) (by first | decide | simp)).mono (fun b _ hb => hT2 b (Nat.le_trans (Below.size hG1.s.1) hb))) ((lit_at (hdep 2 _ rfl (depB_sound (f := 4) (by kernel_rfl))) (by first | decide | simp)).mono (fun b _ hb => hT2 b (Nat.le_trans (Below.size hG2.s.1) hb))) (by decide) (by decide)) ?_; intro e wq h; obtain ⟨v, rfl, h1⟩ := retAC_arm hT2 hSe (h.eq ha4.out); exact ⟨_, rfl, hRz.out _ _ h1⟩)
  intro v3 u3 x3 hG3 K hK
  have hF3 := hG3.fact
  (try dsimp only at hF3)
  obtain ⟨s3, c3, n3, m3, i3, j3, he, hA3, hb3, hC3⟩ := hF3
  injection he with he
  subst he
  replace hC3 := hid hC3
  (try simp only [Act.put, List.setIfInBounds_toArray, List.set_cons_zero, List.set_cons_succ]); refine hK _ _ ?_; clear hK K
  repeat (first | (refine m_plain (v := ?_) (by rfl) (by rfl) ?_ ?_; rotate_left; (intro wz hSw; obtain ⟨-, hSc⟩ := hSw; (try simp only [List.forall_mem_cons, List.forall_mem_nil, and_true] at hSc); go_simp; (first | done | with_reducible rfl)); (intro K hK; (try simp only [Act.put, List.setIfInBounds_toArray, List.set_cons_zero, List.set_cons_succ]); refine hK _ _ ?_; clear hK K)) | (refine m_skip (by rfl) (by rfl) ?_; (intro K hK; (try simp only [Act.put, List.setIfInBounds_toArray, List.set_cons_zero, List.set_cons_succ]); refine hK _ _ ?_; clear hK K)))
  refine m_make (by rfl) (by rfl) ?_ ?_
  · intro wz hSw hdep R hRz
    obtain ⟨hSe, hSc⟩ := hSw
    (try simp only [List.forall_mem_cons, List.forall_mem_nil, and_true] at hSc)
    unfold does
    (go_simp; refine Calls.mono (N_joining_First am _ _ _ _ _ _ a4 _ _ _ _ _ _ _ wz (ArrAt.up (ArrAt.mono (fun b _ h => hT1 b h) _ (E.out.arr 2 rfl)) hSe) (hA3.up (hdep 3 _ rfl (depB_sound (f := 4) (by kernel_rfl)))) hC101.out hC3.out hit3.out) ?_; intro e wq h; obtain ⟨ta, tc, tn, tnc, ti, tic, rfl, hq, hqb⟩ := (h.eq hr3.out z3.out); exact ⟨_, rfl, hRz.out _ _ ⟨hqb, ta, tc, tn, tnc, ti, tic, rfl, hq, hqb⟩⟩)
  intro v4 u4 x4 hG4 K hK
  have hF4 := hG4.fact
  (try dsimp only at hF4)
  obtain ⟨s4, c4, n4, m4, i4, j4, he, hA4, hb4⟩ := hF4
  injection he with he
  subst he
  (try simp only [Act.put, List.setIfInBounds_toArray, List.set_cons_zero, List.set_cons_succ]); refine hK _ _ ?_; clear hK K
  repeat (first | (refine m_plain (v := ?_) (by rfl) (by rfl) ?_ ?_; rotate_left; (intro wz hSw; obtain ⟨-, hSc⟩ := hSw; (try simp only [List.forall_mem_cons, List.forall_mem_nil, and_true] at hSc); go_simp; (first | done | with_reducible rfl)); (intro K hK; (try simp only [Act.put, List.setIfInBounds_toArray, List.set_cons_zero, List.set_cons_succ]); refine hK _ _ ?_; clear hK K)) | (refine m_skip (by rfl) (by rfl) ?_; (intro K hK; (try simp only [Act.put, List.setIfInBounds_toArray, List.set_cons_zero, List.set_cons_succ]); refine hK _ _ ?_; clear hK K)))
  refine m_make (by rfl) (by rfl) ?_ ?_
  · intro wz hSw hdep R hRz
    obtain ⟨hSe, hSc⟩ := hSw
    (try simp only [List.forall_mem_cons, List.forall_mem_nil, and_true] at hSc)
    unfold does
    (go_simp; exact hRz.out _ _ ⟨ext_alloc _ _, rfl, rfl⟩)
  intro v8 u8 x8 hG8 K hK
  have hF8 := hG8.fact
  (try dsimp only at hF8)
  obtain ⟨rfl, rfl⟩ := hF8
  (try simp only [Act.put, List.setIfInBounds_toArray, List.set_cons_zero, List.set_cons_succ]); refine hK _ _ ?_; clear hK K
  repeat (first | (refine m_plain (v := ?_) (by rfl) (by rfl) ?_ ?_; rotate_left; (intro wz hSw; obtain ⟨-, hSc⟩ := hSw; (try simp only [List.forall_mem_cons, List.forall_mem_nil, and_true] at hSc); go_simp; (first | done | with_reducible rfl)); (intro K hK; (try simp only [Act.put, List.setIfInBounds_toArray, List.set_cons_zero, List.set_cons_succ]); refine hK _ _ ?_; clear hK K)) | (refine m_skip (by rfl) (by rfl) ?_; (intro K hK; (try simp only [Act.put, List.setIfInBounds_toArray, List.set_cons_zero, List.set_cons_succ]); refine hK _ _ ?_; clear hK K)))
  refine m_nil ?_
  intro wf hSf hAf
  replace E := hid (E.out.varO hA4 (hAf 4 _ rfl) (hG8.order 4 _ rfl) hG4.s.1 hG8.s.1 (hAf 8 _ rfl) hSf.1)
  refine wpl_store4 (by rfl) (.tmp 6) (.tmp 36) (by rfl) _ (by rfl) (by rfl) (E.out.hdr 13 rfl) ?_
  intro V4 HV CV
  replace E := hid (E.out.chg 13 rfl CV HV)
  clear CV HV hSf hAf
  (try simp only [List.cons_append, List.nil_append, List.set_cons_zero, List.set_cons_succ] at E)
  clear hG1 hG2 hG3 hG4 hG8 hA3 hA4 hb3 hb4 hT1 hT2 hT3
  generalize u8.heap.size = p4 at E ⊢
  clear hC3
  obtain ⟨s106, hq⟩ : ∃ s, s = s4 := ⟨_, rfl⟩
  subst hq
  obtain ⟨c106, hq⟩ : ∃ s, s = c4 := ⟨_, rfl⟩
  subst hq
  obtain ⟨n106, hq⟩ : ∃ s, s = n4 := ⟨_, rfl⟩
  subst hq
  obtain ⟨m106, hq⟩ : ∃ s, s = m4 := ⟨_, rfl⟩
  subst hq
  obtain ⟨i106, hq⟩ : ∃ s, s = i4 := ⟨_, rfl⟩
  subst hq
  obtain ⟨j106, hq⟩ : ∃ s, s = j4 := ⟨_, rfl⟩
  subst hq
  go_wp2_with fail
  replace E := hid (E.out.lit [1] (by decide))
  (try simp only [List.cons_append, List.nil_append, List.set_cons_zero, List.set_cons_succ] at E)
  refine (law20_ints [] [1] none 0 _ _ _ _ (IntsAt.nil _ _ _) (E.out.ints 15 rfl) (by decide) (by decide)).mono ?_
  intro e w5 h
  obtain ⟨s107, c107, n107, m107, i107, j107, rfl, hA, hb, hC107⟩ := h.eq ha5.out
  replace E := hid ((E.out.up hb).addArr hA (fun b _ hq => E.out.res (Ext.refl _) hq))
  replace hC107 := hid hC107
  clear hA hb h
  (try simp only [List.cons_append, List.nil_append, List.set_cons_zero, List.set_cons_succ] at E)
  go_wp2_with fail
  replace E := hid (E.out.lit [2] (by decide))
  (try simp only [List.cons_append, List.nil_append, List.set_cons_zero, List.set_cons_succ] at E)
  refine (law20_ints [] [2] none 0 _ _ _ _ (IntsAt.nil _ _ _) (E.out.ints 17 rfl) (by decide) (by decide)).mono ?_
  intro e w6 h
  obtain ⟨s108, c108, n108, m108, i108, j108, rfl, hA, hb, hC108⟩ := h.eq ha6.out
  replace E := hid ((E.out.up hb).addArr hA (fun b _ hq => E.out.res (Ext.refl _) hq))
  replace hC108 := hid hC108
  clear hA hb h
  (try simp only [List.cons_append, List.nil_append, List.set_cons_zero, List.set_cons_succ] at E)
  go_wp2_with fail
  refine (joining_Last a5 _ _ _ _ _ _ a6 _ _ _ _ _ _ _ _ (E.out.arr 16 rfl) (E.out.arr 18 rfl) hC107.out hC108.out).mono ?_
  intro e w7 h
  obtain ⟨s109, c109, n109, m109, i109, j109, rfl, hA, hb, hC109⟩ := h.eq hr4.out z4.out
  replace E := hid ((E.out.up hb).addArr hA (fun b _ hq => E.out.res (Ext.refl _) hq))
  replace hC109 := hid hC109
  clear hA hb h
  (try simp only [List.cons_append, List.nil_append, List.set_cons_zero, List.set_cons_succ] at E)
  go_upto_region 6 with (refine wpl_store4 rfl (.tmp 8) (.tmp 44) rfl _ rfl rfl ((E.out.alloc _).hdr 20 rfl) ?_; intro V5 HV CV; replace E := hid ((E.out.alloc _).chg 20 rfl CV HV); clear CV HV; (try simp only [List.cons_append, List.nil_append, List.set_cons_zero, List.set_cons_succ] at E))
  generalize w7.heap.size = p5 at E ⊢
  clear hC101 hC102 hC103 hC104 hC107 hC108 hC109
  obtain ⟨T, hT1, hT2, hT3⟩ := E.out.tw
  refine wp_region_mono (Sees V5 [(⟨p2, 0, none⟩, .int .i64 r1.kind), (⟨p2, 1, none⟩, .slice s104 r1.shape.length c104), (⟨p2, 2, none⟩, .slice n104 r1.nums.length m104), (⟨p2, 3, none⟩, .slice i104 r1.items.length j104), (⟨p3, 0, none⟩, .int .i64 r2.kind), (⟨p3, 1, none⟩, .slice s105 r2.shape.length c105), (⟨p3, 2, none⟩, .slice n105 r2.nums.length m105), (⟨p3, 3, none⟩, .slice i105 r2.items.length j105), (⟨p4, 0, none⟩, .int .i64 r3.kind), (⟨p4, 1, none⟩, .slice s106 r3.shape.length c106), (⟨p4, 2, none⟩, .slice n106 r3.nums.length m106), (⟨p4, 3, none⟩, .slice i106 r3.items.length j106), (⟨p5, 0, none⟩, .int .i64 r4.kind), (⟨p5, 1, none⟩, .slice s109 r4.shape.length c109), (⟨p5, 2, none⟩, .slice n109 r4.nums.length m109), (⟨p5, 3, none⟩, .slice i109 r4.items.length j109)]) [4, 5, 6, 7, 15, 16, 17, 18, 26, 27, 28, 29, 37, 38, 39, 40] (fun k v u u' => match k with | 4 => v = .slice (some ⟨u.heap.size, 0, none⟩) 1 1 ∧ u' = u.alloc (.cells (([3] : List Int).map (Value.int .i64)).toArray 3) | 5 => v = .slice (some ⟨u.heap.size, 0, none⟩) 3 3 ∧ u' = u.alloc (.cells (([1, 2, 3] : List Int).map (Value.int .i64)).toArray 3) | 6 => RetAC u T (b1) (.returned v) u' | 7 => v = .bool true | 15 => v = .slice (some ⟨u.heap.size, 0, none⟩) 2 2 ∧ u' = u.alloc (.cells (([2, 3] : List Int).map (Value.int .i64)).toArray 3) | 16 => v = .slice (some ⟨u.heap.size, 0, none⟩) 6 6 ∧ u' = u.alloc (.cells (([1, 2, 5, 3, 4, 6] : List Int).map (Value.int .i64)).toArray 3) | 17 => RetAC u T (b2) (.returned v) u' | 18 => v = .bool true | 26 => v = .slice (some ⟨u.heap.size, 0, none⟩) 2 2 ∧ u' = u.alloc (.cells (([3, 2] : List Int).map (Value.int .i64)).toArray 3) | 27 => v = .slice (some ⟨u.heap.size, 0, none⟩) 6 6 ∧ u' = u.alloc (.cells (([1, 2, 3, 4, 5, 6] : List Int).map (Value.int .i64)).toArray 3) | 28 => RetAC u T (b3) (.returned v) u' | 29 => v = .bool true | 37 => v = .slice (some ⟨u.heap.size, 0, none⟩) 1 1 ∧ u' = u.alloc (.cells (([2] : List Int).map (Value.int .i64)).toArray 3) | 38 => v = .slice (some ⟨u.heap.size, 0, none⟩) 2 2 ∧ u' = u.alloc (.cells (([1, 2] : List Int).map (Value.int .i64)).toArray 3) | 39 => RetAC u T (b4) (.returned v) u' | 40 => v = .bool true | _ => False) (fun _ _ h e => h.up e) (Sees.start (all_cons ((E.out.hdr 10 rfl).c0) (all_cons ((E.out.hdr 10 rfl).c1) (all_cons ((E.out.hdr 10 rfl).c2) (all_cons ((E.out.hdr 10 rfl).c3) (all_cons ((E.out.hdr 11 rfl).c0) (all_cons ((E.out.hdr 11 rfl).c1) (all_cons ((E.out.hdr 11 rfl).c2) (all_cons ((E.out.hdr 11 rfl).c3) (all_cons ((E.out.hdr 13 rfl).c0) (all_cons ((E.out.hdr 13 rfl).c1) (all_cons ((E.out.hdr 13 rfl).c2) (all_cons ((E.out.hdr 13 rfl).c3) (all_cons ((E.out.hdr 20 rfl).c0) (all_cons ((E.out.hdr 20 rfl).c1) (all_cons ((E.out.hdr 20 rfl).c2) (all_cons ((E.out.hdr 20 rfl).c3) (all_nil)))))))))))))))))) (by kernel_rfl) (by kernel_rfl) ?_
  repeat (first | (refine m_plain (v := ?_) (by rfl) (by rfl) ?_ ?_; rotate_left; (intro wz hSw; obtain ⟨-, hSc⟩ := hSw; (try simp only [List.forall_mem_cons, List.forall_mem_nil, and_true] at hSc); go_simp; (first | done | with_reducible rfl)); (intro K hK; (try simp only [Act.put, List.setIfInBounds_toArray, List.set_cons_zero, List.set_cons_succ]); refine hK _ _ ?_; clear hK K)) | (refine m_skip (by rfl) (by rfl) ?_; (intro K hK; (try simp only [Act.put, List.setIfInBounds_toArray, List.set_cons_zero, List.set_cons_succ]); refine hK _ _ ?_; clear hK K)))
  refine m_make (by rfl) (by rfl) ?_ ?_
  · intro wz hSw hdep R hRz
    obtain ⟨hSe, hSc⟩ := hSw
    (try simp only [List.forall_mem_cons, List.forall_mem_nil, and_true] at hSc)
    unfold does
    (go_simp; exact hRz.out _ _ ⟨ext_alloc _ _, rfl, rfl⟩)
  intro v4 u4 x4 hG4 K hK
  have hF4 := hG4.fact
  (try dsimp only at hF4)
  obtain ⟨rfl, rfl⟩ := hF4
  (try simp only [Act.put, List.setIfInBounds_toArray, List.set_cons_zero, List.set_cons_succ]); refine hK _ _ ?_; clear hK K
  repeat (first | (refine m_plain (v := ?_) (by rfl) (by rfl) ?_ ?_; rotate_left; (intro wz hSw; obtain ⟨-, hSc⟩ := hSw; (try simp only [List.forall_mem_cons, List.forall_mem_nil, and_true] at hSc); go_simp; (first | done | with_reducible rfl)); (intro K hK; (try simp only [Act.put, List.setIfInBounds_toArray, List.set_cons_zero, List.set_cons_succ]); refine hK _ _ ?_; clear hK K)) | (refine m_skip (by rfl) (by rfl) ?_; (intro K hK; (try simp only [Act.put, List.setIfInBounds_toArray, List.set_cons_zero, List.set_cons_succ]); refine hK _ _ ?_; clear hK K)))
  refine m_make (by rfl) (by rfl) ?_ ?_
  · intro wz hSw hdep R hRz
    obtain ⟨hSe, hSc⟩ := hSw
    (try simp only [List.forall_mem_cons, List.forall_mem_nil, and_true] at hSc)
    unfold does
    (go_simp; exact hRz.out _ _ ⟨ext_alloc _ _, rfl, rfl⟩)
  intro v5 u5 x5 hG5 K hK
  have hF5 := hG5.fact
  (try dsimp only at hF5)
  obtain ⟨rfl, rfl⟩ := hF5
  (try simp only [Act.put, List.setIfInBounds_toArray, List.set_cons_zero, List.set_cons_succ]); refine hK _ _ ?_; clear hK K
  repeat (first | (refine m_plain (v := ?_) (by rfl) (by rfl) ?_ ?_; rotate_left; (intro wz hSw; obtain ⟨-, hSc⟩ := hSw; (try simp only [List.forall_mem_cons, List.forall_mem_nil, and_true] at hSc); go_simp; (first | done | with_reducible rfl)); (intro K hK; (try simp only [Act.put, List.setIfInBounds_toArray, List.set_cons_zero, List.set_cons_succ]); refine hK _ _ ?_; clear hK K)) | (refine m_skip (by rfl) (by rfl) ?_; (intro K hK; (try simp only [Act.put, List.setIfInBounds_toArray, List.set_cons_zero, List.set_cons_succ]); refine hK _ _ ?_; clear hK K)))
  refine m_make (by rfl) (by rfl) ?_ ?_
  · intro wz hSw hdep R hRz
    obtain ⟨hSe, hSc⟩ := hSw
    (try simp only [List.forall_mem_cons, List.forall_mem_nil, and_true] at hSc)
    unfold does
    (go_simp; refine Calls.mono (law20_ints [3] [1, 2, 3] _ _ _ _ _ wz ((lit_at (hdep 4 _ rfl (depB_sound (f := 4) (by kernel_rfl))) (by first | decide | simp)).mono (fun b _ hb => hT2 b (Nat.le_trans (Below.size hG4.s.1) hb))) ((lit_at (hdep 5 _ rfl (depB_sound (f := 4) (by kernel_rfl))) (by first | decide | simp)).mono (fun b _ hb => hT2 b (Nat.le_trans (Below.size hG5.s.1) hb))) (by decide) (by decide)) ?_; intro e wq h; obtain ⟨v, rfl, h1⟩ := retAC_arm hT2 hSe (h.eq hb1.out); exact ⟨_, rfl, hRz.out _ _ h1⟩)
  intro v6 u6 x6 hG6 K hK
  have hF6 := hG6.fact
  (try dsimp only at hF6)
  obtain ⟨s6, c6, n6, m6, i6, j6, he, hA6, hb6, hC6⟩ := hF6
  injection he with he
  subst he
  replace hC6 := hid hC6
  (try simp only [Act.put, List.setIfInBounds_toArray, List.set_cons_zero, List.set_cons_succ]); refine hK _ _ ?_; clear hK K
  repeat (first | (refine m_plain (v := ?_) (by rfl) (by rfl) ?_ ?_; rotate_left; (intro wz hSw; obtain ⟨-, hSc⟩ := hSw; (try simp only [List.forall_mem_cons, List.forall_mem_nil, and_true] at hSc); go_simp; (first | done | with_reducible rfl)); (intro K hK; (try simp only [Act.put, List.setIfInBounds_toArray, List.set_cons_zero, List.set_cons_succ]); refine hK _ _ ?_; clear hK K)) | (refine m_skip (by rfl) (by rfl) ?_; (intro K hK; (try simp only [Act.put, List.setIfInBounds_toArray, List.set_cons_zero, List.set_cons_succ]); refine hK _ _ ?_; clear hK K)))
  refine m_make (by rfl) (by rfl) ?_ ?_
  · intro wz hSw hdep R hRz
    obtain ⟨hSe, hSc⟩ := hSw
    (try simp only [List.forall_mem_cons, List.forall_mem_nil, and_true] at hSc)
    unfold does
    (go_simp; refine Calls.mono (ref03_Same r1 b1 _ _ _ _ _ _ _ _ _ _ _ _ _ _ wz (ArrAt.up (ArrAt.mono (fun b _ h => hT1 b h) _ (E.out.arr 9 rfl)) hSe) (hA6.up (hdep 6 _ rfl (depB_sound (f := 4) (by kernel_rfl))))) ?_; rintro e wq ⟨rfl, hqb⟩; rw [hu1.out]; exact ⟨_, rfl, hRz.out _ _ ⟨hqb, rfl⟩⟩)
  intro v7 u7 x7 hG7 K hK
  have hF7 := hG7.fact
  (try dsimp only at hF7)
  subst hF7
  (try simp only [Act.put, List.setIfInBounds_toArray, List.set_cons_zero, List.set_cons_succ]); refine hK _ _ ?_; clear hK K
  repeat (first | (refine m_plain (v := ?_) (by rfl) (by rfl) ?_ ?_; rotate_left; (intro wz hSw; obtain ⟨-, hSc⟩ := hSw; (try simp only [List.forall_mem_cons, List.forall_mem_nil, and_true] at hSc); go_simp; (first | done | with_reducible rfl)); (intro K hK; (try simp only [Act.put, List.setIfInBounds_toArray, List.set_cons_zero, List.set_cons_succ]); refine hK _ _ ?_; clear hK K)) | (refine m_skip (by rfl) (by rfl) ?_; (intro K hK; (try simp only [Act.put, List.setIfInBounds_toArray, List.set_cons_zero, List.set_cons_succ]); refine hK _ _ ?_; clear hK K)))
  refine m_make (by rfl) (by rfl) ?_ ?_
  · intro wz hSw hdep R hRz
    obtain ⟨hSe, hSc⟩ := hSw
    (try simp only [List.forall_mem_cons, List.forall_mem_nil, and_true] at hSc)
    unfold does
    (go_simp; exact hRz.out _ _ ⟨ext_alloc _ _, rfl, rfl⟩)
  intro v15 u15 x15 hG15 K hK
  have hF15 := hG15.fact
  (try dsimp only at hF15)
  obtain ⟨rfl, rfl⟩ := hF15
  (try simp only [Act.put, List.setIfInBounds_toArray, List.set_cons_zero, List.set_cons_succ]); refine hK _ _ ?_; clear hK K
  repeat (first | (refine m_plain (v := ?_) (by rfl) (by rfl) ?_ ?_; rotate_left; (intro wz hSw; obtain ⟨-, hSc⟩ := hSw; (try simp only [List.forall_mem_cons, List.forall_mem_nil, and_true] at hSc); go_simp; (first | done | with_reducible rfl)); (intro K hK; (try simp only [Act.put, List.setIfInBounds_toArray, List.set_cons_zero, List.set_cons_succ]); refine hK _ _ ?_; clear hK K)) | (refine m_skip (by rfl) (by rfl) ?_; (intro K hK; (try simp only [Act.put, List.setIfInBounds_toArray, List.set_cons_zero, List.set_cons_succ]); refine hK _ _ ?_; clear hK K)))
  refine m_make (by rfl) (by rfl) ?_ ?_
  · intro wz hSw hdep R hRz
    obtain ⟨hSe, hSc⟩ := hSw
    (try simp only [List.forall_mem_cons, List.forall_mem_nil, and_true] at hSc)
    unfold does
    (go_simp; exact hRz.out _ _ ⟨ext_alloc _ _, rfl, rfl⟩)
  intro v16 u16 x16 hG16 K hK
  have hF16 := hG16.fact
  (try dsimp only at hF16)
  obtain ⟨rfl, rfl⟩ := hF16
  (try simp only [Act.put, List.setIfInBounds_toArray, List.set_cons_zero, List.set_cons_succ]); refine hK _ _ ?_; clear hK K
  repeat (first | (refine m_plain (v := ?_) (by rfl) (by rfl) ?_ ?_; rotate_left; (intro wz hSw; obtain ⟨-, hSc⟩ := hSw; (try simp only [List.forall_mem_cons, List.forall_mem_nil, and_true] at hSc); go_simp; (first | done | with_reducible rfl)); (intro K hK; (try simp only [Act.put, List.setIfInBounds_toArray, List.set_cons_zero, List.set_cons_succ]); refine hK _ _ ?_; clear hK K)) | (refine m_skip (by rfl) (by rfl) ?_; (intro K hK; (try simp only [Act.put, List.setIfInBounds_toArray, List.set_cons_zero, List.set_cons_succ]); refine hK _ _ ?_; clear hK K)))
  refine m_make (by rfl) (by rfl) ?_ ?_
  · intro wz hSw hdep R hRz
    obtain ⟨hSe, hSc⟩ := hSw
    (try simp only [List.forall_mem_cons, List.forall_mem_nil, and_true] at hSc)
    unfold does
    (go_simp; refine Calls.mono (law20_ints [2, 3] [1, 2, 5, 3, 4, 6] _ _ _ _ _ wz ((lit_at (hdep 15 _ rfl (depB_sound (f := 4) (by kernel_rfl))) (by first | decide | simp)).mono (fun b _ hb => hT2 b (Nat.le_trans (Below.size hG15.s.1) hb))) ((lit_at (hdep 16 _ rfl (depB_sound (f := 4) (by kernel_rfl))) (by first | decide | simp)).mono (fun b _ hb => hT2 b (Nat.le_trans (Below.size hG16.s.1) hb))) (by decide) (by decide)) ?_; intro e wq h; obtain ⟨v, rfl, h1⟩ := retAC_arm hT2 hSe (h.eq hb2.out); exact ⟨_, rfl, hRz.out _ _ h1⟩)
  intro v17 u17 x17 hG17 K hK
  have hF17 := hG17.fact
  (try dsimp only at hF17)
  obtain ⟨s17, c17, n17, m17, i17, j17, he, hA17, hb17, hC17⟩ := hF17
  injection he with he
  subst he
  replace hC17 := hid hC17
  (try simp only [Act.put, List.setIfInBounds_toArray, List.set_cons_zero, List.set_cons_succ]); refine hK _ _ ?_; clear hK K
  repeat (first | (refine m_plain (v := ?_) (by rfl) (by rfl) ?_ ?_; rotate_left; (intro wz hSw; obtain ⟨-, hSc⟩ := hSw; (try simp only [List.forall_mem_cons, List.forall_mem_nil, and_true] at hSc); go_simp; (first | done | with_reducible rfl)); (intro K hK; (try simp only [Act.put, List.setIfInBounds_toArray, List.set_cons_zero, List.set_cons_succ]); refine hK _ _ ?_; clear hK K)) | (refine m_skip (by rfl) (by rfl) ?_; (intro K hK; (try simp only [Act.put, List.setIfInBounds_toArray, List.set_cons_zero, List.set_cons_succ]); refine hK _ _ ?_; clear hK K)))
  refine m_make (by rfl) (by rfl) ?_ ?_
  · intro wz hSw hdep R hRz
    obtain ⟨hSe, hSc⟩ := hSw
    (try simp only [List.forall_mem_cons, List.forall_mem_nil, and_true] at hSc)
    unfold does
    (go_simp; refine Calls.mono (ref03_Same r2 b2 _ _ _ _ _ _ _ _ _ _ _ _ _ _ wz (ArrAt.up (ArrAt.mono (fun b _ h => hT1 b h) _ (E.out.arr 12 rfl)) hSe) (hA17.up (hdep 17 _ rfl (depB_sound (f := 4) (by kernel_rfl))))) ?_; rintro e wq ⟨rfl, hqb⟩; rw [hu2.out]; exact ⟨_, rfl, hRz.out _ _ ⟨hqb, rfl⟩⟩)
  intro v18 u18 x18 hG18 K hK
  have hF18 := hG18.fact
  (try dsimp only at hF18)
  subst hF18
  (try simp only [Act.put, List.setIfInBounds_toArray, List.set_cons_zero, List.set_cons_succ]); refine hK _ _ ?_; clear hK K
  repeat (first | (refine m_plain (v := ?_) (by rfl) (by rfl) ?_ ?_; rotate_left; (intro wz hSw; obtain ⟨-, hSc⟩ := hSw; (try simp only [List.forall_mem_cons, List.forall_mem_nil, and_true] at hSc); go_simp; (first | done | with_reducible rfl)); (intro K hK; (try simp only [Act.put, List.setIfInBounds_toArray, List.set_cons_zero, List.set_cons_succ]); refine hK _ _ ?_; clear hK K)) | (refine m_skip (by rfl) (by rfl) ?_; (intro K hK; (try simp only [Act.put, List.setIfInBounds_toArray, List.set_cons_zero, List.set_cons_succ]); refine hK _ _ ?_; clear hK K)))
  refine m_make (by rfl) (by rfl) ?_ ?_
  · intro wz hSw hdep R hRz
    obtain ⟨hSe, hSc⟩ := hSw
    (try simp only [List.forall_mem_cons, List.forall_mem_nil, and_true] at hSc)
    unfold does
    (go_simp; exact hRz.out _ _ ⟨ext_alloc _ _, rfl, rfl⟩)
  intro v26 u26 x26 hG26 K hK
  have hF26 := hG26.fact
  (try dsimp only at hF26)
  obtain ⟨rfl, rfl⟩ := hF26
  (try simp only [Act.put, List.setIfInBounds_toArray, List.set_cons_zero, List.set_cons_succ]); refine hK _ _ ?_; clear hK K
  repeat (first | (refine m_plain (v := ?_) (by rfl) (by rfl) ?_ ?_; rotate_left; (intro wz hSw; obtain ⟨-, hSc⟩ := hSw; (try simp only [List.forall_mem_cons, List.forall_mem_nil, and_true] at hSc); go_simp; (first | done | with_reducible rfl)); (intro K hK; (try simp only [Act.put, List.setIfInBounds_toArray, List.set_cons_zero, List.set_cons_succ]); refine hK _ _ ?_; clear hK K)) | (refine m_skip (by rfl) (by rfl) ?_; (intro K hK; (try simp only [Act.put, List.setIfInBounds_toArray, List.set_cons_zero, List.set_cons_succ]); refine hK _ _ ?_; clear hK K)))
  refine m_make (by rfl) (by rfl) ?_ ?_
  · intro wz hSw hdep R hRz
    obtain ⟨hSe, hSc⟩ := hSw
    (try simp only [List.forall_mem_cons, List.forall_mem_nil, and_true] at hSc)
    unfold does
    (go_simp; exact hRz.out _ _ ⟨ext_alloc _ _, rfl, rfl⟩)
  intro v27 u27 x27 hG27 K hK
  have hF27 := hG27.fact
  (try dsimp only at hF27)
  obtain ⟨rfl, rfl⟩ := hF27
  (try simp only [Act.put, List.setIfInBounds_toArray, List.set_cons_zero, List.set_cons_succ]); refine hK _ _ ?_; clear hK K
  repeat (first | (refine m_plain (v := ?_) (by rfl) (by rfl) ?_ ?_; rotate_left; (intro wz hSw; obtain ⟨-, hSc⟩ := hSw; (try simp only [List.forall_mem_cons, List.forall_mem_nil, and_true] at hSc); go_simp; (first | done | with_reducible rfl)); (intro K hK; (try simp only [Act.put, List.setIfInBounds_toArray, List.set_cons_zero, List.set_cons_succ]); refine hK _ _ ?_; clear hK K)) | (refine m_skip (by rfl) (by rfl) ?_; (intro K hK; (try simp only [Act.put, List.setIfInBounds_toArray, List.set_cons_zero, List.set_cons_succ]); refine hK _ _ ?_; clear hK K)))
  refine m_make (by rfl) (by rfl) ?_ ?_
  · intro wz hSw hdep R hRz
    obtain ⟨hSe, hSc⟩ := hSw
    (try simp only [List.forall_mem_cons, List.forall_mem_nil, and_true] at hSc)
    unfold does
    (go_simp; refine Calls.mono (law20_ints [3, 2] [1, 2, 3, 4, 5, 6] _ _ _ _ _ wz ((lit_at (hdep 26 _ rfl (depB_sound (f := 4) (by kernel_rfl))) (by first | decide | simp)).mono (fun b _ hb => hT2 b (Nat.le_trans (Below.size hG26.s.1) hb))) ((lit_at (hdep 27 _ rfl (depB_sound (f := 4) (by kernel_rfl))) (by first | decide | simp)).mono (fun b _ hb => hT2 b (Nat.le_trans (Below.size hG27.s.1) hb))) (by decide) (by decide)) ?_; intro e wq h; obtain ⟨v, rfl, h1⟩ := retAC_arm hT2 hSe (h.eq hb3.out); exact ⟨_, rfl, hRz.out _ _ h1⟩)
  intro v28 u28 x28 hG28 K hK
  have hF28 := hG28.fact
  (try dsimp only at hF28)
  obtain ⟨s28, c28, n28, m28, i28, j28, he, hA28, hb28, hC28⟩ := hF28
  injection he with he
  subst he
  replace hC28 := hid hC28
  (try simp only [Act.put, List.setIfInBounds_toArray, List.set_cons_zero, List.set_cons_succ]); refine hK _ _ ?_; clear hK K
  repeat (first | (refine m_plain (v := ?_) (by rfl) (by rfl) ?_ ?_; rotate_left; (intro wz hSw; obtain ⟨-, hSc⟩ := hSw; (try simp only [List.forall_mem_cons, List.forall_mem_nil, and_true] at hSc); go_simp; (first | done | with_reducible rfl)); (intro K hK; (try simp only [Act.put, List.setIfInBounds_toArray, List.set_cons_zero, List.set_cons_succ]); refine hK _ _ ?_; clear hK K)) | (refine m_skip (by rfl) (by rfl) ?_; (intro K hK; (try simp only [Act.put, List.setIfInBounds_toArray, List.set_cons_zero, List.set_cons_succ]); refine hK _ _ ?_; clear hK K)))
  refine m_make (by rfl) (by rfl) ?_ ?_
  · intro wz hSw hdep R hRz
    obtain ⟨hSe, hSc⟩ := hSw
    (try simp only [List.forall_mem_cons, List.forall_mem_nil, and_true] at hSc)
    unfold does
    (go_simp; refine Calls.mono (ref03_Same r3 b3 _ _ _ _ _ _ _ _ _ _ _ _ _ _ wz (ArrAt.up (ArrAt.mono (fun b _ h => hT1 b h) _ (E.out.arr 14 rfl)) hSe) (hA28.up (hdep 28 _ rfl (depB_sound (f := 4) (by kernel_rfl))))) ?_; rintro e wq ⟨rfl, hqb⟩; rw [hu3.out]; exact ⟨_, rfl, hRz.out _ _ ⟨hqb, rfl⟩⟩)
  intro v29 u29 x29 hG29 K hK
  have hF29 := hG29.fact
  (try dsimp only at hF29)
  subst hF29
  (try simp only [Act.put, List.setIfInBounds_toArray, List.set_cons_zero, List.set_cons_succ]); refine hK _ _ ?_; clear hK K
  repeat (first | (refine m_plain (v := ?_) (by rfl) (by rfl) ?_ ?_; rotate_left; (intro wz hSw; obtain ⟨-, hSc⟩ := hSw; (try simp only [List.forall_mem_cons, List.forall_mem_nil, and_true] at hSc); go_simp; (first | done | with_reducible rfl)); (intro K hK; (try simp only [Act.put, List.setIfInBounds_toArray, List.set_cons_zero, List.set_cons_succ]); refine hK _ _ ?_; clear hK K)) | (refine m_skip (by rfl) (by rfl) ?_; (intro K hK; (try simp only [Act.put, List.setIfInBounds_toArray, List.set_cons_zero, List.set_cons_succ]); refine hK _ _ ?_; clear hK K)))
  refine m_make (by rfl) (by rfl) ?_ ?_
  · intro wz hSw hdep R hRz
    obtain ⟨hSe, hSc⟩ := hSw
    (try simp only [List.forall_mem_cons, List.forall_mem_nil, and_true] at hSc)
    unfold does
    (go_simp; exact hRz.out _ _ ⟨ext_alloc _ _, rfl, rfl⟩)
  intro v37 u37 x37 hG37 K hK
  have hF37 := hG37.fact
  (try dsimp only at hF37)
  obtain ⟨rfl, rfl⟩ := hF37
  (try simp only [Act.put, List.setIfInBounds_toArray, List.set_cons_zero, List.set_cons_succ]); refine hK _ _ ?_; clear hK K
  repeat (first | (refine m_plain (v := ?_) (by rfl) (by rfl) ?_ ?_; rotate_left; (intro wz hSw; obtain ⟨-, hSc⟩ := hSw; (try simp only [List.forall_mem_cons, List.forall_mem_nil, and_true] at hSc); go_simp; (first | done | with_reducible rfl)); (intro K hK; (try simp only [Act.put, List.setIfInBounds_toArray, List.set_cons_zero, List.set_cons_succ]); refine hK _ _ ?_; clear hK K)) | (refine m_skip (by rfl) (by rfl) ?_; (intro K hK; (try simp only [Act.put, List.setIfInBounds_toArray, List.set_cons_zero, List.set_cons_succ]); refine hK _ _ ?_; clear hK K)))
  refine m_make (by rfl) (by rfl) ?_ ?_
  · intro wz hSw hdep R hRz
    obtain ⟨hSe, hSc⟩ := hSw
    (try simp only [List.forall_mem_cons, List.forall_mem_nil, and_true] at hSc)
    unfold does
    (go_simp; exact hRz.out _ _ ⟨ext_alloc _ _, rfl, rfl⟩)
  intro v38 u38 x38 hG38 K hK
  have hF38 := hG38.fact
  (try dsimp only at hF38)
  obtain ⟨rfl, rfl⟩ := hF38
  (try simp only [Act.put, List.setIfInBounds_toArray, List.set_cons_zero, List.set_cons_succ]); refine hK _ _ ?_; clear hK K
  repeat (first | (refine m_plain (v := ?_) (by rfl) (by rfl) ?_ ?_; rotate_left; (intro wz hSw; obtain ⟨-, hSc⟩ := hSw; (try simp only [List.forall_mem_cons, List.forall_mem_nil, and_true] at hSc); go_simp; (first | done | with_reducible rfl)); (intro K hK; (try simp only [Act.put, List.setIfInBounds_toArray, List.set_cons_zero, List.set_cons_succ]); refine hK _ _ ?_; clear hK K)) | (refine m_skip (by rfl) (by rfl) ?_; (intro K hK; (try simp only [Act.put, List.setIfInBounds_toArray, List.set_cons_zero, List.set_cons_succ]); refine hK _ _ ?_; clear hK K)))
  refine m_make (by rfl) (by rfl) ?_ ?_
  · intro wz hSw hdep R hRz
    obtain ⟨hSe, hSc⟩ := hSw
    (try simp only [List.forall_mem_cons, List.forall_mem_nil, and_true] at hSc)
    unfold does
    (go_simp; refine Calls.mono (law20_ints [2] [1, 2] _ _ _ _ _ wz ((lit_at (hdep 37 _ rfl (depB_sound (f := 4) (by kernel_rfl))) (by first | decide | simp)).mono (fun b _ hb => hT2 b (Nat.le_trans (Below.size hG37.s.1) hb))) ((lit_at (hdep 38 _ rfl (depB_sound (f := 4) (by kernel_rfl))) (by first | decide | simp)).mono (fun b _ hb => hT2 b (Nat.le_trans (Below.size hG38.s.1) hb))) (by decide) (by decide)) ?_; intro e wq h; obtain ⟨v, rfl, h1⟩ := retAC_arm hT2 hSe (h.eq hb4.out); exact ⟨_, rfl, hRz.out _ _ h1⟩)
  intro v39 u39 x39 hG39 K hK
  have hF39 := hG39.fact
  (try dsimp only at hF39)
  obtain ⟨s39, c39, n39, m39, i39, j39, he, hA39, hb39, hC39⟩ := hF39
  injection he with he
  subst he
  replace hC39 := hid hC39
  (try simp only [Act.put, List.setIfInBounds_toArray, List.set_cons_zero, List.set_cons_succ]); refine hK _ _ ?_; clear hK K
  repeat (first | (refine m_plain (v := ?_) (by rfl) (by rfl) ?_ ?_; rotate_left; (intro wz hSw; obtain ⟨-, hSc⟩ := hSw; (try simp only [List.forall_mem_cons, List.forall_mem_nil, and_true] at hSc); go_simp; (first | done | with_reducible rfl)); (intro K hK; (try simp only [Act.put, List.setIfInBounds_toArray, List.set_cons_zero, List.set_cons_succ]); refine hK _ _ ?_; clear hK K)) | (refine m_skip (by rfl) (by rfl) ?_; (intro K hK; (try simp only [Act.put, List.setIfInBounds_toArray, List.set_cons_zero, List.set_cons_succ]); refine hK _ _ ?_; clear hK K)))
  refine m_make (by rfl) (by rfl) ?_ ?_
  · intro wz hSw hdep R hRz
    obtain ⟨hSe, hSc⟩ := hSw
    (try simp only [List.forall_mem_cons, List.forall_mem_nil, and_true] at hSc)
    unfold does
    (go_simp; refine Calls.mono (ref03_Same r4 b4 _ _ _ _ _ _ _ _ _ _ _ _ _ _ wz (ArrAt.up (ArrAt.mono (fun b _ h => hT1 b h) _ (E.out.arr 19 rfl)) hSe) (hA39.up (hdep 39 _ rfl (depB_sound (f := 4) (by kernel_rfl))))) ?_; rintro e wq ⟨rfl, hqb⟩; rw [hu4.out]; exact ⟨_, rfl, hRz.out _ _ ⟨hqb, rfl⟩⟩)
  intro v40 u40 x40 hG40 K hK
  have hF40 := hG40.fact
  (try dsimp only at hF40)
  subst hF40
  (try simp only [Act.put, List.setIfInBounds_toArray, List.set_cons_zero, List.set_cons_succ]); refine hK _ _ ?_; clear hK K
  repeat (first | (refine m_plain (v := ?_) (by rfl) (by rfl) ?_ ?_; rotate_left; (intro wz hSw; obtain ⟨-, hSc⟩ := hSw; (try simp only [List.forall_mem_cons, List.forall_mem_nil, and_true] at hSc); go_simp; (first | done | with_reducible rfl)); (intro K hK; (try simp only [Act.put, List.setIfInBounds_toArray, List.set_cons_zero, List.set_cons_succ]); refine hK _ _ ?_; clear hK K)) | (refine m_skip (by rfl) (by rfl) ?_; (intro K hK; (try simp only [Act.put, List.setIfInBounds_toArray, List.set_cons_zero, List.set_cons_succ]); refine hK _ _ ?_; clear hK K)))
  refine m_nil ?_
  intro wf hSf hAf
  have ef := hid (E.out.up hSf.1).ext
  clear hSf hAf
  go_wp2_with fail
  exact hR.out _ _ ⟨rfl, ef.out⟩
end Go.Proofs.Ythhffneibcpbdaa
