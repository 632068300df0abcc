/- The statements about package reshaping: each returns true. Condition: the arrays are read. -/
import Derived.Test.YtmclggonmekanaaRESH
import Derived.Test.YtmclggonmekanaaLAWK
import Derived.Test.YtmclggonmekanaaPRSH
set_option linter.unusedVariables false
set_option linter.unusedSimpArgs false
namespace Go.Proofs.Ytmclggonmekanaa
open Go.RowKit Go.Sort
attribute [local go_sem ↓] run_max2 run_min2
attribute [local go_sem] eql_ints_nil eql_arrs_nil
theorem shape_at {w : World} {T : Nat → Prop} {k : Int} {s : List Int} {ao : Option Addr} (h : IntsAt w T ao s) : ArrAt w T (.mk k s [] []) ao none none :=
  ArrAt.iff.2 ⟨h, ints_nil _ _, Nat.zero_le _, by simp only [Arr.items, ItemsAt]⟩
set_option maxRecDepth 100000 in
set_option maxHeartbeats 8000000 in
theorem law18_awake (w : World) : Calls Try.prog 37 #[] w fun e w' => e = .returned (.bool true) ∧ Ext w w' := by
  refine calls_post fun R' hR => ?_
  obtain ⟨a1, ha1⟩ : ∃ a, a = vec4 [2, 3] := ⟨_, rfl⟩
  obtain ⟨a2, ha2⟩ : ∃ a, a = vec4 [10, 20] := ⟨_, rfl⟩
  obtain ⟨a3, ha3⟩ : ∃ a, a = vec4 [5, 6] := ⟨_, rfl⟩
  obtain ⟨a4, ha4⟩ : ∃ a, a = vec4 [-1] := ⟨_, rfl⟩
  obtain ⟨a5, ha5⟩ : ∃ a, a = num4 5 := ⟨_, rfl⟩
  obtain ⟨a6, ha6⟩ : ∃ a, a = num4 3 := ⟨_, rfl⟩
  obtain ⟨a7, ha7⟩ : ∃ a, a = mat4 2 3 [10, 20, 10, 20, 10, 20] := ⟨_, rfl⟩
  obtain ⟨r1, hr1⟩ : ∃ a, a = reshS a1 a2 := ⟨_, rfl⟩
  obtain ⟨r2, hr2⟩ : ∃ a, a = reshS (.mk 1 [0] [] []) a3 := ⟨_, rfl⟩
  obtain ⟨r3, hr3⟩ : ∃ a, a = reshS a4 a5 := ⟨_, rfl⟩
  have z1 : reshE a1 a2 = 0 := by rw [ha1, ha2]; kernel_rfl
  have z2 : reshE (.mk 1 [0] [] []) a3 = 0 := by rw [ha3]; kernel_rfl
  have z3 : reshE a4 a5 = 17 := by rw [ha4, ha5]; kernel_rfl
  have z4 : ndE a6 = 0 := by rw [ha6]; kernel_rfl
  have z5 : ndL a6 = [3] := by rw [ha6]; kernel_rfl
  have y1 : r1 = a7 := by rw [hr1, ha1, ha2, ha7]; kernel_rfl
  have y2 : r2 = a5 := by rw [hr2, ha3, ha5]; kernel_rfl
  have u1 : Hid (sameB r1 a7 = true) := hid (by rw [y1]; exact sameB_self _)
  have u2 : Hid (sameB r2 a5 = true) := hid (by rw [y2]; exact sameB_self _)
  clear y1 y2
  replace ha1 := hid ha1
  replace ha2 := hid ha2
  replace ha3 := hid ha3
  replace ha4 := hid ha4
  replace ha5 := hid ha5
  replace ha6 := hid ha6
  replace ha7 := hid ha7
  replace hr1 := hid hr1
  replace hr2 := hid hr2
  replace hr3 := hid hr3
  replace z1 := hid z1
  replace z2 := hid z2
  replace z3 := hid z3
  replace z4 := hid z4
  replace z5 := hid z5
  have E := hid (Env.start w (fun _ => False))
  go_enter Try.func37, Try.ntmps37
  go_wp2_with fail
  replace E := hid (E.out.lit [2, 3] (by decide))
  (try simp only [List.cons_append, List.nil_append, List.set_cons_zero, List.set_cons_succ] at E)
  refine (law04_Vec [2, 3] _ _ _ _ (E.out.ints 0 rfl)).mono ?_
  intro e w1 h
  obtain ⟨s1, c1, n1, m1, i1, j1, rfl, hA, hb⟩ := h.eq ha1.out
  replace E := hid ((E.out.up hb).addArr hA (fun b _ hq => E.out.res (Ext.refl _) hq))
  clear hA hb h
  (try simp only [List.cons_append, List.nil_append, List.set_cons_zero, List.set_cons_succ] at E)
  go_wp2_with fail
  replace E := hid (E.out.lit [10, 20] (by decide))
  (try simp only [List.cons_append, List.nil_append, List.set_cons_zero, List.set_cons_succ] at E)
  refine (law04_Vec [10, 20] _ _ _ _ (E.out.ints 2 rfl)).mono ?_
  intro e w2 h
  obtain ⟨s2, c2, n2, m2, i2, j2, rfl, hA, hb⟩ := h.eq ha2.out
  replace E := hid ((E.out.up hb).addArr hA (fun b _ hq => E.out.res (Ext.refl _) hq))
  clear hA hb h
  (try simp only [List.cons_append, List.nil_append, List.set_cons_zero, List.set_cons_succ] at E)
  go_wp2_with fail
  refine (reshaping_Reshape a1 _ _ _ _ _ _ a2 _ _ _ _ _ _ _ _ (E.out.arr 1 rfl) (E.out.arr 3 rfl)).mono ?_
  intro e w3 h
  obtain ⟨s3, c3, n3, m3, i3, j3, rfl, hA, hb⟩ := h.eq hr1.out z1.out
  replace E := hid ((E.out.up hb).addArr hA (fun b _ hq => E.out.fresh (Ext.refl _) hq))
  clear hA hb h
  (try simp only [List.cons_append, List.nil_append, List.set_cons_zero, List.set_cons_succ] at E)
  go_wp2_with (refine wpl_store4 rfl (.tmp 1) (.tmp 15) rfl _ rfl rfl ((E.out.alloc _).hdr 5 rfl) ?_; intro V1 HV CV; replace E := hid ((E.out.alloc _).chg 5 rfl CV HV); clear CV HV; (try simp only [List.cons_append, List.nil_append, List.set_cons_zero, List.set_cons_succ] at E))
  generalize w3.heap.size = b1 at *
  replace E := hid (E.out.lit2 [0] [5, 6] (by decide) (by decide))
  (try simp only [List.cons_append, List.nil_append, List.set_cons_zero, List.set_cons_succ] at E)
  refine (law04_Vec [5, 6] _ _ _ _ (E.out.ints 7 rfl)).mono ?_
  intro e w4 h
  obtain ⟨s4, c4, n4, m4, i4, j4, rfl, hA, hb⟩ := h.eq ha3.out
  replace E := hid ((E.out.up hb).addArr hA (fun b _ hq => E.out.res (Ext.refl _) hq))
  clear hA hb h
  (try simp only [List.cons_append, List.nil_append, List.set_cons_zero, List.set_cons_succ] at E)
  go_wp2_with fail
  refine (reshaping_Reshape (Arr.mk 1 [0] [] []) _ _ _ _ _ _ a3 _ _ _ _ _ _ _ _ (shape_at (E.out.ints 6 rfl)) (E.out.arr 8 rfl)).mono ?_
  intro e w5 h
  obtain ⟨s5, c5, n5, m5, i5, j5, rfl, hA, hb⟩ := h.eq hr2.out z2.out
  replace E := hid ((E.out.up hb).addArr hA (fun b _ hq => E.out.fresh (Ext.refl _) hq))
  clear hA hb h
  (try simp only [List.cons_append, List.nil_append, List.set_cons_zero, List.set_cons_succ] at E)
  go_wp2_with (refine wpl_store4 rfl (.tmp 3) (.tmp 23) rfl _ rfl rfl ((E.out.alloc _).hdr 10 rfl) ?_; intro V2 HV CV; replace E := hid ((E.out.alloc _).chg 10 rfl CV HV); clear CV HV; (try simp only [List.cons_append, List.nil_append, List.set_cons_zero, List.set_cons_succ] at E))
  generalize w5.heap.size = b2 at *
  replace E := hid (E.out.lit [-1] (by decide))
  (try simp only [List.cons_append, List.nil_append, List.set_cons_zero, List.set_cons_succ] at E)
  refine (law04_Vec [-1] _ _ _ _ (E.out.ints 11 rfl)).mono ?_
  intro e w6 h
  obtain ⟨s6, c6, n6, m6, i6, j6, rfl, hA, hb⟩ := h.eq ha4.out
  replace E := hid ((E.out.up hb).addArr hA (fun b _ hq => E.out.res (Ext.refl _) hq))
  clear hA hb h
  (try simp only [List.cons_append, List.nil_append, List.set_cons_zero, List.set_cons_succ] at E)
  go_wp2_with fail
  refine (law04_Num 5 _).mono ?_
  intro e w7 h
  obtain ⟨s7, c7, n7, m7, i7, j7, rfl, hA, hb⟩ := h.eq ha5.out
  replace E := hid ((E.out.up hb).addArr hA (fun b _ hq => E.out.fresh (Ext.refl _) hq))
  clear hA hb h
  (try simp only [List.cons_append, List.nil_append, List.set_cons_zero, List.set_cons_succ] at E)
  go_wp2_with fail
  refine (reshaping_Reshape a4 _ _ _ _ _ _ a5 _ _ _ _ _ _ _ _ (E.out.arr 12 rfl) (E.out.arr 13 rfl)).mono ?_
  intro e w8 h
  obtain ⟨s8, c8, n8, m8, i8, j8, rfl, hA, hb⟩ := h.eq hr3.out z3.out
  replace E := hid ((E.out.up hb).addArr hA (fun b _ hq => E.out.fresh (Ext.refl _) hq))
  clear hA hb h
  (try simp only [List.cons_append, List.nil_append, List.set_cons_zero, List.set_cons_succ] at E)
  go_wp2_with (refine wpl_store4 rfl (.tmp 5) (.tmp 30) rfl _ rfl rfl ((E.out.alloc _).hdr 15 rfl) ?_; intro V3 HV CV; replace E := hid ((E.out.alloc _).chg 15 rfl CV HV); clear CV HV; (try simp only [List.cons_append, List.nil_append, List.set_cons_zero, List.set_cons_succ] at E))
  generalize w8.heap.size = b3 at *
  refine (law04_Num 3 _).mono ?_
  intro e w9 h
  obtain ⟨s9, c9, n9, m9, i9, j9, rfl, hA, hb⟩ := h.eq ha6.out
  replace E := hid ((E.out.up hb).addArr hA (fun b _ hq => E.out.fresh (Ext.refl _) hq))
  clear hA hb h
  (try simp only [List.cons_append, List.nil_append, List.set_cons_zero, List.set_cons_succ] at E)
  go_wp2_with fail
  refine (reshaping_Dims a6 _ _ _ _ _ _ _ w9 (E.out.arr 16 rfl)).mono ?_
  rintro e w10 ⟨da, dc, rfl, hd, hb⟩
  rw [z5.out] at hd
  rw [z5.out, z4.out]
  replace E := hid ((E.out.up hb).addInts (hd.ints (by decide)) (fun b _ hq => E.out.fresh (Ext.refl _) hq.1))
  clear hb hd
  (try simp only [List.cons_append, List.nil_append, List.set_cons_zero, List.set_cons_succ] at E)
  go_upto_region 5 with (fail)
  obtain ⟨T, hT1, hT2, hT3⟩ := E.out.tw
  refine wp_region_mono (Sees w10 [(⟨b1, 0, none⟩, .int .i64 r1.kind), (⟨b1, 1, none⟩, .slice s3 r1.shape.length c3), (⟨b1, 2, none⟩, .slice n3 r1.nums.length m3), (⟨b1, 3, none⟩, .slice i3 r1.items.length j3), (⟨b2, 0, none⟩, .int .i64 r2.kind), (⟨b2, 1, none⟩, .slice s5 r2.shape.length c5), (⟨b2, 2, none⟩, .slice n5 r2.nums.length m5), (⟨b2, 3, none⟩, .slice i5 r2.items.length j5)]) [4, 5, 6, 14, 15, 23, 24] (fun k v u u' => match k with | 4 => v = .slice (some ⟨u.heap.size, 0, none⟩) 6 6 ∧ u' = u.alloc (.cells (([10, 20, 10, 20, 10, 20] : List Int).map (Value.int .i64)).toArray 3) | 5 => RetA u T (a7) (.returned v) u' | 6 => v = .bool true | 14 => RetA u T (a5) (.returned v) u' | 15 => v = .bool true | 23 => v = .slice (some ⟨u.heap.size, 0, none⟩) 1 1 ∧ u' = u.alloc (.cells (([3] : List Int).map (Value.int .i64)).toArray 3) | 24 => v = .bool true | _ => False) (fun _ _ h e => h.up e) (Sees.start (all_cons ((E.out.hdr 5 rfl).c0) (all_cons ((E.out.hdr 5 rfl).c1) (all_cons ((E.out.hdr 5 rfl).c2) (all_cons ((E.out.hdr 5 rfl).c3) (all_cons ((E.out.hdr 10 rfl).c0) (all_cons ((E.out.hdr 10 rfl).c1) (all_cons ((E.out.hdr 10 rfl).c2) (all_cons ((E.out.hdr 10 rfl).c3) (all_nil)))))))))) (by kernel_rfl) (by kernel_rfl) ?_
  repeat (first | (refine m_plain (v := ?_) (by rfl) (by rfl) ?_ ?_; rotate_left; (intro wz hSw; obtain ⟨-, hSc⟩ := hSw; (try simp only [List.forall_mem_cons, List.forall_mem_nil, and_true] at hSc); go_simp; (first | done | with_reducible rfl)); (intro K hK; (try simp only [Act.put, List.setIfInBounds_toArray, List.set_cons_zero, List.set_cons_succ]); refine hK _ _ ?_; clear hK K)) | (refine m_skip (by rfl) (by rfl) ?_; (intro K hK; (try simp only [Act.put, List.setIfInBounds_toArray, List.set_cons_zero, List.set_cons_succ]); refine hK _ _ ?_; clear hK K)))
  refine m_make (by rfl) (by rfl) ?_ ?_
  · intro wz hSw hdep R hRz
    obtain ⟨hSe, hSc⟩ := hSw
    (try simp only [List.forall_mem_cons, List.forall_mem_nil, and_true] at hSc)
    unfold does
    (go_simp; exact hRz.out _ _ ⟨ext_alloc _ _, rfl, rfl⟩)
  intro v4 u4 x4 hG4 K hK
  have hF4 := hG4.fact
  (try dsimp only at hF4)
  obtain ⟨rfl, rfl⟩ := hF4
  (try simp only [Act.put, List.setIfInBounds_toArray, List.set_cons_zero, List.set_cons_succ]); refine hK _ _ ?_; clear hK K
  repeat (first | (refine m_plain (v := ?_) (by rfl) (by rfl) ?_ ?_; rotate_left; (intro wz hSw; obtain ⟨-, hSc⟩ := hSw; (try simp only [List.forall_mem_cons, List.forall_mem_nil, and_true] at hSc); go_simp; (first | done | with_reducible rfl)); (intro K hK; (try simp only [Act.put, List.setIfInBounds_toArray, List.set_cons_zero, List.set_cons_succ]); refine hK _ _ ?_; clear hK K)) | (refine m_skip (by rfl) (by rfl) ?_; (intro K hK; (try simp only [Act.put, List.setIfInBounds_toArray, List.set_cons_zero, List.set_cons_succ]); refine hK _ _ ?_; clear hK K)))
  refine m_make (by rfl) (by rfl) ?_ ?_
  · intro wz hSw hdep R hRz
    obtain ⟨hSe, hSc⟩ := hSw
    (try simp only [List.forall_mem_cons, List.forall_mem_nil, and_true] at hSc)
    unfold does
    (go_simp; refine Calls.mono (law04_Mat 2 3 [10, 20, 10, 20, 10, 20] _ _ _ wz ((lit_at (hdep 4 _ rfl (depB_sound (f := 60) (by kernel_rfl))) (by decide)).mono (fun b _ hb => hT2 b (Nat.le_trans (Below.size hG4.s.1) hb)))) ?_; intro e wq h; obtain ⟨v, rfl, h1⟩ := retA_arm hT2 hSe (h.eq ha7.out); exact ⟨_, rfl, hRz.out _ _ h1⟩)
  intro v5 u5 x5 hG5 K hK
  have hF5 := hG5.fact
  (try dsimp only at hF5)
  obtain ⟨s5, c5, n5, m5, i5, j5, he, hA5, hb5⟩ := hF5
  injection he with he
  subst he
  (try simp only [Act.put, List.setIfInBounds_toArray, List.set_cons_zero, List.set_cons_succ]); refine hK _ _ ?_; clear hK K
  repeat (first | (refine m_plain (v := ?_) (by rfl) (by rfl) ?_ ?_; rotate_left; (intro wz hSw; obtain ⟨-, hSc⟩ := hSw; (try simp only [List.forall_mem_cons, List.forall_mem_nil, and_true] at hSc); go_simp; (first | done | with_reducible rfl)); (intro K hK; (try simp only [Act.put, List.setIfInBounds_toArray, List.set_cons_zero, List.set_cons_succ]); refine hK _ _ ?_; clear hK K)) | (refine m_skip (by rfl) (by rfl) ?_; (intro K hK; (try simp only [Act.put, List.setIfInBounds_toArray, List.set_cons_zero, List.set_cons_succ]); refine hK _ _ ?_; clear hK K)))
  refine m_make (by rfl) (by rfl) ?_ ?_
  · intro wz hSw hdep R hRz
    obtain ⟨hSe, hSc⟩ := hSw
    (try simp only [List.forall_mem_cons, List.forall_mem_nil, and_true] at hSc)
    unfold does
    (go_simp; refine Calls.mono (ref03_Same r1 a7 _ _ _ _ _ _ _ _ _ _ _ _ _ _ wz (ArrAt.up (ArrAt.mono (fun b _ h => hT1 b h) _ (E.out.arr 4 rfl)) hSe) (hA5.up (hdep 5 _ rfl (depB_sound (f := 60) (by kernel_rfl))))) ?_; rintro e wq ⟨rfl, hqb⟩; rw [u1.out]; exact ⟨_, rfl, hRz.out _ _ ⟨hqb, rfl⟩⟩)
  intro v6 u6 x6 hG6 K hK
  have hF6 := hG6.fact
  (try dsimp only at hF6)
  subst hF6
  (try simp only [Act.put, List.setIfInBounds_toArray, List.set_cons_zero, List.set_cons_succ]); refine hK _ _ ?_; clear hK K
  repeat (first | (refine m_plain (v := ?_) (by rfl) (by rfl) ?_ ?_; rotate_left; (intro wz hSw; obtain ⟨-, hSc⟩ := hSw; (try simp only [List.forall_mem_cons, List.forall_mem_nil, and_true] at hSc); go_simp; (first | done | with_reducible rfl)); (intro K hK; (try simp only [Act.put, List.setIfInBounds_toArray, List.set_cons_zero, List.set_cons_succ]); refine hK _ _ ?_; clear hK K)) | (refine m_skip (by rfl) (by rfl) ?_; (intro K hK; (try simp only [Act.put, List.setIfInBounds_toArray, List.set_cons_zero, List.set_cons_succ]); refine hK _ _ ?_; clear hK K)))
  refine m_make (by rfl) (by rfl) ?_ ?_
  · intro wz hSw hdep R hRz
    obtain ⟨hSe, hSc⟩ := hSw
    (try simp only [List.forall_mem_cons, List.forall_mem_nil, and_true] at hSc)
    unfold does
    (go_simp; refine Calls.mono (law04_Num 5 wz) ?_; intro e wq h; obtain ⟨v, rfl, h1⟩ := retA_arm hT2 hSe (RetA.inr T (h.eq ha5.out)); exact ⟨_, rfl, hRz.out _ _ h1⟩)
  intro v14 u14 x14 hG14 K hK
  have hF14 := hG14.fact
  (try dsimp only at hF14)
  obtain ⟨s14, c14, n14, m14, i14, j14, he, hA14, hb14⟩ := hF14
  injection he with he
  subst he
  (try simp only [Act.put, List.setIfInBounds_toArray, List.set_cons_zero, List.set_cons_succ]); refine hK _ _ ?_; clear hK K
  repeat (first | (refine m_plain (v := ?_) (by rfl) (by rfl) ?_ ?_; rotate_left; (intro wz hSw; obtain ⟨-, hSc⟩ := hSw; (try simp only [List.forall_mem_cons, List.forall_mem_nil, and_true] at hSc); go_simp; (first | done | with_reducible rfl)); (intro K hK; (try simp only [Act.put, List.setIfInBounds_toArray, List.set_cons_zero, List.set_cons_succ]); refine hK _ _ ?_; clear hK K)) | (refine m_skip (by rfl) (by rfl) ?_; (intro K hK; (try simp only [Act.put, List.setIfInBounds_toArray, List.set_cons_zero, List.set_cons_succ]); refine hK _ _ ?_; clear hK K)))
  refine m_make (by rfl) (by rfl) ?_ ?_
  · intro wz hSw hdep R hRz
    obtain ⟨hSe, hSc⟩ := hSw
    (try simp only [List.forall_mem_cons, List.forall_mem_nil, and_true] at hSc)
    unfold does
    (go_simp; refine Calls.mono (ref03_Same r2 a5 _ _ _ _ _ _ _ _ _ _ _ _ _ _ wz (ArrAt.up (ArrAt.mono (fun b _ h => hT1 b h) _ (E.out.arr 9 rfl)) hSe) (hA14.up (hdep 14 _ rfl (depB_sound (f := 60) (by kernel_rfl))))) ?_; rintro e wq ⟨rfl, hqb⟩; rw [u2.out]; exact ⟨_, rfl, hRz.out _ _ ⟨hqb, rfl⟩⟩)
  intro v15 u15 x15 hG15 K hK
  have hF15 := hG15.fact
  (try dsimp only at hF15)
  subst hF15
  (try simp only [Act.put, List.setIfInBounds_toArray, List.set_cons_zero, List.set_cons_succ]); refine hK _ _ ?_; clear hK K
  repeat (first | (refine m_plain (v := ?_) (by rfl) (by rfl) ?_ ?_; rotate_left; (intro wz hSw; obtain ⟨-, hSc⟩ := hSw; (try simp only [List.forall_mem_cons, List.forall_mem_nil, and_true] at hSc); go_simp; (first | done | with_reducible rfl)); (intro K hK; (try simp only [Act.put, List.setIfInBounds_toArray, List.set_cons_zero, List.set_cons_succ]); refine hK _ _ ?_; clear hK K)) | (refine m_skip (by rfl) (by rfl) ?_; (intro K hK; (try simp only [Act.put, List.setIfInBounds_toArray, List.set_cons_zero, List.set_cons_succ]); refine hK _ _ ?_; clear hK K)))
  refine m_make (by rfl) (by rfl) ?_ ?_
  · intro wz hSw hdep R hRz
    obtain ⟨hSe, hSc⟩ := hSw
    (try simp only [List.forall_mem_cons, List.forall_mem_nil, and_true] at hSc)
    unfold does
    (go_simp; exact hRz.out _ _ ⟨ext_alloc _ _, rfl, rfl⟩)
  intro v23 u23 x23 hG23 K hK
  have hF23 := hG23.fact
  (try dsimp only at hF23)
  obtain ⟨rfl, rfl⟩ := hF23
  (try simp only [Act.put, List.setIfInBounds_toArray, List.set_cons_zero, List.set_cons_succ]); refine hK _ _ ?_; clear hK K
  repeat (first | (refine m_plain (v := ?_) (by rfl) (by rfl) ?_ ?_; rotate_left; (intro wz hSw; obtain ⟨-, hSc⟩ := hSw; (try simp only [List.forall_mem_cons, List.forall_mem_nil, and_true] at hSc); go_simp; (first | done | with_reducible rfl)); (intro K hK; (try simp only [Act.put, List.setIfInBounds_toArray, List.set_cons_zero, List.set_cons_succ]); refine hK _ _ ?_; clear hK K)) | (refine m_skip (by rfl) (by rfl) ?_; (intro K hK; (try simp only [Act.put, List.setIfInBounds_toArray, List.set_cons_zero, List.set_cons_succ]); refine hK _ _ ?_; clear hK K)))
  refine m_make (by rfl) (by rfl) ?_ ?_
  · intro wz hSw hdep R hRz
    obtain ⟨hSe, hSc⟩ := hSw
    (try simp only [List.forall_mem_cons, List.forall_mem_nil, and_true] at hSc)
    unfold does
    (go_simp; refine Calls.mono (law04_Ints [3] [3] _ _ _ _ _ _ wz ((E.out.ints 17 rfl).mono (fun b _ h => hT1 b h) |>.up hSe) ((lit_at (hdep 23 _ rfl (depB_sound (f := 60) (by kernel_rfl))) (by decide)).mono (fun b _ hb => hT2 b (Nat.le_trans (Below.size hG23.s.1) hb)))) ?_; rintro e wq ⟨rfl, n, rfl⟩; rw [show eqI [3] [3] = true from rfl]; exact ⟨_, rfl, hRz.out _ _ ⟨ext_drewN _ _, rfl⟩⟩)
  intro v24 u24 x24 hG24 K hK
  have hF24 := hG24.fact
  (try dsimp only at hF24)
  subst hF24
  (try simp only [Act.put, List.setIfInBounds_toArray, List.set_cons_zero, List.set_cons_succ]); refine hK _ _ ?_; clear hK K
  repeat (first | (refine m_plain (v := ?_) (by rfl) (by rfl) ?_ ?_; rotate_left; (intro wz hSw; obtain ⟨-, hSc⟩ := hSw; (try simp only [List.forall_mem_cons, List.forall_mem_nil, and_true] at hSc); go_simp; (first | done | with_reducible rfl)); (intro K hK; (try simp only [Act.put, List.setIfInBounds_toArray, List.set_cons_zero, List.set_cons_succ]); refine hK _ _ ?_; clear hK K)) | (refine m_skip (by rfl) (by rfl) ?_; (intro K hK; (try simp only [Act.put, List.setIfInBounds_toArray, List.set_cons_zero, List.set_cons_succ]); refine hK _ _ ?_; clear hK K)))
  refine m_nil ?_
  intro wf hSf hAf
  have ef := hid (E.out.up hSf.1).ext
  clear hSf hAf
  go_wp2_with fail
  exact hR.out _ _ ⟨rfl, ef.out⟩
set_option maxRecDepth 100000 in
set_option maxHeartbeats 8000000 in
theorem law18_dims (x : Arr) (sx : Option Addr) (cx : Nat) (nx : Option Addr) (mx : Nat) (ix : Option Addr) (jx : Nat) (S : Nat → Prop) (w : World) (h : ArrAt w S x sx nx ix) : Calls Try.prog 11 #[.agg #[.int .i64 x.kind, .slice sx x.shape.length cx, .slice nx x.nums.length mx, .slice ix x.items.length jx]] w fun e w' => e = .returned (.bool true) ∧ Below w.heap.size w w' := by
  refine calls_post fun R' hR => ?_
  have h0 := hid h
  have hnl := h.nums.1
  clear h
  go_enter Try.func11, Try.ntmps11
  go_wp2_with fail
  generalize hEW : (w).alloc (.cells #[.int .i64 x.kind, .slice sx x.shape.length cx, .slice nx x.nums.length mx, .slice ix x.items.length jx] 46) = W
  have E := hid (env1 w S hEW)
  clear hEW
  replace E := hid (E.out.arg h0.out)
  (try simp only [List.cons_append, List.nil_append, List.set_cons_zero, List.set_cons_succ] at E)
  refine (law04_Few x _ _ _ _ _ _ 300 _ _ (E.out.arr 1 rfl)).mono ?_
  rintro e w1 ⟨b1, rfl, hb⟩
  replace E := hid (E.out.up hb)
  clear hb
  cases b1 with
  | false =>
    go_wp2_with (go_at_call 37; refine (law18_awake _).mono ?_; rintro e w2 ⟨rfl, hb2⟩)
    exact hR.out _ _ ⟨rfl, (E.out.up hb2).ext⟩
  | true =>
  obtain ⟨q00, q01, q02, q03⟩ := (E.out.hdr 0 rfl).all
  go_wp2_with fail
  obtain ⟨l, hl⟩ : ∃ l, ndL x = l := ⟨_, rfl⟩
  obtain ⟨n, hn⟩ : ∃ n, ndE x = n := ⟨_, rfl⟩
  have hll : l.length ≤ 17592186044416 := by
    rw [← hl]; unfold ndL; split
    · exact hnl
    · simp
  have nn : (n == n) = true := by simp
  replace hl := hid hl
  replace hn := hid hn
  refine (reshaping_Dims x _ _ _ _ _ _ _ w1 (E.out.arr 1 rfl)).mono ?_
  rintro e w2 ⟨da, dc, rfl, hd, hb⟩
  rw [hl.out] at hd
  rw [hl.out, hn.out]
  replace E := hid ((E.out.up hb).addInts (hd.ints hll) (fun b _ hq => E.out.fresh (Ext.refl _) hq.1))
  clear hb hd
  (try simp only [List.cons_append, List.nil_append, List.set_cons_zero, List.set_cons_succ] at E)
  clear q00 q01 q02 q03
  obtain ⟨q00, q01, q02, q03⟩ := (E.out.hdr 0 rfl).all
  go_wp2_with fail
  refine (ref18_Dims x _ _ _ _ _ _ _ w2 (E.out.arr 1 rfl)).mono ?_
  rintro e w3 ⟨da', dc', rfl, hd, hb⟩
  rw [hl.out] at hd
  rw [hl.out, hn.out]
  replace E := hid ((E.out.up hb).addInts (hd.ints hll) (fun b _ hq => E.out.fresh (Ext.refl _) hq.1))
  clear hb hd
  (try simp only [List.cons_append, List.nil_append, List.set_cons_zero, List.set_cons_succ] at E)
  clear q00 q01 q02 q03
  go_wp2_with fail
  refine (law04_Ints l l _ _ _ _ _ _ w3 (E.out.ints 2 rfl) (E.out.ints 3 rfl)).mono ?_
  rintro e w4 ⟨rfl, k, rfl⟩
  replace E := hid (E.out.up (ext_drewN _ k))
  rw [show eqI l l = true from by simp [eqI]]
  go_wp2_with (go_at_call 37; refine (law18_awake _).mono ?_; rintro e w2 ⟨rfl, hb2⟩)
  exact hR.out _ _ ⟨rfl, (E.out.up hb2).ext⟩
set_option maxRecDepth 100000 in
set_option maxHeartbeats 8000000 in
theorem law18_says (x : Arr) (sx : Option Addr) (cx : Nat) (nx : Option Addr) (mx : Nat) (ix : Option Addr) (jx : Nat) (y : Arr) (sy : Option Addr) (cy : Nat) (ny : Option Addr) (my : Nat) (iy : Option Addr) (jy : Nat) (S : Nat → Prop) (w : World) (h : ArrAt w S x sx nx ix) (g : ArrAt w S y sy ny iy) : Calls Try.prog 12 #[.agg #[.int .i64 x.kind, .slice sx x.shape.length cx, .slice nx x.nums.length mx, .slice ix x.items.length jx], .agg #[.int .i64 y.kind, .slice sy y.shape.length cy, .slice ny y.nums.length my, .slice iy y.items.length jy]] w fun e w' => e = .returned (.bool true) ∧ Below w.heap.size w w' := by
  refine calls_post fun R' hR => ?_
  have h0 := hid h
  have g0 := hid g
  clear h g
  go_enter Try.func12, Try.ntmps12
  go_wp2_with fail
  generalize hEW : ((w).alloc (.cells #[.int .i64 x.kind, .slice sx x.shape.length cx, .slice nx x.nums.length mx, .slice ix x.items.length jx] 46)).alloc (.cells #[.int .i64 y.kind, .slice sy y.shape.length cy, .slice ny y.nums.length my, .slice iy y.items.length jy] 46) = W
  have E := hid (env2 w S hEW)
  clear hEW
  replace E := hid ((E.out.arg h0.out).arg g0.out)
  (try simp only [List.cons_append, List.nil_append, List.set_cons_zero, List.set_cons_succ] at E)
  refine (law04_Few x _ _ _ _ _ _ 300 _ _ (E.out.arr 2 rfl)).mono ?_
  rintro e w1 ⟨b1, rfl, hb⟩
  replace E := hid (E.out.up hb)
  clear hb
  cases b1 with
  | false =>
    go_wp2_with (go_at_call 37; refine (law18_awake _).mono ?_; rintro e w2 ⟨rfl, hb2⟩)
    exact hR.out _ _ ⟨rfl, (E.out.up hb2).ext⟩
  | true =>
  obtain ⟨q10, q11, q12, q13⟩ := (E.out.hdr 1 rfl).all
  go_wp2_with fail
  clear q10 q11 q12 q13
  refine (law04_Few y _ _ _ _ _ _ 300 _ _ (E.out.arr 3 rfl)).mono ?_
  rintro e w2 ⟨b2, rfl, hb⟩
  replace E := hid (E.out.up hb)
  clear hb
  cases b2 with
  | false =>
    go_wp2_with (go_at_call 37; refine (law18_awake _).mono ?_; rintro e w2 ⟨rfl, hb2⟩)
    exact hR.out _ _ ⟨rfl, (E.out.up hb2).ext⟩
  | true =>
  obtain ⟨q00, q01, q02, q03⟩ := (E.out.hdr 0 rfl).all
  go_wp2_with fail
  clear q00 q01 q02 q03
  refine (law18_Wide x _ _ _ _ _ _ _ _ (E.out.arr 2 rfl)).mono ?_
  rintro e w3 ⟨b3, rfl, hb⟩
  replace E := hid (E.out.up hb)
  clear hb
  cases b3 with
  | true =>
    go_wp2_with (go_at_call 37; refine (law18_awake _).mono ?_; rintro e w2 ⟨rfl, hb2⟩)
    exact hR.out _ _ ⟨rfl, (E.out.up hb2).ext⟩
  | false =>
  obtain ⟨r, hr⟩ : ∃ r, r = reshS x y := ⟨_, rfl⟩
  obtain ⟨n, hn⟩ : ∃ n, reshE x y = n := ⟨_, rfl⟩
  have nn : (n == n) = true := by simp
  have u1 : Hid (sameB r r = true) := hid (sameB_self _)
  replace hr := hid hr
  replace hn := hid hn
  obtain ⟨q00, q01, q02, q03⟩ := (E.out.hdr 0 rfl).all
  obtain ⟨q10, q11, q12, q13⟩ := (E.out.hdr 1 rfl).all
  go_wp2_with fail
  clear q00 q01 q02 q03 q10 q11 q12 q13
  refine (reshaping_Reshape x _ _ _ _ _ _ y _ _ _ _ _ _ _ _ (E.out.arr 2 rfl) (E.out.arr 3 rfl)).mono ?_
  intro e w4 h
  obtain ⟨s1, c1, n1, m1, i1, j1, rfl, hA, hb⟩ := h.eq hr.out hn.out
  replace E := hid ((E.out.up hb).addArr hA (fun b _ hq => E.out.fresh (Ext.refl _) hq))
  clear hA hb h
  (try simp only [List.cons_append, List.nil_append, List.set_cons_zero, List.set_cons_succ] at E)
  go_upto_region 4 with (refine wpl_store4 rfl (.tmp 5) (.tmp 26) rfl _ rfl rfl ((E.out.alloc _).hdr 5 rfl) ?_; intro V1 HV CV; replace E := hid ((E.out.alloc _).chg 5 rfl CV HV); clear CV HV; (try simp only [List.cons_append, List.nil_append, List.set_cons_zero, List.set_cons_succ] at E))
  generalize w4.heap.size = p1 at E ⊢
  obtain ⟨q00, q01, q02, q03⟩ := (E.out.hdr 0 rfl).all
  obtain ⟨q10, q11, q12, q13⟩ := (E.out.hdr 1 rfl).all
  go_wp2_with fail
  clear q00 q01 q02 q03 q10 q11 q12 q13
  refine (ref18_Reshape x _ _ _ _ _ _ y _ _ _ _ _ _ _ _ (E.out.arr 2 rfl) (E.out.arr 3 rfl)).mono ?_
  intro e w5 h
  obtain ⟨s2, c2, n2, m2, i2, j2, rfl, hA, hb⟩ := h.eq hr.out hn.out
  replace E := hid ((E.out.up hb).addArr hA (fun b _ hq => E.out.fresh (Ext.refl _) hq))
  clear hA hb h
  (try simp only [List.cons_append, List.nil_append, List.set_cons_zero, List.set_cons_succ] at E)
  go_upto_region 5 with (refine wpl_store4 rfl (.tmp 7) (.tmp 32) rfl _ rfl rfl ((E.out.alloc _).hdr 7 rfl) ?_; intro V2 HV CV; replace E := hid ((E.out.alloc _).chg 7 rfl CV HV); clear CV HV; (try simp only [List.cons_append, List.nil_append, List.set_cons_zero, List.set_cons_succ] at E))
  generalize w5.heap.size = p2 at E ⊢
  obtain ⟨q50, q51, q52, q53⟩ := (E.out.hdr 5 rfl).all
  obtain ⟨q70, q71, q72, q73⟩ := (E.out.hdr 7 rfl).all
  go_wp2_with fail
  clear q50 q51 q52 q53 q70 q71 q72 q73
  refine (ref03_Same r r _ _ _ _ _ _ _ _ _ _ _ _ _ _ _ (E.out.arr 4 rfl) (E.out.arr 6 rfl)).mono ?_
  rintro e w6 ⟨rfl, hb⟩
  replace E := hid (E.out.up hb)
  clear hb
  rw [u1.out]
  go_wp2_with (go_at_call 37; refine (law18_awake _).mono ?_; rintro e w2 ⟨rfl, hb2⟩)
  exact hR.out _ _ ⟨rfl, (E.out.up hb2).ext⟩
set_option maxRecDepth 100000 in
set_option maxHeartbeats 8000000 in
theorem law18_back (y : Arr) (sy : Option Addr) (cy : Nat) (ny : Option Addr) (my : Nat) (iy : Option Addr) (jy : Nat) (S : Nat → Prop) (w : World) (g : ArrAt w S y sy ny iy) : Calls Try.prog 13 #[.agg #[.int .i64 y.kind, .slice sy y.shape.length cy, .slice ny y.nums.length my, .slice iy y.items.length jy]] w fun e w' => e = .returned (.bool true) ∧ Below w.heap.size w w' := by
  refine calls_post fun R' hR => ?_
  have g0 := hid g
  have ysl := g.shape.1
  have ynl := g.nums.1
  have yil := g.len
  clear g
  go_enter Try.func13, Try.ntmps13
  go_wp2_with fail
  generalize hEW : (w).alloc (.cells #[.int .i64 y.kind, .slice sy y.shape.length cy, .slice ny y.nums.length my, .slice iy y.items.length jy] 46) = W
  have E := hid (env1 w S hEW)
  clear hEW
  replace E := hid (E.out.arg g0.out)
  (try simp only [List.cons_append, List.nil_append, List.set_cons_zero, List.set_cons_succ] at E)
  refine (law04_Few y _ _ _ _ _ _ 300 _ _ (E.out.arr 1 rfl)).mono ?_
  rintro e w1 ⟨b1, rfl, hb⟩
  replace E := hid (E.out.up hb)
  clear hb
  cases b1 with
  | false =>
    go_wp2_with (go_at_call 37; refine (law18_awake _).mono ?_; rintro e w2 ⟨rfl, hb2⟩)
    exact hR.out _ _ ⟨rfl, (E.out.up hb2).ext⟩
  | true =>
  obtain ⟨q00, q01, q02, q03⟩ := (E.out.hdr 0 rfl).all
  by_cases c : rightS y = 0
  case neg =>
    have cb : (rightS y != 0) = true := by simp [c]
    replace c := hid c
    go_wp2_with fail
    clear q00 q01 q02 q03
    refine (ref03_Right y _ _ _ _ _ _ _ _ (E.out.arr 1 rfl)).mono ?_
    rintro e w2 ⟨rfl, hb⟩
    replace E := hid (E.out.up hb)
    clear hb
    go_wp2_with (go_at_call 37; refine (law18_awake _).mono ?_; rintro e w2 ⟨rfl, hb2⟩)
    exact hR.out _ _ ⟨rfl, (E.out.up hb2).ext⟩
  have cb : (rightS y != 0) = false := by simp [c]
  obtain ⟨z1, y1, z2, z3, y3, hv⟩ := resh_back c
  obtain ⟨own, hown⟩ : ∃ a, a = vec4 y.shape := ⟨_, rfl⟩
  obtain ⟨num, hnum⟩ : ∃ a, a = num4 ((y.nums.length : Int) + y.items.length) := ⟨_, rfl⟩
  obtain ⟨q, hvv⟩ : ∃ a, a = reshS num y := ⟨_, rfl⟩
  rw [← hown] at z1 y1 z3 y3
  rw [← hnum] at z2 z3 y3 hv
  rw [← hvv] at z3 y3 hv
  have u1 : Hid (sameB y y = true) := hid (sameB_self _)
  replace z1 := hid z1
  replace z2 := hid z2
  replace z3 := hid z3
  replace y1 := hid y1
  replace y3 := hid y3
  replace c := hid c
  replace hown := hid hown
  replace hnum := hid hnum
  replace hvv := hid hvv
  replace hv := hid hv
  go_wp2_with fail
  clear q00 q01 q02 q03
  refine (ref03_Right y _ _ _ _ _ _ _ _ (E.out.arr 1 rfl)).mono ?_
  rintro e w2 ⟨rfl, hb⟩
  replace E := hid (E.out.up hb)
  clear hb
  obtain ⟨q00, q01, q02, q03⟩ := (E.out.hdr 0 rfl).all
  go_wp2_with fail
  clear q00 q01 q02 q03
  refine (law04_Vec y.shape _ _ _ _ (E.out.arr 1 rfl).shape).mono ?_
  intro e w3 h
  obtain ⟨s1, c1, n1, m1, i1, j1, rfl, hA, hb⟩ := h.eq hown.out
  replace E := hid ((E.out.up hb).addArr hA (fun b _ hq => E.out.res (Ext.refl _) hq))
  clear hA hb h
  (try simp only [List.cons_append, List.nil_append, List.set_cons_zero, List.set_cons_succ] at E)
  go_upto_region 4 with (refine wpl_store4 rfl (.tmp 3) (.tmp 21) rfl _ rfl rfl ((E.out.alloc _).hdr 3 rfl) ?_; intro V1 HV CV; replace E := hid ((E.out.alloc _).chg 3 rfl CV HV); clear CV HV; (try simp only [List.cons_append, List.nil_append, List.set_cons_zero, List.set_cons_succ] at E))
  generalize w3.heap.size = p1 at E ⊢
  obtain ⟨q00, q01, q02, q03⟩ := (E.out.hdr 0 rfl).all
  obtain ⟨q30, q31, q32, q33⟩ := (E.out.hdr 3 rfl).all
  go_wp2_with fail
  clear q00 q01 q02 q03 q30 q31 q32 q33
  refine (reshaping_Reshape own _ _ _ _ _ _ y _ _ _ _ _ _ _ _ (E.out.arr 2 rfl) (E.out.arr 1 rfl)).mono ?_
  intro e w4 h
  obtain ⟨s2, c2, n2, m2, i2, j2, rfl, hA, hb⟩ := h.eq y1.out z1.out
  replace E := hid ((E.out.up hb).addArr hA (fun b _ hq => E.out.fresh (Ext.refl _) hq))
  clear hA hb h
  (try simp only [List.cons_append, List.nil_append, List.set_cons_zero, List.set_cons_succ] at E)
  go_upto_region 5 with (refine wpl_store4 rfl (.tmp 4) (.tmp 26) rfl _ rfl rfl ((E.out.alloc _).hdr 5 rfl) ?_; intro V2 HV CV; replace E := hid ((E.out.alloc _).chg 5 rfl CV HV); clear CV HV; (try simp only [List.cons_append, List.nil_append, List.set_cons_zero, List.set_cons_succ] at E))
  generalize w4.heap.size = p2 at E ⊢
  obtain ⟨q00, q01, q02, q03⟩ := (E.out.hdr 0 rfl).all
  obtain ⟨q50, q51, q52, q53⟩ := (E.out.hdr 5 rfl).all
  go_wp2_with fail
  clear q00 q01 q02 q03 q50 q51 q52 q53
  refine (ref03_Same y y _ _ _ _ _ _ _ _ _ _ _ _ _ _ _ (E.out.arr 4 rfl) (E.out.arr 1 rfl)).mono ?_
  rintro e w5 ⟨rfl, hb⟩
  replace E := hid (E.out.up hb)
  clear hb
  rw [u1.out]
  go_upto_region 7 with (fail)
  obtain ⟨q00, q01, q02, q03⟩ := (E.out.hdr 0 rfl).all
  have wr : IntKind.i64.wrap ((y.nums.length : Int) + y.items.length) = (y.nums.length : Int) + y.items.length := IntWalk.i64_in _ (by omega)
  obtain ⟨T, hT1, hT2, hT3⟩ := E.out.tw
  refine wp_region_edge 12 14 (by kernel_rfl) (by kernel_rfl) (fun o _ v c a w h => by cases hd : o.dst <;> (rw [hd] at h; exact h)) _ rfl 14 (Sees w5 [(⟨w.heap.size, 0, none⟩, .int .i64 y.kind), (⟨w.heap.size, 1, none⟩, .slice sy y.shape.length cy), (⟨w.heap.size, 2, none⟩, .slice ny y.nums.length my), (⟨w.heap.size, 3, none⟩, .slice iy y.items.length jy)]) [7, 9, 13] (fun k v u u' => match k with | 7 => RetA u T (num) (.returned v) u' | 9 => RetAE u (fun b => u.heap.size ≤ b) (q) (0) (.returned v) u' | 13 => v = .pointer (some ⟨u.heap.size, 0, none⟩) ∧ u' = u.alloc (.cells #[.int .i64 0, .slice none 0 0, .slice none 0 0, .slice none 0 0] 46) | _ => False) (fun _ _ h e => h.up e) (Sees.start (all_cons ((E.out.hdr 0 rfl).c0) (all_cons ((E.out.hdr 0 rfl).c1) (all_cons ((E.out.hdr 0 rfl).c2) (all_cons ((E.out.hdr 0 rfl).c3) (all_nil)))))) (by kernel_rfl) ?_
  simp only [withEdge, List.modify_succ_cons, List.modify_zero_cons, List.push_toArray, List.cons_append, List.nil_append]
  simp only [List.take_succ_cons, List.take_zero, List.drop_succ_cons, List.drop_zero]
  repeat (first | (refine m_plain (v := ?_) (by rfl) (by rfl) ?_ ?_; rotate_left; (intro wz hSw; obtain ⟨-, hSc⟩ := hSw; (try simp only [List.forall_mem_cons, List.forall_mem_nil, and_true] at hSc); go_simp; (first | done | with_reducible rfl)); (intro K hK; (try simp only [Act.put, List.setIfInBounds_toArray, List.set_cons_zero, List.set_cons_succ]); refine hK _ _ ?_; clear hK K)) | (refine m_skip (by rfl) (by rfl) ?_; (intro K hK; (try simp only [Act.put, List.setIfInBounds_toArray, List.set_cons_zero, List.set_cons_succ]); refine hK _ _ ?_; clear hK K)))
  refine m_make (by rfl) (by rfl) ?_ ?_
  · intro wz hSw hdep R hRz
    obtain ⟨hSe, hSc⟩ := hSw
    (try simp only [List.forall_mem_cons, List.forall_mem_nil, and_true] at hSc)
    unfold does
    (go_simp; refine Calls.mono (law04_Num ((y.nums.length : Int) + y.items.length) wz) ?_; intro e wq h; obtain ⟨v, rfl, h1⟩ := retA_arm hT2 hSe (RetA.inr T (h.eq hnum.out)); exact ⟨_, rfl, hRz.out _ _ h1⟩)
  intro v7 u7 x7 hG7 K hK
  have hF7 := hG7.fact
  (try dsimp only at hF7)
  obtain ⟨s7, c7, n7, m7, i7, j7, he, hA7, hb7⟩ := hF7
  injection he with he
  subst he
  (try simp only [Act.put, List.setIfInBounds_toArray, List.set_cons_zero, List.set_cons_succ]); refine hK _ _ ?_; clear hK K
  repeat (first | (refine m_plain (v := ?_) (by rfl) (by rfl) ?_ ?_; rotate_left; (intro wz hSw; obtain ⟨-, hSc⟩ := hSw; (try simp only [List.forall_mem_cons, List.forall_mem_nil, and_true] at hSc); go_simp; (first | done | with_reducible rfl)); (intro K hK; (try simp only [Act.put, List.setIfInBounds_toArray, List.set_cons_zero, List.set_cons_succ]); refine hK _ _ ?_; clear hK K)) | (refine m_skip (by rfl) (by rfl) ?_; (intro K hK; (try simp only [Act.put, List.setIfInBounds_toArray, List.set_cons_zero, List.set_cons_succ]); refine hK _ _ ?_; clear hK K)))
  refine m_make (by rfl) (by rfl) ?_ ?_
  · intro wz hSw hdep R hRz
    obtain ⟨hSe, hSc⟩ := hSw
    (try simp only [List.forall_mem_cons, List.forall_mem_nil, and_true] at hSc)
    unfold does
    (go_simp; refine Calls.mono (reshaping_Reshape num _ _ _ _ _ _ y _ _ _ _ _ _ _ wz (hA7.up (hdep 7 _ rfl (depB_sound (f := 60) (by kernel_rfl)))) (ArrAt.up (ArrAt.mono (fun b _ h => hT1 b h) _ (E.out.arr 1 rfl)) hSe)) ?_; intro e wq h; obtain ⟨ta, tc, tn, tnc, ti, tic, rfl, hq, hqb⟩ := (h.eq hvv.out z2.out); exact ⟨_, rfl, hRz.out _ _ ⟨hqb, ta, tc, tn, tnc, ti, tic, rfl, hq, hqb⟩⟩)
  intro v9 u9 x9 hG9 K hK
  have hF9 := hG9.fact
  (try dsimp only at hF9)
  obtain ⟨s9, c9, n9, m9, i9, j9, he, hA9, hb9⟩ := hF9
  injection he with he
  subst he
  (try simp only [Act.put, List.setIfInBounds_toArray, List.set_cons_zero, List.set_cons_succ]); refine hK _ _ ?_; clear hK K
  repeat (first | (refine m_plain (v := ?_) (by rfl) (by rfl) ?_ ?_; rotate_left; (intro wz hSw; obtain ⟨-, hSc⟩ := hSw; (try simp only [List.forall_mem_cons, List.forall_mem_nil, and_true] at hSc); go_simp; (first | done | with_reducible rfl)); (intro K hK; (try simp only [Act.put, List.setIfInBounds_toArray, List.set_cons_zero, List.set_cons_succ]); refine hK _ _ ?_; clear hK K)) | (refine m_skip (by rfl) (by rfl) ?_; (intro K hK; (try simp only [Act.put, List.setIfInBounds_toArray, List.set_cons_zero, List.set_cons_succ]); refine hK _ _ ?_; clear hK K)))
  refine m_make (by rfl) (by rfl) ?_ ?_
  · intro wz hSw hdep R hRz
    obtain ⟨hSe, hSc⟩ := hSw
    (try simp only [List.forall_mem_cons, List.forall_mem_nil, and_true] at hSc)
    unfold does
    (go_simp; exact hRz.out _ _ ⟨ext_alloc _ _, rfl, rfl⟩)
  intro v13 u13 x13 hG13 K hK
  have hF13 := hG13.fact
  (try dsimp only at hF13)
  obtain ⟨rfl, rfl⟩ := hF13
  (try simp only [Act.put, List.setIfInBounds_toArray, List.set_cons_zero, List.set_cons_succ]); refine hK _ _ ?_; clear hK K
  repeat (first | (refine m_plain (v := ?_) (by rfl) (by rfl) ?_ ?_; rotate_left; (intro wz hSw; obtain ⟨-, hSc⟩ := hSw; (try simp only [List.forall_mem_cons, List.forall_mem_nil, and_true] at hSc); go_simp; (first | done | with_reducible rfl)); (intro K hK; (try simp only [Act.put, List.setIfInBounds_toArray, List.set_cons_zero, List.set_cons_succ]); refine hK _ _ ?_; clear hK K)) | (refine m_skip (by rfl) (by rfl) ?_; (intro K hK; (try simp only [Act.put, List.setIfInBounds_toArray, List.set_cons_zero, List.set_cons_succ]); refine hK _ _ ?_; clear hK K)))
  refine m_nil ?_
  intro wf hSf hAf
  clear q00 q01 q02 q03
  replace E := hid (E.out.varO hA9 (hAf 9 _ rfl) (hG13.order 9 _ rfl) hG9.s.1 hG13.s.1 (hAf 13 _ rfl) hSf.1)
  refine wpl_store4 (by rfl) (.tmp 6) (.tmp 47) (by rfl) _ (by rfl) (by rfl) (E.out.hdr 6 rfl) ?_
  intro V3 HV CV
  replace E := hid (E.out.chg 6 rfl CV HV)
  clear CV HV hSf hAf
  (try simp only [List.cons_append, List.nil_append, List.set_cons_zero, List.set_cons_succ] at E)
  clear wr hG7 hG9 hG13 hA7 hA9 hb7 hb9 hT1 hT2 hT3
  generalize u13.heap.size = p3 at E ⊢
  have hv1 : ((q.shape.length : Int) == 1) = true := by rw [hv.out]; rfl
  obtain ⟨q30, q31, q32, q33⟩ := (E.out.hdr 3 rfl).all
  obtain ⟨q60, q61, q62, q63⟩ := (E.out.hdr 6 rfl).all
  go_wp2_with fail
  clear q30 q31 q32 q33 q60 q61 q62 q63
  refine (reshaping_Reshape own _ _ _ _ _ _ q _ _ _ _ _ _ _ _ (E.out.arr 2 rfl) (E.out.arr 7 rfl)).mono ?_
  intro e w6 h
  obtain ⟨s3, c3, n3, m3, i3, j3, rfl, hA, hb⟩ := h.eq y3.out z3.out
  replace E := hid ((E.out.up hb).addArr hA (fun b _ hq => E.out.fresh (Ext.refl _) hq))
  clear hA hb h
  (try simp only [List.cons_append, List.nil_append, List.set_cons_zero, List.set_cons_succ] at E)
  go_upto_region 9 with (refine wpl_store4 rfl (.tmp 8) (.tmp 53) rfl _ rfl rfl ((E.out.alloc _).hdr 9 rfl) ?_; intro V4 HV CV; replace E := hid ((E.out.alloc _).chg 9 rfl CV HV); clear CV HV; (try simp only [List.cons_append, List.nil_append, List.set_cons_zero, List.set_cons_succ] at E))
  generalize w6.heap.size = p4 at E ⊢
  obtain ⟨q00, q01, q02, q03⟩ := (E.out.hdr 0 rfl).all
  obtain ⟨q60, q61, q62, q63⟩ := (E.out.hdr 6 rfl).all
  obtain ⟨q90, q91, q92, q93⟩ := (E.out.hdr 9 rfl).all
  go_wp2_with fail
  clear q00 q01 q02 q03 q60 q61 q62 q63 q90 q91 q92 q93
  refine (ref03_Same y y _ _ _ _ _ _ _ _ _ _ _ _ _ _ _ (E.out.arr 8 rfl) (E.out.arr 1 rfl)).mono ?_
  rintro e w7 ⟨rfl, hb⟩
  replace E := hid (E.out.up hb)
  clear hb
  rw [u1.out]
  go_wp2_with (go_at_call 37; refine (law18_awake _).mono ?_; rintro e w2 ⟨rfl, hb2⟩)
  exact hR.out _ _ ⟨rfl, (E.out.up hb2).ext⟩
theorem numB_of {n : Int} (h0 : ¬ n < -4611686018427387903) (h1 : ¬ 4611686018427387903 < n) : numB n = true := by simp [numB]; omega
set_option maxRecDepth 100000 in
set_option maxHeartbeats 8000000 in
theorem law18_twice (l : List Int) (lo : Option Addr) (lc : Nat) (n m : Int) (hn : 0 ≤ n ∧ n ≤ 255) (hm : 0 ≤ m ∧ m ≤ 255) (S : Nat → Prop) (w : World) (h : IntsAt w S lo l) : Calls Try.prog 14 #[.slice lo l.length lc, .int .u8 n, .int .u8 m] w fun e w' => e = .returned (.bool true) ∧ Below w.heap.size w w' := by
  refine calls_post fun R' hR => ?_
  have h0 := hid h
  have hll := h.1
  clear h
  have E := hid ((Env.start w S).argI h0.out)
  (try simp only [List.cons_append, List.nil_append, List.set_cons_zero, List.set_cons_succ] at E)
  by_cases c0 : l.length = 0
  case pos =>
    have c1 : ((l.length : Int) == 0) = true := by simp; exact List.length_eq_zero_iff.1 c0
    replace c0 := hid c0
    go_enter Try.func14, Try.ntmps14
    go_wp2_with (go_at_call 37; refine (law18_awake _).mono ?_; rintro e w2 ⟨rfl, hb2⟩)
    exact hR.out _ _ ⟨rfl, (E.out.up hb2).ext⟩
  have c1 : ((l.length : Int) == 0) = false := by rw [beq_eq_false_iff_ne]; omega
  have c0' : Hid (l ≠ []) := hid (fun q => c0 (by rw [q]; rfl))
  by_cases c2 : 200 < l.length
  case pos =>
    replace c0 := hid c0
    go_enter Try.func14, Try.ntmps14
    go_wp2_with (go_at_call 37; refine (law18_awake _).mono ?_; rintro e w2 ⟨rfl, hb2⟩)
    exact hR.out _ _ ⟨rfl, (E.out.up hb2).ext⟩
  have c0n : ¬ l = [] := c0'.out
  go_enter Try.func14, Try.ntmps14
  go_wp2_with fail
  go_loop [7] (fun i => ∃ k : Nat, k ≤ l.length ∧ i = .int .i64 k ∧ Hid (∀ j, j < k → numB (l.getD j 0) = true)) (fun i => l.length - (intOf i).toNat)
  case atStart => exact ⟨0, Nat.zero_le _, rfl, fun j hj => by omega⟩
  case round =>
    obtain ⟨k, hk, rfl, hb⟩ := hrel
    by_cases hlt : k < l.length
    · obtain ⟨b, off, rfl, hbl, hS, hc⟩ := h0.out.at hlt
      have hN : Hid (numB (l.getD k 0) = true → ∀ j, j < k + 1 → numB (l.getD j 0) = true) := fun e j hj => by
        rcases Nat.lt_succ_iff_lt_or_eq.1 hj with h1 | h1
        · exact hb.out j h1
        · rw [h1]; exact e
      generalize l.getD k 0 = d at hc hN
      by_cases c3 : d < -4611686018427387903
      ·
        go_wp2_with (go_at_call 37; refine (law18_awake _).mono ?_; rintro e w2 ⟨rfl, hb2⟩)
        exact hR.out _ _ ⟨rfl, (E.out.up hb2).ext⟩
      by_cases c4 : 4611686018427387903 < d
      ·
        go_wp2_with (go_at_call 37; refine (law18_awake _).mono ?_; rintro e w2 ⟨rfl, hb2⟩)
        exact hR.out _ _ ⟨rfl, (E.out.up hb2).ext⟩
      go_wp2_with fail
      go_round
      case rel => exact ⟨k + 1, by omega, by go_num, hN.out (numB_of c3 c4)⟩
      case measure => simp [intOf]; omega
    · have hnb : Hid (∀ x ∈ l, numB x = true) := hid (fun x hx => by
        obtain ⟨j, hj, e⟩ := List.getElem_of_mem hx
        have := hb.out j (by omega)
        simpa [hj, e] using this)
      clear hb
      go_upto_region 9 with (fail)
      generalize hP : max n m = P
      generalize hQ : min n m = Q
      obtain ⟨p, rfl⟩ : ∃ p : Nat, P = p := ⟨P.toNat, by omega⟩
      obtain ⟨q, rfl⟩ : ∃ q : Nat, Q = q := ⟨Q.toNat, by omega⟩
      have hp : p ≤ 255 := by omega
      have hqp : q ≤ p := by omega
      clear hP hQ
      obtain ⟨z1, g1⟩ := resh_vec c0'.out (by omega) hnb.out (p := p) (by omega)
      obtain ⟨z3, _⟩ := resh_vec c0'.out (by omega) hnb.out (p := q) (by omega)
      obtain ⟨z2, g2⟩ := resh_twice c0'.out (by omega) hnb.out (p := p) (q := q) (by omega) hqp
      obtain ⟨x1, hx1⟩ : ∃ a, a = num4 (p : Int) := ⟨_, rfl⟩
      obtain ⟨x2, hx2⟩ : ∃ a, a = num4 (q : Int) := ⟨_, rfl⟩
      obtain ⟨xv, hxv⟩ : ∃ a, a = vec4 l := ⟨_, rfl⟩
      rw [← hx1, ← hxv] at z1 g1 z2 g2
      rw [← hx2, ← hxv] at z3
      rw [← hx2] at z2 g2
      obtain ⟨ra, hra⟩ : ∃ a, a = reshS x1 xv := ⟨_, rfl⟩
      rw [← hra] at g1 z2 g2
      obtain ⟨rb, hrb⟩ : ∃ a, a = reshS x2 ra := ⟨_, rfl⟩
      obtain ⟨rc, hrc⟩ : ∃ a, a = reshS x2 xv := ⟨_, rfl⟩
      rw [← hrb, ← hrc] at g2
      have hran : ra.nums = pickN l (modF l.length) p := by rw [g1]; rfl
      have hral : ((ra.nums.length : Int) != (p : Int)) = false := by rw [hran, pickN_len]; simp
      have hlen : Hid (ra.nums.length = p) := hid (by rw [hran, pickN_len])
      replace hran := hid hran
      replace g1 := hid g1
      replace g2 := hid g2
      replace z1 := hid z1
      replace z2 := hid z2
      replace z3 := hid z3
      replace hx1 := hid hx1
      replace hx2 := hid hx2
      replace hxv := hid hxv
      replace hra := hid hra
      replace hrb := hid hrb
      replace hrc := hid hrc
      go_wp2_with fail
      refine (law04_Num (p : Int) _).mono ?_
      intro e w1 h
      obtain ⟨s1, c1, n1, m1, i1, j1, rfl, hA, hb⟩ := h.eq hx1.out
      replace E := hid ((E.out.up hb).addArr hA (fun b _ hq => E.out.fresh (Ext.refl _) hq))
      clear hA hb h
      (try simp only [List.cons_append, List.nil_append, List.set_cons_zero, List.set_cons_succ] at E)
      go_wp2_with fail
      refine (law04_Vec l _ _ _ _ (E.out.ints 0 rfl)).mono ?_
      intro e w2 h
      obtain ⟨s2, c2, n2, m2, i2, j2, rfl, hA, hb⟩ := h.eq hxv.out
      replace E := hid ((E.out.up hb).addArr hA (fun b _ hq => E.out.res (Ext.refl _) hq))
      clear hA hb h
      (try simp only [List.cons_append, List.nil_append, List.set_cons_zero, List.set_cons_succ] at E)
      go_wp2_with fail
      refine (reshaping_Reshape x1 _ _ _ _ _ _ xv _ _ _ _ _ _ _ _ (E.out.arr 1 rfl) (E.out.arr 2 rfl)).mono ?_
      intro e w3 h
      obtain ⟨s31, c31, n31, m31, i31, j31, rfl, hA, hb⟩ := h.eq hra.out z1.out
      replace E := hid ((E.out.up hb).addArr hA (fun b _ hq => E.out.fresh (Ext.refl _) hq))
      clear hA hb h
      (try simp only [List.cons_append, List.nil_append, List.set_cons_zero, List.set_cons_succ] at E)
      go_upto_region 10 with (refine wpl_store4 rfl (.tmp 10) (.tmp 61) rfl _ rfl rfl ((E.out.alloc _).hdr 4 rfl) ?_; intro V1 HV CV; replace E := hid ((E.out.alloc _).chg 4 rfl CV HV); clear CV HV; (try simp only [List.cons_append, List.nil_append, List.set_cons_zero, List.set_cons_succ] at E))
      generalize w3.heap.size = p1 at E ⊢
      obtain ⟨T, hT1, hT2, hT3⟩ := E.out.tw
      refine wp_region_edge 6 8 (by kernel_rfl) (by kernel_rfl) (fun o _ v c a w h => by cases hd : o.dst <;> (rw [hd] at h; exact h)) _ rfl 8 (Sees V1 [(⟨p1, 0, none⟩, .int .i64 ra.kind), (⟨p1, 1, none⟩, .slice s31 ra.shape.length c31), (⟨p1, 2, none⟩, .slice n31 ra.nums.length m31), (⟨p1, 3, none⟩, .slice i31 ra.items.length j31)]) [1, 3, 7] (fun k v u u' => match k with | 1 => RetA u T (x2) (.returned v) u' | 3 => RetAE u (fun b => u.heap.size ≤ b) (rb) (0) (.returned v) u' | 7 => v = .pointer (some ⟨u.heap.size, 0, none⟩) ∧ u' = u.alloc (.cells #[.int .i64 0, .slice none 0 0, .slice none 0 0, .slice none 0 0] 46) | _ => False) (fun _ _ h e => h.up e) (Sees.start (all_cons ((E.out.hdr 4 rfl).c0) (all_cons ((E.out.hdr 4 rfl).c1) (all_cons ((E.out.hdr 4 rfl).c2) (all_cons ((E.out.hdr 4 rfl).c3) (all_nil)))))) (by kernel_rfl) ?_
      simp only [withEdge, List.modify_succ_cons, List.modify_zero_cons, List.push_toArray, List.cons_append, List.nil_append]
      simp only [List.take_succ_cons, List.take_zero, List.drop_succ_cons, List.drop_zero]
      repeat (first | (refine m_plain (v := ?_) (by rfl) (by rfl) ?_ ?_; rotate_left; (intro wz hSw; obtain ⟨-, hSc⟩ := hSw; (try simp only [List.forall_mem_cons, List.forall_mem_nil, and_true] at hSc); go_simp; (first | done | with_reducible rfl)); (intro K hK; (try simp only [Act.put, List.setIfInBounds_toArray, List.set_cons_zero, List.set_cons_succ]); refine hK _ _ ?_; clear hK K)) | (refine m_skip (by rfl) (by rfl) ?_; (intro K hK; (try simp only [Act.put, List.setIfInBounds_toArray, List.set_cons_zero, List.set_cons_succ]); refine hK _ _ ?_; clear hK K)))
      refine m_make (by rfl) (by rfl) ?_ ?_
      · intro wz hSw hdep R hRz
        obtain ⟨hSe, hSc⟩ := hSw
        (try simp only [List.forall_mem_cons, List.forall_mem_nil, and_true] at hSc)
        unfold does
        (go_simp; refine Calls.mono (law04_Num (q : Int) wz) ?_; intro e wq h; obtain ⟨v, rfl, h1⟩ := retA_arm hT2 hSe (RetA.inr T (h.eq hx2.out)); exact ⟨_, rfl, hRz.out _ _ h1⟩)
      intro v1 u1 x1 hG1 K hK
      have hF1 := hG1.fact
      (try dsimp only at hF1)
      obtain ⟨s1, c1, n1, m1, i1, j1, he, hA1, hb1⟩ := hF1
      injection he with he
      subst he
      (try simp only [Act.put, List.setIfInBounds_toArray, List.set_cons_zero, List.set_cons_succ]); refine hK _ _ ?_; clear hK K
      repeat (first | (refine m_plain (v := ?_) (by rfl) (by rfl) ?_ ?_; rotate_left; (intro wz hSw; obtain ⟨-, hSc⟩ := hSw; (try simp only [List.forall_mem_cons, List.forall_mem_nil, and_true] at hSc); go_simp; (first | done | with_reducible rfl)); (intro K hK; (try simp only [Act.put, List.setIfInBounds_toArray, List.set_cons_zero, List.set_cons_succ]); refine hK _ _ ?_; clear hK K)) | (refine m_skip (by rfl) (by rfl) ?_; (intro K hK; (try simp only [Act.put, List.setIfInBounds_toArray, List.set_cons_zero, List.set_cons_succ]); refine hK _ _ ?_; clear hK K)))
      refine m_make (by rfl) (by rfl) ?_ ?_
      · intro wz hSw hdep R hRz
        obtain ⟨hSe, hSc⟩ := hSw
        (try simp only [List.forall_mem_cons, List.forall_mem_nil, and_true] at hSc)
        unfold does
        (go_simp; refine Calls.mono (reshaping_Reshape x2 _ _ _ _ _ _ ra _ _ _ _ _ _ _ wz (hA1.up (hdep 1 _ rfl (depB_sound (f := 60) (by kernel_rfl)))) (ArrAt.up (ArrAt.mono (fun b _ h => hT1 b h) _ (E.out.arr 3 rfl)) hSe)) ?_; intro e wq h; obtain ⟨ta, tc, tn, tnc, ti, tic, rfl, hq, hqb⟩ := (h.eq hrb.out z2.out); exact ⟨_, rfl, hRz.out _ _ ⟨hqb, ta, tc, tn, tnc, ti, tic, rfl, hq, hqb⟩⟩)
      intro v3 u3 x3 hG3 K hK
      have hF3 := hG3.fact
      (try dsimp only at hF3)
      obtain ⟨s3, c3, n3, m3, i3, j3, he, hA3, hb3⟩ := hF3
      injection he with he
      subst he
      (try simp only [Act.put, List.setIfInBounds_toArray, List.set_cons_zero, List.set_cons_succ]); refine hK _ _ ?_; clear hK K
      repeat (first | (refine m_plain (v := ?_) (by rfl) (by rfl) ?_ ?_; rotate_left; (intro wz hSw; obtain ⟨-, hSc⟩ := hSw; (try simp only [List.forall_mem_cons, List.forall_mem_nil, and_true] at hSc); go_simp; (first | done | with_reducible rfl)); (intro K hK; (try simp only [Act.put, List.setIfInBounds_toArray, List.set_cons_zero, List.set_cons_succ]); refine hK _ _ ?_; clear hK K)) | (refine m_skip (by rfl) (by rfl) ?_; (intro K hK; (try simp only [Act.put, List.setIfInBounds_toArray, List.set_cons_zero, List.set_cons_succ]); refine hK _ _ ?_; clear hK K)))
      refine m_make (by rfl) (by rfl) ?_ ?_
      · intro wz hSw hdep R hRz
        obtain ⟨hSe, hSc⟩ := hSw
        (try simp only [List.forall_mem_cons, List.forall_mem_nil, and_true] at hSc)
        unfold does
        (go_simp; exact hRz.out _ _ ⟨ext_alloc _ _, rfl, rfl⟩)
      intro v7 u7 x7 hG7 K hK
      have hF7 := hG7.fact
      (try dsimp only at hF7)
      obtain ⟨rfl, rfl⟩ := hF7
      (try simp only [Act.put, List.setIfInBounds_toArray, List.set_cons_zero, List.set_cons_succ]); refine hK _ _ ?_; clear hK K
      repeat (first | (refine m_plain (v := ?_) (by rfl) (by rfl) ?_ ?_; rotate_left; (intro wz hSw; obtain ⟨-, hSc⟩ := hSw; (try simp only [List.forall_mem_cons, List.forall_mem_nil, and_true] at hSc); go_simp; (first | done | with_reducible rfl)); (intro K hK; (try simp only [Act.put, List.setIfInBounds_toArray, List.set_cons_zero, List.set_cons_succ]); refine hK _ _ ?_; clear hK K)) | (refine m_skip (by rfl) (by rfl) ?_; (intro K hK; (try simp only [Act.put, List.setIfInBounds_toArray, List.set_cons_zero, List.set_cons_succ]); refine hK _ _ ?_; clear hK K)))
      refine m_nil ?_
      intro wf hSf hAf
      replace E := hid (E.out.varO hA3 (hAf 3 _ rfl) (hG7.order 3 _ rfl) hG3.s.1 hG7.s.1 (hAf 7 _ rfl) hSf.1)
      refine wpl_store4 (by rfl) (.tmp 12) (.tmp 68) (by rfl) _ (by rfl) (by rfl) (E.out.hdr 5 rfl) ?_
      intro V2 HV CV
      replace E := hid (E.out.chg 5 rfl CV HV)
      clear CV HV hSf hAf
      (try simp only [List.cons_append, List.nil_append, List.set_cons_zero, List.set_cons_succ] at E)
      clear hG1 hG3 hG7 hA1 hA3 hb1 hb3 hT1 hT2 hT3
      generalize u7.heap.size = p2 at E ⊢
      go_wp2_with fail
      refine (law04_Num (q : Int) _).mono ?_
      intro e w4 h
      obtain ⟨s4, c4, n4, m4, i4, j4, rfl, hA, hb⟩ := h.eq hx2.out
      replace E := hid ((E.out.up hb).addArr hA (fun b _ hq => E.out.fresh (Ext.refl _) hq))
      clear hA hb h
      (try simp only [List.cons_append, List.nil_append, List.set_cons_zero, List.set_cons_succ] at E)
      go_wp2_with fail
      refine (law04_Vec l _ _ _ _ (E.out.ints 0 rfl)).mono ?_
      intro e w5 h
      obtain ⟨s5, c5, n5, m5, i5, j5, rfl, hA, hb⟩ := h.eq hxv.out
      replace E := hid ((E.out.up hb).addArr hA (fun b _ hq => E.out.res (Ext.refl _) hq))
      clear hA hb h
      (try simp only [List.cons_append, List.nil_append, List.set_cons_zero, List.set_cons_succ] at E)
      go_wp2_with fail
      refine (reshaping_Reshape x2 _ _ _ _ _ _ xv _ _ _ _ _ _ _ _ (E.out.arr 7 rfl) (E.out.arr 8 rfl)).mono ?_
      intro e w6 h
      obtain ⟨s6, c6, n6, m6, i6, j6, rfl, hA, hb⟩ := h.eq hrc.out z3.out
      replace E := hid ((E.out.up hb).addArr hA (fun b _ hq => E.out.fresh (Ext.refl _) hq))
      clear hA hb h
      (try simp only [List.cons_append, List.nil_append, List.set_cons_zero, List.set_cons_succ] at E)
      go_upto_region 12 with (refine wpl_store4 rfl (.tmp 14) (.tmp 76) rfl _ rfl rfl ((E.out.alloc _).hdr 10 rfl) ?_; intro V3 HV CV; replace E := hid ((E.out.alloc _).chg 10 rfl CV HV); clear CV HV; (try simp only [List.cons_append, List.nil_append, List.set_cons_zero, List.set_cons_succ] at E))
      generalize w6.heap.size = p3 at E ⊢
      obtain ⟨q40, q41, q42, q43⟩ := (E.out.hdr 4 rfl).all
      obtain ⟨q50, q51, q52, q53⟩ := (E.out.hdr 5 rfl).all
      obtain ⟨q100, q101, q102, q103⟩ := (E.out.hdr 10 rfl).all
      by_cases hq0 : 0 < q
      case pos =>
        have u1 : Hid (sameB rb rc = true) := hid (by rw [g2.out hq0]; exact sameB_self _)
        go_wp2_with fail
        clear q40 q41 q42 q43 q50 q51 q52 q53 q100 q101 q102 q103
        refine (ref03_Same rb rc _ _ _ _ _ _ _ _ _ _ _ _ _ _ _ (E.out.arr 6 rfl) (E.out.arr 9 rfl)).mono ?_
        rintro e w7 ⟨rfl, hb⟩
        replace E := hid (E.out.up hb)
        clear hb
        rw [u1.out]
        obtain ⟨L0, hL0, E0⟩ := E.out.name
        clear E
        have E := hid E0
        clear E0
        go_wp2_with fail
        go_loopw [16] (fun i wr => ∃ k : Nat, k ≤ p ∧ i = .int .i64 k ∧ Env w S wr L0) (fun i _ => p - (intOf i).toNat)
        case atStart => exact ⟨0, Nat.zero_le _, rfl, E.out⟩
        case round =>
          clear E
          obtain ⟨k, hk, rfl, E⟩ := hrel
          rw [hL0.out] at E
          replace E := hid E
          by_cases hlt : k < p
          · have hml : k % l.length < l.length := Nat.mod_lt _ (by omega)
            obtain ⟨b1, o1, hna, hbl1, hS1, hc1⟩ := (E.out.arr 3 rfl).nums.at (k := k) (by rw [hlen.out]; omega)
            obtain ⟨b2, o2, hlo, hbl2, hS2, hc2⟩ := (E.out.ints 0 rfl).at (k := k % l.length) hml
            have hd : ra.nums.getD k 0 = l.getD (k % l.length) 0 := by
              rw [hran.out, pickN_getD _ _ hlt]
              unfold modF
              congr 1
            rw [hd] at hc1
            have hmod : ((k : Nat) : Int).tmod (l.length : Int) = ((k % l.length : Nat) : Int) := rfl
            clear hd
            generalize l.getD (k % l.length) 0 = dd at hc1 hc2
            generalize k % l.length = t at hml hmod hc2
            have t0 : (0 : Int) ≤ (t : Int) := by omega
            have t1 : (t : Int) < (l.length : Int) := by omega
            have t2 : ¬ (l.length : Int) = 0 := by omega
            have t3 : (0 : Int) ≤ (k : Int) := by omega
            have t4 : (k : Int) < (ra.nums.length : Int) := by rw [hlen.out]; omega
            have dd0 : (dd != dd) = false := by simp
            subst hna
            subst hlo
            have q42 := (E.out.hdr 4 rfl).c2
            go_upto_region 17 with (fail)
            refine wp_region_mono (Sees wr [(⟨p1, 2, none⟩, .slice (some ⟨b1, o1, none⟩) ra.nums.length m31), (⟨b1, o1 + k, none⟩, .int .i64 dd), (⟨b2, o2 + t, none⟩, .int .i64 dd)]) [] (fun k v u u' => match k with  | _ => False) (fun _ _ h e => h.up e) (Sees.start (all_cons (q42) (all_cons (hc1) (all_cons (hc2) (all_nil))))) (by kernel_rfl) (by kernel_rfl) ?_
            repeat (first | (refine m_plain (v := ?_) (by rfl) (by rfl) ?_ ?_; rotate_left; (intro wz hSw; obtain ⟨-, hSc⟩ := hSw; (try simp only [List.forall_mem_cons, List.forall_mem_nil, and_true] at hSc); go_simp; (first | done | with_reducible rfl)); (intro K hK; (try simp only [Act.put, List.setIfInBounds_toArray, List.set_cons_zero, List.set_cons_succ]); refine hK _ _ ?_; clear hK K)) | (refine m_skip (by rfl) (by rfl) ?_; (intro K hK; (try simp only [Act.put, List.setIfInBounds_toArray, List.set_cons_zero, List.set_cons_succ]); refine hK _ _ ?_; clear hK K)))
            refine m_nil ?_
            intro wf hSf hAf
            replace E := hid (E.out.up hSf.1)
            clear hSf hAf q42
            go_wp2_with fail
            go_roundw
            case rel => exact ⟨k + 1, by omega, by go_num, by rw [hL0.out]; exact E.out⟩
            case measure => simp [intOf]; omega
          ·
            go_wp2_with (go_at_call 37; refine (law18_awake _).mono ?_; rintro e w2 ⟨rfl, hb2⟩)
            exact hR.out _ _ ⟨rfl, (E.out.up hb2).ext⟩
      case neg =>
        obtain ⟨L0, hL0, E0⟩ := E.out.name
        clear E
        have E := hid E0
        clear E0
        go_wp2_with fail
        go_loopw [16] (fun i wr => ∃ k : Nat, k ≤ p ∧ i = .int .i64 k ∧ Env w S wr L0) (fun i _ => p - (intOf i).toNat)
        case atStart => exact ⟨0, Nat.zero_le _, rfl, E.out⟩
        case round =>
          clear E
          obtain ⟨k, hk, rfl, E⟩ := hrel
          rw [hL0.out] at E
          replace E := hid E
          by_cases hlt : k < p
          · have hml : k % l.length < l.length := Nat.mod_lt _ (by omega)
            obtain ⟨b1, o1, hna, hbl1, hS1, hc1⟩ := (E.out.arr 3 rfl).nums.at (k := k) (by rw [hlen.out]; omega)
            obtain ⟨b2, o2, hlo, hbl2, hS2, hc2⟩ := (E.out.ints 0 rfl).at (k := k % l.length) hml
            have hd : ra.nums.getD k 0 = l.getD (k % l.length) 0 := by
              rw [hran.out, pickN_getD _ _ hlt]
              unfold modF
              congr 1
            rw [hd] at hc1
            have hmod : ((k : Nat) : Int).tmod (l.length : Int) = ((k % l.length : Nat) : Int) := rfl
            clear hd
            generalize l.getD (k % l.length) 0 = dd at hc1 hc2
            generalize k % l.length = t at hml hmod hc2
            have t0 : (0 : Int) ≤ (t : Int) := by omega
            have t1 : (t : Int) < (l.length : Int) := by omega
            have t2 : ¬ (l.length : Int) = 0 := by omega
            have t3 : (0 : Int) ≤ (k : Int) := by omega
            have t4 : (k : Int) < (ra.nums.length : Int) := by rw [hlen.out]; omega
            have dd0 : (dd != dd) = false := by simp
            subst hna
            subst hlo
            have q42 := (E.out.hdr 4 rfl).c2
            go_upto_region 17 with (fail)
            refine wp_region_mono (Sees wr [(⟨p1, 2, none⟩, .slice (some ⟨b1, o1, none⟩) ra.nums.length m31), (⟨b1, o1 + k, none⟩, .int .i64 dd), (⟨b2, o2 + t, none⟩, .int .i64 dd)]) [] (fun k v u u' => match k with  | _ => False) (fun _ _ h e => h.up e) (Sees.start (all_cons (q42) (all_cons (hc1) (all_cons (hc2) (all_nil))))) (by kernel_rfl) (by kernel_rfl) ?_
            repeat (first | (refine m_plain (v := ?_) (by rfl) (by rfl) ?_ ?_; rotate_left; (intro wz hSw; obtain ⟨-, hSc⟩ := hSw; (try simp only [List.forall_mem_cons, List.forall_mem_nil, and_true] at hSc); go_simp; (first | done | with_reducible rfl)); (intro K hK; (try simp only [Act.put, List.setIfInBounds_toArray, List.set_cons_zero, List.set_cons_succ]); refine hK _ _ ?_; clear hK K)) | (refine m_skip (by rfl) (by rfl) ?_; (intro K hK; (try simp only [Act.put, List.setIfInBounds_toArray, List.set_cons_zero, List.set_cons_succ]); refine hK _ _ ?_; clear hK K)))
            refine m_nil ?_
            intro wf hSf hAf
            replace E := hid (E.out.up hSf.1)
            clear hSf hAf q42
            go_wp2_with fail
            go_roundw
            case rel => exact ⟨k + 1, by omega, by go_num, by rw [hL0.out]; exact E.out⟩
            case measure => simp [intOf]; omega
          ·
            go_wp2_with (go_at_call 37; refine (law18_awake _).mono ?_; rintro e w2 ⟨rfl, hb2⟩)
            exact hR.out _ _ ⟨rfl, (E.out.up hb2).ext⟩
end Go.Proofs.Ytmclggonmekanaa
