/- The example of the theorems of copying, finding and cutting: true; a vector. Conditions: the arrays are read; a slice's capacity is at least its length. -/
import Derived.Test.YtdpdcjadedcglaaGP
import Derived.Test.YtdpdcjadedcglaaI23C
import Derived.Test.YtdpdcjadedcglaaSLEQ
import Derived.Test.YtdpdcjadedcglaaJ20A
import Derived.Test.YtdpdcjadedcglaaPAIR
import Derived.Test.YtdpdcjadedcglaaAPF
set_option linter.unusedVariables false
set_option maxRecDepth 20000
set_option linter.unusedSimpArgs false
namespace Go.Proofs.Ytdpdcjadedcglaa
open Go.RowKit Go.Sort
attribute [local go_sem ↓] run_max2 run_min2
attribute [local go_sem] eql_ints_nil eql_arrs_nil
theorem top_vectorC (l : List Int) (lo : Option Addr) (lc : Nat) (S : Nat → Prop) (w : World) (h : IntsAt w S lo l) (hl : l.length ≤ lc) : Calls Try.prog 10 #[.slice lo l.length lc] w (RetAC w (fun b => S b ∨ w.heap.size ≤ b) (vecA l)) := (top_vector l lo lc S w h hl).mono fun _ _ h => h.to rfl
set_option maxRecDepth 100000 in
set_option maxHeartbeats 8000000 in
theorem top_knows27 (w : World) : Calls Try.prog 8 #[] w fun e w' => e = .returned (.bool true) ∧ Ext w w' := by
  refine calls_post fun R' hR => ?_
  obtain ⟨ua, hua⟩ : ∃ a, a = vecA [1, 2, 0] := ⟨_, rfl⟩
  obtain ⟨vv, hvv⟩ : ∃ a, a = vecA [30, 10, 20] := ⟨_, rfl⟩
  obtain ⟨rr, hrr⟩ : ∃ a, a = vecA [10, 20, 30] := ⟨_, rfl⟩
  have z1 : Hid (frmE ua vv = 0) := hid (by rw [hua, hvv]; kernel_rfl)
  have z2 : Hid (rr = frmS ua vv) := hid (by rw [hua, hvv, hrr]; kernel_rfl)
  have hl1 : Hid (ua.shape.length ≤ 10000) := hid (by rw [hua]; decide)
  have hl2 : Hid (vv.shape.length ≤ 10000) := hid (by rw [hvv]; decide)
  have hu1 : Hid (sameB ua ua = true) := hid (sameB_self _)
  have hu2 : Hid (sameB rr rr = true) := hid (sameB_self _)
  have hv3 : Hid (vv = vec3) := hid hvv
  replace hua := hid hua
  replace hvv := hid hvv
  replace hrr := hid hrr
  have E := hid (Env.start w (fun _ => False))
  go_enter Try.func8, Try.ntmps8
  go_wp2_with fail
  replace E := hid (E.out.lit [30, 10, 20] (by decide))
  (try simp only [List.cons_append, List.nil_append, List.set_cons_zero, List.set_cons_succ] at E)
  generalize w.heap.size = g1 at E ⊢
  refine (top_vectorC [30, 10, 20] _ _ _ _ (E.out.ints 0 rfl) (by decide)).mono ?_
  intro e w2 h
  obtain ⟨s102, c102, n102, m102, i102, j102, rfl, hA, hb, hC102⟩ := h.eq hvv.out
  replace E := hid ((E.out.up hb).addArr hA (fun b _ hq => E.out.res (Ext.refl _) hq))
  replace hC102 := hid hC102
  clear hA hb h
  (try simp only [List.cons_append, List.nil_append, List.set_cons_zero, List.set_cons_succ] at E)
  go_wp2_with fail
  refine (grading_Up3 vv _ _ _ _ _ _ _ _ (E.out.arr 1 rfl) hv3.out hC102.out).mono ?_
  intro e w3 h
  obtain ⟨s111, c111, n111, m111, i111, j111, rfl, hA, hb, hC111⟩ := h.eq hua.out rfl
  replace E := hid ((E.out.up hb).addArr hA (fun b _ hq => E.out.res (Ext.refl _) hq))
  replace hC111 := hid hC111
  clear hA hb h
  (try simp only [List.cons_append, List.nil_append, List.set_cons_zero, List.set_cons_succ] at E)
  go_upto_region 2 with (refine wpl_store4 rfl (.tmp 1) (.tmp 9) rfl _ rfl rfl ((E.out.alloc _).hdr 3 rfl) ?_; intro V1 HV CV; replace E := hid ((E.out.alloc _).chg 3 rfl CV HV); clear CV HV; (try simp only [List.cons_append, List.nil_append, List.set_cons_zero, List.set_cons_succ] at E))
  generalize w3.heap.size = p1 at E ⊢
  obtain ⟨T, hT1, hT2, hT3⟩ := E.out.tw
  refine wp_region_edge 6 8 (by kernel_rfl) (by kernel_rfl) (fun o _ v c a w h => by cases hd : o.dst <;> (rw [hd] at h; exact h)) _ rfl 8 (Sees V1 [(⟨p1, 0, none⟩, .int .i64 ua.kind), (⟨p1, 1, none⟩, .slice s111 ua.shape.length c111), (⟨p1, 2, none⟩, .slice n111 ua.nums.length m111), (⟨p1, 3, none⟩, .slice i111 ua.items.length j111)]) [1, 2, 3, 7] (fun k v u u' => match k with | 1 => v = .slice (some ⟨u.heap.size, 0, none⟩) 3 3 ∧ u' = u.alloc (.cells (([30, 10, 20] : List Int).map (Value.int .i64)).toArray 3) | 2 => RetAC u T (vv) (.returned v) u' | 3 => RetAEC u (fun b => u.heap.size ≤ b) (rr) (0) (.returned v) u' | 7 => v = .pointer (some ⟨u.heap.size, 0, none⟩) ∧ u' = u.alloc (.cells #[.int .i64 0, .slice none 0 0, .slice none 0 0, .slice none 0 0] 27) | _ => False) (fun _ _ h e => h.up e) (Sees.start (all_cons ((E.out.hdr 3 rfl).c0) (all_cons ((E.out.hdr 3 rfl).c1) (all_cons ((E.out.hdr 3 rfl).c2) (all_cons ((E.out.hdr 3 rfl).c3) (all_nil)))))) (by kernel_rfl) ?_
  simp only [withEdge, List.modify_succ_cons, List.modify_zero_cons, List.push_toArray, List.cons_append, List.nil_append]
  simp only [List.take_succ_cons, List.take_zero, List.drop_succ_cons, List.drop_zero]
  repeat (first | (refine m_plain (v := ?_) (by rfl) (by rfl) ?_ ?_; rotate_left; (intro wz hSw; obtain ⟨-, hSc⟩ := hSw; (try simp only [List.forall_mem_cons, List.forall_mem_nil, and_true] at hSc); go_simp; (first | done | with_reducible rfl)); (intro K hK; (try simp only [Act.put, List.setIfInBounds_toArray, List.set_cons_zero, List.set_cons_succ]); refine hK _ _ ?_; clear hK K)) | (refine m_skip (by rfl) (by rfl) ?_; (intro K hK; (try simp only [Act.put, List.setIfInBounds_toArray, List.set_cons_zero, List.set_cons_succ]); refine hK _ _ ?_; clear hK K)))
  refine m_make (by rfl) (by rfl) ?_ ?_
  · intro wz hSw hdep R hRz
    obtain ⟨hSe, hSc⟩ := hSw
    (try simp only [List.forall_mem_cons, List.forall_mem_nil, and_true] at hSc)
    unfold does
    (go_simp; exact hRz.out _ _ ⟨ext_alloc _ _, rfl, rfl⟩)
  intro v1 u1 x1 hG1 K hK
  have hF1 := hG1.fact
  (try dsimp only at hF1)
  obtain ⟨rfl, rfl⟩ := hF1
  (try simp only [Act.put, List.setIfInBounds_toArray, List.set_cons_zero, List.set_cons_succ]); refine hK _ _ ?_; clear hK K
  repeat (first | (refine m_plain (v := ?_) (by rfl) (by rfl) ?_ ?_; rotate_left; (intro wz hSw; obtain ⟨-, hSc⟩ := hSw; (try simp only [List.forall_mem_cons, List.forall_mem_nil, and_true] at hSc); go_simp; (first | done | with_reducible rfl)); (intro K hK; (try simp only [Act.put, List.setIfInBounds_toArray, List.set_cons_zero, List.set_cons_succ]); refine hK _ _ ?_; clear hK K)) | (refine m_skip (by rfl) (by rfl) ?_; (intro K hK; (try simp only [Act.put, List.setIfInBounds_toArray, List.set_cons_zero, List.set_cons_succ]); refine hK _ _ ?_; clear hK K)))
  refine m_make (by rfl) (by rfl) ?_ ?_
  · intro wz hSw hdep R hRz
    obtain ⟨hSe, hSc⟩ := hSw
    (try simp only [List.forall_mem_cons, List.forall_mem_nil, and_true] at hSc)
    unfold does
    (go_simp; refine Calls.mono (top_vectorC [30, 10, 20] _ _ _ wz ((lit_at (hdep 1 _ rfl (depB_sound (f := 4) (by kernel_rfl))) (by first | decide | simp)).mono (fun b _ hb => hT2 b (Nat.le_trans (Below.size hG1.s.1) hb))) (by decide)) ?_; intro e wq h; obtain ⟨v, rfl, h1⟩ := retAC_arm hT2 hSe (h.eq hvv.out); exact ⟨_, rfl, hRz.out _ _ h1⟩)
  intro v2 u2 x2 hG2 K hK
  have hF2 := hG2.fact
  (try dsimp only at hF2)
  obtain ⟨s2, c2, n2, m2, i2, j2, he, hA2, hb2, hC2⟩ := hF2
  injection he with he
  subst he
  replace hC2 := hid hC2
  (try simp only [Act.put, List.setIfInBounds_toArray, List.set_cons_zero, List.set_cons_succ]); refine hK _ _ ?_; clear hK K
  repeat (first | (refine m_plain (v := ?_) (by rfl) (by rfl) ?_ ?_; rotate_left; (intro wz hSw; obtain ⟨-, hSc⟩ := hSw; (try simp only [List.forall_mem_cons, List.forall_mem_nil, and_true] at hSc); go_simp; (first | done | with_reducible rfl)); (intro K hK; (try simp only [Act.put, List.setIfInBounds_toArray, List.set_cons_zero, List.set_cons_succ]); refine hK _ _ ?_; clear hK K)) | (refine m_skip (by rfl) (by rfl) ?_; (intro K hK; (try simp only [Act.put, List.setIfInBounds_toArray, List.set_cons_zero, List.set_cons_succ]); refine hK _ _ ?_; clear hK K)))
  refine m_make (by rfl) (by rfl) ?_ ?_
  · intro wz hSw hdep R hRz
    obtain ⟨hSe, hSc⟩ := hSw
    (try simp only [List.forall_mem_cons, List.forall_mem_nil, and_true] at hSc)
    unfold does
    (go_simp; refine Calls.mono (indexing_From ua _ _ _ _ _ _ vv _ _ _ _ _ _ _ wz (ArrAt.up (ArrAt.mono (fun b _ h => hT1 b h) _ (E.out.arr 2 rfl)) hSe) (hA2.up (hdep 2 _ rfl (depB_sound (f := 4) (by kernel_rfl)))) hC2.out.1 hl1.out hl2.out) ?_; intro e wq h; obtain ⟨ta, tc, tn, tnc, ti, tic, rfl, hq, hqb, hqc⟩ := (h.eq z2.out z1.out); exact ⟨_, rfl, hRz.out _ _ ⟨hqb, ta, tc, tn, tnc, ti, tic, rfl, hq, hqb, hqc⟩⟩)
  intro v3 u3 x3 hG3 K hK
  have hF3 := hG3.fact
  (try dsimp only at hF3)
  obtain ⟨s3, c3, n3, m3, i3, j3, he, hA3, hb3, hC3⟩ := hF3
  injection he with he
  subst he
  replace hC3 := hid hC3
  (try simp only [Act.put, List.setIfInBounds_toArray, List.set_cons_zero, List.set_cons_succ]); refine hK _ _ ?_; clear hK K
  repeat (first | (refine m_plain (v := ?_) (by rfl) (by rfl) ?_ ?_; rotate_left; (intro wz hSw; obtain ⟨-, hSc⟩ := hSw; (try simp only [List.forall_mem_cons, List.forall_mem_nil, and_true] at hSc); go_simp; (first | done | with_reducible rfl)); (intro K hK; (try simp only [Act.put, List.setIfInBounds_toArray, List.set_cons_zero, List.set_cons_succ]); refine hK _ _ ?_; clear hK K)) | (refine m_skip (by rfl) (by rfl) ?_; (intro K hK; (try simp only [Act.put, List.setIfInBounds_toArray, List.set_cons_zero, List.set_cons_succ]); refine hK _ _ ?_; clear hK K)))
  refine m_make (by rfl) (by rfl) ?_ ?_
  · intro wz hSw hdep R hRz
    obtain ⟨hSe, hSc⟩ := hSw
    (try simp only [List.forall_mem_cons, List.forall_mem_nil, and_true] at hSc)
    unfold does
    (go_simp; exact hRz.out _ _ ⟨ext_alloc _ _, rfl, rfl⟩)
  intro v7 u7 x7 hG7 K hK
  have hF7 := hG7.fact
  (try dsimp only at hF7)
  obtain ⟨rfl, rfl⟩ := hF7
  (try simp only [Act.put, List.setIfInBounds_toArray, List.set_cons_zero, List.set_cons_succ]); refine hK _ _ ?_; clear hK K
  repeat (first | (refine m_plain (v := ?_) (by rfl) (by rfl) ?_ ?_; rotate_left; (intro wz hSw; obtain ⟨-, hSc⟩ := hSw; (try simp only [List.forall_mem_cons, List.forall_mem_nil, and_true] at hSc); go_simp; (first | done | with_reducible rfl)); (intro K hK; (try simp only [Act.put, List.setIfInBounds_toArray, List.set_cons_zero, List.set_cons_succ]); refine hK _ _ ?_; clear hK K)) | (refine m_skip (by rfl) (by rfl) ?_; (intro K hK; (try simp only [Act.put, List.setIfInBounds_toArray, List.set_cons_zero, List.set_cons_succ]); refine hK _ _ ?_; clear hK K)))
  refine m_nil ?_
  intro wf hSf hAf
  replace E := hid (E.out.varO hA3 (hAf 3 _ rfl) (hG7.order 3 _ rfl) hG3.s.1 hG7.s.1 (hAf 7 _ rfl) hSf.1)
  refine wpl_store4 (by rfl) (.tmp 3) (.tmp 16) (by rfl) _ (by rfl) (by rfl) (E.out.hdr 4 rfl) ?_
  intro V2 HV CV
  replace E := hid (E.out.chg 4 rfl CV HV)
  clear CV HV hSf hAf
  (try simp only [List.cons_append, List.nil_append, List.set_cons_zero, List.set_cons_succ] at E)
  clear hG1 hG2 hG3 hG7 hA2 hA3 hb2 hb3 hT1 hT2 hT3 hC2
  generalize u7.heap.size = p2 at E ⊢
  obtain ⟨s112, hq⟩ : ∃ s, s = s3 := ⟨_, rfl⟩
  subst hq
  obtain ⟨c112, hq⟩ : ∃ s, s = c3 := ⟨_, rfl⟩
  subst hq
  obtain ⟨n112, hq⟩ : ∃ s, s = n3 := ⟨_, rfl⟩
  subst hq
  obtain ⟨m112, hq⟩ : ∃ s, s = m3 := ⟨_, rfl⟩
  subst hq
  obtain ⟨i112, hq⟩ : ∃ s, s = i3 := ⟨_, rfl⟩
  subst hq
  obtain ⟨j112, hq⟩ : ∃ s, s = j3 := ⟨_, rfl⟩
  subst hq
  go_upto_region 3 with fail
  obtain ⟨T, hT1, hT2, hT3⟩ := E.out.tw
  refine wp_region_mono (Sees V2 [(⟨p1, 0, none⟩, .int .i64 ua.kind), (⟨p1, 1, none⟩, .slice s111 ua.shape.length c111), (⟨p1, 2, none⟩, .slice n111 ua.nums.length m111), (⟨p1, 3, none⟩, .slice i111 ua.items.length j111), (⟨p2, 0, none⟩, .int .i64 rr.kind), (⟨p2, 1, none⟩, .slice s112 rr.shape.length c112), (⟨p2, 2, none⟩, .slice n112 rr.nums.length m112), (⟨p2, 3, none⟩, .slice i112 rr.items.length j112)]) [6, 7, 8, 12, 13, 14] (fun k v u u' => match k with | 6 => v = .slice (some ⟨u.heap.size, 0, none⟩) 3 3 ∧ u' = u.alloc (.cells (([1, 2, 0] : List Int).map (Value.int .i64)).toArray 3) | 7 => RetAC u T (ua) (.returned v) u' | 8 => v = .bool true | 12 => v = .slice (some ⟨u.heap.size, 0, none⟩) 3 3 ∧ u' = u.alloc (.cells (([10, 20, 30] : List Int).map (Value.int .i64)).toArray 3) | 13 => RetAC u T (rr) (.returned v) u' | 14 => v = .bool true | _ => False) (fun _ _ h e => h.up e) (Sees.start (all_cons ((E.out.hdr 3 rfl).c0) (all_cons ((E.out.hdr 3 rfl).c1) (all_cons ((E.out.hdr 3 rfl).c2) (all_cons ((E.out.hdr 3 rfl).c3) (all_cons ((E.out.hdr 4 rfl).c0) (all_cons ((E.out.hdr 4 rfl).c1) (all_cons ((E.out.hdr 4 rfl).c2) (all_cons ((E.out.hdr 4 rfl).c3) (all_nil)))))))))) (by kernel_rfl) (by kernel_rfl) ?_
  repeat (first | (refine m_plain (v := ?_) (by rfl) (by rfl) ?_ ?_; rotate_left; (intro wz hSw; obtain ⟨-, hSc⟩ := hSw; (try simp only [List.forall_mem_cons, List.forall_mem_nil, and_true] at hSc); go_simp; (first | done | with_reducible rfl)); (intro K hK; (try simp only [Act.put, List.setIfInBounds_toArray, List.set_cons_zero, List.set_cons_succ]); refine hK _ _ ?_; clear hK K)) | (refine m_skip (by rfl) (by rfl) ?_; (intro K hK; (try simp only [Act.put, List.setIfInBounds_toArray, List.set_cons_zero, List.set_cons_succ]); refine hK _ _ ?_; clear hK K)))
  refine m_make (by rfl) (by rfl) ?_ ?_
  · intro wz hSw hdep R hRz
    obtain ⟨hSe, hSc⟩ := hSw
    (try simp only [List.forall_mem_cons, List.forall_mem_nil, and_true] at hSc)
    unfold does
    (go_simp; exact hRz.out _ _ ⟨ext_alloc _ _, rfl, rfl⟩)
  intro v6 u6 x6 hG6 K hK
  have hF6 := hG6.fact
  (try dsimp only at hF6)
  obtain ⟨rfl, rfl⟩ := hF6
  (try simp only [Act.put, List.setIfInBounds_toArray, List.set_cons_zero, List.set_cons_succ]); refine hK _ _ ?_; clear hK K
  repeat (first | (refine m_plain (v := ?_) (by rfl) (by rfl) ?_ ?_; rotate_left; (intro wz hSw; obtain ⟨-, hSc⟩ := hSw; (try simp only [List.forall_mem_cons, List.forall_mem_nil, and_true] at hSc); go_simp; (first | done | with_reducible rfl)); (intro K hK; (try simp only [Act.put, List.setIfInBounds_toArray, List.set_cons_zero, List.set_cons_succ]); refine hK _ _ ?_; clear hK K)) | (refine m_skip (by rfl) (by rfl) ?_; (intro K hK; (try simp only [Act.put, List.setIfInBounds_toArray, List.set_cons_zero, List.set_cons_succ]); refine hK _ _ ?_; clear hK K)))
  refine m_make (by rfl) (by rfl) ?_ ?_
  · intro wz hSw hdep R hRz
    obtain ⟨hSe, hSc⟩ := hSw
    (try simp only [List.forall_mem_cons, List.forall_mem_nil, and_true] at hSc)
    unfold does
    (go_simp; refine Calls.mono (top_vectorC [1, 2, 0] _ _ _ wz ((lit_at (hdep 6 _ rfl (depB_sound (f := 4) (by kernel_rfl))) (by first | decide | simp)).mono (fun b _ hb => hT2 b (Nat.le_trans (Below.size hG6.s.1) hb))) (by decide)) ?_; intro e wq h; obtain ⟨v, rfl, h1⟩ := retAC_arm hT2 hSe (h.eq hua.out); exact ⟨_, rfl, hRz.out _ _ h1⟩)
  intro v7 u7 x7 hG7 K hK
  have hF7 := hG7.fact
  (try dsimp only at hF7)
  obtain ⟨s7, c7, n7, m7, i7, j7, he, hA7, hb7, hC7⟩ := hF7
  injection he with he
  subst he
  replace hC7 := hid hC7
  (try simp only [Act.put, List.setIfInBounds_toArray, List.set_cons_zero, List.set_cons_succ]); refine hK _ _ ?_; clear hK K
  repeat (first | (refine m_plain (v := ?_) (by rfl) (by rfl) ?_ ?_; rotate_left; (intro wz hSw; obtain ⟨-, hSc⟩ := hSw; (try simp only [List.forall_mem_cons, List.forall_mem_nil, and_true] at hSc); go_simp; (first | done | with_reducible rfl)); (intro K hK; (try simp only [Act.put, List.setIfInBounds_toArray, List.set_cons_zero, List.set_cons_succ]); refine hK _ _ ?_; clear hK K)) | (refine m_skip (by rfl) (by rfl) ?_; (intro K hK; (try simp only [Act.put, List.setIfInBounds_toArray, List.set_cons_zero, List.set_cons_succ]); refine hK _ _ ?_; clear hK K)))
  refine m_make (by rfl) (by rfl) ?_ ?_
  · intro wz hSw hdep R hRz
    obtain ⟨hSe, hSc⟩ := hSw
    (try simp only [List.forall_mem_cons, List.forall_mem_nil, and_true] at hSc)
    unfold does
    (go_simp; refine Calls.mono (array_Same ua ua _ _ _ _ _ _ _ _ _ _ _ _ _ _ wz (ArrAt.up (ArrAt.mono (fun b _ h => hT1 b h) _ (E.out.arr 2 rfl)) hSe) (hA7.up (hdep 7 _ rfl (depB_sound (f := 4) (by kernel_rfl))))) ?_; rintro e wq ⟨rfl, hqb⟩; rw [hu1.out]; exact ⟨_, rfl, hRz.out _ _ ⟨hqb, rfl⟩⟩)
  intro v8 u8 x8 hG8 K hK
  have hF8 := hG8.fact
  (try dsimp only at hF8)
  subst hF8
  (try simp only [Act.put, List.setIfInBounds_toArray, List.set_cons_zero, List.set_cons_succ]); refine hK _ _ ?_; clear hK K
  repeat (first | (refine m_plain (v := ?_) (by rfl) (by rfl) ?_ ?_; rotate_left; (intro wz hSw; obtain ⟨-, hSc⟩ := hSw; (try simp only [List.forall_mem_cons, List.forall_mem_nil, and_true] at hSc); go_simp; (first | done | with_reducible rfl)); (intro K hK; (try simp only [Act.put, List.setIfInBounds_toArray, List.set_cons_zero, List.set_cons_succ]); refine hK _ _ ?_; clear hK K)) | (refine m_skip (by rfl) (by rfl) ?_; (intro K hK; (try simp only [Act.put, List.setIfInBounds_toArray, List.set_cons_zero, List.set_cons_succ]); refine hK _ _ ?_; clear hK K)))
  refine m_make (by rfl) (by rfl) ?_ ?_
  · intro wz hSw hdep R hRz
    obtain ⟨hSe, hSc⟩ := hSw
    (try simp only [List.forall_mem_cons, List.forall_mem_nil, and_true] at hSc)
    unfold does
    (go_simp; exact hRz.out _ _ ⟨ext_alloc _ _, rfl, rfl⟩)
  intro v12 u12 x12 hG12 K hK
  have hF12 := hG12.fact
  (try dsimp only at hF12)
  obtain ⟨rfl, rfl⟩ := hF12
  (try simp only [Act.put, List.setIfInBounds_toArray, List.set_cons_zero, List.set_cons_succ]); refine hK _ _ ?_; clear hK K
  repeat (first | (refine m_plain (v := ?_) (by rfl) (by rfl) ?_ ?_; rotate_left; (intro wz hSw; obtain ⟨-, hSc⟩ := hSw; (try simp only [List.forall_mem_cons, List.forall_mem_nil, and_true] at hSc); go_simp; (first | done | with_reducible rfl)); (intro K hK; (try simp only [Act.put, List.setIfInBounds_toArray, List.set_cons_zero, List.set_cons_succ]); refine hK _ _ ?_; clear hK K)) | (refine m_skip (by rfl) (by rfl) ?_; (intro K hK; (try simp only [Act.put, List.setIfInBounds_toArray, List.set_cons_zero, List.set_cons_succ]); refine hK _ _ ?_; clear hK K)))
  refine m_make (by rfl) (by rfl) ?_ ?_
  · intro wz hSw hdep R hRz
    obtain ⟨hSe, hSc⟩ := hSw
    (try simp only [List.forall_mem_cons, List.forall_mem_nil, and_true] at hSc)
    unfold does
    (go_simp; refine Calls.mono (top_vectorC [10, 20, 30] _ _ _ wz ((lit_at (hdep 12 _ rfl (depB_sound (f := 4) (by kernel_rfl))) (by first | decide | simp)).mono (fun b _ hb => hT2 b (Nat.le_trans (Below.size hG12.s.1) hb))) (by decide)) ?_; intro e wq h; obtain ⟨v, rfl, h1⟩ := retAC_arm hT2 hSe (h.eq hrr.out); exact ⟨_, rfl, hRz.out _ _ h1⟩)
  intro v13 u13 x13 hG13 K hK
  have hF13 := hG13.fact
  (try dsimp only at hF13)
  obtain ⟨s13, c13, n13, m13, i13, j13, he, hA13, hb13, hC13⟩ := hF13
  injection he with he
  subst he
  replace hC13 := hid hC13
  (try simp only [Act.put, List.setIfInBounds_toArray, List.set_cons_zero, List.set_cons_succ]); refine hK _ _ ?_; clear hK K
  repeat (first | (refine m_plain (v := ?_) (by rfl) (by rfl) ?_ ?_; rotate_left; (intro wz hSw; obtain ⟨-, hSc⟩ := hSw; (try simp only [List.forall_mem_cons, List.forall_mem_nil, and_true] at hSc); go_simp; (first | done | with_reducible rfl)); (intro K hK; (try simp only [Act.put, List.setIfInBounds_toArray, List.set_cons_zero, List.set_cons_succ]); refine hK _ _ ?_; clear hK K)) | (refine m_skip (by rfl) (by rfl) ?_; (intro K hK; (try simp only [Act.put, List.setIfInBounds_toArray, List.set_cons_zero, List.set_cons_succ]); refine hK _ _ ?_; clear hK K)))
  refine m_make (by rfl) (by rfl) ?_ ?_
  · intro wz hSw hdep R hRz
    obtain ⟨hSe, hSc⟩ := hSw
    (try simp only [List.forall_mem_cons, List.forall_mem_nil, and_true] at hSc)
    unfold does
    (go_simp; refine Calls.mono (array_Same rr rr _ _ _ _ _ _ _ _ _ _ _ _ _ _ wz (ArrAt.up (ArrAt.mono (fun b _ h => hT1 b h) _ (E.out.arr 5 rfl)) hSe) (hA13.up (hdep 13 _ rfl (depB_sound (f := 4) (by kernel_rfl))))) ?_; rintro e wq ⟨rfl, hqb⟩; rw [hu2.out]; exact ⟨_, rfl, hRz.out _ _ ⟨hqb, rfl⟩⟩)
  intro v14 u14 x14 hG14 K hK
  have hF14 := hG14.fact
  (try dsimp only at hF14)
  subst hF14
  (try simp only [Act.put, List.setIfInBounds_toArray, List.set_cons_zero, List.set_cons_succ]); refine hK _ _ ?_; clear hK K
  repeat (first | (refine m_plain (v := ?_) (by rfl) (by rfl) ?_ ?_; rotate_left; (intro wz hSw; obtain ⟨-, hSc⟩ := hSw; (try simp only [List.forall_mem_cons, List.forall_mem_nil, and_true] at hSc); go_simp; (first | done | with_reducible rfl)); (intro K hK; (try simp only [Act.put, List.setIfInBounds_toArray, List.set_cons_zero, List.set_cons_succ]); refine hK _ _ ?_; clear hK K)) | (refine m_skip (by rfl) (by rfl) ?_; (intro K hK; (try simp only [Act.put, List.setIfInBounds_toArray, List.set_cons_zero, List.set_cons_succ]); refine hK _ _ ?_; clear hK K)))
  refine m_nil ?_
  intro wf hSf hAf
  have ef := hid (E.out.up hSf.1).ext
  clear hSf hAf
  go_wp2_with fail
  exact hR.out _ _ ⟨rfl, ef.out⟩
set_option maxHeartbeats 2000000 in
/-- a vector: where its shape lies -/
theorem top_vectorX (l : List Int) (lo : Option Addr) (lc : Nat) (w : World) : Calls Try.prog 10 #[.slice lo l.length lc] w fun e w' => ∃ g, e = .returned (.agg #[.int .i64 1, .slice (some ⟨g, 0, none⟩) 1 1, .slice lo l.length lc, .slice none 0 0]) ∧ w'.heap[g]? = some (.cells #[.int .i64 (l.length : Int)] 3 (0, 0)) ∧ w.heap.size ≤ g ∧ Below w.heap.size w w' := by
  refine calls_post fun R' hR => ?_
  obtain ⟨S, hS⟩ : ∃ S : Nat → Prop, S = fun _ => False := ⟨_, rfl⟩
  replace hS := hid hS
  go_enter Try.func10, Try.ntmps10
  go_upto_region 1 with (fail)
  generalize hEW : (w).alloc (.cells #[.int .i64 0, .slice none 0 0, .slice none 0 0, .slice none 0 0] 27) = W
  have E := hid (env1 w S hEW)
  clear hEW
  (try simp only [List.cons_append, List.nil_append, List.set_cons_zero, List.set_cons_succ] at E)
  go_wp2_with (refine wpl_store4 rfl (.tmp 2) (.tmp 7) rfl _ rfl rfl ((E.out.alloc _).hdr 0 rfl) ?_; intro V HV CV; replace E := hid ((E.out.alloc _).chg 0 rfl CV HV); clear CV; (try simp only [List.cons_append, List.nil_append, List.set_cons_zero, List.set_cons_succ] at E))
  exact bodyPost_ret (end_arr rfl HV rfl) rfl (hR.out _ _ ⟨W.heap.size, rfl, E.out.obj 1 rfl, (E.out.lt 1 rfl).1, E.out.ext⟩)
theorem indexing_FromC (x : Arr) (sx : Option Addr) (cx : Nat) (nx : Option Addr) (mx : Nat) (ix : Option Addr) (jx : Nat) (y : Arr) (sy : Option Addr) (cy : Nat) (ny : Option Addr) (my : Nat) (iy : Option Addr) (jy : Nat) (S : Nat → Prop) (w : World) (h : ArrAt w S x sx nx ix) (g : ArrAt w S y sy ny iy) (hcy : y.shape.length ≤ cy) (hxl : x.shape.length ≤ 10000) (hyl : y.shape.length ≤ 10000) :
    Calls Try.prog 12 #[.agg #[.int .i64 x.kind, .slice sx x.shape.length cx, .slice nx x.nums.length mx, .slice ix x.items.length jx], .agg #[.int .i64 y.kind, .slice sy y.shape.length cy, .slice ny y.nums.length my, .slice iy y.items.length jy]] w (RetAEC w (fun b => S b ∨ w.heap.size ≤ b) (frmS x y) (frmE x y)) :=
  (indexing_From x _ _ _ _ _ _ y _ _ _ _ _ _ S w h g hcy hxl hyl).mono fun _ _ q => q.wide fun b _ z => Or.inr z
end Go.Proofs.Ytdpdcjadedcglaa
