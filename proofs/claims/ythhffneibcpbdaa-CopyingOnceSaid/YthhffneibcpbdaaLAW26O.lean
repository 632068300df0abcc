/- The law CopyingOnce: true. Conditions: the array is read; a slice's capacity is at least its length. -/
import Derived.Test.YthhffneibcpbdaaLAW26X
import Derived.Test.YthhffneibcpbdaaP26Y
import Derived.Test.YthhffneibcpbdaaAPF
set_option linter.unusedVariables false
set_option linter.unusedSimpArgs false
namespace Go.Proofs.Ythhffneibcpbdaa
open Go.RowKit Go.Sort
attribute [local go_sem ↓] run_max2 run_min2
attribute [local go_sem] eql_ints_nil eql_arrs_nil
set_option maxRecDepth 100000 in
set_option maxHeartbeats 8000000 in
theorem law26_CopyingOnce (y : Arr) (sy : Option Addr) (cy : Nat) (ny : Option Addr) (my : Nat) (iy : Option Addr) (jy : Nat) (S : Nat → Prop) (w : World) (h : ArrAt w S y sy ny iy) (hcy : y.shape.length ≤ cy ∧ y.nums.length ≤ my ∧ y.items.length ≤ jy) :
    Calls Try.prog 12 #[.agg #[.int .i64 y.kind, .slice sy y.shape.length cy, .slice ny y.nums.length my, .slice iy y.items.length jy]] w fun e w' => e = .returned (.bool true) ∧ Below w.heap.size w w' := by
  refine calls_post fun R' hR => ?_
  have h0 := hid h
  have hsy := h.shape.1
  replace hcy := hid hcy
  clear h
  go_enter Try.func12, Try.ntmps12
  go_upto_region 1 with (fail)
  generalize hEW : (w).alloc (.cells #[.int .i64 y.kind, .slice sy y.shape.length cy, .slice ny y.nums.length my, .slice iy y.items.length jy] 26) = W
  have E := hid (env1 w S hEW)
  clear hEW
  replace E := hid (E.out.arg h0.out)
  (try simp only [List.cons_append, List.nil_append, List.set_cons_zero, List.set_cons_succ] at E)
  obtain ⟨q00, q01, q02, q03⟩ := (E.out.hdr 0 rfl).all
  go_wp2_with fail
  clear q00 q01 q02 q03
  refine (ref03_Small y _ _ _ _ _ _ _ _ (E.out.arr 1 rfl)).mono ?_
  rintro e w1 ⟨b1, rfl, hb⟩
  replace E := hid (E.out.up hb)
  clear hb
  cases b1 with
  | false =>
    go_wp2_with (go_at_call 28; refine (law26_example _).mono ?_; rintro e w9 ⟨rfl, hb9⟩)
    exact hR.out _ _ ⟨rfl, (E.out.up hb9).ext⟩
  | true =>
  obtain ⟨q00, q01, q02, q03⟩ := (E.out.hdr 0 rfl).all
  go_wp2_with fail
  clear q00 q01 q02 q03
  refine (ref03_Right y _ _ _ _ _ _ _ _ (E.out.arr 1 rfl)).mono ?_
  rintro e w2 ⟨rfl, hb⟩
  replace E := hid (E.out.up hb)
  clear hb
  by_cases c : rightS y = 0
  case neg =>
    have cb : (rightS y != 0) = true := by simpa using c
    replace c := hid c
    go_wp2_with (go_at_call 28; refine (law26_example _).mono ?_; rintro e w9 ⟨rfl, hb9⟩)
    exact hR.out _ _ ⟨rfl, (E.out.up hb9).ext⟩
  have cb : (rightS y != 0) = false := by simpa using c
  have O1 := copy_once c
  have O0 := copy_none c
  obtain ⟨r1, hr1⟩ : ∃ a, a = wantA y := ⟨_, rfl⟩
  obtain ⟨cl, hcl⟩ : ∃ l, l = celL y := ⟨_, rfl⟩
  obtain ⟨sn, hsn⟩ : ∃ l, l = [0] ++ cl := ⟨_, rfl⟩
  obtain ⟨r0, hr0⟩ : ∃ a, a = Arr.mk y.kind sn [] [] := ⟨_, rfl⟩
  have e1 := hid O1.1
  have e0 := hid O0.1
  have s1 := hid (hr1.trans O1.2.symm)
  have s0 : Hid (r0 = copyS (numS 0) y) := hid (by rw [O0.2, hr0, hsn, hcl]; rfl)
  have hcl8 : cl.length ≤ 8 := by rw [hcl]; exact (shapeB_iff.1 (celL_ok (right_ok c).2.1)).1
  clear O1 O0
  replace hr1 := hid hr1
  replace hr0 := hid hr0
  replace hcl := hid hcl
  replace hsn := hid hsn
  replace c := hid c
  go_upto_region 3 with fail
  clear cb
  obtain ⟨N, hN⟩ := E.out.nz (.cells #[.int .i64 0, .slice none 0 0, .slice none 0 0, .slice none 0 0] 26 (0, 0))
  refine wp_region_edge 6 8 (by kernel_rfl) (by kernel_rfl) (fun o _ v c a w h => by cases hd : o.dst <;> (rw [hd] at h; exact h)) _ rfl 8 (Sees w2 [(⟨w.heap.size, 0, none⟩, .int .i64 y.kind), (⟨w.heap.size, 1, none⟩, .slice sy y.shape.length cy), (⟨w.heap.size, 2, none⟩, .slice ny y.nums.length my), (⟨w.heap.size, 3, none⟩, .slice iy y.items.length jy)]) [0, 1, 3, 7] (fun k v u u' => match k with | 0 => v = .slice (some ⟨u.heap.size, 0, none⟩) 1 1 ∧ u' = u.alloc (.cells (([1] : List Int).map (Value.int .i64)).toArray 3) | 1 => ∃ g, v = .agg #[.int .i64 1, .slice none 0 0, .slice (some ⟨g, 0, none⟩) 1 1, .slice none 0 0] ∧ u'.heap[g]? = some (.cells #[.int .i64 1] 3 (0, 0)) ∧ w2.heap.size ≤ g | 3 => RetAEC u (N u) (r1) 0 (.returned v) u' | 7 => v = .pointer (some ⟨u.heap.size, 0, none⟩) ∧ u' = u.alloc (.cells #[.int .i64 0, .slice none 0 0, .slice none 0 0, .slice none 0 0] 26) | _ => False) (fun _ _ h e => h.up e) (Sees.start (all_cons ((E.out.hdr 0 rfl).c0) (all_cons ((E.out.hdr 0 rfl).c1) (all_cons ((E.out.hdr 0 rfl).c2) (all_cons ((E.out.hdr 0 rfl).c3) (all_nil)))))) (by kernel_rfl) ?_
  simp only [withEdge, List.modify_succ_cons, List.modify_zero_cons, List.push_toArray, List.cons_append, List.nil_append]
  simp only [List.take_succ_cons, List.take_zero, List.drop_succ_cons, List.drop_zero]
  repeat (first | (refine m_plain (v := ?_) (by rfl) (by rfl) ?_ ?_; rotate_left; (intro wz hSw; obtain ⟨-, hSc⟩ := hSw; (try simp only [List.forall_mem_cons, List.forall_mem_nil, and_true] at hSc); go_simp; (first | done | with_reducible rfl)); (intro K hK; (try simp only [Act.put, List.setIfInBounds_toArray, List.set_cons_zero, List.set_cons_succ]); refine hK _ _ ?_; clear hK K)) | (refine m_skip (by rfl) (by rfl) ?_; (intro K hK; (try simp only [Act.put, List.setIfInBounds_toArray, List.set_cons_zero, List.set_cons_succ]); refine hK _ _ ?_; clear hK K)))
  refine m_make (by rfl) (by rfl) ?_ ?_
  · intro wz hSw hdep R hRz
    obtain ⟨hSe, hSc⟩ := hSw
    (try simp only [List.forall_mem_cons, List.forall_mem_nil, and_true] at hSc)
    unfold does
    (go_simp; exact hRz.out _ _ ⟨ext_alloc _ _, rfl, rfl⟩)
  intro v0 u0 x0 hG0 K hK
  have hF0 := hG0.fact
  (try dsimp only at hF0)
  obtain ⟨rfl, rfl⟩ := hF0
  (try simp only [Act.put, List.setIfInBounds_toArray, List.set_cons_zero, List.set_cons_succ]); refine hK _ _ ?_; clear hK K
  repeat (first | (refine m_plain (v := ?_) (by rfl) (by rfl) ?_ ?_; rotate_left; (intro wz hSw; obtain ⟨-, hSc⟩ := hSw; (try simp only [List.forall_mem_cons, List.forall_mem_nil, and_true] at hSc); go_simp; (first | done | with_reducible rfl)); (intro K hK; (try simp only [Act.put, List.setIfInBounds_toArray, List.set_cons_zero, List.set_cons_succ]); refine hK _ _ ?_; clear hK K)) | (refine m_skip (by rfl) (by rfl) ?_; (intro K hK; (try simp only [Act.put, List.setIfInBounds_toArray, List.set_cons_zero, List.set_cons_succ]); refine hK _ _ ?_; clear hK K)))
  refine m_make (by rfl) (by rfl) ?_ ?_
  · intro wz hSw hdep R hRz
    obtain ⟨hSe, hSc⟩ := hSw
    (try simp only [List.forall_mem_cons, List.forall_mem_nil, and_true] at hSc)
    unfold does
    (go_simp; refine Calls.mono (law26_intsX _ _ _ _ _ _ wz) ?_; rintro e wq ⟨rfl, hb⟩; have hm := made_blk (hdep 0 _ rfl (depB_sound (f := 60) (by kernel_rfl))); exact ⟨_, rfl, hRz.out _ _ ⟨hb, _, rfl, by rw [hb.block _ (Array.getElem?_eq_some_iff.1 hm).1]; exact hm, Below.size hG0.s.1⟩⟩)
  intro v1 u1 x1 hG1 K hK
  have hF1 := hG1.fact
  (try dsimp only at hF1)
  obtain ⟨g1, rfl, hg1, hg2⟩ := hF1
  (try simp only [Act.put, List.setIfInBounds_toArray, List.set_cons_zero, List.set_cons_succ]); refine hK _ _ ?_; clear hK K
  repeat (first | (refine m_plain (v := ?_) (by rfl) (by rfl) ?_ ?_; rotate_left; (intro wz hSw; obtain ⟨-, hSc⟩ := hSw; (try simp only [List.forall_mem_cons, List.forall_mem_nil, and_true] at hSc); go_simp; (first | done | with_reducible rfl)); (intro K hK; (try simp only [Act.put, List.setIfInBounds_toArray, List.set_cons_zero, List.set_cons_succ]); refine hK _ _ ?_; clear hK K)) | (refine m_skip (by rfl) (by rfl) ?_; (intro K hK; (try simp only [Act.put, List.setIfInBounds_toArray, List.set_cons_zero, List.set_cons_succ]); refine hK _ _ ?_; clear hK K)))
  refine m_make (by rfl) (by rfl) ?_ ?_
  · intro wz hSw hdep R hRz
    obtain ⟨hSe, hSc⟩ := hSw
    (try simp only [List.forall_mem_cons, List.forall_mem_nil, and_true] at hSc)
    unfold does
    (go_simp; have hm := (((hdep 1 _ rfl (depB_sound (f := 60) (by kernel_rfl)))).block _ (Array.getElem?_eq_some_iff.1 hg1).1).trans hg1; refine Calls.mono (copying_Copy (numS 1) none 0 (some ⟨g1, 0, none⟩) 1 none 0 y _ _ _ _ _ _ (N wz) wz (nums_at (IntsAt.box (by rw [hN]; exact Or.inr ⟨hg2, by rw [hm]; intro q; cases q⟩) (cell_of_row wz g1 0 _ _ _ hm))) (ArrAt.up (ArrAt.mono (fun b hb h => by rw [hN]; exact Or.inl ⟨h, hb⟩) _ (E.out.arr 1 rfl)) hSe) (by simp [numS, Arr.shape, Arr.nums, Arr.items]) hcy.out) ?_; intro e wq h; obtain ⟨ta, tc, tn, tnc, ti, tic, rfl, hq, hqb, hqc⟩ := h.eq (s1.out.symm).symm (e1.out); exact ⟨_, rfl, hRz.out _ _ ⟨hqb, ta, tc, tn, tnc, ti, tic, rfl, ArrAt.mono (fun b hb h => h.elim id fun q => by rw [hN]; exact Nz.new hSe q) _ hq, hqb, hqc⟩⟩)
  intro v3 u3 x3 hG3 K hK
  have hF3 := hG3.fact
  (try dsimp only at hF3)
  obtain ⟨s101, c101, n101, m101, i101, j101, he, hA101, hb101, hC101⟩ := hF3
  injection he with he
  subst he
  replace hC101 := hid hC101
  (try simp only [Act.put, List.setIfInBounds_toArray, List.set_cons_zero, List.set_cons_succ]); refine hK _ _ ?_; clear hK K
  repeat (first | (refine m_plain (v := ?_) (by rfl) (by rfl) ?_ ?_; rotate_left; (intro wz hSw; obtain ⟨-, hSc⟩ := hSw; (try simp only [List.forall_mem_cons, List.forall_mem_nil, and_true] at hSc); go_simp; (first | done | with_reducible rfl)); (intro K hK; (try simp only [Act.put, List.setIfInBounds_toArray, List.set_cons_zero, List.set_cons_succ]); refine hK _ _ ?_; clear hK K)) | (refine m_skip (by rfl) (by rfl) ?_; (intro K hK; (try simp only [Act.put, List.setIfInBounds_toArray, List.set_cons_zero, List.set_cons_succ]); refine hK _ _ ?_; clear hK K)))
  refine m_make (by rfl) (by rfl) ?_ ?_
  · intro wz hSw hdep R hRz
    obtain ⟨hSe, hSc⟩ := hSw
    (try simp only [List.forall_mem_cons, List.forall_mem_nil, and_true] at hSc)
    unfold does
    (go_simp; exact hRz.out _ _ ⟨ext_alloc _ _, rfl, rfl⟩)
  intro v7 u7 x7 hG7 K hK
  have hF7 := hG7.fact
  (try dsimp only at hF7)
  obtain ⟨rfl, rfl⟩ := hF7
  (try simp only [Act.put, List.setIfInBounds_toArray, List.set_cons_zero, List.set_cons_succ]); refine hK _ _ ?_; clear hK K
  repeat (first | (refine m_plain (v := ?_) (by rfl) (by rfl) ?_ ?_; rotate_left; (intro wz hSw; obtain ⟨-, hSc⟩ := hSw; (try simp only [List.forall_mem_cons, List.forall_mem_nil, and_true] at hSc); go_simp; (first | done | with_reducible rfl)); (intro K hK; (try simp only [Act.put, List.setIfInBounds_toArray, List.set_cons_zero, List.set_cons_succ]); refine hK _ _ ?_; clear hK K)) | (refine m_skip (by rfl) (by rfl) ?_; (intro K hK; (try simp only [Act.put, List.setIfInBounds_toArray, List.set_cons_zero, List.set_cons_succ]); refine hK _ _ ?_; clear hK K)))
  refine m_nil ?_
  intro wf hSf hAf
  subst hN
  replace E := hid (E.out.varN hA101 (hAf 3 _ rfl) hb101 (hG7.order 3 _ rfl) hG3.s.1 hG7.s.1 (hAf 7 _ rfl) hSf.1)
  refine wpl_store4 (by rfl) (.tmp 3) (.tmp 23) (by rfl) _ (by rfl) (by rfl) (E.out.hdr 2 rfl) ?_
  intro V101 HV CV
  replace E := hid (E.out.chg 2 rfl CV HV)
  clear CV HV hSf hAf hG0 hG1 hG3 hG7 hA101 hb101 hg1 hg2
  (try simp only [List.cons_append, List.nil_append, List.set_cons_zero, List.set_cons_succ] at E)
  generalize u7.heap.size = p101 at E ⊢
  go_upto_region 4 with fail
  obtain ⟨N, hN⟩ := E.out.nz (.cells #[.int .i64 0, .slice none 0 0, .slice none 0 0, .slice none 0 0] 26 (0, 0))
  refine wp_region_edge 6 8 (by kernel_rfl) (by kernel_rfl) (fun o _ v c a w h => by cases hd : o.dst <;> (rw [hd] at h; exact h)) _ rfl 8 (Sees V101 [(⟨w.heap.size, 0, none⟩, .int .i64 y.kind), (⟨w.heap.size, 1, none⟩, .slice sy y.shape.length cy), (⟨w.heap.size, 2, none⟩, .slice ny y.nums.length my), (⟨w.heap.size, 3, none⟩, .slice iy y.items.length jy)]) [0, 1, 3, 7] (fun k v u u' => match k with | 0 => v = .slice (some ⟨u.heap.size, 0, none⟩) 1 1 ∧ u' = u.alloc (.cells (([0] : List Int).map (Value.int .i64)).toArray 3) | 1 => ∃ g, v = .agg #[.int .i64 1, .slice none 0 0, .slice (some ⟨g, 0, none⟩) 1 1, .slice none 0 0] ∧ u'.heap[g]? = some (.cells #[.int .i64 0] 3 (0, 0)) ∧ V101.heap.size ≤ g | 3 => RetAEC u (N u) (r0) 0 (.returned v) u' | 7 => v = .pointer (some ⟨u.heap.size, 0, none⟩) ∧ u' = u.alloc (.cells #[.int .i64 0, .slice none 0 0, .slice none 0 0, .slice none 0 0] 26) | _ => False) (fun _ _ h e => h.up e) (Sees.start (all_cons ((E.out.hdr 0 rfl).c0) (all_cons ((E.out.hdr 0 rfl).c1) (all_cons ((E.out.hdr 0 rfl).c2) (all_cons ((E.out.hdr 0 rfl).c3) (all_nil)))))) (by kernel_rfl) ?_
  simp only [withEdge, List.modify_succ_cons, List.modify_zero_cons, List.push_toArray, List.cons_append, List.nil_append]
  simp only [List.take_succ_cons, List.take_zero, List.drop_succ_cons, List.drop_zero]
  repeat (first | (refine m_plain (v := ?_) (by rfl) (by rfl) ?_ ?_; rotate_left; (intro wz hSw; obtain ⟨-, hSc⟩ := hSw; (try simp only [List.forall_mem_cons, List.forall_mem_nil, and_true] at hSc); go_simp; (first | done | with_reducible rfl)); (intro K hK; (try simp only [Act.put, List.setIfInBounds_toArray, List.set_cons_zero, List.set_cons_succ]); refine hK _ _ ?_; clear hK K)) | (refine m_skip (by rfl) (by rfl) ?_; (intro K hK; (try simp only [Act.put, List.setIfInBounds_toArray, List.set_cons_zero, List.set_cons_succ]); refine hK _ _ ?_; clear hK K)))
  refine m_make (by rfl) (by rfl) ?_ ?_
  · intro wz hSw hdep R hRz
    obtain ⟨hSe, hSc⟩ := hSw
    (try simp only [List.forall_mem_cons, List.forall_mem_nil, and_true] at hSc)
    unfold does
    (go_simp; exact hRz.out _ _ ⟨ext_alloc _ _, rfl, rfl⟩)
  intro v0 u0 x0 hG0 K hK
  have hF0 := hG0.fact
  (try dsimp only at hF0)
  obtain ⟨rfl, rfl⟩ := hF0
  (try simp only [Act.put, List.setIfInBounds_toArray, List.set_cons_zero, List.set_cons_succ]); refine hK _ _ ?_; clear hK K
  repeat (first | (refine m_plain (v := ?_) (by rfl) (by rfl) ?_ ?_; rotate_left; (intro wz hSw; obtain ⟨-, hSc⟩ := hSw; (try simp only [List.forall_mem_cons, List.forall_mem_nil, and_true] at hSc); go_simp; (first | done | with_reducible rfl)); (intro K hK; (try simp only [Act.put, List.setIfInBounds_toArray, List.set_cons_zero, List.set_cons_succ]); refine hK _ _ ?_; clear hK K)) | (refine m_skip (by rfl) (by rfl) ?_; (intro K hK; (try simp only [Act.put, List.setIfInBounds_toArray, List.set_cons_zero, List.set_cons_succ]); refine hK _ _ ?_; clear hK K)))
  refine m_make (by rfl) (by rfl) ?_ ?_
  · intro wz hSw hdep R hRz
    obtain ⟨hSe, hSc⟩ := hSw
    (try simp only [List.forall_mem_cons, List.forall_mem_nil, and_true] at hSc)
    unfold does
    (go_simp; refine Calls.mono (law26_intsX _ _ _ _ _ _ wz) ?_; rintro e wq ⟨rfl, hb⟩; have hm := made_blk (hdep 0 _ rfl (depB_sound (f := 60) (by kernel_rfl))); exact ⟨_, rfl, hRz.out _ _ ⟨hb, _, rfl, by rw [hb.block _ (Array.getElem?_eq_some_iff.1 hm).1]; exact hm, Below.size hG0.s.1⟩⟩)
  intro v1 u1 x1 hG1 K hK
  have hF1 := hG1.fact
  (try dsimp only at hF1)
  obtain ⟨g1, rfl, hg1, hg2⟩ := hF1
  (try simp only [Act.put, List.setIfInBounds_toArray, List.set_cons_zero, List.set_cons_succ]); refine hK _ _ ?_; clear hK K
  repeat (first | (refine m_plain (v := ?_) (by rfl) (by rfl) ?_ ?_; rotate_left; (intro wz hSw; obtain ⟨-, hSc⟩ := hSw; (try simp only [List.forall_mem_cons, List.forall_mem_nil, and_true] at hSc); go_simp; (first | done | with_reducible rfl)); (intro K hK; (try simp only [Act.put, List.setIfInBounds_toArray, List.set_cons_zero, List.set_cons_succ]); refine hK _ _ ?_; clear hK K)) | (refine m_skip (by rfl) (by rfl) ?_; (intro K hK; (try simp only [Act.put, List.setIfInBounds_toArray, List.set_cons_zero, List.set_cons_succ]); refine hK _ _ ?_; clear hK K)))
  refine m_make (by rfl) (by rfl) ?_ ?_
  · intro wz hSw hdep R hRz
    obtain ⟨hSe, hSc⟩ := hSw
    (try simp only [List.forall_mem_cons, List.forall_mem_nil, and_true] at hSc)
    unfold does
    (go_simp; have hm := (((hdep 1 _ rfl (depB_sound (f := 60) (by kernel_rfl)))).block _ (Array.getElem?_eq_some_iff.1 hg1).1).trans hg1; refine Calls.mono (copying_Copy (numS 0) none 0 (some ⟨g1, 0, none⟩) 1 none 0 y _ _ _ _ _ _ (N wz) wz (nums_at (IntsAt.box (by rw [hN]; exact Or.inr ⟨hg2, by rw [hm]; intro q; cases q⟩) (cell_of_row wz g1 0 _ _ _ hm))) (ArrAt.up (ArrAt.mono (fun b hb h => by rw [hN]; exact Or.inl ⟨h, hb⟩) _ (E.out.arr 1 rfl)) hSe) (by simp [numS, Arr.shape, Arr.nums, Arr.items]) hcy.out) ?_; intro e wq h; obtain ⟨ta, tc, tn, tnc, ti, tic, rfl, hq, hqb, hqc⟩ := h.eq (s0.out.symm).symm (e0.out); exact ⟨_, rfl, hRz.out _ _ ⟨hqb, ta, tc, tn, tnc, ti, tic, rfl, ArrAt.mono (fun b hb h => h.elim id fun q => by rw [hN]; exact Nz.new hSe q) _ hq, hqb, hqc⟩⟩)
  intro v3 u3 x3 hG3 K hK
  have hF3 := hG3.fact
  (try dsimp only at hF3)
  obtain ⟨s102, c102, n102, m102, i102, j102, he, hA102, hb102, hC102⟩ := hF3
  injection he with he
  subst he
  replace hC102 := hid hC102
  (try simp only [Act.put, List.setIfInBounds_toArray, List.set_cons_zero, List.set_cons_succ]); refine hK _ _ ?_; clear hK K
  repeat (first | (refine m_plain (v := ?_) (by rfl) (by rfl) ?_ ?_; rotate_left; (intro wz hSw; obtain ⟨-, hSc⟩ := hSw; (try simp only [List.forall_mem_cons, List.forall_mem_nil, and_true] at hSc); go_simp; (first | done | with_reducible rfl)); (intro K hK; (try simp only [Act.put, List.setIfInBounds_toArray, List.set_cons_zero, List.set_cons_succ]); refine hK _ _ ?_; clear hK K)) | (refine m_skip (by rfl) (by rfl) ?_; (intro K hK; (try simp only [Act.put, List.setIfInBounds_toArray, List.set_cons_zero, List.set_cons_succ]); refine hK _ _ ?_; clear hK K)))
  refine m_make (by rfl) (by rfl) ?_ ?_
  · intro wz hSw hdep R hRz
    obtain ⟨hSe, hSc⟩ := hSw
    (try simp only [List.forall_mem_cons, List.forall_mem_nil, and_true] at hSc)
    unfold does
    (go_simp; exact hRz.out _ _ ⟨ext_alloc _ _, rfl, rfl⟩)
  intro v7 u7 x7 hG7 K hK
  have hF7 := hG7.fact
  (try dsimp only at hF7)
  obtain ⟨rfl, rfl⟩ := hF7
  (try simp only [Act.put, List.setIfInBounds_toArray, List.set_cons_zero, List.set_cons_succ]); refine hK _ _ ?_; clear hK K
  repeat (first | (refine m_plain (v := ?_) (by rfl) (by rfl) ?_ ?_; rotate_left; (intro wz hSw; obtain ⟨-, hSc⟩ := hSw; (try simp only [List.forall_mem_cons, List.forall_mem_nil, and_true] at hSc); go_simp; (first | done | with_reducible rfl)); (intro K hK; (try simp only [Act.put, List.setIfInBounds_toArray, List.set_cons_zero, List.set_cons_succ]); refine hK _ _ ?_; clear hK K)) | (refine m_skip (by rfl) (by rfl) ?_; (intro K hK; (try simp only [Act.put, List.setIfInBounds_toArray, List.set_cons_zero, List.set_cons_succ]); refine hK _ _ ?_; clear hK K)))
  refine m_nil ?_
  intro wf hSf hAf
  subst hN
  replace E := hid (E.out.varN hA102 (hAf 3 _ rfl) hb102 (hG7.order 3 _ rfl) hG3.s.1 hG7.s.1 (hAf 7 _ rfl) hSf.1)
  refine wpl_store4 (by rfl) (.tmp 5) (.tmp 30) (by rfl) _ (by rfl) (by rfl) (E.out.hdr 4 rfl) ?_
  intro V102 HV CV
  replace E := hid (E.out.chg 4 rfl CV HV)
  clear CV HV hSf hAf hG0 hG1 hG3 hG7 hA102 hb102 hg1 hg2
  (try simp only [List.cons_append, List.nil_append, List.set_cons_zero, List.set_cons_succ] at E)
  generalize u7.heap.size = p102 at E ⊢
  go_upto_region 5 with fail
  obtain ⟨q00, q01, q02, q03⟩ := (E.out.hdr 0 rfl).all
  go_wp2_with fail
  clear q00 q01 q02 q03
  refine (ref03_Clone y _ _ _ _ _ _ _ _ (E.out.arr 1 rfl)).mono ?_
  rintro e w5 ⟨s7, c7, n7, m7, i7, j7, rfl, hA, hb⟩
  replace E := hid ((E.out.up hb).addArr hA (fun b _ hq => E.out.fresh (Ext.refl _) hq))
  clear hA hb
  (try simp only [List.cons_append, List.nil_append, List.set_cons_zero, List.set_cons_succ] at E)
  go_upto_region 6 with (refine wpl_store4 rfl (.tmp 7) (.tmp 33) rfl _ rfl rfl ((E.out.alloc _).hdr 7 rfl) ?_; intro V5 HV CV; replace E := hid ((E.out.alloc _).chg 7 rfl CV HV); clear CV HV; (try simp only [List.cons_append, List.nil_append, List.set_cons_zero, List.set_cons_succ] at E))
  generalize w5.heap.size = p5 at E ⊢
  by_cases c0 : y.shape.length = 0
  case pos =>
    have cb : ((y.shape.length : Int) == 0) = true := by simpa using c0
    have hW : Hid (sameB r1 (.mk y.kind [1] y.nums y.items) = true) := hid (by rw [hr1.out, wantA_0 c0]; exact sameB_self _)
    replace c0 := hid c0
    obtain ⟨q00, q01, q02, q03⟩ := (E.out.hdr 0 rfl).all
    go_upto_region 8 with (first
      | (refine wpl_buildV rfl 1 (.const (.int .i64 1)) rfl rfl ?_; replace E := hid (E.out.lit [1] (by decide)); generalize V5.heap.size = g5 at E ⊢; have E1 : Env w S (World.alloc V5 (.cells #[.int .i64 1] 3)) _ := E.out; clear E; have E := hid E1; clear E1; generalize World.alloc V5 (.cells #[.int .i64 1] 3) = V6 at E ⊢; (try simp only [List.cons_append, List.nil_append, List.set_cons_zero, List.set_cons_succ] at E); clear q00 q01 q02 q03; obtain ⟨q00, q01, q02, q03⟩ := (E.out.hdr 0 rfl).all)
      | (refine wpl_store1 rfl (.tmp 39) (.tmp 38) rfl p5 rfl rfl (E.out.hdr 7 rfl) ?_; intro V HV CV; replace E := hid (E.out.chg 7 rfl CV HV); clear HV CV; (try simp only [List.cons_append, List.nil_append, List.set_cons_zero, List.set_cons_succ] at E)))
    clear cb
    clear q00 q01 q02 q03
    have hy := E.out.arr 6 rfl
    replace E := hid (E.out.addArr (a := .mk y.kind [1] y.nums y.items) (ArrAt.iff.2 ⟨E.out.ints 8 rfl, hy.nums, hy.len, hy.items⟩) (fun _ _ h => h))
    clear hy
    (try simp only [List.cons_append, List.nil_append, List.set_cons_zero, List.set_cons_succ] at E)
    obtain ⟨N, hN⟩ := E.out.nz (.cells #[.int .i64 0, .slice none 0 0, .slice none 0 0, .slice none 0 0] 26 (0, 0))
    refine wp_region_mono_tail 8 (Sees V [(⟨w.heap.size, 0, none⟩, .int .i64 y.kind), (⟨w.heap.size, 1, none⟩, .slice sy y.shape.length cy), (⟨w.heap.size, 2, none⟩, .slice ny y.nums.length my), (⟨w.heap.size, 3, none⟩, .slice iy y.items.length jy)]) [2, 4, 5, 7] (fun k v u u' => match k with | 2 => v = .slice (some ⟨u.heap.size, 0, none⟩) 1 1 ∧ u' = u.alloc (.cells (([0] : List Int).map (Value.int .i64)).toArray 3) | 4 => ∃ so sc, v = .slice so cl.length sc ∧ IntsAt u' (fun _ => True) so cl | 5 => ∃ so sc, v = .slice so sn.length sc ∧ IntsAt u' (N u) so sn | 7 => v = .pointer (some ⟨u.heap.size, 0, none⟩) ∧ u' = u.alloc (.cells #[.int .i64 0, .slice none 0 0, .slice none 0 0, .slice none 0 0] 26) | _ => False) (fun _ _ h e => h.up e) (Sees.start (all_cons ((E.out.hdr 0 rfl).c0) (all_cons ((E.out.hdr 0 rfl).c1) (all_cons ((E.out.hdr 0 rfl).c2) (all_cons ((E.out.hdr 0 rfl).c3) (all_nil)))))) (by kernel_rfl) (by kernel_rfl) ?_
    simp only [List.take_succ_cons, List.take_zero, List.drop_succ_cons, List.drop_zero]
    repeat (first | (refine m_plain (v := ?_) (by rfl) (by rfl) ?_ ?_; rotate_left; (intro wz hSw; obtain ⟨-, hSc⟩ := hSw; (try simp only [List.forall_mem_cons, List.forall_mem_nil, and_true] at hSc); go_simp; (first | done | with_reducible rfl)); (intro K hK; (try simp only [Act.put, List.setIfInBounds_toArray, List.set_cons_zero, List.set_cons_succ]); refine hK _ _ ?_; clear hK K)) | (refine m_skip (by rfl) (by rfl) ?_; (intro K hK; (try simp only [Act.put, List.setIfInBounds_toArray, List.set_cons_zero, List.set_cons_succ]); refine hK _ _ ?_; clear hK K)))
    refine m_make (by rfl) (by rfl) ?_ ?_
    · intro wz hSw hdep R hRz
      obtain ⟨hSe, hSc⟩ := hSw
      (try simp only [List.forall_mem_cons, List.forall_mem_nil, and_true] at hSc)
      unfold does
      (go_simp; exact hRz.out _ _ ⟨ext_alloc _ _, rfl, rfl⟩)
    intro v2 u2 x2 hG2 K hK
    have hF2 := hG2.fact
    (try dsimp only at hF2)
    obtain ⟨rfl, rfl⟩ := hF2
    (try simp only [Act.put, List.setIfInBounds_toArray, List.set_cons_zero, List.set_cons_succ]); refine hK _ _ ?_; clear hK K
    repeat (first | (refine m_plain (v := ?_) (by rfl) (by rfl) ?_ ?_; rotate_left; (intro wz hSw; obtain ⟨-, hSc⟩ := hSw; (try simp only [List.forall_mem_cons, List.forall_mem_nil, and_true] at hSc); go_simp; (first | done | with_reducible rfl)); (intro K hK; (try simp only [Act.put, List.setIfInBounds_toArray, List.set_cons_zero, List.set_cons_succ]); refine hK _ _ ?_; clear hK K)) | (refine m_skip (by rfl) (by rfl) ?_; (intro K hK; (try simp only [Act.put, List.setIfInBounds_toArray, List.set_cons_zero, List.set_cons_succ]); refine hK _ _ ?_; clear hK K)))
    refine m_make (by rfl) (by rfl) ?_ ?_
    · intro wz hSw hdep R hRz
      obtain ⟨hSe, hSc⟩ := hSw
      (try simp only [List.forall_mem_cons, List.forall_mem_nil, and_true] at hSc)
      unfold does
      (go_simp; refine Calls.mono (ref23_Cell y _ _ _ _ _ _ (fun _ => True) wz ((ArrAt.mono (fun _ _ _ => trivial) _ (E.out.arr 1 rfl)).up hSe) hcy.out.1) ?_; rintro e wq ⟨so, sc, rfl, hI, hb⟩; rw [← hcl.out] at hI ⊢; exact ⟨_, rfl, hRz.out _ _ ⟨hb, so, sc, rfl, hI⟩⟩)
    intro v4 u4 x4 hG4 K hK
    have hF4 := hG4.fact
    (try dsimp only at hF4)
    obtain ⟨so4, sc4, rfl, hI4⟩ := hF4
    (try simp only [Act.put, List.setIfInBounds_toArray, List.set_cons_zero, List.set_cons_succ]); refine hK _ _ ?_; clear hK K
    repeat (first | (refine m_plain (v := ?_) (by rfl) (by rfl) ?_ ?_; rotate_left; (intro wz hSw; obtain ⟨-, hSc⟩ := hSw; (try simp only [List.forall_mem_cons, List.forall_mem_nil, and_true] at hSc); go_simp; (first | done | with_reducible rfl)); (intro K hK; (try simp only [Act.put, List.setIfInBounds_toArray, List.set_cons_zero, List.set_cons_succ]); refine hK _ _ ?_; clear hK K)) | (refine m_skip (by rfl) (by rfl) ?_; (intro K hK; (try simp only [Act.put, List.setIfInBounds_toArray, List.set_cons_zero, List.set_cons_succ]); refine hK _ _ ?_; clear hK K)))
    refine m_make (by rfl) (by rfl) ?_ ?_
    · intro wz hSw hdep R hRz
      obtain ⟨hSe, hSc⟩ := hSw
      (try simp only [List.forall_mem_cons, List.forall_mem_nil, and_true] at hSc)
      unfold does
      (have hm := made_blk (hdep 2 _ rfl (depB_sound (f := 60) (by kernel_rfl))); have hr := run_appI_lit wz 23 hm (fun _ => True) so4 sc4 cl (hI4.up (hdep 4 _ rfl (depB_sound (f := 60) (by kernel_rfl)))) (by omega); rw [← hsn.out] at hr; obtain ⟨so, sc, w', hr, hb, hI, _⟩ := hr; refine does_append (.tmp 42) (.tmp 44) rfl rfl rfl hr ?_; exact hRz.out _ _ ⟨hb, so, sc, rfl, hI.mono fun b hlt h => by rw [hN]; exact h.elim (fun q => by subst q; exact Or.inr ⟨Below.size hG2.s.1, by rw [hm]; intro q; cases q⟩) (fun q => Nz.new hSe q)⟩)
    intro v5 u5 x5 hG5 K hK
    have hF5 := hG5.fact
    (try dsimp only at hF5)
    obtain ⟨so5, sc5, rfl, hI5⟩ := hF5
    (try simp only [Act.put, List.setIfInBounds_toArray, List.set_cons_zero, List.set_cons_succ]); refine hK _ _ ?_; clear hK K
    repeat (first | (refine m_plain (v := ?_) (by rfl) (by rfl) ?_ ?_; rotate_left; (intro wz hSw; obtain ⟨-, hSc⟩ := hSw; (try simp only [List.forall_mem_cons, List.forall_mem_nil, and_true] at hSc); go_simp; (first | done | with_reducible rfl)); (intro K hK; (try simp only [Act.put, List.setIfInBounds_toArray, List.set_cons_zero, List.set_cons_succ]); refine hK _ _ ?_; clear hK K)) | (refine m_skip (by rfl) (by rfl) ?_; (intro K hK; (try simp only [Act.put, List.setIfInBounds_toArray, List.set_cons_zero, List.set_cons_succ]); refine hK _ _ ?_; clear hK K)))
    refine m_make (by rfl) (by rfl) ?_ ?_
    · intro wz hSw hdep R hRz
      obtain ⟨hSe, hSc⟩ := hSw
      (try simp only [List.forall_mem_cons, List.forall_mem_nil, and_true] at hSc)
      unfold does
      (go_simp; exact hRz.out _ _ ⟨ext_alloc _ _, rfl, rfl⟩)
    intro v7 u7 x7 hG7 K hK
    have hF7 := hG7.fact
    (try dsimp only at hF7)
    obtain ⟨rfl, rfl⟩ := hF7
    (try simp only [Act.put, List.setIfInBounds_toArray, List.set_cons_zero, List.set_cons_succ]); refine hK _ _ ?_; clear hK K
    repeat (first | (refine m_plain (v := ?_) (by rfl) (by rfl) ?_ ?_; rotate_left; (intro wz hSw; obtain ⟨-, hSc⟩ := hSw; (try simp only [List.forall_mem_cons, List.forall_mem_nil, and_true] at hSc); go_simp; (first | done | with_reducible rfl)); (intro K hK; (try simp only [Act.put, List.setIfInBounds_toArray, List.set_cons_zero, List.set_cons_succ]); refine hK _ _ ?_; clear hK K)) | (refine m_skip (by rfl) (by rfl) ?_; (intro K hK; (try simp only [Act.put, List.setIfInBounds_toArray, List.set_cons_zero, List.set_cons_succ]); refine hK _ _ ?_; clear hK K)))
    refine m_nil ?_
    intro wf hSf hAf
    subst hN
    replace E := hid (E.out.varNI hI5 (hAf 5 _ rfl) hG5.ext (hG7.order 5 _ rfl) hG5.s.1 hG7.s.1 (hAf 7 _ rfl) hSf.1)
    refine wpl_store4 (by rfl) (.tmp 8) (.tmp 46) (by rfl) _ (by rfl) (by rfl) (E.out.hdr 10 rfl) ?_
    intro V8 HV CV
    replace E := hid (E.out.chg 10 rfl CV HV)
    clear CV HV hSf hAf hG2 hG4 hG5 hG7 hI4 hI5
    (try simp only [List.cons_append, List.nil_append, List.set_cons_zero, List.set_cons_succ] at E)
    generalize u7.heap.size = p8 at E ⊢
    replace E := hid (E.out.addArr (a := .mk y.kind sn [] []) (vec_at (E.out.ints 11 rfl) (IntsAt.nil _ _ none)) (fun _ _ h => h))
    (try simp only [List.cons_append, List.nil_append, List.set_cons_zero, List.set_cons_succ] at E)
    go_upto_region 9 with fail
    obtain ⟨q20, q21, q22, q23⟩ := (E.out.hdr 2 rfl).all
    obtain ⟨q70, q71, q72, q73⟩ := (E.out.hdr 7 rfl).all
    go_wp2_with fail
    clear q20 q21 q22 q23 q70 q71 q72 q73
    refine (ref03_Same r1 (.mk y.kind [1] y.nums y.items) _ _ _ _ _ _ _ _ _ _ _ _ _ _ _ (E.out.arr 3 rfl) (E.out.arr 9 rfl)).mono ?_
    rintro e w8 ⟨rfl, hb⟩
    replace E := hid (E.out.up hb)
    clear hb
    rw [hW.out]
    obtain ⟨q40, q41, q42, q43⟩ := (E.out.hdr 4 rfl).all
    obtain ⟨q100, q101, q102, q103⟩ := (E.out.hdr 10 rfl).all
    go_wp2_with fail
    clear q40 q41 q42 q43 q100 q101 q102 q103
    refine (ref03_Same r0 (.mk y.kind sn [] []) _ _ _ _ _ _ _ _ _ _ _ _ _ _ _ (E.out.arr 5 rfl) (E.out.arr 12 rfl)).mono ?_
    rintro e w9 ⟨rfl, hb⟩
    replace E := hid (E.out.up hb)
    clear hb
    rw [show sameB r0 (.mk y.kind sn [] []) = true by rw [hr0.out]; exact sameB_self _]
    go_wp2_with (go_at_call 28; refine (law26_example _).mono ?_; rintro e w9 ⟨rfl, hb9⟩)
    exact hR.out _ _ ⟨rfl, (E.out.up hb9).ext⟩
  case neg =>
    have cb : ((y.shape.length : Int) == 0) = false := by simpa using c0
    have hW : Hid (sameB r1 y = true) := hid (by rw [hr1.out, wantA_1 c0]; exact sameB_self _)
    replace c0 := hid c0
    obtain ⟨q00, q01, q02, q03⟩ := (E.out.hdr 0 rfl).all
    go_upto_region 8 with fail
    clear cb
    clear q00 q01 q02 q03
    obtain ⟨N, hN⟩ := E.out.nz (.cells #[.int .i64 0, .slice none 0 0, .slice none 0 0, .slice none 0 0] 26 (0, 0))
    refine wp_region_mono_tail 8 (Sees V5 [(⟨w.heap.size, 0, none⟩, .int .i64 y.kind), (⟨w.heap.size, 1, none⟩, .slice sy y.shape.length cy), (⟨w.heap.size, 2, none⟩, .slice ny y.nums.length my), (⟨w.heap.size, 3, none⟩, .slice iy y.items.length jy)]) [2, 4, 5, 7] (fun k v u u' => match k with | 2 => v = .slice (some ⟨u.heap.size, 0, none⟩) 1 1 ∧ u' = u.alloc (.cells (([0] : List Int).map (Value.int .i64)).toArray 3) | 4 => ∃ so sc, v = .slice so cl.length sc ∧ IntsAt u' (fun _ => True) so cl | 5 => ∃ so sc, v = .slice so sn.length sc ∧ IntsAt u' (N u) so sn | 7 => v = .pointer (some ⟨u.heap.size, 0, none⟩) ∧ u' = u.alloc (.cells #[.int .i64 0, .slice none 0 0, .slice none 0 0, .slice none 0 0] 26) | _ => False) (fun _ _ h e => h.up e) (Sees.start (all_cons ((E.out.hdr 0 rfl).c0) (all_cons ((E.out.hdr 0 rfl).c1) (all_cons ((E.out.hdr 0 rfl).c2) (all_cons ((E.out.hdr 0 rfl).c3) (all_nil)))))) (by kernel_rfl) (by kernel_rfl) ?_
    simp only [List.take_succ_cons, List.take_zero, List.drop_succ_cons, List.drop_zero]
    repeat (first | (refine m_plain (v := ?_) (by rfl) (by rfl) ?_ ?_; rotate_left; (intro wz hSw; obtain ⟨-, hSc⟩ := hSw; (try simp only [List.forall_mem_cons, List.forall_mem_nil, and_true] at hSc); go_simp; (first | done | with_reducible rfl)); (intro K hK; (try simp only [Act.put, List.setIfInBounds_toArray, List.set_cons_zero, List.set_cons_succ]); refine hK _ _ ?_; clear hK K)) | (refine m_skip (by rfl) (by rfl) ?_; (intro K hK; (try simp only [Act.put, List.setIfInBounds_toArray, List.set_cons_zero, List.set_cons_succ]); refine hK _ _ ?_; clear hK K)))
    refine m_make (by rfl) (by rfl) ?_ ?_
    · intro wz hSw hdep R hRz
      obtain ⟨hSe, hSc⟩ := hSw
      (try simp only [List.forall_mem_cons, List.forall_mem_nil, and_true] at hSc)
      unfold does
      (go_simp; exact hRz.out _ _ ⟨ext_alloc _ _, rfl, rfl⟩)
    intro v2 u2 x2 hG2 K hK
    have hF2 := hG2.fact
    (try dsimp only at hF2)
    obtain ⟨rfl, rfl⟩ := hF2
    (try simp only [Act.put, List.setIfInBounds_toArray, List.set_cons_zero, List.set_cons_succ]); refine hK _ _ ?_; clear hK K
    repeat (first | (refine m_plain (v := ?_) (by rfl) (by rfl) ?_ ?_; rotate_left; (intro wz hSw; obtain ⟨-, hSc⟩ := hSw; (try simp only [List.forall_mem_cons, List.forall_mem_nil, and_true] at hSc); go_simp; (first | done | with_reducible rfl)); (intro K hK; (try simp only [Act.put, List.setIfInBounds_toArray, List.set_cons_zero, List.set_cons_succ]); refine hK _ _ ?_; clear hK K)) | (refine m_skip (by rfl) (by rfl) ?_; (intro K hK; (try simp only [Act.put, List.setIfInBounds_toArray, List.set_cons_zero, List.set_cons_succ]); refine hK _ _ ?_; clear hK K)))
    refine m_make (by rfl) (by rfl) ?_ ?_
    · intro wz hSw hdep R hRz
      obtain ⟨hSe, hSc⟩ := hSw
      (try simp only [List.forall_mem_cons, List.forall_mem_nil, and_true] at hSc)
      unfold does
      (go_simp; refine Calls.mono (ref23_Cell y _ _ _ _ _ _ (fun _ => True) wz ((ArrAt.mono (fun _ _ _ => trivial) _ (E.out.arr 1 rfl)).up hSe) hcy.out.1) ?_; rintro e wq ⟨so, sc, rfl, hI, hb⟩; rw [← hcl.out] at hI ⊢; exact ⟨_, rfl, hRz.out _ _ ⟨hb, so, sc, rfl, hI⟩⟩)
    intro v4 u4 x4 hG4 K hK
    have hF4 := hG4.fact
    (try dsimp only at hF4)
    obtain ⟨so4, sc4, rfl, hI4⟩ := hF4
    (try simp only [Act.put, List.setIfInBounds_toArray, List.set_cons_zero, List.set_cons_succ]); refine hK _ _ ?_; clear hK K
    repeat (first | (refine m_plain (v := ?_) (by rfl) (by rfl) ?_ ?_; rotate_left; (intro wz hSw; obtain ⟨-, hSc⟩ := hSw; (try simp only [List.forall_mem_cons, List.forall_mem_nil, and_true] at hSc); go_simp; (first | done | with_reducible rfl)); (intro K hK; (try simp only [Act.put, List.setIfInBounds_toArray, List.set_cons_zero, List.set_cons_succ]); refine hK _ _ ?_; clear hK K)) | (refine m_skip (by rfl) (by rfl) ?_; (intro K hK; (try simp only [Act.put, List.setIfInBounds_toArray, List.set_cons_zero, List.set_cons_succ]); refine hK _ _ ?_; clear hK K)))
    refine m_make (by rfl) (by rfl) ?_ ?_
    · intro wz hSw hdep R hRz
      obtain ⟨hSe, hSc⟩ := hSw
      (try simp only [List.forall_mem_cons, List.forall_mem_nil, and_true] at hSc)
      unfold does
      (have hm := made_blk (hdep 2 _ rfl (depB_sound (f := 60) (by kernel_rfl))); have hr := run_appI_lit wz 23 hm (fun _ => True) so4 sc4 cl (hI4.up (hdep 4 _ rfl (depB_sound (f := 60) (by kernel_rfl)))) (by omega); rw [← hsn.out] at hr; obtain ⟨so, sc, w', hr, hb, hI, _⟩ := hr; refine does_append (.tmp 42) (.tmp 44) rfl rfl rfl hr ?_; exact hRz.out _ _ ⟨hb, so, sc, rfl, hI.mono fun b hlt h => by rw [hN]; exact h.elim (fun q => by subst q; exact Or.inr ⟨Below.size hG2.s.1, by rw [hm]; intro q; cases q⟩) (fun q => Nz.new hSe q)⟩)
    intro v5 u5 x5 hG5 K hK
    have hF5 := hG5.fact
    (try dsimp only at hF5)
    obtain ⟨so5, sc5, rfl, hI5⟩ := hF5
    (try simp only [Act.put, List.setIfInBounds_toArray, List.set_cons_zero, List.set_cons_succ]); refine hK _ _ ?_; clear hK K
    repeat (first | (refine m_plain (v := ?_) (by rfl) (by rfl) ?_ ?_; rotate_left; (intro wz hSw; obtain ⟨-, hSc⟩ := hSw; (try simp only [List.forall_mem_cons, List.forall_mem_nil, and_true] at hSc); go_simp; (first | done | with_reducible rfl)); (intro K hK; (try simp only [Act.put, List.setIfInBounds_toArray, List.set_cons_zero, List.set_cons_succ]); refine hK _ _ ?_; clear hK K)) | (refine m_skip (by rfl) (by rfl) ?_; (intro K hK; (try simp only [Act.put, List.setIfInBounds_toArray, List.set_cons_zero, List.set_cons_succ]); refine hK _ _ ?_; clear hK K)))
    refine m_make (by rfl) (by rfl) ?_ ?_
    · intro wz hSw hdep R hRz
      obtain ⟨hSe, hSc⟩ := hSw
      (try simp only [List.forall_mem_cons, List.forall_mem_nil, and_true] at hSc)
      unfold does
      (go_simp; exact hRz.out _ _ ⟨ext_alloc _ _, rfl, rfl⟩)
    intro v7 u7 x7 hG7 K hK
    have hF7 := hG7.fact
    (try dsimp only at hF7)
    obtain ⟨rfl, rfl⟩ := hF7
    (try simp only [Act.put, List.setIfInBounds_toArray, List.set_cons_zero, List.set_cons_succ]); refine hK _ _ ?_; clear hK K
    repeat (first | (refine m_plain (v := ?_) (by rfl) (by rfl) ?_ ?_; rotate_left; (intro wz hSw; obtain ⟨-, hSc⟩ := hSw; (try simp only [List.forall_mem_cons, List.forall_mem_nil, and_true] at hSc); go_simp; (first | done | with_reducible rfl)); (intro K hK; (try simp only [Act.put, List.setIfInBounds_toArray, List.set_cons_zero, List.set_cons_succ]); refine hK _ _ ?_; clear hK K)) | (refine m_skip (by rfl) (by rfl) ?_; (intro K hK; (try simp only [Act.put, List.setIfInBounds_toArray, List.set_cons_zero, List.set_cons_succ]); refine hK _ _ ?_; clear hK K)))
    refine m_nil ?_
    intro wf hSf hAf
    subst hN
    replace E := hid (E.out.varNI hI5 (hAf 5 _ rfl) hG5.ext (hG7.order 5 _ rfl) hG5.s.1 hG7.s.1 (hAf 7 _ rfl) hSf.1)
    refine wpl_store4 (by rfl) (.tmp 8) (.tmp 46) (by rfl) _ (by rfl) (by rfl) (E.out.hdr 8 rfl) ?_
    intro V8 HV CV
    replace E := hid (E.out.chg 8 rfl CV HV)
    clear CV HV hSf hAf hG2 hG4 hG5 hG7 hI4 hI5
    (try simp only [List.cons_append, List.nil_append, List.set_cons_zero, List.set_cons_succ] at E)
    generalize u7.heap.size = p8 at E ⊢
    replace E := hid (E.out.addArr (a := .mk y.kind sn [] []) (vec_at (E.out.ints 9 rfl) (IntsAt.nil _ _ none)) (fun _ _ h => h))
    (try simp only [List.cons_append, List.nil_append, List.set_cons_zero, List.set_cons_succ] at E)
    go_upto_region 9 with fail
    obtain ⟨q20, q21, q22, q23⟩ := (E.out.hdr 2 rfl).all
    obtain ⟨q70, q71, q72, q73⟩ := (E.out.hdr 7 rfl).all
    go_wp2_with fail
    clear q20 q21 q22 q23 q70 q71 q72 q73
    refine (ref03_Same r1 y _ _ _ _ _ _ _ _ _ _ _ _ _ _ _ (E.out.arr 3 rfl) (E.out.arr 6 rfl)).mono ?_
    rintro e w8 ⟨rfl, hb⟩
    replace E := hid (E.out.up hb)
    clear hb
    rw [hW.out]
    obtain ⟨q40, q41, q42, q43⟩ := (E.out.hdr 4 rfl).all
    obtain ⟨q80, q81, q82, q83⟩ := (E.out.hdr 8 rfl).all
    go_wp2_with fail
    clear q40 q41 q42 q43 q80 q81 q82 q83
    refine (ref03_Same r0 (.mk y.kind sn [] []) _ _ _ _ _ _ _ _ _ _ _ _ _ _ _ (E.out.arr 5 rfl) (E.out.arr 10 rfl)).mono ?_
    rintro e w9 ⟨rfl, hb⟩
    replace E := hid (E.out.up hb)
    clear hb
    rw [show sameB r0 (.mk y.kind sn [] []) = true by rw [hr0.out]; exact sameB_self _]
    go_wp2_with (go_at_call 28; refine (law26_example _).mono ?_; rintro e w9 ⟨rfl, hb9⟩)
    exact hR.out _ _ ⟨rfl, (E.out.up hb9).ext⟩
end Go.Proofs.Ythhffneibcpbdaa
