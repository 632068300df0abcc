/- The statement that two rotations add up, and a reversal inverts the amount: true. Condition: the array is read. -/
import Derived.Test.YtmclggonmekanaaROTL
import Derived.Test.YtmclggonmekanaaROTP
import Derived.Test.YtmclggonmekanaaEDGE
set_option linter.unusedVariables false
set_option linter.unusedSimpArgs false
namespace Go.Proofs.Ytmclggonmekanaa
open Go.RowKit Go.Sort
attribute [local go_sem ↓] run_max2 run_min2
attribute [local go_sem] eql_ints_nil eql_arrs_nil
set_option maxRecDepth 100000 in
set_option maxHeartbeats 8000000 in
theorem law22_twice (m n : Int) (y : Arr) (sy : Option Addr) (cy : Nat) (ny : Option Addr) (my : Nat) (iy : Option Addr) (jy : Nat) (S : Nat → Prop) (w : World) (h : ArrAt w S y sy ny iy) : Calls Try.prog 10 #[.int .i64 m, .int .i64 n, .agg #[.int .i64 y.kind, .slice sy y.shape.length cy, .slice ny y.nums.length my, .slice iy y.items.length jy]] w fun e w' => e = .returned (.bool true) ∧ Below w.heap.size w w' := by
  refine calls_post fun R' hR => ?_
  have h0 := hid h
  have ysl := h.shape.1
  clear h
  go_enter Try.func10, Try.ntmps10
  go_wp2_with fail
  generalize hEW : (w).alloc (.cells #[.int .i64 y.kind, .slice sy y.shape.length cy, .slice ny y.nums.length my, .slice iy y.items.length jy] 46) = W
  obtain ⟨hyW, heW, zW⟩ := boxes1 w hEW
  clear hEW
  refine (law22_small y _ _ _ _ _ _ _ W (h0.out.up heW)).mono ?_
  rintro e w1 ⟨b1, rfl, hb1⟩
  have e1 := hid (heW.trans hb1)
  have Y1 := hyW.up hb1
  clear hb1 hyW heW
  obtain ⟨y0, y1, y2, y3⟩ := Y1.all
  cases b1 with
  | false =>
    go_wp2_with (go_at_call 28; refine (law22_lives w1).mono ?_; rintro e w2 ⟨rfl, hb2⟩)
    exact hR.out _ _ ⟨rfl, e1.out.trans hb2⟩
  | true =>
  by_cases c : rightS y = 0
  case neg =>
    have cb : (rightS y != 0) = true := by simp [c]
    replace c := hid c
    go_wp2_with fail
    refine (ref03_Right y _ _ _ _ _ _ _ w1 (h0.out.up e1.out)).mono ?_
    rintro e V ⟨rfl, hb2⟩
    have eV := hid (e1.out.trans hb2)
    clear hb2 y0 y1 y2 y3
    go_wp2_with (go_at_call 28; refine (law22_lives V).mono ?_; rintro e w2 ⟨rfl, hb2⟩)
    exact hR.out _ _ ⟨rfl, eV.out.trans hb2⟩
  have cb : (rightS y != 0) = false := by simp [c]
  have C := hid c
  clear c
  go_wp2_with fail
  refine (ref03_Right y _ _ _ _ _ _ _ w1 (h0.out.up e1.out)).mono ?_
  rintro e V ⟨rfl, hb2⟩
  have eV := hid (e1.out.trans hb2)
  have HY := Y1.up hb2
  have AY := hid (h0.out.up eV.out)
  clear hb2 y0 y1 y2 y3 Y1
  have v1 := HY.c1
  by_cases l : 0 < y.shape.length
  case neg =>
    have l0 : y.shape.length = 0 := by omega
    have l1 : ((y.shape.length : Int) == 0) = true := by rw [l0]; rfl
    replace l0 := hid l0
    go_wp2_with (go_at_call 28; refine (law22_lives V).mono ?_; rintro e w2 ⟨rfl, hb2⟩)
    exact hR.out _ _ ⟨rfl, eV.out.trans hb2⟩
  have l1 : ((y.shape.length : Int) == 0) = false := beq_eq_false_iff_ne.2 (by omega)
  by_cases a1 : m ≤ 1152921504606846976
  case neg =>
    go_wp2_with (go_at_call 28; refine (law22_lives V).mono ?_; rintro e w2 ⟨rfl, hb2⟩)
    exact hR.out _ _ ⟨rfl, eV.out.trans hb2⟩
  by_cases a2 : -1152921504606846976 ≤ m
  case neg =>
    go_wp2_with (go_at_call 28; refine (law22_lives V).mono ?_; rintro e w2 ⟨rfl, hb2⟩)
    exact hR.out _ _ ⟨rfl, eV.out.trans hb2⟩
  by_cases a3 : n ≤ 1152921504606846976
  case neg =>
    go_wp2_with (go_at_call 28; refine (law22_lives V).mono ?_; rintro e w2 ⟨rfl, hb2⟩)
    exact hR.out _ _ ⟨rfl, eV.out.trans hb2⟩
  by_cases a4 : -1152921504606846976 ≤ n
  case neg =>
    go_wp2_with (go_at_call 28; refine (law22_lives V).mono ?_; rintro e w2 ⟨rfl, hb2⟩)
    exact hR.out _ _ ⟨rfl, eV.out.trans hb2⟩
  go_upto_region 3 with (fail)
  clear v1
  obtain ⟨g1, hx1⟩ : ∃ a, a = vecA [m] := ⟨_, rfl⟩
  obtain ⟨g2, hx2⟩ : ∃ a, a = vecA [n] := ⟨_, rfl⟩
  obtain ⟨g3, hx3⟩ : ∃ a, a = vecA [m + n] := ⟨_, rfl⟩
  obtain ⟨g4, hx4⟩ : ∃ a, a = vecA [-m] := ⟨_, rfl⟩
  obtain ⟨r1, hr1⟩ : ∃ a, a = rotS g1 y := ⟨_, rfl⟩
  obtain ⟨r2, hr2⟩ : ∃ a, a = rotS g2 r1 := ⟨_, rfl⟩
  obtain ⟨r3, hr3⟩ : ∃ a, a = rotS g3 y := ⟨_, rfl⟩
  obtain ⟨q, hq⟩ : ∃ a, a = revS y := ⟨_, rfl⟩
  obtain ⟨r4, hr4⟩ : ∃ a, a = rotS g4 q := ⟨_, rfl⟩
  obtain ⟨q1, hq1⟩ : ∃ a, a = revS r1 := ⟨_, rfl⟩
  have z1 : rotE g1 y = 0 := by rw [hx1]; exact rot_one (m := m) (by omega) (by omega) C.out l
  have z2 : rotE g2 r1 = 0 := by rw [hx2, hr1, hx1]; exact (rot_add a2 a1 a4 a3 C.out l).1
  have z3 : rotE g3 y = 0 := by rw [hx3]; exact rot_one (m := m + n) (by omega) (by omega) C.out l
  have z4 : rotE g4 q = 0 := by rw [hx4, hq, ← Int.zero_sub]; exact (rot_rev a2 a1 C.out l).1
  have y1 : r2 = r3 := by rw [hr2, hr1, hr3, hx1, hx2, hx3]; exact (rot_add a2 a1 a4 a3 C.out l).2
  have y2 : q1 = r4 := by rw [hq1, hr1, hr4, hq, hx1, hx4, ← Int.zero_sub]; exact (rot_rev a2 a1 C.out l).2
  have sA : Hid (sameB r2 r3 = true) := hid (by rw [y1]; exact sameB_self _)
  have sB : Hid (sameB q1 r4 = true) := hid (by rw [y2]; exact sameB_self _)
  clear y1 y2
  replace hx1 := hid hx1
  replace hx2 := hid hx2
  replace hx3 := hid hx3
  replace hx4 := hid hx4
  replace hr1 := hid hr1
  replace hr2 := hid hr2
  replace hr3 := hid hr3
  replace hr4 := hid hr4
  replace hq := hid hq
  replace hq1 := hid hq1
  replace z1 := hid z1
  replace z2 := hid z2
  replace z3 := hid z3
  replace z4 := hid z4
  refine wp_region_edge 7 9 (by kernel_rfl) (by kernel_rfl) (fun o _ v c a w h => by cases hd : o.dst <;> (rw [hd] at h; exact h)) _ rfl 9 (Sees V [(⟨w.heap.size, 0, none⟩, .int .i64 y.kind), (⟨w.heap.size, 1, none⟩, .slice sy y.shape.length cy), (⟨w.heap.size, 2, none⟩, .slice ny y.nums.length my), (⟨w.heap.size, 3, none⟩, .slice iy y.items.length jy)]) [1, 2, 4, 8] (fun k v u u' => match k with | 1 => v = .slice (some ⟨u.heap.size, 0, none⟩) 1 1 ∧ u' = u.alloc (.cells (([m] : List Int).map (Value.int .i64)).toArray 3) | 2 => RetA u (fun _ => True) g1 (.returned v) u' | 4 => RetAE u (fun b => u.heap.size ≤ b) r1 (0) (.returned v) u' | 8 => v = .pointer (some ⟨u.heap.size, 0, none⟩) ∧ u' = u.alloc (.cells #[.int .i64 0, .slice none 0 0, .slice none 0 0, .slice none 0 0] 46) | _ => False) (fun _ _ h e => h.up e) (Sees.start (all_cons (HY.c0) (all_cons (HY.c1) (all_cons (HY.c2) (all_cons (HY.c3) (all_nil)))))) (by kernel_rfl) ?_
  simp only [withEdge, List.modify_succ_cons, List.modify_zero_cons, List.push_toArray, List.cons_append, List.nil_append]
  simp only [List.take_succ_cons, List.take_zero, List.drop_succ_cons, List.drop_zero]
  repeat (first | (refine m_plain (v := ?_) (by rfl) (by rfl) ?_ ?_; rotate_left; (intro wz hSw; obtain ⟨-, hSc⟩ := hSw; (try simp only [List.forall_mem_cons, List.forall_mem_nil, and_true] at hSc); go_simp; (first | done | with_reducible rfl)); (intro K hK; (try simp only [Act.put, List.setIfInBounds_toArray, List.set_cons_zero, List.set_cons_succ]); refine hK _ _ ?_; clear hK K)) | (refine m_skip (by rfl) (by rfl) ?_; (intro K hK; (try simp only [Act.put, List.setIfInBounds_toArray, List.set_cons_zero, List.set_cons_succ]); refine hK _ _ ?_; clear hK K)))
  refine m_make (by rfl) (by rfl) ?_ ?_
  · intro wz hSw hdep R hRz
    obtain ⟨hSe, hSc⟩ := hSw
    (try simp only [List.forall_mem_cons, List.forall_mem_nil, and_true] at hSc)
    unfold does
    (go_simp; exact hRz.out _ _ ⟨ext_alloc _ _, rfl, rfl⟩)
  intro v1 u1 x1 hG1 K hK
  have hF1 := hG1.fact
  (try dsimp only at hF1)
  obtain ⟨rfl, rfl⟩ := hF1
  (try simp only [Act.put, List.setIfInBounds_toArray, List.set_cons_zero, List.set_cons_succ]); refine hK _ _ ?_; clear hK K
  repeat (first | (refine m_plain (v := ?_) (by rfl) (by rfl) ?_ ?_; rotate_left; (intro wz hSw; obtain ⟨-, hSc⟩ := hSw; (try simp only [List.forall_mem_cons, List.forall_mem_nil, and_true] at hSc); go_simp; (first | done | with_reducible rfl)); (intro K hK; (try simp only [Act.put, List.setIfInBounds_toArray, List.set_cons_zero, List.set_cons_succ]); refine hK _ _ ?_; clear hK K)) | (refine m_skip (by rfl) (by rfl) ?_; (intro K hK; (try simp only [Act.put, List.setIfInBounds_toArray, List.set_cons_zero, List.set_cons_succ]); refine hK _ _ ?_; clear hK K)))
  refine m_make (by rfl) (by rfl) ?_ ?_
  · intro wz hSw hdep R hRz
    obtain ⟨hSe, hSc⟩ := hSw
    (try simp only [List.forall_mem_cons, List.forall_mem_nil, and_true] at hSc)
    unfold does
    (go_simp; refine Calls.mono (law22_ints [m] _ _ _ wz (lit_at (hdep 1 _ rfl (depB_sound (f := 60) (by kernel_rfl))) (by simp))) ?_; intro e wq h; rw [← hx1.out] at h; obtain ⟨ta, tc, tn, tnc, ti, tic, rfl, hq, hqb⟩ := h; exact ⟨_, rfl, hRz.out _ _ ⟨hqb, ta, tc, tn, tnc, ti, tic, rfl, ArrAt.mono (fun _ _ _ => trivial) _ hq, hqb⟩⟩)
  intro v2 u2 x2 hG2 K hK
  have hF2 := hG2.fact
  (try dsimp only at hF2)
  obtain ⟨s2, c2, n2, m2, i2, j2, he, hA2, hb2⟩ := hF2
  injection he with he
  subst he
  (try simp only [Act.put, List.setIfInBounds_toArray, List.set_cons_zero, List.set_cons_succ]); refine hK _ _ ?_; clear hK K
  repeat (first | (refine m_plain (v := ?_) (by rfl) (by rfl) ?_ ?_; rotate_left; (intro wz hSw; obtain ⟨-, hSc⟩ := hSw; (try simp only [List.forall_mem_cons, List.forall_mem_nil, and_true] at hSc); go_simp; (first | done | with_reducible rfl)); (intro K hK; (try simp only [Act.put, List.setIfInBounds_toArray, List.set_cons_zero, List.set_cons_succ]); refine hK _ _ ?_; clear hK K)) | (refine m_skip (by rfl) (by rfl) ?_; (intro K hK; (try simp only [Act.put, List.setIfInBounds_toArray, List.set_cons_zero, List.set_cons_succ]); refine hK _ _ ?_; clear hK K)))
  refine m_make (by rfl) (by rfl) ?_ ?_
  · intro wz hSw hdep R hRz
    obtain ⟨hSe, hSc⟩ := hSw
    (try simp only [List.forall_mem_cons, List.forall_mem_nil, and_true] at hSc)
    unfold does
    (go_simp; refine Calls.mono (rotating_Rotate g1 _ _ _ _ _ _ y _ _ _ _ _ _ _ _ wz (hA2.up (hdep 2 _ rfl (depB_sound (f := 60) (by kernel_rfl)))) (AY.out.up hSe)) ?_; intro e wq h; rw [← hr1.out, z1.out] at h; obtain ⟨ta, tc, tn, tnc, ti, tic, rfl, hq, hqb⟩ := h; exact ⟨_, rfl, hRz.out _ _ ⟨hqb, ta, tc, tn, tnc, ti, tic, rfl, hq, hqb⟩⟩)
  intro v4 u4 x4 hG4 K hK
  have hF4 := hG4.fact
  (try dsimp only at hF4)
  obtain ⟨s4, c4, n4, m4, i4, j4, he, hA4, hb4⟩ := hF4
  injection he with he
  subst he
  (try simp only [Act.put, List.setIfInBounds_toArray, List.set_cons_zero, List.set_cons_succ]); refine hK _ _ ?_; clear hK K
  repeat (first | (refine m_plain (v := ?_) (by rfl) (by rfl) ?_ ?_; rotate_left; (intro wz hSw; obtain ⟨-, hSc⟩ := hSw; (try simp only [List.forall_mem_cons, List.forall_mem_nil, and_true] at hSc); go_simp; (first | done | with_reducible rfl)); (intro K hK; (try simp only [Act.put, List.setIfInBounds_toArray, List.set_cons_zero, List.set_cons_succ]); refine hK _ _ ?_; clear hK K)) | (refine m_skip (by rfl) (by rfl) ?_; (intro K hK; (try simp only [Act.put, List.setIfInBounds_toArray, List.set_cons_zero, List.set_cons_succ]); refine hK _ _ ?_; clear hK K)))
  refine m_make (by rfl) (by rfl) ?_ ?_
  · intro wz hSw hdep R hRz
    obtain ⟨hSe, hSc⟩ := hSw
    (try simp only [List.forall_mem_cons, List.forall_mem_nil, and_true] at hSc)
    unfold does
    (go_simp; exact hRz.out _ _ ⟨ext_alloc _ _, rfl, rfl⟩)
  intro v8 u8 x8 hG8 K hK
  have hF8 := hG8.fact
  (try dsimp only at hF8)
  obtain ⟨rfl, rfl⟩ := hF8
  (try simp only [Act.put, List.setIfInBounds_toArray, List.set_cons_zero, List.set_cons_succ]); refine hK _ _ ?_; clear hK K
  repeat (first | (refine m_plain (v := ?_) (by rfl) (by rfl) ?_ ?_; rotate_left; (intro wz hSw; obtain ⟨-, hSc⟩ := hSw; (try simp only [List.forall_mem_cons, List.forall_mem_nil, and_true] at hSc); go_simp; (first | done | with_reducible rfl)); (intro K hK; (try simp only [Act.put, List.setIfInBounds_toArray, List.set_cons_zero, List.set_cons_succ]); refine hK _ _ ?_; clear hK K)) | (refine m_skip (by rfl) (by rfl) ?_; (intro K hK; (try simp only [Act.put, List.setIfInBounds_toArray, List.set_cons_zero, List.set_cons_succ]); refine hK _ _ ?_; clear hK K)))
  refine m_nil ?_
  intro wf hSf hAf
  have o8 := hG8.order 4 _ rfl
  refine wpl_var (by rfl) (.tmp 7) (.tmp 52) (by rfl) u8.heap.size (by rfl) (by rfl) (made_blk (hAf 8 _ rfl : Ext (u8.alloc _) wf)) ((ArrAt.mono (T := fun b => u4.heap.size ≤ b ∧ b < x4.heap.size) (fun b hb hh => ⟨hh, hb⟩) _ hA4).up (hAf 4 _ rfl)) (fun q hq => ord_out o8 hq.1 hq.2) hSf.1 (Below.size hG8.s.1) ?_
  intro V1 hV1 eV1
  clear hG1 hG2 hG4 hG8 hSf hAf hA2 hA4 hb2 hb4 o8
  generalize u8.heap.size = p1 at *
  obtain ⟨sr1, cr1, nr1, mr1, ir1, jr1, H1, B1⟩ := hV1
  have B1 := hid B1
  have HY1 := HY.up eV1
  have AY1 := hid (AY.out.up eV1)
  go_upto_region 4 with (fail)
  refine wp_region_edge 7 9 (by kernel_rfl) (by kernel_rfl) (fun o _ v c a w h => by cases hd : o.dst <;> (rw [hd] at h; exact h)) _ rfl 9 (Sees V1 [(⟨p1, 0, none⟩, .int .i64 r1.kind), (⟨p1, 1, none⟩, .slice sr1 r1.shape.length cr1), (⟨p1, 2, none⟩, .slice nr1 r1.nums.length mr1), (⟨p1, 3, none⟩, .slice ir1 r1.items.length jr1)]) [1, 2, 4, 8] (fun k v u u' => match k with | 1 => v = .slice (some ⟨u.heap.size, 0, none⟩) 1 1 ∧ u' = u.alloc (.cells (([n] : List Int).map (Value.int .i64)).toArray 3) | 2 => RetA u (fun _ => True) g2 (.returned v) u' | 4 => RetAE u (fun b => u.heap.size ≤ b) r2 (0) (.returned v) u' | 8 => v = .pointer (some ⟨u.heap.size, 0, none⟩) ∧ u' = u.alloc (.cells #[.int .i64 0, .slice none 0 0, .slice none 0 0, .slice none 0 0] 46) | _ => False) (fun _ _ h e => h.up e) (Sees.start (all_cons (H1.c0) (all_cons (H1.c1) (all_cons (H1.c2) (all_cons (H1.c3) (all_nil)))))) (by kernel_rfl) ?_
  simp only [withEdge, List.modify_succ_cons, List.modify_zero_cons, List.push_toArray, List.cons_append, List.nil_append]
  simp only [List.take_succ_cons, List.take_zero, List.drop_succ_cons, List.drop_zero]
  repeat (first | (refine m_plain (v := ?_) (by rfl) (by rfl) ?_ ?_; rotate_left; (intro wz hSw; obtain ⟨-, hSc⟩ := hSw; (try simp only [List.forall_mem_cons, List.forall_mem_nil, and_true] at hSc); go_simp; (first | done | with_reducible rfl)); (intro K hK; (try simp only [Act.put, List.setIfInBounds_toArray, List.set_cons_zero, List.set_cons_succ]); refine hK _ _ ?_; clear hK K)) | (refine m_skip (by rfl) (by rfl) ?_; (intro K hK; (try simp only [Act.put, List.setIfInBounds_toArray, List.set_cons_zero, List.set_cons_succ]); refine hK _ _ ?_; clear hK K)))
  refine m_make (by rfl) (by rfl) ?_ ?_
  · intro wz hSw hdep R hRz
    obtain ⟨hSe, hSc⟩ := hSw
    (try simp only [List.forall_mem_cons, List.forall_mem_nil, and_true] at hSc)
    unfold does
    (go_simp; exact hRz.out _ _ ⟨ext_alloc _ _, rfl, rfl⟩)
  intro v1 u1 x1 hG1 K hK
  have hF1 := hG1.fact
  (try dsimp only at hF1)
  obtain ⟨rfl, rfl⟩ := hF1
  (try simp only [Act.put, List.setIfInBounds_toArray, List.set_cons_zero, List.set_cons_succ]); refine hK _ _ ?_; clear hK K
  repeat (first | (refine m_plain (v := ?_) (by rfl) (by rfl) ?_ ?_; rotate_left; (intro wz hSw; obtain ⟨-, hSc⟩ := hSw; (try simp only [List.forall_mem_cons, List.forall_mem_nil, and_true] at hSc); go_simp; (first | done | with_reducible rfl)); (intro K hK; (try simp only [Act.put, List.setIfInBounds_toArray, List.set_cons_zero, List.set_cons_succ]); refine hK _ _ ?_; clear hK K)) | (refine m_skip (by rfl) (by rfl) ?_; (intro K hK; (try simp only [Act.put, List.setIfInBounds_toArray, List.set_cons_zero, List.set_cons_succ]); refine hK _ _ ?_; clear hK K)))
  refine m_make (by rfl) (by rfl) ?_ ?_
  · intro wz hSw hdep R hRz
    obtain ⟨hSe, hSc⟩ := hSw
    (try simp only [List.forall_mem_cons, List.forall_mem_nil, and_true] at hSc)
    unfold does
    (go_simp; refine Calls.mono (law22_ints [n] _ _ _ wz (lit_at (hdep 1 _ rfl (depB_sound (f := 60) (by kernel_rfl))) (by simp))) ?_; intro e wq h; rw [← hx2.out] at h; obtain ⟨ta, tc, tn, tnc, ti, tic, rfl, hq, hqb⟩ := h; exact ⟨_, rfl, hRz.out _ _ ⟨hqb, ta, tc, tn, tnc, ti, tic, rfl, ArrAt.mono (fun _ _ _ => trivial) _ hq, hqb⟩⟩)
  intro v2 u2 x2 hG2 K hK
  have hF2 := hG2.fact
  (try dsimp only at hF2)
  obtain ⟨s2, c2, n2, m2, i2, j2, he, hA2, hb2⟩ := hF2
  injection he with he
  subst he
  (try simp only [Act.put, List.setIfInBounds_toArray, List.set_cons_zero, List.set_cons_succ]); refine hK _ _ ?_; clear hK K
  repeat (first | (refine m_plain (v := ?_) (by rfl) (by rfl) ?_ ?_; rotate_left; (intro wz hSw; obtain ⟨-, hSc⟩ := hSw; (try simp only [List.forall_mem_cons, List.forall_mem_nil, and_true] at hSc); go_simp; (first | done | with_reducible rfl)); (intro K hK; (try simp only [Act.put, List.setIfInBounds_toArray, List.set_cons_zero, List.set_cons_succ]); refine hK _ _ ?_; clear hK K)) | (refine m_skip (by rfl) (by rfl) ?_; (intro K hK; (try simp only [Act.put, List.setIfInBounds_toArray, List.set_cons_zero, List.set_cons_succ]); refine hK _ _ ?_; clear hK K)))
  refine m_make (by rfl) (by rfl) ?_ ?_
  · intro wz hSw hdep R hRz
    obtain ⟨hSe, hSc⟩ := hSw
    (try simp only [List.forall_mem_cons, List.forall_mem_nil, and_true] at hSc)
    unfold does
    (go_simp; refine Calls.mono (rotating_Rotate g2 _ _ _ _ _ _ r1 _ _ _ _ _ _ _ _ wz (hA2.up (hdep 2 _ rfl (depB_sound (f := 60) (by kernel_rfl)))) (B1.out.up hSe)) ?_; intro e wq h; rw [← hr2.out, z2.out] at h; obtain ⟨ta, tc, tn, tnc, ti, tic, rfl, hq, hqb⟩ := h; exact ⟨_, rfl, hRz.out _ _ ⟨hqb, ta, tc, tn, tnc, ti, tic, rfl, hq, hqb⟩⟩)
  intro v4 u4 x4 hG4 K hK
  have hF4 := hG4.fact
  (try dsimp only at hF4)
  obtain ⟨s4, c4, n4, m4, i4, j4, he, hA4, hb4⟩ := hF4
  injection he with he
  subst he
  (try simp only [Act.put, List.setIfInBounds_toArray, List.set_cons_zero, List.set_cons_succ]); refine hK _ _ ?_; clear hK K
  repeat (first | (refine m_plain (v := ?_) (by rfl) (by rfl) ?_ ?_; rotate_left; (intro wz hSw; obtain ⟨-, hSc⟩ := hSw; (try simp only [List.forall_mem_cons, List.forall_mem_nil, and_true] at hSc); go_simp; (first | done | with_reducible rfl)); (intro K hK; (try simp only [Act.put, List.setIfInBounds_toArray, List.set_cons_zero, List.set_cons_succ]); refine hK _ _ ?_; clear hK K)) | (refine m_skip (by rfl) (by rfl) ?_; (intro K hK; (try simp only [Act.put, List.setIfInBounds_toArray, List.set_cons_zero, List.set_cons_succ]); refine hK _ _ ?_; clear hK K)))
  refine m_make (by rfl) (by rfl) ?_ ?_
  · intro wz hSw hdep R hRz
    obtain ⟨hSe, hSc⟩ := hSw
    (try simp only [List.forall_mem_cons, List.forall_mem_nil, and_true] at hSc)
    unfold does
    (go_simp; exact hRz.out _ _ ⟨ext_alloc _ _, rfl, rfl⟩)
  intro v8 u8 x8 hG8 K hK
  have hF8 := hG8.fact
  (try dsimp only at hF8)
  obtain ⟨rfl, rfl⟩ := hF8
  (try simp only [Act.put, List.setIfInBounds_toArray, List.set_cons_zero, List.set_cons_succ]); refine hK _ _ ?_; clear hK K
  repeat (first | (refine m_plain (v := ?_) (by rfl) (by rfl) ?_ ?_; rotate_left; (intro wz hSw; obtain ⟨-, hSc⟩ := hSw; (try simp only [List.forall_mem_cons, List.forall_mem_nil, and_true] at hSc); go_simp; (first | done | with_reducible rfl)); (intro K hK; (try simp only [Act.put, List.setIfInBounds_toArray, List.set_cons_zero, List.set_cons_succ]); refine hK _ _ ?_; clear hK K)) | (refine m_skip (by rfl) (by rfl) ?_; (intro K hK; (try simp only [Act.put, List.setIfInBounds_toArray, List.set_cons_zero, List.set_cons_succ]); refine hK _ _ ?_; clear hK K)))
  refine m_nil ?_
  intro wf hSf hAf
  have o8 := hG8.order 4 _ rfl
  refine wpl_var (by rfl) (.tmp 9) (.tmp 60) (by rfl) u8.heap.size (by rfl) (by rfl) (made_blk (hAf 8 _ rfl : Ext (u8.alloc _) wf)) ((ArrAt.mono (T := fun b => u4.heap.size ≤ b ∧ b < x4.heap.size) (fun b hb hh => ⟨hh, hb⟩) _ hA4).up (hAf 4 _ rfl)) (fun q hq => ord_out o8 hq.1 hq.2) hSf.1 (Below.size hG8.s.1) ?_
  intro V2 hV2 eV2
  clear hG1 hG2 hG4 hG8 hSf hAf hA2 hA4 hb2 hb4 o8
  generalize u8.heap.size = p2 at *
  obtain ⟨sr2, cr2, nr2, mr2, ir2, jr2, H2, B2⟩ := hV2
  have B2 := hid B2
  have HY2 := HY1.up eV2
  have AY2 := hid (AY1.out.up eV2)
  go_upto_region 5 with (fail)
  have wa : IntKind.i64.wrap (m + n) = m + n := IntWalk.i64_in _ (by omega)
  refine wp_region_edge 9 11 (by kernel_rfl) (by kernel_rfl) (fun o _ v c a w h => by cases hd : o.dst <;> (rw [hd] at h; exact h)) _ rfl 11 (Sees V2 [(⟨w.heap.size, 0, none⟩, .int .i64 y.kind), (⟨w.heap.size, 1, none⟩, .slice sy y.shape.length cy), (⟨w.heap.size, 2, none⟩, .slice ny y.nums.length my), (⟨w.heap.size, 3, none⟩, .slice iy y.items.length jy)]) [3, 4, 6, 10] (fun k v u u' => match k with | 3 => v = .slice (some ⟨u.heap.size, 0, none⟩) 1 1 ∧ u' = u.alloc (.cells (([m + n] : List Int).map (Value.int .i64)).toArray 3) | 4 => RetA u (fun _ => True) g3 (.returned v) u' | 6 => RetAE u (fun b => u.heap.size ≤ b) r3 (0) (.returned v) u' | 10 => v = .pointer (some ⟨u.heap.size, 0, none⟩) ∧ u' = u.alloc (.cells #[.int .i64 0, .slice none 0 0, .slice none 0 0, .slice none 0 0] 46) | _ => False) (fun _ _ h e => h.up e) (Sees.start (all_cons (HY2.c0) (all_cons (HY2.c1) (all_cons (HY2.c2) (all_cons (HY2.c3) (all_nil)))))) (by kernel_rfl) ?_
  simp only [withEdge, List.modify_succ_cons, List.modify_zero_cons, List.push_toArray, List.cons_append, List.nil_append]
  simp only [List.take_succ_cons, List.take_zero, List.drop_succ_cons, List.drop_zero]
  repeat (first | (refine m_plain (v := ?_) (by rfl) (by rfl) ?_ ?_; rotate_left; (intro wz hSw; obtain ⟨-, hSc⟩ := hSw; (try simp only [List.forall_mem_cons, List.forall_mem_nil, and_true] at hSc); go_simp; (first | done | with_reducible rfl)); (intro K hK; (try simp only [Act.put, List.setIfInBounds_toArray, List.set_cons_zero, List.set_cons_succ]); refine hK _ _ ?_; clear hK K)) | (refine m_skip (by rfl) (by rfl) ?_; (intro K hK; (try simp only [Act.put, List.setIfInBounds_toArray, List.set_cons_zero, List.set_cons_succ]); refine hK _ _ ?_; clear hK K)))
  refine m_make (by rfl) (by rfl) ?_ ?_
  · intro wz hSw hdep R hRz
    obtain ⟨hSe, hSc⟩ := hSw
    (try simp only [List.forall_mem_cons, List.forall_mem_nil, and_true] at hSc)
    unfold does
    (go_simp; exact hRz.out _ _ ⟨ext_alloc _ _, rfl, rfl⟩)
  intro v3 u3 x3 hG3 K hK
  have hF3 := hG3.fact
  (try dsimp only at hF3)
  obtain ⟨rfl, rfl⟩ := hF3
  (try simp only [Act.put, List.setIfInBounds_toArray, List.set_cons_zero, List.set_cons_succ]); refine hK _ _ ?_; clear hK K
  repeat (first | (refine m_plain (v := ?_) (by rfl) (by rfl) ?_ ?_; rotate_left; (intro wz hSw; obtain ⟨-, hSc⟩ := hSw; (try simp only [List.forall_mem_cons, List.forall_mem_nil, and_true] at hSc); go_simp; (first | done | with_reducible rfl)); (intro K hK; (try simp only [Act.put, List.setIfInBounds_toArray, List.set_cons_zero, List.set_cons_succ]); refine hK _ _ ?_; clear hK K)) | (refine m_skip (by rfl) (by rfl) ?_; (intro K hK; (try simp only [Act.put, List.setIfInBounds_toArray, List.set_cons_zero, List.set_cons_succ]); refine hK _ _ ?_; clear hK K)))
  refine m_make (by rfl) (by rfl) ?_ ?_
  · intro wz hSw hdep R hRz
    obtain ⟨hSe, hSc⟩ := hSw
    (try simp only [List.forall_mem_cons, List.forall_mem_nil, and_true] at hSc)
    unfold does
    (go_simp; refine Calls.mono (law22_ints [m + n] _ _ _ wz (lit_at (hdep 3 _ rfl (depB_sound (f := 60) (by kernel_rfl))) (by simp))) ?_; intro e wq h; rw [← hx3.out] at h; obtain ⟨ta, tc, tn, tnc, ti, tic, rfl, hq, hqb⟩ := h; exact ⟨_, rfl, hRz.out _ _ ⟨hqb, ta, tc, tn, tnc, ti, tic, rfl, ArrAt.mono (fun _ _ _ => trivial) _ hq, hqb⟩⟩)
  intro v4 u4 x4 hG4 K hK
  have hF4 := hG4.fact
  (try dsimp only at hF4)
  obtain ⟨s4, c4, n4, m4, i4, j4, he, hA4, hb4⟩ := hF4
  injection he with he
  subst he
  (try simp only [Act.put, List.setIfInBounds_toArray, List.set_cons_zero, List.set_cons_succ]); refine hK _ _ ?_; clear hK K
  repeat (first | (refine m_plain (v := ?_) (by rfl) (by rfl) ?_ ?_; rotate_left; (intro wz hSw; obtain ⟨-, hSc⟩ := hSw; (try simp only [List.forall_mem_cons, List.forall_mem_nil, and_true] at hSc); go_simp; (first | done | with_reducible rfl)); (intro K hK; (try simp only [Act.put, List.setIfInBounds_toArray, List.set_cons_zero, List.set_cons_succ]); refine hK _ _ ?_; clear hK K)) | (refine m_skip (by rfl) (by rfl) ?_; (intro K hK; (try simp only [Act.put, List.setIfInBounds_toArray, List.set_cons_zero, List.set_cons_succ]); refine hK _ _ ?_; clear hK K)))
  refine m_make (by rfl) (by rfl) ?_ ?_
  · intro wz hSw hdep R hRz
    obtain ⟨hSe, hSc⟩ := hSw
    (try simp only [List.forall_mem_cons, List.forall_mem_nil, and_true] at hSc)
    unfold does
    (go_simp; refine Calls.mono (rotating_Rotate g3 _ _ _ _ _ _ y _ _ _ _ _ _ _ _ wz (hA4.up (hdep 4 _ rfl (depB_sound (f := 60) (by kernel_rfl)))) (AY2.out.up hSe)) ?_; intro e wq h; rw [← hr3.out, z3.out] at h; obtain ⟨ta, tc, tn, tnc, ti, tic, rfl, hq, hqb⟩ := h; exact ⟨_, rfl, hRz.out _ _ ⟨hqb, ta, tc, tn, tnc, ti, tic, rfl, hq, hqb⟩⟩)
  intro v6 u6 x6 hG6 K hK
  have hF6 := hG6.fact
  (try dsimp only at hF6)
  obtain ⟨s6, c6, n6, m6, i6, j6, he, hA6, hb6⟩ := hF6
  injection he with he
  subst he
  (try simp only [Act.put, List.setIfInBounds_toArray, List.set_cons_zero, List.set_cons_succ]); refine hK _ _ ?_; clear hK K
  repeat (first | (refine m_plain (v := ?_) (by rfl) (by rfl) ?_ ?_; rotate_left; (intro wz hSw; obtain ⟨-, hSc⟩ := hSw; (try simp only [List.forall_mem_cons, List.forall_mem_nil, and_true] at hSc); go_simp; (first | done | with_reducible rfl)); (intro K hK; (try simp only [Act.put, List.setIfInBounds_toArray, List.set_cons_zero, List.set_cons_succ]); refine hK _ _ ?_; clear hK K)) | (refine m_skip (by rfl) (by rfl) ?_; (intro K hK; (try simp only [Act.put, List.setIfInBounds_toArray, List.set_cons_zero, List.set_cons_succ]); refine hK _ _ ?_; clear hK K)))
  refine m_make (by rfl) (by rfl) ?_ ?_
  · intro wz hSw hdep R hRz
    obtain ⟨hSe, hSc⟩ := hSw
    (try simp only [List.forall_mem_cons, List.forall_mem_nil, and_true] at hSc)
    unfold does
    (go_simp; exact hRz.out _ _ ⟨ext_alloc _ _, rfl, rfl⟩)
  intro v10 u10 x10 hG10 K hK
  have hF10 := hG10.fact
  (try dsimp only at hF10)
  obtain ⟨rfl, rfl⟩ := hF10
  (try simp only [Act.put, List.setIfInBounds_toArray, List.set_cons_zero, List.set_cons_succ]); refine hK _ _ ?_; clear hK K
  repeat (first | (refine m_plain (v := ?_) (by rfl) (by rfl) ?_ ?_; rotate_left; (intro wz hSw; obtain ⟨-, hSc⟩ := hSw; (try simp only [List.forall_mem_cons, List.forall_mem_nil, and_true] at hSc); go_simp; (first | done | with_reducible rfl)); (intro K hK; (try simp only [Act.put, List.setIfInBounds_toArray, List.set_cons_zero, List.set_cons_succ]); refine hK _ _ ?_; clear hK K)) | (refine m_skip (by rfl) (by rfl) ?_; (intro K hK; (try simp only [Act.put, List.setIfInBounds_toArray, List.set_cons_zero, List.set_cons_succ]); refine hK _ _ ?_; clear hK K)))
  refine m_nil ?_
  intro wf hSf hAf
  have o8 := hG10.order 6 _ rfl
  refine wpl_var (by rfl) (.tmp 11) (.tmp 70) (by rfl) u10.heap.size (by rfl) (by rfl) (made_blk (hAf 10 _ rfl : Ext (u10.alloc _) wf)) ((ArrAt.mono (T := fun b => u6.heap.size ≤ b ∧ b < x6.heap.size) (fun b hb hh => ⟨hh, hb⟩) _ hA6).up (hAf 6 _ rfl)) (fun q hq => ord_out o8 hq.1 hq.2) hSf.1 (Below.size hG10.s.1) ?_
  intro V3 hV3 eV3
  clear hG3 hG4 hG6 hG10 hSf hAf hA4 hA6 hb4 hb6 o8 wa
  generalize u10.heap.size = p3 at *
  obtain ⟨sr3, cr3, nr3, mr3, ir3, jr3, H3, B3⟩ := hV3
  have B3 := hid B3
  have HY3 := HY2.up eV3
  have AY3 := hid (AY2.out.up eV3)
  go_upto_region 6 with (fail)
  have wa : IntKind.i64.wrap (-m) = -m := IntWalk.i64_in _ (by omega)
  have wb : IntKind.i64.wrap (0 - m) = -m := by rw [show 0 - m = -m by omega]; exact IntWalk.i64_in _ (by omega)
  refine wp_region_edge 9 11 (by kernel_rfl) (by kernel_rfl) (fun o _ v c a w h => by cases hd : o.dst <;> (rw [hd] at h; exact h)) _ rfl 11 (Sees V3 [(⟨w.heap.size, 0, none⟩, .int .i64 y.kind), (⟨w.heap.size, 1, none⟩, .slice sy y.shape.length cy), (⟨w.heap.size, 2, none⟩, .slice ny y.nums.length my), (⟨w.heap.size, 3, none⟩, .slice iy y.items.length jy)]) [2, 3, 5, 6, 10] (fun k v u u' => match k with | 2 => v = .slice (some ⟨u.heap.size, 0, none⟩) 1 1 ∧ u' = u.alloc (.cells (([-m] : List Int).map (Value.int .i64)).toArray 3) | 3 => RetA u (fun _ => True) g4 (.returned v) u' | 5 => RetA u (fun _ => True) q (.returned v) u' | 6 => RetAE u (fun b => u.heap.size ≤ b) r4 (0) (.returned v) u' | 10 => v = .pointer (some ⟨u.heap.size, 0, none⟩) ∧ u' = u.alloc (.cells #[.int .i64 0, .slice none 0 0, .slice none 0 0, .slice none 0 0] 46) | _ => False) (fun _ _ h e => h.up e) (Sees.start (all_cons (HY3.c0) (all_cons (HY3.c1) (all_cons (HY3.c2) (all_cons (HY3.c3) (all_nil)))))) (by kernel_rfl) ?_
  simp only [withEdge, List.modify_succ_cons, List.modify_zero_cons, List.push_toArray, List.cons_append, List.nil_append]
  simp only [List.take_succ_cons, List.take_zero, List.drop_succ_cons, List.drop_zero]
  repeat (first | (refine m_plain (v := ?_) (by rfl) (by rfl) ?_ ?_; rotate_left; (intro wz hSw; obtain ⟨-, hSc⟩ := hSw; (try simp only [List.forall_mem_cons, List.forall_mem_nil, and_true] at hSc); go_simp; (first | done | with_reducible rfl)); (intro K hK; (try simp only [Act.put, List.setIfInBounds_toArray, List.set_cons_zero, List.set_cons_succ]); refine hK _ _ ?_; clear hK K)) | (refine m_skip (by rfl) (by rfl) ?_; (intro K hK; (try simp only [Act.put, List.setIfInBounds_toArray, List.set_cons_zero, List.set_cons_succ]); refine hK _ _ ?_; clear hK K)))
  refine m_make (by rfl) (by rfl) ?_ ?_
  · intro wz hSw hdep R hRz
    obtain ⟨hSe, hSc⟩ := hSw
    (try simp only [List.forall_mem_cons, List.forall_mem_nil, and_true] at hSc)
    unfold does
    (go_simp; exact hRz.out _ _ ⟨ext_alloc _ _, rfl, rfl⟩)
  intro v2 u2 x2 hG2 K hK
  have hF2 := hG2.fact
  (try dsimp only at hF2)
  obtain ⟨rfl, rfl⟩ := hF2
  (try simp only [Act.put, List.setIfInBounds_toArray, List.set_cons_zero, List.set_cons_succ]); refine hK _ _ ?_; clear hK K
  repeat (first | (refine m_plain (v := ?_) (by rfl) (by rfl) ?_ ?_; rotate_left; (intro wz hSw; obtain ⟨-, hSc⟩ := hSw; (try simp only [List.forall_mem_cons, List.forall_mem_nil, and_true] at hSc); go_simp; (first | done | with_reducible rfl)); (intro K hK; (try simp only [Act.put, List.setIfInBounds_toArray, List.set_cons_zero, List.set_cons_succ]); refine hK _ _ ?_; clear hK K)) | (refine m_skip (by rfl) (by rfl) ?_; (intro K hK; (try simp only [Act.put, List.setIfInBounds_toArray, List.set_cons_zero, List.set_cons_succ]); refine hK _ _ ?_; clear hK K)))
  refine m_make (by rfl) (by rfl) ?_ ?_
  · intro wz hSw hdep R hRz
    obtain ⟨hSe, hSc⟩ := hSw
    (try simp only [List.forall_mem_cons, List.forall_mem_nil, and_true] at hSc)
    unfold does
    (go_simp; refine Calls.mono (law22_ints [-m] _ _ _ wz (lit_at (hdep 2 _ rfl (depB_sound (f := 60) (by kernel_rfl))) (by simp))) ?_; intro e wq h; rw [← hx4.out] at h; obtain ⟨ta, tc, tn, tnc, ti, tic, rfl, hq, hqb⟩ := h; exact ⟨_, rfl, hRz.out _ _ ⟨hqb, ta, tc, tn, tnc, ti, tic, rfl, ArrAt.mono (fun _ _ _ => trivial) _ hq, hqb⟩⟩)
  intro v3 u3 x3 hG3 K hK
  have hF3 := hG3.fact
  (try dsimp only at hF3)
  obtain ⟨s3, c3, n3, m3, i3, j3, he, hA3, hb3⟩ := hF3
  injection he with he
  subst he
  (try simp only [Act.put, List.setIfInBounds_toArray, List.set_cons_zero, List.set_cons_succ]); refine hK _ _ ?_; clear hK K
  repeat (first | (refine m_plain (v := ?_) (by rfl) (by rfl) ?_ ?_; rotate_left; (intro wz hSw; obtain ⟨-, hSc⟩ := hSw; (try simp only [List.forall_mem_cons, List.forall_mem_nil, and_true] at hSc); go_simp; (first | done | with_reducible rfl)); (intro K hK; (try simp only [Act.put, List.setIfInBounds_toArray, List.set_cons_zero, List.set_cons_succ]); refine hK _ _ ?_; clear hK K)) | (refine m_skip (by rfl) (by rfl) ?_; (intro K hK; (try simp only [Act.put, List.setIfInBounds_toArray, List.set_cons_zero, List.set_cons_succ]); refine hK _ _ ?_; clear hK K)))
  refine m_make (by rfl) (by rfl) ?_ ?_
  · intro wz hSw hdep R hRz
    obtain ⟨hSe, hSc⟩ := hSw
    (try simp only [List.forall_mem_cons, List.forall_mem_nil, and_true] at hSc)
    unfold does
    (go_simp; refine Calls.mono (rotating_Reverse y _ _ _ _ _ _ _ wz (AY3.out.up hSe)) ?_; intro e wq h; rw [← hq.out] at h; obtain ⟨ta, tc, tn, tnc, ti, tic, rfl, hq, hqb⟩ := h; exact ⟨_, rfl, hRz.out _ _ ⟨hqb, ta, tc, tn, tnc, ti, tic, rfl, ArrAt.mono (fun _ _ _ => trivial) _ hq, hqb⟩⟩)
  intro v5 u5 x5 hG5 K hK
  have hF5 := hG5.fact
  (try dsimp only at hF5)
  obtain ⟨s5, c5, n5, m5, i5, j5, he, hA5, hb5⟩ := hF5
  injection he with he
  subst he
  (try simp only [Act.put, List.setIfInBounds_toArray, List.set_cons_zero, List.set_cons_succ]); refine hK _ _ ?_; clear hK K
  repeat (first | (refine m_plain (v := ?_) (by rfl) (by rfl) ?_ ?_; rotate_left; (intro wz hSw; obtain ⟨-, hSc⟩ := hSw; (try simp only [List.forall_mem_cons, List.forall_mem_nil, and_true] at hSc); go_simp; (first | done | with_reducible rfl)); (intro K hK; (try simp only [Act.put, List.setIfInBounds_toArray, List.set_cons_zero, List.set_cons_succ]); refine hK _ _ ?_; clear hK K)) | (refine m_skip (by rfl) (by rfl) ?_; (intro K hK; (try simp only [Act.put, List.setIfInBounds_toArray, List.set_cons_zero, List.set_cons_succ]); refine hK _ _ ?_; clear hK K)))
  refine m_make (by rfl) (by rfl) ?_ ?_
  · intro wz hSw hdep R hRz
    obtain ⟨hSe, hSc⟩ := hSw
    (try simp only [List.forall_mem_cons, List.forall_mem_nil, and_true] at hSc)
    unfold does
    (go_simp; refine Calls.mono (rotating_Rotate g4 _ _ _ _ _ _ q _ _ _ _ _ _ _ _ wz (hA3.up (hdep 3 _ rfl (depB_sound (f := 60) (by kernel_rfl)))) (hA5.up (hdep 5 _ rfl (depB_sound (f := 60) (by kernel_rfl))))) ?_; intro e wq h; rw [← hr4.out, z4.out] at h; obtain ⟨ta, tc, tn, tnc, ti, tic, rfl, hq, hqb⟩ := h; exact ⟨_, rfl, hRz.out _ _ ⟨hqb, ta, tc, tn, tnc, ti, tic, rfl, hq, hqb⟩⟩)
  intro v6 u6 x6 hG6 K hK
  have hF6 := hG6.fact
  (try dsimp only at hF6)
  obtain ⟨s6, c6, n6, m6, i6, j6, he, hA6, hb6⟩ := hF6
  injection he with he
  subst he
  (try simp only [Act.put, List.setIfInBounds_toArray, List.set_cons_zero, List.set_cons_succ]); refine hK _ _ ?_; clear hK K
  repeat (first | (refine m_plain (v := ?_) (by rfl) (by rfl) ?_ ?_; rotate_left; (intro wz hSw; obtain ⟨-, hSc⟩ := hSw; (try simp only [List.forall_mem_cons, List.forall_mem_nil, and_true] at hSc); go_simp; (first | done | with_reducible rfl)); (intro K hK; (try simp only [Act.put, List.setIfInBounds_toArray, List.set_cons_zero, List.set_cons_succ]); refine hK _ _ ?_; clear hK K)) | (refine m_skip (by rfl) (by rfl) ?_; (intro K hK; (try simp only [Act.put, List.setIfInBounds_toArray, List.set_cons_zero, List.set_cons_succ]); refine hK _ _ ?_; clear hK K)))
  refine m_make (by rfl) (by rfl) ?_ ?_
  · intro wz hSw hdep R hRz
    obtain ⟨hSe, hSc⟩ := hSw
    (try simp only [List.forall_mem_cons, List.forall_mem_nil, and_true] at hSc)
    unfold does
    (go_simp; exact hRz.out _ _ ⟨ext_alloc _ _, rfl, rfl⟩)
  intro v10 u10 x10 hG10 K hK
  have hF10 := hG10.fact
  (try dsimp only at hF10)
  obtain ⟨rfl, rfl⟩ := hF10
  (try simp only [Act.put, List.setIfInBounds_toArray, List.set_cons_zero, List.set_cons_succ]); refine hK _ _ ?_; clear hK K
  repeat (first | (refine m_plain (v := ?_) (by rfl) (by rfl) ?_ ?_; rotate_left; (intro wz hSw; obtain ⟨-, hSc⟩ := hSw; (try simp only [List.forall_mem_cons, List.forall_mem_nil, and_true] at hSc); go_simp; (first | done | with_reducible rfl)); (intro K hK; (try simp only [Act.put, List.setIfInBounds_toArray, List.set_cons_zero, List.set_cons_succ]); refine hK _ _ ?_; clear hK K)) | (refine m_skip (by rfl) (by rfl) ?_; (intro K hK; (try simp only [Act.put, List.setIfInBounds_toArray, List.set_cons_zero, List.set_cons_succ]); refine hK _ _ ?_; clear hK K)))
  refine m_nil ?_
  intro wf hSf hAf
  have o8 := hG10.order 6 _ rfl
  refine wpl_var (by rfl) (.tmp 13) (.tmp 80) (by rfl) u10.heap.size (by rfl) (by rfl) (made_blk (hAf 10 _ rfl : Ext (u10.alloc _) wf)) ((ArrAt.mono (T := fun b => u6.heap.size ≤ b ∧ b < x6.heap.size) (fun b hb hh => ⟨hh, hb⟩) _ hA6).up (hAf 6 _ rfl)) (fun q hq => ord_out o8 hq.1 hq.2) hSf.1 (Below.size hG10.s.1) ?_
  intro V4 hV4 eV4
  clear hG2 hG3 hG5 hG6 hG10 hSf hAf hA3 hA5 hA6 hb3 hb5 hb6 o8 wa wb
  generalize u10.heap.size = p4 at *
  obtain ⟨sr4, cr4, nr4, mr4, ir4, jr4, H4, B4⟩ := hV4
  have B4 := hid B4
  have e34 := hid (eV3.trans eV4)
  have e24 := hid (eV2.trans e34.out)
  have K1 := H1.up e24.out
  have K2 := H2.up e34.out
  have K3 := H3.up eV4
  have L1 := hid (B1.out.up e24.out)
  have L2 := hid (B2.out.up e34.out)
  have L3 := hid (B3.out.up eV4)
  have eF := hid (eV.out.trans (eV1.trans e24.out))
  clear H1 H2 H3 HY HY1 HY2 HY3 B1 B2 B3 eV1 eV2 eV3 eV4
  go_upto_region 7 with (fail)
  refine wp_region_mono (Sees V4 [(⟨p2, 0, none⟩, .int .i64 r2.kind), (⟨p2, 1, none⟩, .slice sr2 r2.shape.length cr2), (⟨p2, 2, none⟩, .slice nr2 r2.nums.length mr2), (⟨p2, 3, none⟩, .slice ir2 r2.items.length jr2), (⟨p3, 0, none⟩, .int .i64 r3.kind), (⟨p3, 1, none⟩, .slice sr3 r3.shape.length cr3), (⟨p3, 2, none⟩, .slice nr3 r3.nums.length mr3), (⟨p3, 3, none⟩, .slice ir3 r3.items.length jr3), (⟨p1, 0, none⟩, .int .i64 r1.kind), (⟨p1, 1, none⟩, .slice sr1 r1.shape.length cr1), (⟨p1, 2, none⟩, .slice nr1 r1.nums.length mr1), (⟨p1, 3, none⟩, .slice ir1 r1.items.length jr1), (⟨p4, 0, none⟩, .int .i64 r4.kind), (⟨p4, 1, none⟩, .slice sr4 r4.shape.length cr4), (⟨p4, 2, none⟩, .slice nr4 r4.nums.length mr4), (⟨p4, 3, none⟩, .slice ir4 r4.items.length jr4)]) [17, 21, 23, 26] (fun k v u u' => match k with | 17 => v = .bool true | 21 => RetA u (fun _ => True) q1 (.returned v) u' | 23 => v = .bool true | 26 => v = .bool true | _ => False) (fun _ _ h e => h.up e) (Sees.start (all_cons (K2.c0) (all_cons (K2.c1) (all_cons (K2.c2) (all_cons (K2.c3) (all_cons (K3.c0) (all_cons (K3.c1) (all_cons (K3.c2) (all_cons (K3.c3) (all_cons (K1.c0) (all_cons (K1.c1) (all_cons (K1.c2) (all_cons (K1.c3) (all_cons (H4.c0) (all_cons (H4.c1) (all_cons (H4.c2) (all_cons (H4.c3) (all_nil)))))))))))))))))) (by kernel_rfl) (by kernel_rfl) ?_
  repeat (first | (refine m_plain (v := ?_) (by rfl) (by rfl) ?_ ?_; rotate_left; (intro wz hSw; obtain ⟨-, hSc⟩ := hSw; (try simp only [List.forall_mem_cons, List.forall_mem_nil, and_true] at hSc); go_simp; (first | done | with_reducible rfl)); (intro K hK; (try simp only [Act.put, List.setIfInBounds_toArray, List.set_cons_zero, List.set_cons_succ]); refine hK _ _ ?_; clear hK K)) | (refine m_skip (by rfl) (by rfl) ?_; (intro K hK; (try simp only [Act.put, List.setIfInBounds_toArray, List.set_cons_zero, List.set_cons_succ]); refine hK _ _ ?_; clear hK K)))
  refine m_make (by rfl) (by rfl) ?_ ?_
  · intro wz hSw hdep R hRz
    obtain ⟨hSe, hSc⟩ := hSw
    (try simp only [List.forall_mem_cons, List.forall_mem_nil, and_true] at hSc)
    unfold does
    (go_simp; refine Calls.mono (ref03_Same r2 r3 _ _ _ _ _ _ _ _ _ _ _ _ _ _ wz (L2.out.up hSe) (L3.out.up hSe)) ?_; rintro e wq ⟨rfl, hqb⟩; rw [sA.out]; exact ⟨_, rfl, hRz.out _ _ ⟨hqb, rfl⟩⟩)
  intro v17 u17 x17 hG17 K hK
  have hF17 := hG17.fact
  (try dsimp only at hF17)
  subst hF17
  (try simp only [Act.put, List.setIfInBounds_toArray, List.set_cons_zero, List.set_cons_succ]); refine hK _ _ ?_; clear hK K
  repeat (first | (refine m_plain (v := ?_) (by rfl) (by rfl) ?_ ?_; rotate_left; (intro wz hSw; obtain ⟨-, hSc⟩ := hSw; (try simp only [List.forall_mem_cons, List.forall_mem_nil, and_true] at hSc); go_simp; (first | done | with_reducible rfl)); (intro K hK; (try simp only [Act.put, List.setIfInBounds_toArray, List.set_cons_zero, List.set_cons_succ]); refine hK _ _ ?_; clear hK K)) | (refine m_skip (by rfl) (by rfl) ?_; (intro K hK; (try simp only [Act.put, List.setIfInBounds_toArray, List.set_cons_zero, List.set_cons_succ]); refine hK _ _ ?_; clear hK K)))
  refine m_make (by rfl) (by rfl) ?_ ?_
  · intro wz hSw hdep R hRz
    obtain ⟨hSe, hSc⟩ := hSw
    (try simp only [List.forall_mem_cons, List.forall_mem_nil, and_true] at hSc)
    unfold does
    (go_simp; refine Calls.mono (rotating_Reverse r1 _ _ _ _ _ _ _ wz (L1.out.up hSe)) ?_; intro e wq h; rw [← hq1.out] at h; obtain ⟨ta, tc, tn, tnc, ti, tic, rfl, hq, hqb⟩ := h; exact ⟨_, rfl, hRz.out _ _ ⟨hqb, ta, tc, tn, tnc, ti, tic, rfl, ArrAt.mono (fun _ _ _ => trivial) _ hq, hqb⟩⟩)
  intro v21 u21 x21 hG21 K hK
  have hF21 := hG21.fact
  (try dsimp only at hF21)
  obtain ⟨s21, c21, n21, m21, i21, j21, he, hA21, hb21⟩ := hF21
  injection he with he
  subst he
  (try simp only [Act.put, List.setIfInBounds_toArray, List.set_cons_zero, List.set_cons_succ]); refine hK _ _ ?_; clear hK K
  repeat (first | (refine m_plain (v := ?_) (by rfl) (by rfl) ?_ ?_; rotate_left; (intro wz hSw; obtain ⟨-, hSc⟩ := hSw; (try simp only [List.forall_mem_cons, List.forall_mem_nil, and_true] at hSc); go_simp; (first | done | with_reducible rfl)); (intro K hK; (try simp only [Act.put, List.setIfInBounds_toArray, List.set_cons_zero, List.set_cons_succ]); refine hK _ _ ?_; clear hK K)) | (refine m_skip (by rfl) (by rfl) ?_; (intro K hK; (try simp only [Act.put, List.setIfInBounds_toArray, List.set_cons_zero, List.set_cons_succ]); refine hK _ _ ?_; clear hK K)))
  refine m_make (by rfl) (by rfl) ?_ ?_
  · intro wz hSw hdep R hRz
    obtain ⟨hSe, hSc⟩ := hSw
    (try simp only [List.forall_mem_cons, List.forall_mem_nil, and_true] at hSc)
    unfold does
    (go_simp; refine Calls.mono (ref03_Same q1 r4 _ _ _ _ _ _ _ _ _ _ _ _ _ _ wz (hA21.up (hdep 21 _ rfl (depB_sound (f := 60) (by kernel_rfl)))) (B4.out.up hSe)) ?_; rintro e wq ⟨rfl, hqb⟩; rw [sB.out]; exact ⟨_, rfl, hRz.out _ _ ⟨hqb, rfl⟩⟩)
  intro v23 u23 x23 hG23 K hK
  have hF23 := hG23.fact
  (try dsimp only at hF23)
  subst hF23
  (try simp only [Act.put, List.setIfInBounds_toArray, List.set_cons_zero, List.set_cons_succ]); refine hK _ _ ?_; clear hK K
  repeat (first | (refine m_plain (v := ?_) (by rfl) (by rfl) ?_ ?_; rotate_left; (intro wz hSw; obtain ⟨-, hSc⟩ := hSw; (try simp only [List.forall_mem_cons, List.forall_mem_nil, and_true] at hSc); go_simp; (first | done | with_reducible rfl)); (intro K hK; (try simp only [Act.put, List.setIfInBounds_toArray, List.set_cons_zero, List.set_cons_succ]); refine hK _ _ ?_; clear hK K)) | (refine m_skip (by rfl) (by rfl) ?_; (intro K hK; (try simp only [Act.put, List.setIfInBounds_toArray, List.set_cons_zero, List.set_cons_succ]); refine hK _ _ ?_; clear hK K)))
  refine m_make (by rfl) (by rfl) ?_ ?_
  · intro wz hSw hdep R hRz
    obtain ⟨hSe, hSc⟩ := hSw
    (try simp only [List.forall_mem_cons, List.forall_mem_nil, and_true] at hSc)
    unfold does
    (go_simp; refine Calls.mono (law22_lives wz) ?_; rintro e wq ⟨rfl, hqb⟩; exact ⟨_, rfl, hRz.out _ _ ⟨hqb, rfl⟩⟩)
  intro v26 u26 x26 hG26 K hK
  have hF26 := hG26.fact
  (try dsimp only at hF26)
  subst hF26
  (try simp only [Act.put, List.setIfInBounds_toArray, List.set_cons_zero, List.set_cons_succ]); refine hK _ _ ?_; clear hK K
  repeat (first | (refine m_plain (v := ?_) (by rfl) (by rfl) ?_ ?_; rotate_left; (intro wz hSw; obtain ⟨-, hSc⟩ := hSw; (try simp only [List.forall_mem_cons, List.forall_mem_nil, and_true] at hSc); go_simp; (first | done | with_reducible rfl)); (intro K hK; (try simp only [Act.put, List.setIfInBounds_toArray, List.set_cons_zero, List.set_cons_succ]); refine hK _ _ ?_; clear hK K)) | (refine m_skip (by rfl) (by rfl) ?_; (intro K hK; (try simp only [Act.put, List.setIfInBounds_toArray, List.set_cons_zero, List.set_cons_succ]); refine hK _ _ ?_; clear hK K)))
  refine m_nil ?_
  intro wg hSg hAg
  have eg := hid (eF.out.trans hSg.1)
  clear hSg hAg
  go_wp2_with fail
  exact hR.out _ _ ⟨rfl, eg.out⟩
end Go.Proofs.Ytmclggonmekanaa
