/- The statements about package rotating: each returns true. Condition: the arrays are read. -/
import Derived.Test.YtmclggonmekanaaLAW22
import Derived.Test.YtmclggonmekanaaGLAW
set_option linter.unusedVariables false
set_option linter.unusedSimpArgs false
namespace Go.Proofs.Ytmclggonmekanaa
open Go.RowKit Go.Sort
attribute [local go_sem ↓] run_max2 run_min2
attribute [local go_sem] eql_ints_nil eql_arrs_nil
set_option maxRecDepth 100000 in
set_option maxHeartbeats 4000000 in
theorem law22_reverse (y : Arr) (sy : Option Addr) (cy : Nat) (ny : Option Addr) (my : Nat) (iy : Option Addr) (jy : Nat) (S : Nat → Prop) (w : World) (h : ArrAt w S y sy ny iy) : Calls Try.prog 7 #[.agg #[.int .i64 y.kind, .slice sy y.shape.length cy, .slice ny y.nums.length my, .slice iy y.items.length jy]] w fun e w' => e = .returned (.bool true) ∧ Below w.heap.size w w' := by
  refine calls_post fun R' hR => ?_
  have h0 := hid h
  clear h
  go_enter Try.func7, Try.ntmps7
  go_wp2_with fail
  generalize hEW : (w).alloc (.cells #[.int .i64 y.kind, .slice sy y.shape.length cy, .slice ny y.nums.length my, .slice iy y.items.length jy] 46) = W
  obtain ⟨hyW, heW, zW⟩ := boxes1 w hEW
  clear hEW
  refine (law22_small y _ _ _ _ _ _ S W (h0.out.up heW)).mono ?_
  rintro e w1 ⟨b, rfl, hb1⟩
  have e1 := hid (heW.trans hb1)
  have H1 := hyW.up hb1
  have A1 := hid (h0.out.up e1.out)
  clear hb1 hyW heW
  cases b with
  | false =>
    go_wp2_with (go_at_call 28; refine (law22_lives w1).mono ?_; rintro e w2 ⟨rfl, hb2⟩)
    exact hR.out _ _ ⟨rfl, e1.out.trans hb2⟩
  | true =>
    obtain ⟨y0, y1, y2, y3⟩ := H1.all
    go_wp2_with fail
    refine (rotating_Reverse y _ _ _ _ _ _ _ w1 A1.out).mono ?_
    rintro e w2 ⟨sr, cr, nr, mr, ir, jr, rfl, hA2, hb2⟩
    have H2 := H1.up hb2
    have e2 := hid (e1.out.trans hb2)
    have A2 := hid (A1.out.up hb2)
    obtain ⟨r, hr⟩ : ∃ r, r = revS y := ⟨_, rfl⟩
    rw [← hr] at hA2
    rw [← hr]
    have HA2 := hid hA2
    replace hr := hid hr
    clear hb2 hA2 y0 y1 y2 y3
    go_wp2_with fail
    have Hr := hdr_new w2 (.int .i64 r.kind) (.slice sr r.shape.length cr) (.slice nr r.nums.length mr) (.slice ir r.items.length jr)
    have ea := ext_alloc w2 (.cells #[.int .i64 r.kind, .slice sr r.shape.length cr, .slice nr r.nums.length mr, .slice ir r.items.length jr] 46)
    generalize w2.alloc (.cells #[.int .i64 r.kind, .slice sr r.shape.length cr, .slice nr r.nums.length mr, .slice ir r.items.length jr] 46) = V at *
    have HV := H2.up ea
    have AY := hid (A2.out.up ea)
    have AR := hid (HA2.out.up ea)
    have eV := hid (e2.out.trans ea)
    clear H1 H2 ea
    generalize w2.heap.size = p at *
    have s3 : Hid (sameB r r = true) := hid (sameB_self _)
    refine wp_region_mono (Sees V [(⟨p, 0, none⟩, .int .i64 r.kind), (⟨p, 1, none⟩, .slice sr r.shape.length cr), (⟨p, 2, none⟩, .slice nr r.nums.length mr), (⟨p, 3, none⟩, .slice ir r.items.length jr), (⟨w.heap.size, 0, none⟩, .int .i64 y.kind), (⟨w.heap.size, 1, none⟩, .slice sy y.shape.length cy), (⟨w.heap.size, 2, none⟩, .slice ny y.nums.length my), (⟨w.heap.size, 3, none⟩, .slice iy y.items.length jy)]) [2, 3] (fun k v u u' => match k with | 2 => RetA u (fun _ => True) r (.returned v) u' | 3 => v = .bool true | _ => False) (fun _ _ h e => h.up e) (Sees.start (all_cons (Hr.c0) (all_cons (Hr.c1) (all_cons (Hr.c2) (all_cons (Hr.c3) (all_cons (HV.c0) (all_cons (HV.c1) (all_cons (HV.c2) (all_cons (HV.c3) (all_nil)))))))))) (by kernel_rfl) (by kernel_rfl) ?_
    repeat (first | (refine m_plain (v := ?_) (by rfl) (by rfl) ?_ ?_; rotate_left; (intro wz hSw; obtain ⟨-, hSc⟩ := hSw; (try simp only [List.forall_mem_cons, List.forall_mem_nil, and_true] at hSc); go_simp; (first | done | with_reducible rfl)); (intro K hK; (try simp only [Act.put, List.setIfInBounds_toArray, List.set_cons_zero, List.set_cons_succ]); refine hK _ _ ?_; clear hK K)) | (refine m_skip (by rfl) (by rfl) ?_; (intro K hK; (try simp only [Act.put, List.setIfInBounds_toArray, List.set_cons_zero, List.set_cons_succ]); refine hK _ _ ?_; clear hK K)))
    refine m_make (by rfl) (by rfl) ?_ ?_
    · intro wz hSw hdep R hRz
      obtain ⟨hSe, hSc⟩ := hSw
      (try simp only [List.forall_mem_cons, List.forall_mem_nil, and_true] at hSc)
      unfold does
      (go_simp; refine Calls.mono (ref22_Reverse y _ _ _ _ _ _ _ wz (AY.out.up hSe)) ?_; intro e wq h; (try rw [← hr.out] at h); obtain ⟨ta, tc, tn, tnc, ti, tic, rfl, hq, hqb⟩ := h; exact ⟨_, rfl, hRz.out _ _ ⟨hqb, ta, tc, tn, tnc, ti, tic, rfl, hq, hqb⟩⟩)
    intro v2 u2 x2 hG2 K hK
    have hF2 := hG2.fact
    (try dsimp only at hF2)
    obtain ⟨s2, c2, n2, m2, i2, j2, he, hA2, hb2⟩ := hF2
    injection he with he
    subst he
    (try simp only [Act.put, List.setIfInBounds_toArray, List.set_cons_zero, List.set_cons_succ]); refine hK _ _ ?_; clear hK K
    repeat (first | (refine m_plain (v := ?_) (by rfl) (by rfl) ?_ ?_; rotate_left; (intro wz hSw; obtain ⟨-, hSc⟩ := hSw; (try simp only [List.forall_mem_cons, List.forall_mem_nil, and_true] at hSc); go_simp; (first | done | with_reducible rfl)); (intro K hK; (try simp only [Act.put, List.setIfInBounds_toArray, List.set_cons_zero, List.set_cons_succ]); refine hK _ _ ?_; clear hK K)) | (refine m_skip (by rfl) (by rfl) ?_; (intro K hK; (try simp only [Act.put, List.setIfInBounds_toArray, List.set_cons_zero, List.set_cons_succ]); refine hK _ _ ?_; clear hK K)))
    refine m_make (by rfl) (by rfl) ?_ ?_
    · intro wz hSw hdep R hRz
      obtain ⟨hSe, hSc⟩ := hSw
      (try simp only [List.forall_mem_cons, List.forall_mem_nil, and_true] at hSc)
      unfold does
      (go_simp; refine Calls.mono (ref03_Same r r _ _ _ _ _ _ _ _ _ _ _ _ _ _ wz (AR.out.up hSe) (hA2.up (hdep 2 _ rfl (depB_sound (f := 60) (by kernel_rfl))))) ?_; rintro e wq ⟨rfl, hqb⟩; rw [s3.out]; exact ⟨_, rfl, hRz.out _ _ ⟨hqb, rfl⟩⟩)
    intro v3 u3 x3 hG3 K hK
    have hF3 := hG3.fact
    (try dsimp only at hF3)
    subst hF3
    (try simp only [Act.put, List.setIfInBounds_toArray, List.set_cons_zero, List.set_cons_succ]); refine hK _ _ ?_; clear hK K
    repeat (first | (refine m_plain (v := ?_) (by rfl) (by rfl) ?_ ?_; rotate_left; (intro wz hSw; obtain ⟨-, hSc⟩ := hSw; (try simp only [List.forall_mem_cons, List.forall_mem_nil, and_true] at hSc); go_simp; (first | done | with_reducible rfl)); (intro K hK; (try simp only [Act.put, List.setIfInBounds_toArray, List.set_cons_zero, List.set_cons_succ]); refine hK _ _ ?_; clear hK K)) | (refine m_skip (by rfl) (by rfl) ?_; (intro K hK; (try simp only [Act.put, List.setIfInBounds_toArray, List.set_cons_zero, List.set_cons_succ]); refine hK _ _ ?_; clear hK K)))
    refine m_nil ?_
    intro wf hSf hAf
    have ef := hSf.1
    have Hrf := Hr.up ef
    have HVf := HV.up ef
    have AYf := hid (AY.out.up ef)
    have ARf := hid (AR.out.up ef)
    have eVf := hid (eV.out.trans ef)
    clear hSf hAf hG2 hG3 hA2 hb2 ef
    go_wp2_with fail
    by_cases c : rightS y = 0
    · have cb : (rightS y != 0) = false := by simp [c]
      have hrr : Hid (y = revS r) := hid (by rw [hr.out]; exact (revS_rev c).symm)
      have s7 : Hid (sameB y y = true) := hid (sameB_self _)
      replace c := hid c
      refine wp_region_mono (Sees wf [(⟨p, 0, none⟩, .int .i64 r.kind), (⟨p, 1, none⟩, .slice sr r.shape.length cr), (⟨p, 2, none⟩, .slice nr r.nums.length mr), (⟨p, 3, none⟩, .slice ir r.items.length jr), (⟨w.heap.size, 0, none⟩, .int .i64 y.kind), (⟨w.heap.size, 1, none⟩, .slice sy y.shape.length cy), (⟨w.heap.size, 2, none⟩, .slice ny y.nums.length my), (⟨w.heap.size, 3, none⟩, .slice iy y.items.length jy)]) [1, 5, 7, 10] (fun k v u u' => match k with | 1 => v = .int .i64 (rightS y) | 5 => RetA u (fun _ => True) y (.returned v) u' | 7 => v = .bool true | 10 => v = .bool true | _ => False) (fun _ _ h e => h.up e) (Sees.start (all_cons (Hrf.c0) (all_cons (Hrf.c1) (all_cons (Hrf.c2) (all_cons (Hrf.c3) (all_cons (HVf.c0) (all_cons (HVf.c1) (all_cons (HVf.c2) (all_cons (HVf.c3) (all_nil)))))))))) (by kernel_rfl) (by kernel_rfl) ?_
      repeat (first | (refine m_plain (v := ?_) (by rfl) (by rfl) ?_ ?_; rotate_left; (intro wz hSw; obtain ⟨-, hSc⟩ := hSw; (try simp only [List.forall_mem_cons, List.forall_mem_nil, and_true] at hSc); go_simp; (first | done | with_reducible rfl)); (intro K hK; (try simp only [Act.put, List.setIfInBounds_toArray, List.set_cons_zero, List.set_cons_succ]); refine hK _ _ ?_; clear hK K)) | (refine m_skip (by rfl) (by rfl) ?_; (intro K hK; (try simp only [Act.put, List.setIfInBounds_toArray, List.set_cons_zero, List.set_cons_succ]); refine hK _ _ ?_; clear hK K)))
      refine m_make (by rfl) (by rfl) ?_ ?_
      · intro wz hSw hdep R hRz
        obtain ⟨hSe, hSc⟩ := hSw
        (try simp only [List.forall_mem_cons, List.forall_mem_nil, and_true] at hSc)
        unfold does
        (go_simp; refine Calls.mono (ref03_Right y _ _ _ _ _ _ _ wz (AYf.out.up hSe)) ?_; rintro e wq ⟨rfl, hqb⟩; exact ⟨_, rfl, hRz.out _ _ ⟨hqb, rfl⟩⟩)
      intro v1 u1 x1 hG1 K hK
      have hF1 := hG1.fact
      (try dsimp only at hF1)
      subst hF1
      (try simp only [Act.put, List.setIfInBounds_toArray, List.set_cons_zero, List.set_cons_succ]); refine hK _ _ ?_; clear hK K
      repeat (first | (refine m_plain (v := ?_) (by rfl) (by rfl) ?_ ?_; rotate_left; (intro wz hSw; obtain ⟨-, hSc⟩ := hSw; (try simp only [List.forall_mem_cons, List.forall_mem_nil, and_true] at hSc); go_simp; (first | done | with_reducible rfl)); (intro K hK; (try simp only [Act.put, List.setIfInBounds_toArray, List.set_cons_zero, List.set_cons_succ]); refine hK _ _ ?_; clear hK K)) | (refine m_skip (by rfl) (by rfl) ?_; (intro K hK; (try simp only [Act.put, List.setIfInBounds_toArray, List.set_cons_zero, List.set_cons_succ]); refine hK _ _ ?_; clear hK K)))
      refine m_make (by rfl) (by rfl) ?_ ?_
      · intro wz hSw hdep R hRz
        obtain ⟨hSe, hSc⟩ := hSw
        (try simp only [List.forall_mem_cons, List.forall_mem_nil, and_true] at hSc)
        unfold does
        (go_simp; refine Calls.mono (rotating_Reverse r _ _ _ _ _ _ _ wz (ARf.out.up hSe)) ?_; intro e wq h; rw [← hrr.out] at h; obtain ⟨ta, tc, tn, tnc, ti, tic, rfl, hq, hqb⟩ := h; exact ⟨_, rfl, hRz.out _ _ ⟨hqb, ta, tc, tn, tnc, ti, tic, rfl, ArrAt.mono (fun _ _ _ => trivial) _ hq, hqb⟩⟩)
      intro v5 u5 x5 hG5 K hK
      have hF5 := hG5.fact
      (try dsimp only at hF5)
      obtain ⟨s5, c5, n5, m5, i5, j5, he, hA5, hb5⟩ := hF5
      injection he with he
      subst he
      (try simp only [Act.put, List.setIfInBounds_toArray, List.set_cons_zero, List.set_cons_succ]); refine hK _ _ ?_; clear hK K
      repeat (first | (refine m_plain (v := ?_) (by rfl) (by rfl) ?_ ?_; rotate_left; (intro wz hSw; obtain ⟨-, hSc⟩ := hSw; (try simp only [List.forall_mem_cons, List.forall_mem_nil, and_true] at hSc); go_simp; (first | done | with_reducible rfl)); (intro K hK; (try simp only [Act.put, List.setIfInBounds_toArray, List.set_cons_zero, List.set_cons_succ]); refine hK _ _ ?_; clear hK K)) | (refine m_skip (by rfl) (by rfl) ?_; (intro K hK; (try simp only [Act.put, List.setIfInBounds_toArray, List.set_cons_zero, List.set_cons_succ]); refine hK _ _ ?_; clear hK K)))
      refine m_make (by rfl) (by rfl) ?_ ?_
      · intro wz hSw hdep R hRz
        obtain ⟨hSe, hSc⟩ := hSw
        (try simp only [List.forall_mem_cons, List.forall_mem_nil, and_true] at hSc)
        unfold does
        (go_simp; refine Calls.mono (ref03_Same y y _ _ _ _ _ _ _ _ _ _ _ _ _ _ wz (hA5.up (hdep 5 _ rfl (depB_sound (f := 60) (by kernel_rfl)))) (AYf.out.up hSe)) ?_; rintro e wq ⟨rfl, hqb⟩; rw [s7.out]; exact ⟨_, rfl, hRz.out _ _ ⟨hqb, rfl⟩⟩)
      intro v7 u7 x7 hG7 K hK
      have hF7 := hG7.fact
      (try dsimp only at hF7)
      subst hF7
      (try simp only [Act.put, List.setIfInBounds_toArray, List.set_cons_zero, List.set_cons_succ]); refine hK _ _ ?_; clear hK K
      repeat (first | (refine m_plain (v := ?_) (by rfl) (by rfl) ?_ ?_; rotate_left; (intro wz hSw; obtain ⟨-, hSc⟩ := hSw; (try simp only [List.forall_mem_cons, List.forall_mem_nil, and_true] at hSc); go_simp; (first | done | with_reducible rfl)); (intro K hK; (try simp only [Act.put, List.setIfInBounds_toArray, List.set_cons_zero, List.set_cons_succ]); refine hK _ _ ?_; clear hK K)) | (refine m_skip (by rfl) (by rfl) ?_; (intro K hK; (try simp only [Act.put, List.setIfInBounds_toArray, List.set_cons_zero, List.set_cons_succ]); refine hK _ _ ?_; clear hK K)))
      refine m_make (by rfl) (by rfl) ?_ ?_
      · intro wz hSw hdep R hRz
        obtain ⟨hSe, hSc⟩ := hSw
        (try simp only [List.forall_mem_cons, List.forall_mem_nil, and_true] at hSc)
        unfold does
        (go_simp; refine Calls.mono (law22_lives wz) ?_; rintro e wq ⟨rfl, hqb⟩; exact ⟨_, rfl, hRz.out _ _ ⟨hqb, rfl⟩⟩)
      intro v10 u10 x10 hG10 K hK
      have hF10 := hG10.fact
      (try dsimp only at hF10)
      subst hF10
      (try simp only [Act.put, List.setIfInBounds_toArray, List.set_cons_zero, List.set_cons_succ]); refine hK _ _ ?_; clear hK K
      repeat (first | (refine m_plain (v := ?_) (by rfl) (by rfl) ?_ ?_; rotate_left; (intro wz hSw; obtain ⟨-, hSc⟩ := hSw; (try simp only [List.forall_mem_cons, List.forall_mem_nil, and_true] at hSc); go_simp; (first | done | with_reducible rfl)); (intro K hK; (try simp only [Act.put, List.setIfInBounds_toArray, List.set_cons_zero, List.set_cons_succ]); refine hK _ _ ?_; clear hK K)) | (refine m_skip (by rfl) (by rfl) ?_; (intro K hK; (try simp only [Act.put, List.setIfInBounds_toArray, List.set_cons_zero, List.set_cons_succ]); refine hK _ _ ?_; clear hK K)))
      refine m_nil ?_
      intro wg hSg hAg
      have eg := hid (eVf.out.trans hSg.1)
      clear hSg hAg
      go_wp2_with fail
      exact hR.out _ _ ⟨rfl, eg.out⟩
    · have cb : (rightS y != 0) = true := by simp [c]
      replace c := hid c
      refine wp_region_mono (Sees wf [(⟨p, 0, none⟩, .int .i64 r.kind), (⟨p, 1, none⟩, .slice sr r.shape.length cr), (⟨p, 2, none⟩, .slice nr r.nums.length mr), (⟨p, 3, none⟩, .slice ir r.items.length jr), (⟨w.heap.size, 0, none⟩, .int .i64 y.kind), (⟨w.heap.size, 1, none⟩, .slice sy y.shape.length cy), (⟨w.heap.size, 2, none⟩, .slice ny y.nums.length my), (⟨w.heap.size, 3, none⟩, .slice iy y.items.length jy)]) [1, 10] (fun k v u u' => match k with | 1 => v = .int .i64 (rightS y) | 10 => v = .bool true | _ => False) (fun _ _ h e => h.up e) (Sees.start (all_cons (Hrf.c0) (all_cons (Hrf.c1) (all_cons (Hrf.c2) (all_cons (Hrf.c3) (all_cons (HVf.c0) (all_cons (HVf.c1) (all_cons (HVf.c2) (all_cons (HVf.c3) (all_nil)))))))))) (by kernel_rfl) (by kernel_rfl) ?_
      repeat (first | (refine m_plain (v := ?_) (by rfl) (by rfl) ?_ ?_; rotate_left; (intro wz hSw; obtain ⟨-, hSc⟩ := hSw; (try simp only [List.forall_mem_cons, List.forall_mem_nil, and_true] at hSc); go_simp; (first | done | with_reducible rfl)); (intro K hK; (try simp only [Act.put, List.setIfInBounds_toArray, List.set_cons_zero, List.set_cons_succ]); refine hK _ _ ?_; clear hK K)) | (refine m_skip (by rfl) (by rfl) ?_; (intro K hK; (try simp only [Act.put, List.setIfInBounds_toArray, List.set_cons_zero, List.set_cons_succ]); refine hK _ _ ?_; clear hK K)))
      refine m_make (by rfl) (by rfl) ?_ ?_
      · intro wz hSw hdep R hRz
        obtain ⟨hSe, hSc⟩ := hSw
        (try simp only [List.forall_mem_cons, List.forall_mem_nil, and_true] at hSc)
        unfold does
        (go_simp; refine Calls.mono (ref03_Right y _ _ _ _ _ _ _ wz (AYf.out.up hSe)) ?_; rintro e wq ⟨rfl, hqb⟩; exact ⟨_, rfl, hRz.out _ _ ⟨hqb, rfl⟩⟩)
      intro v1 u1 x1 hG1 K hK
      have hF1 := hG1.fact
      (try dsimp only at hF1)
      subst hF1
      (try simp only [Act.put, List.setIfInBounds_toArray, List.set_cons_zero, List.set_cons_succ]); refine hK _ _ ?_; clear hK K
      repeat (first | (refine m_plain (v := ?_) (by rfl) (by rfl) ?_ ?_; rotate_left; (intro wz hSw; obtain ⟨-, hSc⟩ := hSw; (try simp only [List.forall_mem_cons, List.forall_mem_nil, and_true] at hSc); go_simp; (first | done | with_reducible rfl)); (intro K hK; (try simp only [Act.put, List.setIfInBounds_toArray, List.set_cons_zero, List.set_cons_succ]); refine hK _ _ ?_; clear hK K)) | (refine m_skip (by rfl) (by rfl) ?_; (intro K hK; (try simp only [Act.put, List.setIfInBounds_toArray, List.set_cons_zero, List.set_cons_succ]); refine hK _ _ ?_; clear hK K)))
      refine m_make (by rfl) (by rfl) ?_ ?_
      · intro wz hSw hdep R hRz
        obtain ⟨hSe, hSc⟩ := hSw
        (try simp only [List.forall_mem_cons, List.forall_mem_nil, and_true] at hSc)
        unfold does
        (go_simp; refine Calls.mono (law22_lives wz) ?_; rintro e wq ⟨rfl, hqb⟩; exact ⟨_, rfl, hRz.out _ _ ⟨hqb, rfl⟩⟩)
      intro v10 u10 x10 hG10 K hK
      have hF10 := hG10.fact
      (try dsimp only at hF10)
      subst hF10
      (try simp only [Act.put, List.setIfInBounds_toArray, List.set_cons_zero, List.set_cons_succ]); refine hK _ _ ?_; clear hK K
      repeat (first | (refine m_plain (v := ?_) (by rfl) (by rfl) ?_ ?_; rotate_left; (intro wz hSw; obtain ⟨-, hSc⟩ := hSw; (try simp only [List.forall_mem_cons, List.forall_mem_nil, and_true] at hSc); go_simp; (first | done | with_reducible rfl)); (intro K hK; (try simp only [Act.put, List.setIfInBounds_toArray, List.set_cons_zero, List.set_cons_succ]); refine hK _ _ ?_; clear hK K)) | (refine m_skip (by rfl) (by rfl) ?_; (intro K hK; (try simp only [Act.put, List.setIfInBounds_toArray, List.set_cons_zero, List.set_cons_succ]); refine hK _ _ ?_; clear hK K)))
      refine m_nil ?_
      intro wg hSg hAg
      have eg := hid (eVf.out.trans hSg.1)
      clear hSg hAg
      go_wp2_with fail
      exact hR.out _ _ ⟨rfl, eg.out⟩
end Go.Proofs.Ytmclggonmekanaa
