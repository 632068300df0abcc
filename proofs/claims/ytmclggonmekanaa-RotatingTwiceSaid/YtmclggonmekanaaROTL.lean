/- The statements about package rotating: each returns true. Condition: the arrays are read. -/
import Derived.Test.YtmclggonmekanaaLAW22
import Derived.Test.YtmclggonmekanaaGLAW
set_option linter.unusedVariables false
set_option linter.unusedSimpArgs false
namespace Go.Proofs.Ytmclggonmekanaa
open Go.RowKit Go.Sort
attribute [local go_sem ↓] run_max2 run_min2
attribute [local go_sem] eql_ints_nil eql_arrs_nil
set_option maxRecDepth 100000 in
set_option maxHeartbeats 4000000 in
theorem law22_reverse (y : Arr) (sy : Option Addr) (cy : Nat) (ny : Option Addr) (my : Nat) (iy : Option Addr) (jy : Nat) (S : Nat → Prop) (w : World) (h : ArrAt w S y sy ny iy) : Calls Try.prog 7 #[.agg #[.int .i64 y.kind, .slice sy y.shape.length cy, .slice ny y.nums.length my, .slice iy y.items.length jy]] w fun e w' => e = .returned (.bool true) ∧ Below w.heap.size w w' := by
  refine calls_post fun R' hR => ?_
  have h0 := hid h
  clear h
  go_enter Try.func7, Try.ntmps7
  go_wp2_with fail
  generalize hEW : (w).alloc (.cells #[.int .i64 y.kind, .slice sy y.shape.length cy, .slice ny y.nums.length my, .slice iy y.items.length jy] 46) = W
  obtain ⟨hyW, heW, zW⟩ := boxes1 w hEW
  clear hEW
  refine (law22_small y _ _ _ _ _ _ S W (h0.out.up heW)).mono ?_
  rintro e w1 ⟨b, rfl, hb1⟩
  have e1 := hid (heW.trans hb1)
  have H1 := hyW.up hb1
  have A1 := hid (h0.out.up e1.out)
  clear hb1 hyW heW
  cases b with
  | false =>
    go_wp2_with (go_at_call 28; refine (law22_lives w1).mono ?_; rintro e w2 ⟨rfl, hb2⟩)
    exact hR.out _ _ ⟨rfl, e1.out.trans hb2⟩
  | true =>
    obtain ⟨y0, y1, y2, y3⟩ := H1.all
    go_wp2_with fail
    refine (rotating_Reverse y _ _ _ _ _ _ _ w1 A1.out).mono ?_
    rintro e w2 ⟨sr, cr, nr, mr, ir, jr, rfl, hA2, hb2⟩
    have H2 := H1.up hb2
    have e2 := hid (e1.out.trans hb2)
    have A2 := hid (A1.out.up hb2)
    obtain ⟨r, hr⟩ : ∃ r, r = revS y := ⟨_, rfl⟩
    rw [← hr] at hA2
    rw [← hr]
    have HA2 := hid hA2
    replace hr := hid hr
    clear hb2 hA2 y0 y1 y2 y3
    go_wp2_with fail
    have Hr := hdr_new w2 (.int .i64 r.kind) (.slice sr r.shape.length cr) (.slice nr r.nums.length mr) (.slice ir r.items.length jr)
    have ea := ext_alloc w2 (.cells #[.int .i64 r.kind, .slice sr r.shape.length cr, .slice nr r.nums.length mr, .slice ir r.items.length jr] 46)
    generalize w2.alloc (.cells #[.int .i64 r.kind, .slice sr r.shape.length cr, .slice nr r.nums.length mr, .slice ir r.items.length jr] 46) = V at *
    have HV := H2.up ea
    have AY := hid (A2.out.up ea)
    have AR := hid (HA2.out.up ea)
    have eV := hid (e2.out.trans ea)
    clear H1 H2 ea
    generalize w2.heap.size = p at *
    have s3 : Hid (sameB r r = true) := hid (sameB_self _)
    refine wp_region_mono (Sees V [(⟨p, 0, none⟩, .int .i64 r.kind), (⟨p, 1, none⟩, .slice sr r.shape.length cr), (⟨p, 2, none⟩, .slice nr r.nums.length mr), (⟨p, 3, none⟩, .slice ir r.items.length jr), (⟨w.heap.size, 0, none⟩, .int .i64 y.kind), (⟨w.heap.size, 1, none⟩, .slice sy y.shape.length cy), (⟨w.heap.size, 2, none⟩, .slice ny y.nums.length my), (⟨w.heap.size, 3, none⟩, .slice iy y.items.length jy)]) [2, 3] (fun k v u u' => match k with | 2 => RetA u (fun _ => True) r (.returned v) u' | 3 => v = .bool true | _ => False) (fun _ _ h e => h.up e) (Sees.start (all_cons (Hr.c0) (all_cons (Hr.c1) (all_cons (Hr.c2) (all_cons (Hr.c3) (all_cons (HV.c0) (all_cons (HV.c1) (all_cons (HV.c2) (all_cons (HV.c3) (all_nil)))))))))) (by kernel_rfl) (by kernel_rfl) ?_
    repeat (first | (refine m_plain (v := ?_) (by rfl) (by rfl) ?_ ?_; rotate_left; (intro wz hSw; obtain ⟨-, hSc⟩ := hSw; (try simp only [List.forall_mem_cons, List.forall_mem_nil, and_true] at hSc); go_simp; (first | done | with_reducible rfl)); (intro K hK; (try simp only [Act.put, List.setIfInBounds_toArray, List.set_cons_zero, List.set_cons_succ]); refine hK _ _ ?_; clear hK K)) | (refine m_skip (by rfl) (by rfl) ?_; (intro K hK; (try simp only [Act.put, List.setIfInBounds_toArray, List.set_cons_zero, List.set_cons_succ]); refine hK _ _ ?_; clear hK K)))
    refine m_make (by rfl) (by rfl) ?_ ?_
    · intro wz hSw hdep R hRz
      obtain ⟨hSe, hSc⟩ := hSw
      (try simp only [List.forall_mem_cons, List.forall_mem_nil, and_true] at hSc)
      unfold does
      (go_simp; refine Calls.mono (ref22_Reverse y _ _ _ _ _ _ _ wz (AY.out.up hSe)) ?_; intro e wq h; (try rw [← hr.out] at h); obtain ⟨ta, tc, tn, tnc, ti, tic, rfl, hq, hqb⟩ := h; exact ⟨_, rfl, hRz.out _ _ ⟨hqb, ta, tc, tn, tnc, ti, tic, rfl, hq, hqb⟩⟩)
    intro v2 u2 x2 hG2 K hK
    have hF2 := hG2.fact
    (try dsimp only at hF2)
    obtain ⟨s2, c2, n2, m2, i2, j2, he, hA2, hb2⟩ := hF2
    injection he with he
    subst he
    (try simp only [Act.put, List.setIfInBounds_toArray, List.set_cons_zero, List.set_cons_succ]); refine hK _ _ ?_; clear hK K
    repeat (first | (refine m_plain (v := ?_) (by rfl) (by rfl) ?_ ?_; rotate_left; (intro wz hSw; obtain ⟨-, hSc⟩ := hSw; (try simp only [List.forall_mem_cons, List.forall_mem_nil, and_true] at hSc); go_simp; (first | done | with_reducible rfl)); (intro K hK; (try simp only [Act.put, List.setIfInBounds_toArray, List.set_cons_zero, List.set_cons_succ]); refine hK _ _ ?_; clear hK K)) | (refine m_skip (by rfl) (by rfl) ?_; (intro K hK; (try simp only [Act.put, List.setIfInBounds_toArray, List.set_cons_zero, List.set_cons_succ]); refine hK _ _ ?_; clear hK K)))
    refine m_make (by rfl) (by rfl) ?_ ?_
    · intro wz hSw hdep R hRz
      obtain ⟨hSe, hSc⟩ := hSw
      (try simp only [List.forall_mem_cons, List.forall_mem_nil, and_true] at hSc)
      unfold does
      (go_simp; refine Calls.mono (ref03_Same r r _ _ _ _ _ _ _ _ _ _ _ _ _ _ wz (AR.out.up hSe) (hA2.up (hdep 2 _ rfl (depB_sound (f := 60) (by kernel_rfl))))) ?_; rintro e wq ⟨rfl, hqb⟩; rw [s3.out]; exact ⟨_, rfl, hRz.out _ _ ⟨hqb, rfl⟩⟩)
    intro v3 u3 x3 hG3 K hK
    have hF3 := hG3.fact
    (try dsimp only at hF3)
    subst hF3
    (try simp only [Act.put, List.setIfInBounds_toArray, List.set_cons_zero, List.set_cons_succ]); refine hK _ _ ?_; clear hK K
    repeat (first | (refine m_plain (v := ?_) (by rfl) (by rfl) ?_ ?_; rotate_left; (intro wz hSw; obtain ⟨-, hSc⟩ := hSw; (try simp only [List.forall_mem_cons, List.forall_mem_nil, and_true] at hSc); go_simp; (first | done | with_reducible rfl)); (intro K hK; (try simp only [Act.put, List.setIfInBounds_toArray, List.set_cons_zero, List.set_cons_succ]); refine hK _ _ ?_; clear hK K)) | (refine m_skip (by rfl) (by rfl) ?_; (intro K hK; (try simp only [Act.put, List.setIfInBounds_toArray, List.set_cons_zero, List.set_cons_succ]); refine hK _ _ ?_; clear hK K)))
    refine m_nil ?_
    intro wf hSf hAf
    have ef := hSf.1
    have Hrf := Hr.up ef
    have HVf := HV.up ef
    have AYf := hid (AY.out.up ef)
    have ARf := hid (AR.out.up ef)
    have eVf := hid (eV.out.trans ef)
    clear hSf hAf hG2 hG3 hA2 hb2 ef
    go_wp2_with fail
    by_cases c : rightS y = 0
    · have cb : (rightS y != 0) = false := by simp [c]
      have hrr : Hid (y = revS r) := hid (by rw [hr.out]; exact (revS_rev c).symm)
      have s7 : Hid (sameB y y = true) := hid (sameB_self _)
      replace c := hid c
      refine wp_region_mono (Sees wf [(⟨p, 0, none⟩, .int .i64 r.kind), (⟨p, 1, none⟩, .slice sr r.shape.length cr), (⟨p, 2, none⟩, .slice nr r.nums.length mr), (⟨p, 3, none⟩, .slice ir r.items.length jr), (⟨w.heap.size, 0, none⟩, .int .i64 y.kind), (⟨w.heap.size, 1, none⟩, .slice sy y.shape.length cy), (⟨w.heap.size, 2, none⟩, .slice ny y.nums.length my), (⟨w.heap.size, 3, none⟩, .slice iy y.items.length jy)]) [1, 5, 7, 10] (fun k v u u' => match k with | 1 => v = .int .i64 (rightS y) | 5 => RetA u (fun _ => True) y (.returned v) u' | 7 => v = .bool true | 10 => v = .bool true | _ => False) (fun _ _ h e => h.up e) (Sees.start (all_cons (Hrf.c0) (all_cons (Hrf.c1) (all_cons (Hrf.c2) (all_cons (Hrf.c3) (all_cons (HVf.c0) (all_cons (HVf.c1) (all_cons (HVf.c2) (all_cons (HVf.c3) (all_nil)))))))))) (by kernel_rfl) (by kernel_rfl) ?_
      repeat (first | (refine m_plain (v := ?_) (by rfl) (by rfl) ?_ ?_; rotate_left; (intro wz hSw; obtain ⟨-, hSc⟩ := hSw; (try simp only [List.forall_mem_cons, List.forall_mem_nil, and_true] at hSc); go_simp; (first | done | with_reducible rfl)); (intro K hK; (try simp only [Act.put, List.setIfInBounds_toArray, List.set_cons_zero, List.set_cons_succ]); refine hK _ _ ?_; clear hK K)) | (refine m_skip (by rfl) (by rfl) ?_; (intro K hK; (try simp only [Act.put, List.setIfInBounds_toArray, List.set_cons_zero, List.set_cons_succ]); refine hK _ _ ?_; clear hK K)))
      refine m_make (by rfl) (by rfl) ?_ ?_
      · intro wz hSw hdep R hRz
        obtain ⟨hSe, hSc⟩ := hSw
        (try simp only [List.forall_mem_cons, List.forall_mem_nil, and_true] at hSc)
        unfold does
        (go_simp; refine Calls.mono (ref03_Right y _ _ _ _ _ _ _ wz (AYf.out.up hSe)) ?_; rintro e wq ⟨rfl, hqb⟩; exact ⟨_, rfl, hRz.out _ _ ⟨hqb, rfl⟩⟩)
      intro v1 u1 x1 hG1 K hK
      have hF1 := hG1.fact
      (try dsimp only at hF1)
      subst hF1
      (try simp only [Act.put, List.setIfInBounds_toArray, List.set_cons_zero, List.set_cons_succ]); refine hK _ _ ?_; clear hK K
      repeat (first | (refine m_plain (v := ?_) (by rfl) (by rfl) ?_ ?_; rotate_left; (intro wz hSw; obtain ⟨-, hSc⟩ := hSw; (try simp only [List.forall_mem_cons, List.forall_mem_nil, and_true] at hSc); go_simp; (first | done | with_reducible rfl)); (intro K hK; (try simp only [Act.put, List.setIfInBounds_toArray, List.set_cons_zero, List.set_cons_succ]); refine hK _ _ ?_; clear hK K)) | (refine m_skip (by rfl) (by rfl) ?_; (intro K hK; (try simp only [Act.put, List.setIfInBounds_toArray, List.set_cons_zero, List.set_cons_succ]); refine hK _ _ ?_; clear hK K)))
      refine m_make (by rfl) (by rfl) ?_ ?_
      · intro wz hSw hdep R hRz
        obtain ⟨hSe, hSc⟩ := hSw
        (try simp only [List.forall_mem_cons, List.forall_mem_nil, and_true] at hSc)
        unfold does
        (go_simp; refine Calls.mono (rotating_Reverse r _ _ _ _ _ _ _ wz (ARf.out.up hSe)) ?_; intro e wq h; rw [← hrr.out] at h; obtain ⟨ta, tc, tn, tnc, ti, tic, rfl, hq, hqb⟩ := h; exact ⟨_, rfl, hRz.out _ _ ⟨hqb, ta, tc, tn, tnc, ti, tic, rfl, ArrAt.mono (fun _ _ _ => trivial) _ hq, hqb⟩⟩)
      intro v5 u5 x5 hG5 K hK
      have hF5 := hG5.fact
      (try dsimp only at hF5)
      obtain ⟨s5, c5, n5, m5, i5, j5, he, hA5, hb5⟩ := hF5
      injection he with he
      subst he
      (try simp only [Act.put, List.setIfInBounds_toArray, List.set_cons_zero, List.set_cons_succ]); refine hK _ _ ?_; clear hK K
      repeat (first | (refine m_plain (v := ?_) (by rfl) (by rfl) ?_ ?_; rotate_left; (intro wz hSw; obtain ⟨-, hSc⟩ := hSw; (try simp only [List.forall_mem_cons, List.forall_mem_nil, and_true] at hSc); go_simp; (first | done | with_reducible rfl)); (intro K hK; (try simp only [Act.put, List.setIfInBounds_toArray, List.set_cons_zero, List.set_cons_succ]); refine hK _ _ ?_; clear hK K)) | (refine m_skip (by rfl) (by rfl) ?_; (intro K hK; (try simp only [Act.put, List.setIfInBounds_toArray, List.set_cons_zero, List.set_cons_succ]); refine hK _ _ ?_; clear hK K)))
      refine m_make (by rfl) (by rfl) ?_ ?_
      · intro wz hSw hdep R hRz
        obtain ⟨hSe, hSc⟩ := hSw
        (try simp only [List.forall_mem_cons, List.forall_mem_nil, and_true] at hSc)
        unfold does
        (go_simp; refine Calls.mono (ref03_Same y y _ _ _ _ _ _ _ _ _ _ _ _ _ _ wz (hA5.up (hdep 5 _ rfl (depB_sound (f := 60) (by kernel_rfl)))) (AYf.out.up hSe)) ?_; rintro e wq ⟨rfl, hqb⟩; rw [s7.out]; exact ⟨_, rfl, hRz.out _ _ ⟨hqb, rfl⟩⟩)
      intro v7 u7 x7 hG7 K hK
      have hF7 := hG7.fact
      (try dsimp only at hF7)
      subst hF7
      (try simp only [Act.put, List.setIfInBounds_toArray, List.set_cons_zero, List.set_cons_succ]); refine hK _ _ ?_; clear hK K
      repeat (first | (refine m_plain (v := ?_) (by rfl) (by rfl) ?_ ?_; rotate_left; (intro wz hSw; obtain ⟨-, hSc⟩ := hSw; (try simp only [List.forall_mem_cons, List.forall_mem_nil, and_true] at hSc); go_simp; (first | done | with_reducible rfl)); (intro K hK; (try simp only [Act.put, List.setIfInBounds_toArray, List.set_cons_zero, List.set_cons_succ]); refine hK _ _ ?_; clear hK K)) | (refine m_skip (by rfl) (by rfl) ?_; (intro K hK; (try simp only [Act.put, List.setIfInBounds_toArray, List.set_cons_zero, List.set_cons_succ]); refine hK _ _ ?_; clear hK K)))
      refine m_make (by rfl) (by rfl) ?_ ?_
      · intro wz hSw hdep R hRz
        obtain ⟨hSe, hSc⟩ := hSw
        (try simp only [List.forall_mem_cons, List.forall_mem_nil, and_true] at hSc)
        unfold does
        (go_simp; refine Calls.mono (law22_lives wz) ?_; rintro e wq ⟨rfl, hqb⟩; exact ⟨_, rfl, hRz.out _ _ ⟨hqb, rfl⟩⟩)
      intro v10 u10 x10 hG10 K hK
      have hF10 := hG10.fact
      (try dsimp only at hF10)
      subst hF10
      (try simp only [Act.put, List.setIfInBounds_toArray, List.set_cons_zero, List.set_cons_succ]); refine hK _ _ ?_; clear hK K
      repeat (first | (refine m_plain (v := ?_) (by rfl) (by rfl) ?_ ?_; rotate_left; (intro wz hSw; obtain ⟨-, hSc⟩ := hSw; (try simp only [List.forall_mem_cons, List.forall_mem_nil, and_true] at hSc); go_simp; (first | done | with_reducible rfl)); (intro K hK; (try simp only [Act.put, List.setIfInBounds_toArray, List.set_cons_zero, List.set_cons_succ]); refine hK _ _ ?_; clear hK K)) | (refine m_skip (by rfl) (by rfl) ?_; (intro K hK; (try simp only [Act.put, List.setIfInBounds_toArray, List.set_cons_zero, List.set_cons_succ]); refine hK _ _ ?_; clear hK K)))
      refine m_nil ?_
      intro wg hSg hAg
      have eg := hid (eVf.out.trans hSg.1)
      clear hSg hAg
      go_wp2_with fail
      exact hR.out _ _ ⟨rfl, eg.out⟩
    · have cb : (rightS y != 0) = true := by simp [c]
      replace c := hid c
      refine wp_region_mono (Sees wf [(⟨p, 0, none⟩, .int .i64 r.kind), (⟨p, 1, none⟩, .slice sr r.shape.length cr), (⟨p, 2, none⟩, .slice nr r.nums.length mr), (⟨p, 3, none⟩, .slice ir r.items.length jr), (⟨w.heap.size, 0, none⟩, .int .i64 y.kind), (⟨w.heap.size, 1, none⟩, .slice sy y.shape.length cy), (⟨w.heap.size, 2, none⟩, .slice ny y.nums.length my), (⟨w.heap.size, 3, none⟩, .slice iy y.items.length jy)]) [1, 10] (fun k v u u' => match k with | 1 => v = .int .i64 (rightS y) | 10 => v = .bool true | _ => False) (fun _ _ h e => h.up e) (Sees.start (all_cons (Hrf.c0) (all_cons (Hrf.c1) (all_cons (Hrf.c2) (all_cons (Hrf.c3) (all_cons (HVf.c0) (all_cons (HVf.c1) (all_cons (HVf.c2) (all_cons (HVf.c3) (all_nil)))))))))) (by kernel_rfl) (by kernel_rfl) ?_
      repeat (first | (refine m_plain (v := ?_) (by rfl) (by rfl) ?_ ?_; rotate_left; (intro wz hSw; obtain ⟨-, hSc⟩ := hSw; (try simp only [List.forall_mem_cons, List.forall_mem_nil, and_true] at hSc); go_simp; (first | done | with_reducible rfl)); (intro K hK; (try simp only [Act.put, List.setIfInBounds_toArray, List.set_cons_zero, List.set_cons_succ]); refine hK _ _ ?_; clear hK K)) | (refine m_skip (by rfl) (by rfl) ?_; (intro K hK; (try simp only [Act.put, List.setIfInBounds_toArray, List.set_cons_zero, List.set_cons_succ]); refine hK _ _ ?_; clear hK K)))
      refine m_make (by rfl) (by rfl) ?_ ?_
      · intro wz hSw hdep R hRz
        obtain ⟨hSe, hSc⟩ := hSw
        (try simp only [List.forall_mem_cons, List.forall_mem_nil, and_true] at hSc)
        unfold does
        (go_simp; refine Calls.mono (ref03_Right y _ _ _ _ _ _ _ wz (AYf.out.up hSe)) ?_; rintro e wq ⟨rfl, hqb⟩; exact ⟨_, rfl, hRz.out _ _ ⟨hqb, rfl⟩⟩)
      intro v1 u1 x1 hG1 K hK
      have hF1 := hG1.fact
      (try dsimp only at hF1)
      subst hF1
      (try simp only [Act.put, List.setIfInBounds_toArray, List.set_cons_zero, List.set_cons_succ]); refine hK _ _ ?_; clear hK K
      repeat (first | (refine m_plain (v := ?_) (by rfl) (by rfl) ?_ ?_; rotate_left; (intro wz hSw; obtain ⟨-, hSc⟩ := hSw; (try simp only [List.forall_mem_cons, List.forall_mem_nil, and_true] at hSc); go_simp; (first | done | with_reducible rfl)); (intro K hK; (try simp only [Act.put, List.setIfInBounds_toArray, List.set_cons_zero, List.set_cons_succ]); refine hK _ _ ?_; clear hK K)) | (refine m_skip (by rfl) (by rfl) ?_; (intro K hK; (try simp only [Act.put, List.setIfInBounds_toArray, List.set_cons_zero, List.set_cons_succ]); refine hK _ _ ?_; clear hK K)))
      refine m_make (by rfl) (by rfl) ?_ ?_
      · intro wz hSw hdep R hRz
        obtain ⟨hSe, hSc⟩ := hSw
        (try simp only [List.forall_mem_cons, List.forall_mem_nil, and_true] at hSc)
        unfold does
        (go_simp; refine Calls.mono (law22_lives wz) ?_; rintro e wq ⟨rfl, hqb⟩; exact ⟨_, rfl, hRz.out _ _ ⟨hqb, rfl⟩⟩)
      intro v10 u10 x10 hG10 K hK
      have hF10 := hG10.fact
      (try dsimp only at hF10)
      subst hF10
      (try simp only [Act.put, List.setIfInBounds_toArray, List.set_cons_zero, List.set_cons_succ]); refine hK _ _ ?_; clear hK K
      repeat (first | (refine m_plain (v := ?_) (by rfl) (by rfl) ?_ ?_; rotate_left; (intro wz hSw; obtain ⟨-, hSc⟩ := hSw; (try simp only [List.forall_mem_cons, List.forall_mem_nil, and_true] at hSc); go_simp; (first | done | with_reducible rfl)); (intro K hK; (try simp only [Act.put, List.setIfInBounds_toArray, List.set_cons_zero, List.set_cons_succ]); refine hK _ _ ?_; clear hK K)) | (refine m_skip (by rfl) (by rfl) ?_; (intro K hK; (try simp only [Act.put, List.setIfInBounds_toArray, List.set_cons_zero, List.set_cons_succ]); refine hK _ _ ?_; clear hK K)))
      refine m_nil ?_
      intro wg hSg hAg
      have eg := hid (eVf.out.trans hSg.1)
      clear hSg hAg
      go_wp2_with fail
      exact hR.out _ _ ⟨rfl, eg.out⟩
set_option maxRecDepth 100000 in
set_option maxHeartbeats 4000000 in
theorem law22_rotate (x : Arr) (sx : Option Addr) (cx : Nat) (nx : Option Addr) (mx : Nat) (ix : Option Addr) (jx : Nat) (y : Arr) (sy : Option Addr) (cy : Nat) (ny : Option Addr) (my : Nat) (iy : Option Addr) (jy : Nat) (S T : Nat → Prop) (w : World) (h : ArrAt w S x sx nx ix) (g : ArrAt w T y sy ny iy) : Calls Try.prog 8 #[.agg #[.int .i64 x.kind, .slice sx x.shape.length cx, .slice nx x.nums.length mx, .slice ix x.items.length jx], .agg #[.int .i64 y.kind, .slice sy y.shape.length cy, .slice ny y.nums.length my, .slice iy y.items.length jy]] w fun e w' => e = .returned (.bool true) ∧ Below w.heap.size w w' := by
  refine calls_post fun R' hR => ?_
  have h0 := hid h
  have g0 := hid g
  clear h g
  obtain ⟨r, hr⟩ : ∃ r, r = rotS x y := ⟨_, rfl⟩
  obtain ⟨n, hn⟩ : ∃ n, rotE x y = n := ⟨_, rfl⟩
  have s3 : Hid (sameB r r = true) := hid (sameB_self _)
  have nn : (n == n) = true := by simp
  replace hr := hid hr
  replace hn := hid hn
  go_enter Try.func8, Try.ntmps8
  go_wp2_with fail
  generalize hEW : ((w).alloc (.cells #[.int .i64 x.kind, .slice sx x.shape.length cx, .slice nx x.nums.length mx, .slice ix x.items.length jx] 46)).alloc (.cells #[.int .i64 y.kind, .slice sy y.shape.length cy, .slice ny y.nums.length my, .slice iy y.items.length jy] 46) = W
  obtain ⟨hxW, hyW, heW, zW⟩ := boxes2 w hEW
  clear hEW
  refine (law22_small x _ _ _ _ _ _ S W (h0.out.up heW)).mono ?_
  rintro e w1 ⟨b1, rfl, hb1⟩
  have e1 := hid (heW.trans hb1)
  have X1 := hxW.up hb1
  have Y1 := hyW.up hb1
  clear hb1 hyW hxW heW
  obtain ⟨y0, y1, y2, y3⟩ := Y1.all
  cases b1 with
  | false =>
    go_wp2_with (go_at_call 28; refine (law22_lives w1).mono ?_; rintro e w2 ⟨rfl, hb2⟩)
    exact hR.out _ _ ⟨rfl, e1.out.trans hb2⟩
  | true =>
  go_wp2_with fail
  refine (law22_small y _ _ _ _ _ _ T w1 (g0.out.up e1.out)).mono ?_
  rintro e V ⟨b2, rfl, hb2⟩
  have eV := hid (e1.out.trans hb2)
  have HX := X1.up hb2
  have HY := Y1.up hb2
  have AX := hid (h0.out.up eV.out)
  have AY := hid (g0.out.up eV.out)
  clear hb2 X1 Y1 e1 y0 y1 y2 y3
  cases b2 with
  | false =>
    go_wp2_with (go_at_call 28; refine (law22_lives V).mono ?_; rintro e w2 ⟨rfl, hb2⟩)
    exact hR.out _ _ ⟨rfl, eV.out.trans hb2⟩
  | true =>
  go_upto_region 3 with (fail)
  refine wp_region_seq_tail 7 (Sees V [(⟨w.heap.size, 0, none⟩, .int .i64 x.kind), (⟨w.heap.size, 1, none⟩, .slice sx x.shape.length cx), (⟨w.heap.size, 2, none⟩, .slice nx x.nums.length mx), (⟨w.heap.size, 3, none⟩, .slice ix x.items.length jx), (⟨w.heap.size + 1, 0, none⟩, .int .i64 y.kind), (⟨w.heap.size + 1, 1, none⟩, .slice sy y.shape.length cy), (⟨w.heap.size + 1, 2, none⟩, .slice ny y.nums.length my), (⟨w.heap.size + 1, 3, none⟩, .slice iy y.items.length jy)]) [2, 6] (fun k v u u' => match k with | 2 => RetAE u (fun b => u.heap.size ≤ b) r (n) (.returned v) u' | 6 => v = .pointer (some ⟨u.heap.size, 0, none⟩) ∧ u' = u.alloc (.cells #[.int .i64 0, .slice none 0 0, .slice none 0 0, .slice none 0 0] 46) | _ => False) (fun _ _ h e => h.up e) (Sees.start (all_cons (HX.c0) (all_cons (HX.c1) (all_cons (HX.c2) (all_cons (HX.c3) (all_cons (HY.c0) (all_cons (HY.c1) (all_cons (HY.c2) (all_cons (HY.c3) (all_nil)))))))))) ?_
  simp only [List.take_succ_cons, List.take_zero, List.drop_succ_cons, List.drop_zero]
  repeat (first | (refine m_plain (v := ?_) (by rfl) (by rfl) ?_ ?_; rotate_left; (intro wz hSw; obtain ⟨-, hSc⟩ := hSw; (try simp only [List.forall_mem_cons, List.forall_mem_nil, and_true] at hSc); go_simp; (first | done | with_reducible rfl)); (intro K hK; (try simp only [Act.put, List.setIfInBounds_toArray, List.set_cons_zero, List.set_cons_succ]); refine hK _ _ ?_; clear hK K)) | (refine m_skip (by rfl) (by rfl) ?_; (intro K hK; (try simp only [Act.put, List.setIfInBounds_toArray, List.set_cons_zero, List.set_cons_succ]); refine hK _ _ ?_; clear hK K)))
  refine m_make (by rfl) (by rfl) ?_ ?_
  · intro wz hSw hdep R hRz
    obtain ⟨hSe, hSc⟩ := hSw
    (try simp only [List.forall_mem_cons, List.forall_mem_nil, and_true] at hSc)
    unfold does
    (go_simp; refine Calls.mono (rotating_Rotate x _ _ _ _ _ _ y _ _ _ _ _ _ _ _ wz (AX.out.up hSe) (AY.out.up hSe)) ?_; intro e wq h; rw [← hr.out, hn.out] at h; obtain ⟨ta, tc, tn, tnc, ti, tic, rfl, hq, hqb⟩ := h; exact ⟨_, rfl, hRz.out _ _ ⟨hqb, ta, tc, tn, tnc, ti, tic, rfl, hq, hqb⟩⟩)
  intro v2 u2 x2 hG2 K hK
  have hF2 := hG2.fact
  (try dsimp only at hF2)
  obtain ⟨s2, c2, n2, m2, i2, j2, he, hA2, hb2⟩ := hF2
  injection he with he
  subst he
  (try simp only [Act.put, List.setIfInBounds_toArray, List.set_cons_zero, List.set_cons_succ]); refine hK _ _ ?_; clear hK K
  repeat (first | (refine m_plain (v := ?_) (by rfl) (by rfl) ?_ ?_; rotate_left; (intro wz hSw; obtain ⟨-, hSc⟩ := hSw; (try simp only [List.forall_mem_cons, List.forall_mem_nil, and_true] at hSc); go_simp; (first | done | with_reducible rfl)); (intro K hK; (try simp only [Act.put, List.setIfInBounds_toArray, List.set_cons_zero, List.set_cons_succ]); refine hK _ _ ?_; clear hK K)) | (refine m_skip (by rfl) (by rfl) ?_; (intro K hK; (try simp only [Act.put, List.setIfInBounds_toArray, List.set_cons_zero, List.set_cons_succ]); refine hK _ _ ?_; clear hK K)))
  refine m_make (by rfl) (by rfl) ?_ ?_
  · intro wz hSw hdep R hRz
    obtain ⟨hSe, hSc⟩ := hSw
    (try simp only [List.forall_mem_cons, List.forall_mem_nil, and_true] at hSc)
    unfold does
    (go_simp; exact hRz.out _ _ ⟨ext_alloc _ _, rfl, rfl⟩)
  intro v6 u6 x6 hG6 K hK
  have hF6 := hG6.fact
  (try dsimp only at hF6)
  obtain ⟨rfl, rfl⟩ := hF6
  (try simp only [Act.put, List.setIfInBounds_toArray, List.set_cons_zero, List.set_cons_succ]); refine hK _ _ ?_; clear hK K
  repeat (first | (refine m_plain (v := ?_) (by rfl) (by rfl) ?_ ?_; rotate_left; (intro wz hSw; obtain ⟨-, hSc⟩ := hSw; (try simp only [List.forall_mem_cons, List.forall_mem_nil, and_true] at hSc); go_simp; (first | done | with_reducible rfl)); (intro K hK; (try simp only [Act.put, List.setIfInBounds_toArray, List.set_cons_zero, List.set_cons_succ]); refine hK _ _ ?_; clear hK K)) | (refine m_skip (by rfl) (by rfl) ?_; (intro K hK; (try simp only [Act.put, List.setIfInBounds_toArray, List.set_cons_zero, List.set_cons_succ]); refine hK _ _ ?_; clear hK K)))
  refine m_nil ?_
  intro wf hSf hAf
  have o6 := hG6.order 2 _ rfl
  refine wpl_var (by rfl) (.tmp 5) (.tmp 22) (by rfl) u6.heap.size (by rfl) (by rfl) (made_blk (hAf 6 _ rfl : Ext (u6.alloc _) wf)) ((ArrAt.mono (T := fun b => u2.heap.size ≤ b ∧ b < x2.heap.size) (fun b hb hh => ⟨hh, hb⟩) _ hA2).up (hAf 2 _ rfl)) (fun q hq => ord_out o6 hq.1 hq.2) hSf.1 (Below.size hG6.s.1) ?_
  intro V1 hV1 eV1
  clear hG2 hG6 hSf hAf hA2 hb2 o6
  generalize u6.heap.size = p1 at *
  have HX1 := HX.up eV1
  have HY1 := HY.up eV1
  have AX1 := hid (AX.out.up eV1)
  have AY1 := hid (AY.out.up eV1)
  go_upto_region 4 with (fail)
  refine wp_region_seq_tail 7 (Sees V1 [(⟨w.heap.size, 0, none⟩, .int .i64 x.kind), (⟨w.heap.size, 1, none⟩, .slice sx x.shape.length cx), (⟨w.heap.size, 2, none⟩, .slice nx x.nums.length mx), (⟨w.heap.size, 3, none⟩, .slice ix x.items.length jx), (⟨w.heap.size + 1, 0, none⟩, .int .i64 y.kind), (⟨w.heap.size + 1, 1, none⟩, .slice sy y.shape.length cy), (⟨w.heap.size + 1, 2, none⟩, .slice ny y.nums.length my), (⟨w.heap.size + 1, 3, none⟩, .slice iy y.items.length jy)]) [2, 6] (fun k v u u' => match k with | 2 => RetAE u (fun _ => True) r (n) (.returned v) u' | 6 => v = .pointer (some ⟨u.heap.size, 0, none⟩) ∧ u' = u.alloc (.cells #[.int .i64 0, .slice none 0 0, .slice none 0 0, .slice none 0 0] 46) | _ => False) (fun _ _ h e => h.up e) (Sees.start (all_cons (HX1.c0) (all_cons (HX1.c1) (all_cons (HX1.c2) (all_cons (HX1.c3) (all_cons (HY1.c0) (all_cons (HY1.c1) (all_cons (HY1.c2) (all_cons (HY1.c3) (all_nil)))))))))) ?_
  simp only [List.take_succ_cons, List.take_zero, List.drop_succ_cons, List.drop_zero]
  repeat (first | (refine m_plain (v := ?_) (by rfl) (by rfl) ?_ ?_; rotate_left; (intro wz hSw; obtain ⟨-, hSc⟩ := hSw; (try simp only [List.forall_mem_cons, List.forall_mem_nil, and_true] at hSc); go_simp; (first | done | with_reducible rfl)); (intro K hK; (try simp only [Act.put, List.setIfInBounds_toArray, List.set_cons_zero, List.set_cons_succ]); refine hK _ _ ?_; clear hK K)) | (refine m_skip (by rfl) (by rfl) ?_; (intro K hK; (try simp only [Act.put, List.setIfInBounds_toArray, List.set_cons_zero, List.set_cons_succ]); refine hK _ _ ?_; clear hK K)))
  refine m_make (by rfl) (by rfl) ?_ ?_
  · intro wz hSw hdep R hRz
    obtain ⟨hSe, hSc⟩ := hSw
    (try simp only [List.forall_mem_cons, List.forall_mem_nil, and_true] at hSc)
    unfold does
    (go_simp; refine Calls.mono (ref22_Rotate x _ _ _ _ _ _ y _ _ _ _ _ _ _ _ wz (AX1.out.up hSe) (AY1.out.up hSe)) ?_; intro e wq h; rw [← hr.out, hn.out] at h; obtain ⟨ta, tc, tn, tnc, ti, tic, rfl, hq, hqb⟩ := h; exact ⟨_, rfl, hRz.out _ _ ⟨hqb, ta, tc, tn, tnc, ti, tic, rfl, hq, hqb⟩⟩)
  intro v2 u2 x2 hG2 K hK
  have hF2 := hG2.fact
  (try dsimp only at hF2)
  obtain ⟨s2, c2, n2, m2, i2, j2, he, hA2, hb2⟩ := hF2
  injection he with he
  subst he
  (try simp only [Act.put, List.setIfInBounds_toArray, List.set_cons_zero, List.set_cons_succ]); refine hK _ _ ?_; clear hK K
  repeat (first | (refine m_plain (v := ?_) (by rfl) (by rfl) ?_ ?_; rotate_left; (intro wz hSw; obtain ⟨-, hSc⟩ := hSw; (try simp only [List.forall_mem_cons, List.forall_mem_nil, and_true] at hSc); go_simp; (first | done | with_reducible rfl)); (intro K hK; (try simp only [Act.put, List.setIfInBounds_toArray, List.set_cons_zero, List.set_cons_succ]); refine hK _ _ ?_; clear hK K)) | (refine m_skip (by rfl) (by rfl) ?_; (intro K hK; (try simp only [Act.put, List.setIfInBounds_toArray, List.set_cons_zero, List.set_cons_succ]); refine hK _ _ ?_; clear hK K)))
  refine m_make (by rfl) (by rfl) ?_ ?_
  · intro wz hSw hdep R hRz
    obtain ⟨hSe, hSc⟩ := hSw
    (try simp only [List.forall_mem_cons, List.forall_mem_nil, and_true] at hSc)
    unfold does
    (go_simp; exact hRz.out _ _ ⟨ext_alloc _ _, rfl, rfl⟩)
  intro v6 u6 x6 hG6 K hK
  have hF6 := hG6.fact
  (try dsimp only at hF6)
  obtain ⟨rfl, rfl⟩ := hF6
  (try simp only [Act.put, List.setIfInBounds_toArray, List.set_cons_zero, List.set_cons_succ]); refine hK _ _ ?_; clear hK K
  repeat (first | (refine m_plain (v := ?_) (by rfl) (by rfl) ?_ ?_; rotate_left; (intro wz hSw; obtain ⟨-, hSc⟩ := hSw; (try simp only [List.forall_mem_cons, List.forall_mem_nil, and_true] at hSc); go_simp; (first | done | with_reducible rfl)); (intro K hK; (try simp only [Act.put, List.setIfInBounds_toArray, List.set_cons_zero, List.set_cons_succ]); refine hK _ _ ?_; clear hK K)) | (refine m_skip (by rfl) (by rfl) ?_; (intro K hK; (try simp only [Act.put, List.setIfInBounds_toArray, List.set_cons_zero, List.set_cons_succ]); refine hK _ _ ?_; clear hK K)))
  refine m_nil ?_
  intro wf hSf hAf
  have o6 := Below.size (hG6.dep 2 _ rfl trivial)
  refine wpl_var (by rfl) (.tmp 7) (.tmp 28) (by rfl) u6.heap.size (by rfl) (by rfl) (made_blk (hAf 6 _ rfl : Ext (u6.alloc _) wf)) ((ArrAt.mono (T := fun b => b < x2.heap.size) (fun b hb hh => hb) _ hA2).up (hAf 2 _ rfl)) (fun q hq => Nat.ne_of_lt (Nat.lt_of_lt_of_le hq o6)) hSf.1 (Below.size hG6.s.1) ?_
  intro V2 hV2 eV2
  clear hG2 hG6 hSf hAf hA2 hb2 o6
  generalize u6.heap.size = p2 at *
  obtain ⟨sa, ca, na, ma, ia, ja, Ha, Aa⟩ := hV1.up eV2
  obtain ⟨sb, cb, nb, mb, ib, jb, Hb, Ab⟩ := hV2
  have eF := hid (eV.out.trans (eV1.trans eV2))
  clear hV1 HX1 HY1 HX HY
  go_upto_region 5 with (fail)
  refine wp_region_seq_tail 12 (Sees V2 [(⟨p1, 0, none⟩, .int .i64 r.kind), (⟨p1, 1, none⟩, .slice sa r.shape.length ca), (⟨p1, 2, none⟩, .slice na r.nums.length ma), (⟨p1, 3, none⟩, .slice ia r.items.length ja), (⟨p2, 0, none⟩, .int .i64 r.kind), (⟨p2, 1, none⟩, .slice sb r.shape.length cb), (⟨p2, 2, none⟩, .slice nb r.nums.length mb), (⟨p2, 3, none⟩, .slice ib r.items.length jb)]) [6, 9] (fun k v u u' => match k with | 6 => v = .bool true | 9 => v = .bool true | _ => False) (fun _ _ h e => h.up e) (Sees.start (all_cons (Ha.c0) (all_cons (Ha.c1) (all_cons (Ha.c2) (all_cons (Ha.c3) (all_cons (Hb.c0) (all_cons (Hb.c1) (all_cons (Hb.c2) (all_cons (Hb.c3) (all_nil)))))))))) ?_
  simp only [List.take_succ_cons, List.take_zero, List.drop_succ_cons, List.drop_zero]
  repeat (first | (refine m_plain (v := ?_) (by rfl) (by rfl) ?_ ?_; rotate_left; (intro wz hSw; obtain ⟨-, hSc⟩ := hSw; (try simp only [List.forall_mem_cons, List.forall_mem_nil, and_true] at hSc); go_simp; (first | done | with_reducible rfl)); (intro K hK; (try simp only [Act.put, List.setIfInBounds_toArray, List.set_cons_zero, List.set_cons_succ]); refine hK _ _ ?_; clear hK K)) | (refine m_skip (by rfl) (by rfl) ?_; (intro K hK; (try simp only [Act.put, List.setIfInBounds_toArray, List.set_cons_zero, List.set_cons_succ]); refine hK _ _ ?_; clear hK K)))
  refine m_make (by rfl) (by rfl) ?_ ?_
  · intro wz hSw hdep R hRz
    obtain ⟨hSe, hSc⟩ := hSw
    (try simp only [List.forall_mem_cons, List.forall_mem_nil, and_true] at hSc)
    unfold does
    (go_simp; refine Calls.mono (ref03_Same r r _ _ _ _ _ _ _ _ _ _ _ _ _ _ wz (Aa.up hSe) (Ab.up hSe)) ?_; rintro e wq ⟨rfl, hqb⟩; rw [s3.out]; exact ⟨_, rfl, hRz.out _ _ ⟨hqb, rfl⟩⟩)
  intro v6 u6 x6 hG6 K hK
  have hF6 := hG6.fact
  (try dsimp only at hF6)
  subst hF6
  (try simp only [Act.put, List.setIfInBounds_toArray, List.set_cons_zero, List.set_cons_succ]); refine hK _ _ ?_; clear hK K
  repeat (first | (refine m_plain (v := ?_) (by rfl) (by rfl) ?_ ?_; rotate_left; (intro wz hSw; obtain ⟨-, hSc⟩ := hSw; (try simp only [List.forall_mem_cons, List.forall_mem_nil, and_true] at hSc); go_simp; (first | done | with_reducible rfl)); (intro K hK; (try simp only [Act.put, List.setIfInBounds_toArray, List.set_cons_zero, List.set_cons_succ]); refine hK _ _ ?_; clear hK K)) | (refine m_skip (by rfl) (by rfl) ?_; (intro K hK; (try simp only [Act.put, List.setIfInBounds_toArray, List.set_cons_zero, List.set_cons_succ]); refine hK _ _ ?_; clear hK K)))
  refine m_make (by rfl) (by rfl) ?_ ?_
  · intro wz hSw hdep R hRz
    obtain ⟨hSe, hSc⟩ := hSw
    (try simp only [List.forall_mem_cons, List.forall_mem_nil, and_true] at hSc)
    unfold does
    (go_simp; refine Calls.mono (law22_lives wz) ?_; rintro e wq ⟨rfl, hqb⟩; exact ⟨_, rfl, hRz.out _ _ ⟨hqb, rfl⟩⟩)
  intro v9 u9 x9 hG9 K hK
  have hF9 := hG9.fact
  (try dsimp only at hF9)
  subst hF9
  (try simp only [Act.put, List.setIfInBounds_toArray, List.set_cons_zero, List.set_cons_succ]); refine hK _ _ ?_; clear hK K
  repeat (first | (refine m_plain (v := ?_) (by rfl) (by rfl) ?_ ?_; rotate_left; (intro wz hSw; obtain ⟨-, hSc⟩ := hSw; (try simp only [List.forall_mem_cons, List.forall_mem_nil, and_true] at hSc); go_simp; (first | done | with_reducible rfl)); (intro K hK; (try simp only [Act.put, List.setIfInBounds_toArray, List.set_cons_zero, List.set_cons_succ]); refine hK _ _ ?_; clear hK K)) | (refine m_skip (by rfl) (by rfl) ?_; (intro K hK; (try simp only [Act.put, List.setIfInBounds_toArray, List.set_cons_zero, List.set_cons_succ]); refine hK _ _ ?_; clear hK K)))
  refine m_nil ?_
  intro wg hSg hAg
  have eg := hid (eF.out.trans hSg.1)
  clear hSg hAg
  go_wp2_with fail
  exact hR.out _ _ ⟨rfl, eg.out⟩
end Go.Proofs.Ytmclggonmekanaa
