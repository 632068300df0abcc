/- The law IndexingFrom: true. Conditions: the arrays are read; a slice's capacity is at least its length. -/
import Derived.Test.YtcoknjlkhefgpaaLAW23X
import Derived.Test.YtcoknjlkhefgpaaREF23C
import Derived.Test.YtcoknjlkhefgpaaSMB
set_option linter.unusedVariables false
set_option linter.unusedSimpArgs false
namespace Go.Proofs.Ytcoknjlkhefgpaa
open Go.RowKit Go.Sort
attribute [local go_sem ↓] run_max2 run_min2
attribute [local go_sem] eql_ints_nil eql_arrs_nil
set_option maxHeartbeats 2000000 in
theorem law23_smallB (x : Arr) (sx : Option Addr) (cx : Nat) (nx : Option Addr) (mx : Nat) (ix : Option Addr) (jx : Nat) (y : Arr) (sy : Option Addr) (cy : Nat) (ny : Option Addr) (my : Nat) (iy : Option Addr) (jy : Nat) (S : Nat → Prop) (w : World) (h : ArrAt w S x sx nx ix) (g : ArrAt w S y sy ny iy) : Calls Try.prog 8 #[.agg #[.int .i64 x.kind, .slice sx x.shape.length cx, .slice nx x.nums.length mx, .slice ix x.items.length jx], .agg #[.int .i64 y.kind, .slice sy y.shape.length cy, .slice ny y.nums.length my, .slice iy y.items.length jy]] w fun e w' => e = .returned (.bool (smlB x && smlB y)) ∧ ((smlB x && smlB y) = true → x.shape.length ≤ 3000 ∧ y.shape.length ≤ 3000) ∧ Below w.heap.size w w' := by
  refine calls_post fun R' hR => ?_
  have h0 := hid h
  have g0 := hid g
  clear h g
  obtain ⟨r1, hr1⟩ : ∃ b, b = smlB x := ⟨_, rfl⟩
  obtain ⟨r2, hr2⟩ : ∃ b, b = smlB y := ⟨_, rfl⟩
  rw [← hr1, ← hr2] at hR
  replace hr1 := hid hr1
  replace hr2 := hid hr2
  go_enter Try.func8, Try.ntmps8
  go_upto_region 1 with (fail)
  generalize hEW : ((w).alloc (.cells #[.int .i64 x.kind, .slice sx x.shape.length cx, .slice nx x.nums.length mx, .slice ix x.items.length jx] 26)).alloc (.cells #[.int .i64 y.kind, .slice sy y.shape.length cy, .slice ny y.nums.length my, .slice iy y.items.length jy] 26) = W
  have E := hid (env2 w S hEW)
  clear hEW
  replace E := hid ((E.out.arg h0.out).arg g0.out)
  (try simp only [List.cons_append, List.nil_append, List.set_cons_zero, List.set_cons_succ] at E)
  obtain ⟨q00, q01, q02, q03⟩ := (E.out.hdr 0 rfl).all
  obtain ⟨q10, q11, q12, q13⟩ := (E.out.hdr 1 rfl).all
  go_wp2_with fail
  clear q00 q01 q02 q03 q10 q11 q12 q13
  refine (ref03_SmallB x _ _ _ _ _ _ _ _ (E.out.arr 2 rfl)).mono ?_
  rintro e w1 ⟨rfl, hq1, hb⟩
  replace E := hid (E.out.up hb)
  clear hb
  rw [← hr1.out] at hq1 ⊢
  replace hq1 := hid hq1
  cases r1 with
  | false =>
    go_wp2_with fail
    exact hR.out _ _ ⟨rfl, (fun q => by cases q), E.out.ext⟩
  | true =>
    obtain ⟨q10, q11, q12, q13⟩ := (E.out.hdr 1 rfl).all
    go_wp2_with fail
    clear q10 q11 q12 q13
    refine (ref03_SmallB y _ _ _ _ _ _ _ _ (E.out.arr 3 rfl)).mono ?_
    rintro e w2 ⟨rfl, hq2, hb⟩
    replace E := hid (E.out.up hb)
    clear hb
    rw [← hr2.out] at hq2 ⊢
    replace hq2 := hid hq2
    go_wp2_with fail
    exact hR.out _ _ ⟨rfl, fun q => ⟨(hq1.out (by simp)).1, (hq2.out (by simpa using q)).1⟩, E.out.ext⟩
set_option maxRecDepth 100000 in
set_option maxHeartbeats 8000000 in
theorem law23_IndexingFrom (x : Arr) (sx : Option Addr) (cx : Nat) (nx : Option Addr) (mx : Nat) (ix : Option Addr) (jx : Nat) (y : Arr) (sy : Option Addr) (cy : Nat) (ny : Option Addr) (my : Nat) (iy : Option Addr) (jy : Nat) (S : Nat → Prop) (w : World) (h : ArrAt w S x sx nx ix) (g : ArrAt w S y sy ny iy) (hcx : x.shape.length ≤ cx) (hcy : y.shape.length ≤ cy) :
    Calls Try.prog 3 #[.agg #[.int .i64 x.kind, .slice sx x.shape.length cx, .slice nx x.nums.length mx, .slice ix x.items.length jx], .agg #[.int .i64 y.kind, .slice sy y.shape.length cy, .slice ny y.nums.length my, .slice iy y.items.length jy]] w fun e w' => e = .returned (.bool true) ∧ Below w.heap.size w w' := by
  refine calls_post fun R' hR => ?_
  have h0 := hid h
  have g0 := hid g
  clear h g
  go_enter Try.func3, Try.ntmps3
  go_upto_region 1 with (fail)
  generalize hEW : ((w).alloc (.cells #[.int .i64 x.kind, .slice sx x.shape.length cx, .slice nx x.nums.length mx, .slice ix x.items.length jx] 26)).alloc (.cells #[.int .i64 y.kind, .slice sy y.shape.length cy, .slice ny y.nums.length my, .slice iy y.items.length jy] 26) = W
  have E := hid (env2 w S hEW)
  clear hEW
  replace E := hid ((E.out.arg h0.out).arg g0.out)
  (try simp only [List.cons_append, List.nil_append, List.set_cons_zero, List.set_cons_succ] at E)
  obtain ⟨nx1, hnx1⟩ : ∃ n, n = szN x.kind x.nums.length x.items.length := ⟨_, rfl⟩
  obtain ⟨ny1, hny1⟩ : ∃ n, n = szN y.kind y.nums.length y.items.length := ⟨_, rfl⟩
  replace hnx1 := hid hnx1
  replace hny1 := hid hny1
  obtain ⟨q00, q01, q02, q03⟩ := (E.out.hdr 0 rfl).all
  obtain ⟨q10, q11, q12, q13⟩ := (E.out.hdr 1 rfl).all
  cases hsm : (smlB x && smlB y) with
  | false =>
    refine wp_region_mono (Sees W [(⟨w.heap.size, 0, none⟩, .int .i64 x.kind), (⟨w.heap.size, 1, none⟩, .slice sx x.shape.length cx), (⟨w.heap.size, 2, none⟩, .slice nx x.nums.length mx), (⟨w.heap.size, 3, none⟩, .slice ix x.items.length jx), (⟨(w.heap.size+1), 0, none⟩, .int .i64 y.kind), (⟨(w.heap.size+1), 1, none⟩, .slice sy y.shape.length cy), (⟨(w.heap.size+1), 2, none⟩, .slice ny y.nums.length my), (⟨(w.heap.size+1), 3, none⟩, .slice iy y.items.length jy)]) [2] (fun k v u u' => match k with | 2 => v = .bool false | _ => False) (fun _ _ h e => h.up e) (Sees.start (all_cons ((E.out.hdr 0 rfl).c0) (all_cons ((E.out.hdr 0 rfl).c1) (all_cons ((E.out.hdr 0 rfl).c2) (all_cons ((E.out.hdr 0 rfl).c3) (all_cons ((E.out.hdr 1 rfl).c0) (all_cons ((E.out.hdr 1 rfl).c1) (all_cons ((E.out.hdr 1 rfl).c2) (all_cons ((E.out.hdr 1 rfl).c3) (all_nil)))))))))) (by kernel_rfl) (by kernel_rfl) ?_
    repeat (first | (refine m_plain (v := ?_) (by rfl) (by rfl) ?_ ?_; rotate_left; (intro wz hSw; obtain ⟨-, hSc⟩ := hSw; (try simp only [List.forall_mem_cons, List.forall_mem_nil, and_true] at hSc); go_simp; (first | done | with_reducible rfl)); (intro K hK; (try simp only [Act.put, List.setIfInBounds_toArray, List.set_cons_zero, List.set_cons_succ]); refine hK _ _ ?_; clear hK K)) | (refine m_skip (by rfl) (by rfl) ?_; (intro K hK; (try simp only [Act.put, List.setIfInBounds_toArray, List.set_cons_zero, List.set_cons_succ]); refine hK _ _ ?_; clear hK K)))
    refine m_make (by rfl) (by rfl) ?_ ?_
    · intro wz hSw hdep R hRz
      obtain ⟨hSe, hSc⟩ := hSw
      (try simp only [List.forall_mem_cons, List.forall_mem_nil, and_true] at hSc)
      unfold does
      (go_simp; refine Calls.mono (law23_smallB x _ _ _ _ _ _ y _ _ _ _ _ _ _ wz (ArrAt.up (E.out.arr 2 rfl) hSe) (ArrAt.up (E.out.arr 3 rfl) hSe)) ?_; rintro e wq ⟨rfl, hq, hb⟩; rw [hsm]; exact ⟨_, rfl, hRz.out _ _ ⟨hb, rfl⟩⟩)
    intro v2 u2 x2 hG2 K hK
    have hF2 := hG2.fact
    (try dsimp only at hF2)
    subst hF2
    (try simp only [Act.put, List.setIfInBounds_toArray, List.set_cons_zero, List.set_cons_succ]); refine hK _ _ ?_; clear hK K
    repeat (first | (refine m_plain (v := ?_) (by rfl) (by rfl) ?_ ?_; rotate_left; (intro wz hSw; obtain ⟨-, hSc⟩ := hSw; (try simp only [List.forall_mem_cons, List.forall_mem_nil, and_true] at hSc); go_simp; (first | done | with_reducible rfl)); (intro K hK; (try simp only [Act.put, List.setIfInBounds_toArray, List.set_cons_zero, List.set_cons_succ]); refine hK _ _ ?_; clear hK K)) | (refine m_skip (by rfl) (by rfl) ?_; (intro K hK; (try simp only [Act.put, List.setIfInBounds_toArray, List.set_cons_zero, List.set_cons_succ]); refine hK _ _ ?_; clear hK K)))
    refine m_nil ?_
    intro wf hSf hAf
    replace E := hid (E.out.up hSf.1)
    clear hSf hAf hG2 hsm
    clear q00 q01 q02 q03 q10 q11 q12 q13
    go_wp2_with (go_at_call 10; refine (law23_example _).mono ?_; rintro e w9 ⟨rfl, hb9⟩)
    exact hR.out _ _ ⟨rfl, (E.out.up hb9).ext⟩
  | true =>
  refine wp_region_mono (Sees W [(⟨w.heap.size, 0, none⟩, .int .i64 x.kind), (⟨w.heap.size, 1, none⟩, .slice sx x.shape.length cx), (⟨w.heap.size, 2, none⟩, .slice nx x.nums.length mx), (⟨w.heap.size, 3, none⟩, .slice ix x.items.length jx), (⟨(w.heap.size+1), 0, none⟩, .int .i64 y.kind), (⟨(w.heap.size+1), 1, none⟩, .slice sy y.shape.length cy), (⟨(w.heap.size+1), 2, none⟩, .slice ny y.nums.length my), (⟨(w.heap.size+1), 3, none⟩, .slice iy y.items.length jy)]) [2, 6, 8] (fun k v u u' => match k with | 2 => v = .bool true ∧ x.shape.length ≤ 3000 ∧ y.shape.length ≤ 3000 | 6 => v = .int .i64 (nx1 : Int) | 8 => v = .int .i64 (ny1 : Int) | _ => False) (fun _ _ h e => h.up e) (Sees.start (all_cons ((E.out.hdr 0 rfl).c0) (all_cons ((E.out.hdr 0 rfl).c1) (all_cons ((E.out.hdr 0 rfl).c2) (all_cons ((E.out.hdr 0 rfl).c3) (all_cons ((E.out.hdr 1 rfl).c0) (all_cons ((E.out.hdr 1 rfl).c1) (all_cons ((E.out.hdr 1 rfl).c2) (all_cons ((E.out.hdr 1 rfl).c3) (all_nil)))))))))) (by kernel_rfl) (by kernel_rfl) ?_
  repeat (first | (refine m_plain (v := ?_) (by rfl) (by rfl) ?_ ?_; rotate_left; (intro wz hSw; obtain ⟨-, hSc⟩ := hSw; (try simp only [List.forall_mem_cons, List.forall_mem_nil, and_true] at hSc); go_simp; (first | done | with_reducible rfl)); (intro K hK; (try simp only [Act.put, List.setIfInBounds_toArray, List.set_cons_zero, List.set_cons_succ]); refine hK _ _ ?_; clear hK K)) | (refine m_skip (by rfl) (by rfl) ?_; (intro K hK; (try simp only [Act.put, List.setIfInBounds_toArray, List.set_cons_zero, List.set_cons_succ]); refine hK _ _ ?_; clear hK K)))
  refine m_make (by rfl) (by rfl) ?_ ?_
  · intro wz hSw hdep R hRz
    obtain ⟨hSe, hSc⟩ := hSw
    (try simp only [List.forall_mem_cons, List.forall_mem_nil, and_true] at hSc)
    unfold does
    (go_simp; refine Calls.mono (law23_smallB x _ _ _ _ _ _ y _ _ _ _ _ _ _ wz (ArrAt.up (E.out.arr 2 rfl) hSe) (ArrAt.up (E.out.arr 3 rfl) hSe)) ?_; rintro e wq ⟨rfl, hq, hb⟩; rw [hsm] at hq ⊢; exact ⟨_, rfl, hRz.out _ _ ⟨hb, rfl, hq rfl⟩⟩)
  intro v2 u2 x2 hG2 K hK
  have hF2 := hG2.fact
  (try dsimp only at hF2)
  obtain ⟨rfl, hx8, hy8⟩ := hF2
  (try simp only [Act.put, List.setIfInBounds_toArray, List.set_cons_zero, List.set_cons_succ]); refine hK _ _ ?_; clear hK K
  repeat (first | (refine m_plain (v := ?_) (by rfl) (by rfl) ?_ ?_; rotate_left; (intro wz hSw; obtain ⟨-, hSc⟩ := hSw; (try simp only [List.forall_mem_cons, List.forall_mem_nil, and_true] at hSc); go_simp; (first | done | with_reducible rfl)); (intro K hK; (try simp only [Act.put, List.setIfInBounds_toArray, List.set_cons_zero, List.set_cons_succ]); refine hK _ _ ?_; clear hK K)) | (refine m_skip (by rfl) (by rfl) ?_; (intro K hK; (try simp only [Act.put, List.setIfInBounds_toArray, List.set_cons_zero, List.set_cons_succ]); refine hK _ _ ?_; clear hK K)))
  refine m_make (by rfl) (by rfl) ?_ ?_
  · intro wz hSw hdep R hRz
    obtain ⟨hSe, hSc⟩ := hSw
    (try simp only [List.forall_mem_cons, List.forall_mem_nil, and_true] at hSc)
    unfold does
    (go_simp; refine Calls.mono (size_ref03_Size x _ _ _ _ _ _ _ wz (ArrAt.up (E.out.arr 2 rfl) hSe)) ?_; rintro e wq ⟨rfl, hb⟩; rw [← hnx1.out]; exact ⟨_, rfl, hRz.out _ _ ⟨hb, rfl⟩⟩)
  intro v6 u6 x6 hG6 K hK
  have hF6 := hG6.fact
  (try dsimp only at hF6)
  subst hF6
  (try simp only [Act.put, List.setIfInBounds_toArray, List.set_cons_zero, List.set_cons_succ]); refine hK _ _ ?_; clear hK K
  repeat (first | (refine m_plain (v := ?_) (by rfl) (by rfl) ?_ ?_; rotate_left; (intro wz hSw; obtain ⟨-, hSc⟩ := hSw; (try simp only [List.forall_mem_cons, List.forall_mem_nil, and_true] at hSc); go_simp; (first | done | with_reducible rfl)); (intro K hK; (try simp only [Act.put, List.setIfInBounds_toArray, List.set_cons_zero, List.set_cons_succ]); refine hK _ _ ?_; clear hK K)) | (refine m_skip (by rfl) (by rfl) ?_; (intro K hK; (try simp only [Act.put, List.setIfInBounds_toArray, List.set_cons_zero, List.set_cons_succ]); refine hK _ _ ?_; clear hK K)))
  refine m_make (by rfl) (by rfl) ?_ ?_
  · intro wz hSw hdep R hRz
    obtain ⟨hSe, hSc⟩ := hSw
    (try simp only [List.forall_mem_cons, List.forall_mem_nil, and_true] at hSc)
    unfold does
    (go_simp; refine Calls.mono (size_ref03_Size y _ _ _ _ _ _ _ wz (ArrAt.up (E.out.arr 3 rfl) hSe)) ?_; rintro e wq ⟨rfl, hb⟩; rw [← hny1.out]; exact ⟨_, rfl, hRz.out _ _ ⟨hb, rfl⟩⟩)
  intro v8 u8 x8 hG8 K hK
  have hF8 := hG8.fact
  (try dsimp only at hF8)
  subst hF8
  (try simp only [Act.put, List.setIfInBounds_toArray, List.set_cons_zero, List.set_cons_succ]); refine hK _ _ ?_; clear hK K
  repeat (first | (refine m_plain (v := ?_) (by rfl) (by rfl) ?_ ?_; rotate_left; (intro wz hSw; obtain ⟨-, hSc⟩ := hSw; (try simp only [List.forall_mem_cons, List.forall_mem_nil, and_true] at hSc); go_simp; (first | done | with_reducible rfl)); (intro K hK; (try simp only [Act.put, List.setIfInBounds_toArray, List.set_cons_zero, List.set_cons_succ]); refine hK _ _ ?_; clear hK K)) | (refine m_skip (by rfl) (by rfl) ?_; (intro K hK; (try simp only [Act.put, List.setIfInBounds_toArray, List.set_cons_zero, List.set_cons_succ]); refine hK _ _ ?_; clear hK K)))
  refine m_nil ?_
  intro wf hSf hAf
  replace E := hid (E.out.up hSf.1)
  clear hSf hAf hG2 hG6 hG8 hsm
  clear q00 q01 q02 q03 q10 q11 q12 q13
  generalize IntKind.i64.wrap ((nx1 : Int) * (ny1 : Int)) = pr
  by_cases c2 : 20000 < pr
  case pos =>
    go_wp2_with (go_at_call 10; refine (law23_example _).mono ?_; rintro e w9 ⟨rfl, hb9⟩)
    exact hR.out _ _ ⟨rfl, (E.out.up hb9).ext⟩
  obtain ⟨q00, q01, q02, q03⟩ := (E.out.hdr 0 rfl).all
  obtain ⟨q10, q11, q12, q13⟩ := (E.out.hdr 1 rfl).all
  go_wp2_with fail
  clear q00 q01 q02 q03 q10 q11 q12 q13
  replace c2 := hid c2
  refine (indexing_From x _ _ _ _ _ _ y _ _ _ _ _ _ _ _ (E.out.arr 2 rfl) (E.out.arr 3 rfl) hcy (by omega) (by omega)).mono ?_
  intro e w3 h
  obtain ⟨s101, c101, n101, m101, i101, j101, rfl, hA, hb, hC101⟩ := h
  replace E := hid ((E.out.up hb).addArr hA (fun b _ hq => E.out.fresh (Ext.refl _) hq))
  clear hA hb hC101
  (try simp only [List.cons_append, List.nil_append, List.set_cons_zero, List.set_cons_succ] at E)
  obtain ⟨r, hr⟩ : ∃ r, r = frmS x y := ⟨_, rfl⟩
  rw [← hr] at E ⊢
  obtain ⟨e1, he1⟩ : ∃ r, r = frmE x y := ⟨_, rfl⟩
  rw [← he1]
  replace hr := hid hr
  replace he1 := hid he1
  go_upto_region 4 with (refine wpl_store4 rfl (.tmp 5) (.tmp 26) rfl _ rfl rfl ((E.out.alloc _).hdr 5 rfl) ?_; intro V1 HV CV; replace E := hid ((E.out.alloc _).chg 5 rfl CV HV); clear CV HV; (try simp only [List.cons_append, List.nil_append, List.set_cons_zero, List.set_cons_succ] at E))
  generalize w3.heap.size = p1 at E ⊢
  obtain ⟨q00, q01, q02, q03⟩ := (E.out.hdr 0 rfl).all
  obtain ⟨q10, q11, q12, q13⟩ := (E.out.hdr 1 rfl).all
  go_wp2_with fail
  clear q00 q01 q02 q03 q10 q11 q12 q13
  refine (ref23_From x _ _ _ _ _ _ y _ _ _ _ _ _ _ _ (E.out.arr 2 rfl) (E.out.arr 3 rfl) hcy).mono ?_
  intro e w4 h
  obtain ⟨s102, c102, n102, m102, i102, j102, rfl, hA, hb, hC102⟩ := h.eq rfl rfl
  replace E := hid ((E.out.up hb).addArr hA (fun b _ hq => E.out.res (Ext.refl _) hq))
  replace hC102 := hid hC102
  clear hA hb h
  (try simp only [List.cons_append, List.nil_append, List.set_cons_zero, List.set_cons_succ] at E)
  rw [← hr.out] at E hC102 ⊢
  rw [← he1.out]
  go_upto_region 5 with (refine wpl_store4 rfl (.tmp 7) (.tmp 32) rfl _ rfl rfl ((E.out.alloc _).hdr 7 rfl) ?_; intro V2 HV CV; replace E := hid ((E.out.alloc _).chg 7 rfl CV HV); clear CV HV; (try simp only [List.cons_append, List.nil_append, List.set_cons_zero, List.set_cons_succ] at E))
  generalize w4.heap.size = p2 at E ⊢
  have cb : (e1 == e1) = true := by simp
  obtain ⟨q50, q51, q52, q53⟩ := (E.out.hdr 5 rfl).all
  obtain ⟨q70, q71, q72, q73⟩ := (E.out.hdr 7 rfl).all
  go_wp2_with fail
  clear q50 q51 q52 q53 q70 q71 q72 q73
  refine (ref03_Same r r _ _ _ _ _ _ _ _ _ _ _ _ _ _ _ (E.out.arr 4 rfl) (E.out.arr 6 rfl)).mono ?_
  rintro e w5 ⟨rfl, hb⟩
  replace E := hid (E.out.up hb)
  clear hb
  rw [show sameB r r = true from sameB_self _]
  go_wp2_with (go_at_call 10; refine (law23_example _).mono ?_; rintro e w9 ⟨rfl, hb9⟩)
  exact hR.out _ _ ⟨rfl, (E.out.up hb9).ext⟩
end Go.Proofs.Ytcoknjlkhefgpaa
