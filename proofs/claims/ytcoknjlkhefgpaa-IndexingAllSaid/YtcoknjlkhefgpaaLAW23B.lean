/- The law IndexingAll: true. Conditions: the array is read; a slice's capacity is at least its length. -/
import Derived.Test.YtcoknjlkhefgpaaLAW23X
import Derived.Test.YtcoknjlkhefgpaaLAW23A
import Derived.Test.YtcoknjlkhefgpaaP23L
import Derived.Test.YtcoknjlkhefgpaaSMB
set_option linter.unusedVariables false
set_option linter.unusedSimpArgs false
namespace Go.Proofs.Ytcoknjlkhefgpaa
open Go.RowKit Go.Sort
attribute [local go_sem ↓] run_max2 run_min2
attribute [local go_sem] eql_ints_nil eql_arrs_nil
theorem ints_first {w : World} {T : Nat → Prop} {b o : Nat} {xs : List Int} (h : IntsAt w T (some ⟨b, o, none⟩) xs) (hx : 0 < xs.length) : w.cell? ⟨b, o, none⟩ = some (.int .i64 (xs.getD 0 0)) := by
  obtain ⟨b', o', e, _, _, hc⟩ := h.at hx
  injection e with e
  injection e with e1 e2
  subst e1; subst e2
  exact hc
theorem N_upto (n : Nat) (hn : n ≤ 100000) (T : Nat → Prop) (w : World) : Calls Try.prog 20 #[.int .i64 (n : Int)] w (RetI w (fun b => T b ∨ w.heap.size ≤ b) (.mk 1 [(n : Int)] (rngL n) [])) :=
  (law23_upto n hn w).mono fun _ _ ⟨sa, sc, na, nc, h1, h2, h3⟩ => ⟨sa, sc, na, nc, h1, ArrAt.mono (fun b _ h => Or.inr h) _ h2, h3⟩
set_option maxRecDepth 100000 in
set_option maxHeartbeats 8000000 in
theorem law23_IndexingAll (y : Arr) (sy : Option Addr) (cy : Nat) (ny : Option Addr) (my : Nat) (iy : Option Addr) (jy : Nat) (S : Nat → Prop) (w : World) (h : ArrAt w S y sy ny iy) (hcy : y.shape.length ≤ cy) :
    Calls Try.prog 6 #[.agg #[.int .i64 y.kind, .slice sy y.shape.length cy, .slice ny y.nums.length my, .slice iy y.items.length jy]] w fun e w' => e = .returned (.bool true) ∧ Below w.heap.size w w' := by
  refine calls_post fun R' hR => ?_
  have h0 := hid h
  have hcy := hid hcy
  have hsl := h.shape.1
  clear h
  go_enter Try.func6, Try.ntmps6
  go_upto_region 1 with (fail)
  generalize hEW : (w).alloc (.cells #[.int .i64 y.kind, .slice sy y.shape.length cy, .slice ny y.nums.length my, .slice iy y.items.length jy] 26) = W
  have E := hid (env1 w S hEW)
  clear hEW
  replace E := hid (E.out.arg h0.out)
  (try simp only [List.cons_append, List.nil_append, List.set_cons_zero, List.set_cons_succ] at E)
  obtain ⟨q00, q01, q02, q03⟩ := (E.out.hdr 0 rfl).all
  go_wp2_with fail
  clear q00 q01 q02 q03
  refine (ref03_Small y _ _ _ _ _ _ _ _ (E.out.arr 1 rfl)).mono ?_
  rintro e w1 ⟨b1, rfl, hb⟩
  replace E := hid (E.out.up hb)
  clear hb
  cases b1 with
  | false =>
    go_wp2_with (go_at_call 10; refine (law23_example _).mono ?_; rintro e w9 ⟨rfl, hb9⟩)
    exact hR.out _ _ ⟨rfl, (E.out.up hb9).ext⟩
  | true =>
  obtain ⟨q00, q01, q02, q03⟩ := (E.out.hdr 0 rfl).all
  go_wp2_with fail
  clear q00 q01 q02 q03
  refine (ref03_Right y _ _ _ _ _ _ _ _ (E.out.arr 1 rfl)).mono ?_
  rintro e w2 ⟨rfl, hb⟩
  replace E := hid (E.out.up hb)
  clear hb
  by_cases c : rightS y = 0
  case neg =>
    have cb : (rightS y != 0) = true := by simpa using c
    replace c := hid c
    go_wp2_with (go_at_call 10; refine (law23_example _).mono ?_; rintro e w9 ⟨rfl, hb9⟩)
    exact hR.out _ _ ⟨rfl, (E.out.up hb9).ext⟩
  have cb : (rightS y != 0) = false := by simpa using c
  by_cases c0 : y.shape.length = 0
  case pos =>
    have cb0 : ((y.shape.length : Int) == 0) = true := by simpa using c0
    replace c := hid c
    replace c0 := hid c0
    obtain ⟨q00, q01, q02, q03⟩ := (E.out.hdr 0 rfl).all
    go_wp2_with (go_at_call 10; refine (law23_example _).mono ?_; rintro e w9 ⟨rfl, hb9⟩)
    exact hR.out _ _ ⟨rfl, (E.out.up hb9).ext⟩
  have cb0 : ((y.shape.length : Int) == 0) = false := by simpa using c0
  obtain ⟨b1, o1, hs1, _, _, _⟩ := (E.out.arr 1 rfl).shape.at (k := 0) (by omega)
  subst hs1
  have hlt := hid (show 0 < y.shape.length by omega)
  have s3 : (0 : Int) < (y.shape.length : Int) := by omega
  have s4 := hlt.out
  have hc1 := ints_first (E.out.arr 1 rfl).shape hlt.out
  have hrk : Hid (y.shape.length ≤ 10000) := hid (by have := (shapeB_iff.1 (right_ok c).2.1).1; omega)
  obtain ⟨n, hn⟩ : ∃ n, n = talM y := ⟨_, rfl⟩
  have hdn : Hid (y.shape.getD 0 0 = (n : Int)) := hid (by rw [hn, tal_nn (right_ok c).2.1]; exact (if_neg c0).symm)
  rw [hdn.out] at hc1
  by_cases c3 : 3000 < n
  case pos =>
    have cb3 : ((3000 : Int) < (n : Int)) := by omega
    replace c := hid c
    replace c0 := hid c0
    replace c3 := hid c3
    replace hn := hid hn
    obtain ⟨q00, q01, q02, q03⟩ := (E.out.hdr 0 rfl).all
    go_wp2_with (go_at_call 10; refine (law23_example _).mono ?_; rintro e w9 ⟨rfl, hb9⟩)
    exact hR.out _ _ ⟨rfl, (E.out.up hb9).ext⟩
  have cb3 : ¬ ((3000 : Int) < (n : Int)) := by omega
  have f1 := frm_all c c0 (by omega)
  obtain ⟨ay, hay⟩ : ∃ a, a = allI y := ⟨_, rfl⟩
  obtain ⟨bx, hbx⟩ : ∃ a, a = Arr.mk 3 [1] [] [ay] := ⟨_, rfl⟩
  obtain ⟨a0, ha0⟩ : ∃ a, a = Arr.mk 1 [0] [] [] := ⟨_, rfl⟩
  have f2 := sel_box (x := bx) (y := y) (by rw [hbx, hay]) c c0 (by omega)
  have f3 := sel_none (x := a0) (y := y) ha0 c
  rw [← hay] at f1
  have e1 := hid f1.1
  have e2 := hid f2.1
  have e3 := hid f3.1
  have v1 := hid f1.2.symm
  have v2 := hid f2.2.symm
  have v3 := hid f3.2.symm
  clear f1 f2 f3
  have hay2 : Hid (ay = Arr.mk 1 [(n : Int)] (rngL n) []) := hid (by rw [hay, hn]; show Arr.mk 1 [talN y] _ [] = _; rw [tal_nn (right_ok c).2.1])
  have hL1 : Hid (ay.shape.length ≤ 10000) := hid (by rw [hay2.out]; simp [Arr.shape])
  have hIb : Hid (∀ (o : Option Addr) (n : Nat), bx.kind = 1 → o = none ∧ n = 0 ∧ bx.items = []) := hid (fun _ _ q => by rw [hbx] at q; cases q)
  have hIa : Hid (a0.items = []) := hid (by rw [ha0]; rfl)
  have hn5 : Hid (n ≤ 100000) := hid (by omega)
  replace c := hid c
  replace c0 := hid c0
  replace c3 := hid c3
  replace hn := hid hn
  replace hay := hid hay
  replace hbx := hid hbx
  replace ha0 := hid ha0
  obtain ⟨q00, q01, q02, q03⟩ := (E.out.hdr 0 rfl).all
  go_upto_region 3 with fail
  clear q00 q01 q02 q03
  obtain ⟨T, hT1, hT2, hT3⟩ := E.out.tw
  refine wp_region_edge 9 11 (by kernel_rfl) (by kernel_rfl) (fun o _ v c a w h => by cases hd : o.dst <;> (rw [hd] at h; exact h)) _ rfl 11 (Sees w2 [(⟨w.heap.size, 0, none⟩, .int .i64 y.kind), (⟨w.heap.size, 1, none⟩, .slice (some ⟨b1, o1, none⟩) y.shape.length cy), (⟨w.heap.size, 2, none⟩, .slice ny y.nums.length my), (⟨w.heap.size, 3, none⟩, .slice iy y.items.length jy), (⟨b1, o1, none⟩, .int .i64 (n : Int))]) [4, 6, 10] (fun k v u u' => match k with | 4 => RetI u T (ay) (.returned v) u' | 6 => RetAE u (fun b => u.heap.size ≤ b) (y) (0) (.returned v) u' | 10 => v = .pointer (some ⟨u.heap.size, 0, none⟩) ∧ u' = u.alloc (.cells #[.int .i64 0, .slice none 0 0, .slice none 0 0, .slice none 0 0] 26) | _ => False) (fun _ _ h e => h.up e) (Sees.start (all_cons ((E.out.hdr 0 rfl).c0) (all_cons ((E.out.hdr 0 rfl).c1) (all_cons ((E.out.hdr 0 rfl).c2) (all_cons ((E.out.hdr 0 rfl).c3) (all_cons (hc1) (all_nil))))))) (by kernel_rfl) ?_
  simp only [withEdge, List.modify_succ_cons, List.modify_zero_cons, List.push_toArray, List.cons_append, List.nil_append]
  simp only [List.take_succ_cons, List.take_zero, List.drop_succ_cons, List.drop_zero]
  repeat (first | (refine m_plain (v := ?_) (by rfl) (by rfl) ?_ ?_; rotate_left; (intro wz hSw; obtain ⟨-, hSc⟩ := hSw; (try simp only [List.forall_mem_cons, List.forall_mem_nil, and_true] at hSc); go_simp; (first | done | with_reducible rfl)); (intro K hK; (try simp only [Act.put, List.setIfInBounds_toArray, List.set_cons_zero, List.set_cons_succ]); refine hK _ _ ?_; clear hK K)) | (refine m_skip (by rfl) (by rfl) ?_; (intro K hK; (try simp only [Act.put, List.setIfInBounds_toArray, List.set_cons_zero, List.set_cons_succ]); refine hK _ _ ?_; clear hK K)))
  refine m_make (by rfl) (by rfl) ?_ ?_
  · intro wz hSw hdep R hRz
    obtain ⟨hSe, hSc⟩ := hSw
    (try simp only [List.forall_mem_cons, List.forall_mem_nil, and_true] at hSc)
    unfold does
    (go_simp; refine Calls.mono (N_upto n hn5.out T wz) ?_; intro e wq h; obtain ⟨v, rfl, h1⟩ := retI_arm hT2 hSe (h.eq hay2.out); exact ⟨_, rfl, hRz.out _ _ h1⟩)
  intro v4 u4 x4 hG4 K hK
  have hF4 := hG4.fact
  (try dsimp only at hF4)
  obtain ⟨s4, c4, n4, m4, he, hA4, hb4, hC4⟩ := hF4
  injection he with he
  subst he
  replace hC4 := hid hC4
  (try simp only [Act.put, List.setIfInBounds_toArray, List.set_cons_zero, List.set_cons_succ]); refine hK _ _ ?_; clear hK K
  repeat (first | (refine m_plain (v := ?_) (by rfl) (by rfl) ?_ ?_; rotate_left; (intro wz hSw; obtain ⟨-, hSc⟩ := hSw; (try simp only [List.forall_mem_cons, List.forall_mem_nil, and_true] at hSc); go_simp; (first | done | with_reducible rfl)); (intro K hK; (try simp only [Act.put, List.setIfInBounds_toArray, List.set_cons_zero, List.set_cons_succ]); refine hK _ _ ?_; clear hK K)) | (refine m_skip (by rfl) (by rfl) ?_; (intro K hK; (try simp only [Act.put, List.setIfInBounds_toArray, List.set_cons_zero, List.set_cons_succ]); refine hK _ _ ?_; clear hK K)))
  refine m_make (by rfl) (by rfl) ?_ ?_
  · intro wz hSw hdep R hRz
    obtain ⟨hSe, hSc⟩ := hSw
    (try simp only [List.forall_mem_cons, List.forall_mem_nil, and_true] at hSc)
    unfold does
    (go_simp; refine Calls.mono (N_indexing_From ay _ _ _ _ none 0 y _ _ _ _ _ _ _ wz (hA4.up (hdep 4 _ rfl (depB_sound (f := 4) (by kernel_rfl)))) (ArrAt.up (ArrAt.mono (fun b _ h => hT1 b h) _ (E.out.arr 1 rfl)) hSe) hcy.out hL1.out hrk.out) ?_; intro e wq h; obtain ⟨ta, tc, tn, tnc, ti, tic, rfl, hq, hqb⟩ := (h.eq v1.out e1.out); exact ⟨_, rfl, hRz.out _ _ ⟨hqb, ta, tc, tn, tnc, ti, tic, rfl, hq, hqb⟩⟩)
  intro v6 u6 x6 hG6 K hK
  have hF6 := hG6.fact
  (try dsimp only at hF6)
  obtain ⟨s6, c6, n6, m6, i6, j6, he, hA6, hb6⟩ := hF6
  injection he with he
  subst he
  (try simp only [Act.put, List.setIfInBounds_toArray, List.set_cons_zero, List.set_cons_succ]); refine hK _ _ ?_; clear hK K
  repeat (first | (refine m_plain (v := ?_) (by rfl) (by rfl) ?_ ?_; rotate_left; (intro wz hSw; obtain ⟨-, hSc⟩ := hSw; (try simp only [List.forall_mem_cons, List.forall_mem_nil, and_true] at hSc); go_simp; (first | done | with_reducible rfl)); (intro K hK; (try simp only [Act.put, List.setIfInBounds_toArray, List.set_cons_zero, List.set_cons_succ]); refine hK _ _ ?_; clear hK K)) | (refine m_skip (by rfl) (by rfl) ?_; (intro K hK; (try simp only [Act.put, List.setIfInBounds_toArray, List.set_cons_zero, List.set_cons_succ]); refine hK _ _ ?_; clear hK K)))
  refine m_make (by rfl) (by rfl) ?_ ?_
  · intro wz hSw hdep R hRz
    obtain ⟨hSe, hSc⟩ := hSw
    (try simp only [List.forall_mem_cons, List.forall_mem_nil, and_true] at hSc)
    unfold does
    (go_simp; exact hRz.out _ _ ⟨ext_alloc _ _, rfl, rfl⟩)
  intro v10 u10 x10 hG10 K hK
  have hF10 := hG10.fact
  (try dsimp only at hF10)
  obtain ⟨rfl, rfl⟩ := hF10
  (try simp only [Act.put, List.setIfInBounds_toArray, List.set_cons_zero, List.set_cons_succ]); refine hK _ _ ?_; clear hK K
  repeat (first | (refine m_plain (v := ?_) (by rfl) (by rfl) ?_ ?_; rotate_left; (intro wz hSw; obtain ⟨-, hSc⟩ := hSw; (try simp only [List.forall_mem_cons, List.forall_mem_nil, and_true] at hSc); go_simp; (first | done | with_reducible rfl)); (intro K hK; (try simp only [Act.put, List.setIfInBounds_toArray, List.set_cons_zero, List.set_cons_succ]); refine hK _ _ ?_; clear hK K)) | (refine m_skip (by rfl) (by rfl) ?_; (intro K hK; (try simp only [Act.put, List.setIfInBounds_toArray, List.set_cons_zero, List.set_cons_succ]); refine hK _ _ ?_; clear hK K)))
  refine m_nil ?_
  intro wf hSf hAf
  replace E := hid (E.out.varO hA6 (hAf 6 _ rfl) (hG10.order 6 _ rfl) hG6.s.1 hG10.s.1 (hAf 10 _ rfl) hSf.1)
  refine wpl_store4 (by rfl) (.tmp 3) (.tmp 39) (by rfl) _ (by rfl) (by rfl) (E.out.hdr 2 rfl) ?_
  intro V3 HV CV
  replace E := hid (E.out.chg 2 rfl CV HV)
  clear CV HV hSf hAf
  (try simp only [List.cons_append, List.nil_append, List.set_cons_zero, List.set_cons_succ] at E)
  clear hG4 hG6 hG10 hA4 hA6 hb4 hb6 hT1 hT2 hT3 hC4 hc1
  generalize u10.heap.size = p1 at E ⊢
  obtain ⟨s111, hq⟩ : ∃ s, s = s6 := ⟨_, rfl⟩
  subst hq
  obtain ⟨c111, hq⟩ : ∃ s, s = c6 := ⟨_, rfl⟩
  subst hq
  obtain ⟨n111, hq⟩ : ∃ s, s = n6 := ⟨_, rfl⟩
  subst hq
  obtain ⟨m111, hq⟩ : ∃ s, s = m6 := ⟨_, rfl⟩
  subst hq
  obtain ⟨i111, hq⟩ : ∃ s, s = i6 := ⟨_, rfl⟩
  subst hq
  obtain ⟨j111, hq⟩ : ∃ s, s = j6 := ⟨_, rfl⟩
  subst hq
  have hc1 := ints_first (E.out.arr 1 rfl).shape hlt.out
  rw [hdn.out] at hc1
  go_upto_region 4 with fail
  obtain ⟨T, hT1, hT2, hT3⟩ := E.out.tw
  refine wp_region_edge 11 13 (by kernel_rfl) (by kernel_rfl) (fun o _ v c a w h => by cases hd : o.dst <;> (rw [hd] at h; exact h)) _ rfl 13 (Sees V3 [(⟨w.heap.size, 0, none⟩, .int .i64 y.kind), (⟨w.heap.size, 1, none⟩, .slice (some ⟨b1, o1, none⟩) y.shape.length cy), (⟨w.heap.size, 2, none⟩, .slice ny y.nums.length my), (⟨w.heap.size, 3, none⟩, .slice iy y.items.length jy), (⟨b1, o1, none⟩, .int .i64 (n : Int))]) [4, 5, 6, 8, 12] (fun k v u u' => match k with | 4 => RetI u T (ay) (.returned v) u' | 5 => ∃ b, v = .slice (some ⟨b, 0, none⟩) 1 1 ∧ ItemsAt u' T (some ⟨b, 0, none⟩) 0 [ay] | 6 => RetAC u T (bx) (.returned v) u' | 8 => RetAE u (fun b => u.heap.size ≤ b) (y) (0) (.returned v) u' | 12 => v = .pointer (some ⟨u.heap.size, 0, none⟩) ∧ u' = u.alloc (.cells #[.int .i64 0, .slice none 0 0, .slice none 0 0, .slice none 0 0] 26) | _ => False) (fun _ _ h e => h.up e) (Sees.start (all_cons ((E.out.hdr 0 rfl).c0) (all_cons ((E.out.hdr 0 rfl).c1) (all_cons ((E.out.hdr 0 rfl).c2) (all_cons ((E.out.hdr 0 rfl).c3) (all_cons (hc1) (all_nil))))))) (by kernel_rfl) ?_
  simp only [withEdge, List.modify_succ_cons, List.modify_zero_cons, List.push_toArray, List.cons_append, List.nil_append]
  simp only [List.take_succ_cons, List.take_zero, List.drop_succ_cons, List.drop_zero]
  repeat (first | (refine m_plain (v := ?_) (by rfl) (by rfl) ?_ ?_; rotate_left; (intro wz hSw; obtain ⟨-, hSc⟩ := hSw; (try simp only [List.forall_mem_cons, List.forall_mem_nil, and_true] at hSc); go_simp; (first | done | with_reducible rfl)); (intro K hK; (try simp only [Act.put, List.setIfInBounds_toArray, List.set_cons_zero, List.set_cons_succ]); refine hK _ _ ?_; clear hK K)) | (refine m_skip (by rfl) (by rfl) ?_; (intro K hK; (try simp only [Act.put, List.setIfInBounds_toArray, List.set_cons_zero, List.set_cons_succ]); refine hK _ _ ?_; clear hK K)))
  refine m_make (by rfl) (by rfl) ?_ ?_
  · intro wz hSw hdep R hRz
    obtain ⟨hSe, hSc⟩ := hSw
    (try simp only [List.forall_mem_cons, List.forall_mem_nil, and_true] at hSc)
    unfold does
    (go_simp; refine Calls.mono (N_upto n hn5.out T wz) ?_; intro e wq h; obtain ⟨v, rfl, h1⟩ := retI_arm hT2 hSe (h.eq hay2.out); exact ⟨_, rfl, hRz.out _ _ h1⟩)
  intro v4 u4 x4 hG4 K hK
  have hF4 := hG4.fact
  (try dsimp only at hF4)
  obtain ⟨s4, c4, n4, m4, he, hA4, hb4, hC4⟩ := hF4
  injection he with he
  subst he
  replace hC4 := hid hC4
  (try simp only [Act.put, List.setIfInBounds_toArray, List.set_cons_zero, List.set_cons_succ]); refine hK _ _ ?_; clear hK K
  repeat (first | (refine m_plain (v := ?_) (by rfl) (by rfl) ?_ ?_; rotate_left; (intro wz hSw; obtain ⟨-, hSc⟩ := hSw; (try simp only [List.forall_mem_cons, List.forall_mem_nil, and_true] at hSc); go_simp; (first | done | with_reducible rfl)); (intro K hK; (try simp only [Act.put, List.setIfInBounds_toArray, List.set_cons_zero, List.set_cons_succ]); refine hK _ _ ?_; clear hK K)) | (refine m_skip (by rfl) (by rfl) ?_; (intro K hK; (try simp only [Act.put, List.setIfInBounds_toArray, List.set_cons_zero, List.set_cons_succ]); refine hK _ _ ?_; clear hK K)))
  refine m_make (by rfl) (by rfl) ?_ ?_
  · intro wz hSw hdep R hRz
    obtain ⟨hSe, hSc⟩ := hSw
    (try simp only [List.forall_mem_cons, List.forall_mem_nil, and_true] at hSc)
    unfold does
    (go_simp; exact hRz.out _ _ ⟨ext_alloc _ _, _, rfl, box_items (Ext.refl _) (hT2 _ (Below.size hSe)) (hA4.up (hdep 4 _ rfl (depB_sound (f := 4) (by kernel_rfl))))⟩)
  intro v5 u5 x5 hG5 K hK
  have hF5 := hG5.fact
  (try dsimp only at hF5)
  obtain ⟨b5, rfl, hI5⟩ := hF5
  (try simp only [Act.put, List.setIfInBounds_toArray, List.set_cons_zero, List.set_cons_succ]); refine hK _ _ ?_; clear hK K
  repeat (first | (refine m_plain (v := ?_) (by rfl) (by rfl) ?_ ?_; rotate_left; (intro wz hSw; obtain ⟨-, hSc⟩ := hSw; (try simp only [List.forall_mem_cons, List.forall_mem_nil, and_true] at hSc); go_simp; (first | done | with_reducible rfl)); (intro K hK; (try simp only [Act.put, List.setIfInBounds_toArray, List.set_cons_zero, List.set_cons_succ]); refine hK _ _ ?_; clear hK K)) | (refine m_skip (by rfl) (by rfl) ?_; (intro K hK; (try simp only [Act.put, List.setIfInBounds_toArray, List.set_cons_zero, List.set_cons_succ]); refine hK _ _ ?_; clear hK K)))
  refine m_make (by rfl) (by rfl) ?_ ?_
  · intro wz hSw hdep R hRz
    obtain ⟨hSe, hSc⟩ := hSw
    (try simp only [List.forall_mem_cons, List.forall_mem_nil, and_true] at hSc)
    unfold does
    (go_simp; refine Calls.mono (law23_boxes [ay] _ 1 _ wz (hI5.later (hdep 5 _ rfl (depB_sound (f := 4) (by kernel_rfl)))) (by simp) (by simp)) ?_; intro e wq h; obtain ⟨v, rfl, h1⟩ := retAC_arm hT2 hSe (h.eq hbx.out); exact ⟨_, rfl, hRz.out _ _ h1⟩)
  intro v6 u6 x6 hG6 K hK
  have hF6 := hG6.fact
  (try dsimp only at hF6)
  obtain ⟨s6, c6, n6, m6, i6, j6, he, hA6, hb6, hC6⟩ := hF6
  injection he with he
  subst he
  replace hC6 := hid hC6
  (try simp only [Act.put, List.setIfInBounds_toArray, List.set_cons_zero, List.set_cons_succ]); refine hK _ _ ?_; clear hK K
  repeat (first | (refine m_plain (v := ?_) (by rfl) (by rfl) ?_ ?_; rotate_left; (intro wz hSw; obtain ⟨-, hSc⟩ := hSw; (try simp only [List.forall_mem_cons, List.forall_mem_nil, and_true] at hSc); go_simp; (first | done | with_reducible rfl)); (intro K hK; (try simp only [Act.put, List.setIfInBounds_toArray, List.set_cons_zero, List.set_cons_succ]); refine hK _ _ ?_; clear hK K)) | (refine m_skip (by rfl) (by rfl) ?_; (intro K hK; (try simp only [Act.put, List.setIfInBounds_toArray, List.set_cons_zero, List.set_cons_succ]); refine hK _ _ ?_; clear hK K)))
  refine m_make (by rfl) (by rfl) ?_ ?_
  · intro wz hSw hdep R hRz
    obtain ⟨hSe, hSc⟩ := hSw
    (try simp only [List.forall_mem_cons, List.forall_mem_nil, and_true] at hSc)
    unfold does
    (go_simp; refine Calls.mono (N_indexing_Select bx _ _ _ _ _ _ y _ _ _ _ _ _ _ wz (hA6.up (hdep 6 _ rfl (depB_sound (f := 4) (by kernel_rfl)))) (ArrAt.up (ArrAt.mono (fun b _ h => hT1 b h) _ (E.out.arr 1 rfl)) hSe) (hIb.out _ _) hcy.out) ?_; intro e wq h; obtain ⟨ta, tc, tn, tnc, ti, tic, rfl, hq, hqb⟩ := (h.eq v2.out e2.out); exact ⟨_, rfl, hRz.out _ _ ⟨hqb, ta, tc, tn, tnc, ti, tic, rfl, hq, hqb⟩⟩)
  intro v8 u8 x8 hG8 K hK
  have hF8 := hG8.fact
  (try dsimp only at hF8)
  obtain ⟨s8, c8, n8, m8, i8, j8, he, hA8, hb8⟩ := hF8
  injection he with he
  subst he
  (try simp only [Act.put, List.setIfInBounds_toArray, List.set_cons_zero, List.set_cons_succ]); refine hK _ _ ?_; clear hK K
  repeat (first | (refine m_plain (v := ?_) (by rfl) (by rfl) ?_ ?_; rotate_left; (intro wz hSw; obtain ⟨-, hSc⟩ := hSw; (try simp only [List.forall_mem_cons, List.forall_mem_nil, and_true] at hSc); go_simp; (first | done | with_reducible rfl)); (intro K hK; (try simp only [Act.put, List.setIfInBounds_toArray, List.set_cons_zero, List.set_cons_succ]); refine hK _ _ ?_; clear hK K)) | (refine m_skip (by rfl) (by rfl) ?_; (intro K hK; (try simp only [Act.put, List.setIfInBounds_toArray, List.set_cons_zero, List.set_cons_succ]); refine hK _ _ ?_; clear hK K)))
  refine m_make (by rfl) (by rfl) ?_ ?_
  · intro wz hSw hdep R hRz
    obtain ⟨hSe, hSc⟩ := hSw
    (try simp only [List.forall_mem_cons, List.forall_mem_nil, and_true] at hSc)
    unfold does
    (go_simp; exact hRz.out _ _ ⟨ext_alloc _ _, rfl, rfl⟩)
  intro v12 u12 x12 hG12 K hK
  have hF12 := hG12.fact
  (try dsimp only at hF12)
  obtain ⟨rfl, rfl⟩ := hF12
  (try simp only [Act.put, List.setIfInBounds_toArray, List.set_cons_zero, List.set_cons_succ]); refine hK _ _ ?_; clear hK K
  repeat (first | (refine m_plain (v := ?_) (by rfl) (by rfl) ?_ ?_; rotate_left; (intro wz hSw; obtain ⟨-, hSc⟩ := hSw; (try simp only [List.forall_mem_cons, List.forall_mem_nil, and_true] at hSc); go_simp; (first | done | with_reducible rfl)); (intro K hK; (try simp only [Act.put, List.setIfInBounds_toArray, List.set_cons_zero, List.set_cons_succ]); refine hK _ _ ?_; clear hK K)) | (refine m_skip (by rfl) (by rfl) ?_; (intro K hK; (try simp only [Act.put, List.setIfInBounds_toArray, List.set_cons_zero, List.set_cons_succ]); refine hK _ _ ?_; clear hK K)))
  refine m_nil ?_
  intro wf hSf hAf
  replace E := hid (E.out.varO hA8 (hAf 8 _ rfl) (hG12.order 8 _ rfl) hG8.s.1 hG12.s.1 (hAf 12 _ rfl) hSf.1)
  refine wpl_store4 (by rfl) (.tmp 5) (.tmp 51) (by rfl) _ (by rfl) (by rfl) (E.out.hdr 4 rfl) ?_
  intro V4 HV CV
  replace E := hid (E.out.chg 4 rfl CV HV)
  clear CV HV hSf hAf
  (try simp only [List.cons_append, List.nil_append, List.set_cons_zero, List.set_cons_succ] at E)
  clear hG4 hG5 hG6 hG8 hG12 hA4 hI5 hA6 hA8 hb4 hb6 hb8 hT1 hT2 hT3 hC4 hC6 hc1
  generalize u12.heap.size = p2 at E ⊢
  obtain ⟨s112, hq⟩ : ∃ s, s = s8 := ⟨_, rfl⟩
  subst hq
  obtain ⟨c112, hq⟩ : ∃ s, s = c8 := ⟨_, rfl⟩
  subst hq
  obtain ⟨n112, hq⟩ : ∃ s, s = n8 := ⟨_, rfl⟩
  subst hq
  obtain ⟨m112, hq⟩ : ∃ s, s = m8 := ⟨_, rfl⟩
  subst hq
  obtain ⟨i112, hq⟩ : ∃ s, s = i8 := ⟨_, rfl⟩
  subst hq
  obtain ⟨j112, hq⟩ : ∃ s, s = j8 := ⟨_, rfl⟩
  subst hq
  go_upto_region 5 with fail
  obtain ⟨T, hT1, hT2, hT3⟩ := E.out.tw
  refine wp_region_edge 6 8 (by kernel_rfl) (by kernel_rfl) (fun o _ v c a w h => by cases hd : o.dst <;> (rw [hd] at h; exact h)) _ rfl 8 (Sees V4 [(⟨w.heap.size, 0, none⟩, .int .i64 y.kind), (⟨w.heap.size, 1, none⟩, .slice (some ⟨b1, o1, none⟩) y.shape.length cy), (⟨w.heap.size, 2, none⟩, .slice ny y.nums.length my), (⟨w.heap.size, 3, none⟩, .slice iy y.items.length jy)]) [0, 1, 3, 7] (fun k v u u' => match k with | 0 => v = .slice (some ⟨u.heap.size, 0, none⟩) 1 1 ∧ u' = u.alloc (.cells (([0] : List Int).map (Value.int .i64)).toArray 3) | 1 => RetI u T (a0) (.returned v) u' | 3 => RetAE u (fun b => u.heap.size ≤ b) (y) (0) (.returned v) u' | 7 => v = .pointer (some ⟨u.heap.size, 0, none⟩) ∧ u' = u.alloc (.cells #[.int .i64 0, .slice none 0 0, .slice none 0 0, .slice none 0 0] 26) | _ => False) (fun _ _ h e => h.up e) (Sees.start (all_cons ((E.out.hdr 0 rfl).c0) (all_cons ((E.out.hdr 0 rfl).c1) (all_cons ((E.out.hdr 0 rfl).c2) (all_cons ((E.out.hdr 0 rfl).c3) (all_nil)))))) (by kernel_rfl) ?_
  simp only [withEdge, List.modify_succ_cons, List.modify_zero_cons, List.push_toArray, List.cons_append, List.nil_append]
  simp only [List.take_succ_cons, List.take_zero, List.drop_succ_cons, List.drop_zero]
  repeat (first | (refine m_plain (v := ?_) (by rfl) (by rfl) ?_ ?_; rotate_left; (intro wz hSw; obtain ⟨-, hSc⟩ := hSw; (try simp only [List.forall_mem_cons, List.forall_mem_nil, and_true] at hSc); go_simp; (first | done | with_reducible rfl)); (intro K hK; (try simp only [Act.put, List.setIfInBounds_toArray, List.set_cons_zero, List.set_cons_succ]); refine hK _ _ ?_; clear hK K)) | (refine m_skip (by rfl) (by rfl) ?_; (intro K hK; (try simp only [Act.put, List.setIfInBounds_toArray, List.set_cons_zero, List.set_cons_succ]); refine hK _ _ ?_; clear hK K)))
  refine m_make (by rfl) (by rfl) ?_ ?_
  · intro wz hSw hdep R hRz
    obtain ⟨hSe, hSc⟩ := hSw
    (try simp only [List.forall_mem_cons, List.forall_mem_nil, and_true] at hSc)
    unfold does
    (go_simp; exact hRz.out _ _ ⟨ext_alloc _ _, rfl, rfl⟩)
  intro v0 u0 x0 hG0 K hK
  have hF0 := hG0.fact
  (try dsimp only at hF0)
  obtain ⟨rfl, rfl⟩ := hF0
  (try simp only [Act.put, List.setIfInBounds_toArray, List.set_cons_zero, List.set_cons_succ]); refine hK _ _ ?_; clear hK K
  repeat (first | (refine m_plain (v := ?_) (by rfl) (by rfl) ?_ ?_; rotate_left; (intro wz hSw; obtain ⟨-, hSc⟩ := hSw; (try simp only [List.forall_mem_cons, List.forall_mem_nil, and_true] at hSc); go_simp; (first | done | with_reducible rfl)); (intro K hK; (try simp only [Act.put, List.setIfInBounds_toArray, List.set_cons_zero, List.set_cons_succ]); refine hK _ _ ?_; clear hK K)) | (refine m_skip (by rfl) (by rfl) ?_; (intro K hK; (try simp only [Act.put, List.setIfInBounds_toArray, List.set_cons_zero, List.set_cons_succ]); refine hK _ _ ?_; clear hK K)))
  refine m_make (by rfl) (by rfl) ?_ ?_
  · intro wz hSw hdep R hRz
    obtain ⟨hSe, hSc⟩ := hSw
    (try simp only [List.forall_mem_cons, List.forall_mem_nil, and_true] at hSc)
    unfold does
    (go_simp; refine Calls.mono (law23_intsI [0] [] _ _ none 0 _ wz ((lit_at (hdep 0 _ rfl (depB_sound (f := 4) (by kernel_rfl))) (by first | decide | simp)).mono (fun b _ hb => hT2 b (Nat.le_trans (Below.size hG0.s.1) hb))) (IntsAt.nil _ _ _) (by decide) (by decide)) ?_; intro e wq h; obtain ⟨v, rfl, h1⟩ := retI_arm hT2 hSe (h.eq ha0.out); exact ⟨_, rfl, hRz.out _ _ h1⟩)
  intro v1 u1 x1 hG1 K hK
  have hF1 := hG1.fact
  (try dsimp only at hF1)
  obtain ⟨s1, c1, n1, m1, he, hA1, hb1, hC1⟩ := hF1
  injection he with he
  subst he
  replace hC1 := hid hC1
  (try simp only [Act.put, List.setIfInBounds_toArray, List.set_cons_zero, List.set_cons_succ]); refine hK _ _ ?_; clear hK K
  repeat (first | (refine m_plain (v := ?_) (by rfl) (by rfl) ?_ ?_; rotate_left; (intro wz hSw; obtain ⟨-, hSc⟩ := hSw; (try simp only [List.forall_mem_cons, List.forall_mem_nil, and_true] at hSc); go_simp; (first | done | with_reducible rfl)); (intro K hK; (try simp only [Act.put, List.setIfInBounds_toArray, List.set_cons_zero, List.set_cons_succ]); refine hK _ _ ?_; clear hK K)) | (refine m_skip (by rfl) (by rfl) ?_; (intro K hK; (try simp only [Act.put, List.setIfInBounds_toArray, List.set_cons_zero, List.set_cons_succ]); refine hK _ _ ?_; clear hK K)))
  refine m_make (by rfl) (by rfl) ?_ ?_
  · intro wz hSw hdep R hRz
    obtain ⟨hSe, hSc⟩ := hSw
    (try simp only [List.forall_mem_cons, List.forall_mem_nil, and_true] at hSc)
    unfold does
    (go_simp; refine Calls.mono (N_indexing_Select a0 _ _ _ _ none 0 y _ _ _ _ _ _ _ wz (hA1.up (hdep 1 _ rfl (depB_sound (f := 4) (by kernel_rfl)))) (ArrAt.up (ArrAt.mono (fun b _ h => hT1 b h) _ (E.out.arr 1 rfl)) hSe) (fun _ => ⟨rfl, rfl, hIa.out⟩) hcy.out) ?_; intro e wq h; obtain ⟨ta, tc, tn, tnc, ti, tic, rfl, hq, hqb⟩ := (h.eq v3.out e3.out); exact ⟨_, rfl, hRz.out _ _ ⟨hqb, ta, tc, tn, tnc, ti, tic, rfl, hq, hqb⟩⟩)
  intro v3 u3 x3 hG3 K hK
  have hF3 := hG3.fact
  (try dsimp only at hF3)
  obtain ⟨s3, c3, n3, m3, i3, j3, he, hA3, hb3⟩ := hF3
  injection he with he
  subst he
  (try simp only [Act.put, List.setIfInBounds_toArray, List.set_cons_zero, List.set_cons_succ]); refine hK _ _ ?_; clear hK K
  repeat (first | (refine m_plain (v := ?_) (by rfl) (by rfl) ?_ ?_; rotate_left; (intro wz hSw; obtain ⟨-, hSc⟩ := hSw; (try simp only [List.forall_mem_cons, List.forall_mem_nil, and_true] at hSc); go_simp; (first | done | with_reducible rfl)); (intro K hK; (try simp only [Act.put, List.setIfInBounds_toArray, List.set_cons_zero, List.set_cons_succ]); refine hK _ _ ?_; clear hK K)) | (refine m_skip (by rfl) (by rfl) ?_; (intro K hK; (try simp only [Act.put, List.setIfInBounds_toArray, List.set_cons_zero, List.set_cons_succ]); refine hK _ _ ?_; clear hK K)))
  refine m_make (by rfl) (by rfl) ?_ ?_
  · intro wz hSw hdep R hRz
    obtain ⟨hSe, hSc⟩ := hSw
    (try simp only [List.forall_mem_cons, List.forall_mem_nil, and_true] at hSc)
    unfold does
    (go_simp; exact hRz.out _ _ ⟨ext_alloc _ _, rfl, rfl⟩)
  intro v7 u7 x7 hG7 K hK
  have hF7 := hG7.fact
  (try dsimp only at hF7)
  obtain ⟨rfl, rfl⟩ := hF7
  (try simp only [Act.put, List.setIfInBounds_toArray, List.set_cons_zero, List.set_cons_succ]); refine hK _ _ ?_; clear hK K
  repeat (first | (refine m_plain (v := ?_) (by rfl) (by rfl) ?_ ?_; rotate_left; (intro wz hSw; obtain ⟨-, hSc⟩ := hSw; (try simp only [List.forall_mem_cons, List.forall_mem_nil, and_true] at hSc); go_simp; (first | done | with_reducible rfl)); (intro K hK; (try simp only [Act.put, List.setIfInBounds_toArray, List.set_cons_zero, List.set_cons_succ]); refine hK _ _ ?_; clear hK K)) | (refine m_skip (by rfl) (by rfl) ?_; (intro K hK; (try simp only [Act.put, List.setIfInBounds_toArray, List.set_cons_zero, List.set_cons_succ]); refine hK _ _ ?_; clear hK K)))
  refine m_nil ?_
  intro wf hSf hAf
  replace E := hid (E.out.varO hA3 (hAf 3 _ rfl) (hG7.order 3 _ rfl) hG3.s.1 hG7.s.1 (hAf 7 _ rfl) hSf.1)
  refine wpl_store4 (by rfl) (.tmp 7) (.tmp 58) (by rfl) _ (by rfl) (by rfl) (E.out.hdr 6 rfl) ?_
  intro V5 HV CV
  replace E := hid (E.out.chg 6 rfl CV HV)
  clear CV HV hSf hAf
  (try simp only [List.cons_append, List.nil_append, List.set_cons_zero, List.set_cons_succ] at E)
  clear hG0 hG1 hG3 hG7 hA1 hA3 hb1 hb3 hT1 hT2 hT3 hC1
  generalize u7.heap.size = p3 at E ⊢
  obtain ⟨s113, hq⟩ : ∃ s, s = s3 := ⟨_, rfl⟩
  subst hq
  obtain ⟨c113, hq⟩ : ∃ s, s = c3 := ⟨_, rfl⟩
  subst hq
  obtain ⟨n113, hq⟩ : ∃ s, s = n3 := ⟨_, rfl⟩
  subst hq
  obtain ⟨m113, hq⟩ : ∃ s, s = m3 := ⟨_, rfl⟩
  subst hq
  obtain ⟨i113, hq⟩ : ∃ s, s = i3 := ⟨_, rfl⟩
  subst hq
  obtain ⟨j113, hq⟩ : ∃ s, s = j3 := ⟨_, rfl⟩
  subst hq
  go_upto_region 6 with fail
  obtain ⟨q00, q01, q02, q03⟩ := (E.out.hdr 0 rfl).all
  obtain ⟨q20, q21, q22, q23⟩ := (E.out.hdr 2 rfl).all
  obtain ⟨q40, q41, q42, q43⟩ := (E.out.hdr 4 rfl).all
  obtain ⟨q60, q61, q62, q63⟩ := (E.out.hdr 6 rfl).all
  go_wp2_with fail
  clear q00 q01 q02 q03 q20 q21 q22 q23 q40 q41 q42 q43 q60 q61 q62 q63
  refine (ref03_Same y y _ _ _ _ _ _ _ _ _ _ _ _ _ _ _ (E.out.arr 3 rfl) (E.out.arr 1 rfl)).mono ?_
  rintro e w6 ⟨rfl, hb⟩
  replace E := hid (E.out.up hb)
  clear hb
  rw [show sameB y y = true from sameB_self _]
  obtain ⟨q00, q01, q02, q03⟩ := (E.out.hdr 0 rfl).all
  obtain ⟨q40, q41, q42, q43⟩ := (E.out.hdr 4 rfl).all
  obtain ⟨q60, q61, q62, q63⟩ := (E.out.hdr 6 rfl).all
  go_wp2_with fail
  clear q00 q01 q02 q03 q40 q41 q42 q43 q60 q61 q62 q63
  refine (ref03_Same y y _ _ _ _ _ _ _ _ _ _ _ _ _ _ _ (E.out.arr 5 rfl) (E.out.arr 1 rfl)).mono ?_
  rintro e w7 ⟨rfl, hb⟩
  replace E := hid (E.out.up hb)
  clear hb
  rw [show sameB y y = true from sameB_self _]
  obtain ⟨q00, q01, q02, q03⟩ := (E.out.hdr 0 rfl).all
  obtain ⟨q60, q61, q62, q63⟩ := (E.out.hdr 6 rfl).all
  go_wp2_with fail
  clear q00 q01 q02 q03 q60 q61 q62 q63
  refine (ref03_Same y y _ _ _ _ _ _ _ _ _ _ _ _ _ _ _ (E.out.arr 7 rfl) (E.out.arr 1 rfl)).mono ?_
  rintro e w8 ⟨rfl, hb⟩
  replace E := hid (E.out.up hb)
  clear hb
  rw [show sameB y y = true from sameB_self _]
  go_wp2_with (go_at_call 10; refine (law23_example _).mono ?_; rintro e w9 ⟨rfl, hb9⟩)
  exact hR.out _ _ ⟨rfl, (E.out.up hb9).ext⟩
end Go.Proofs.Ytcoknjlkhefgpaa
