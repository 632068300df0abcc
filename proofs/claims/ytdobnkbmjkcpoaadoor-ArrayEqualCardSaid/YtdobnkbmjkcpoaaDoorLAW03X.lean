/- The example of the law of arrays: true. Condition: the tables of unicode/utf8 lie as their initialisers lay them. -/
import Derived.Test.YtdobnkbmjkcpoaaDoorATXT
import Derived.Test.YtdobnkbmjkcpoaaDoorAOF
import Derived.Test.YtdobnkbmjkcpoaaDoorSLEQ
set_option linter.unusedVariables false
set_option linter.unusedSimpArgs false
namespace Go.Proofs.YtdobnkbmjkcpoaaDoor
open Go.RowKit Go.Sort
attribute [local go_sem ↓] run_max2 run_min2
attribute [local go_sem] eql_ints_nil eql_arrs_nil
def matA : Arr := .mk 1 [2, 2] [1, 2, 3, 4] []
set_option maxHeartbeats 2000000 in
theorem law03_matrix (w : World) : Calls Tryd.prog 44 #[] w (RetA w (fun b => w.heap.size ≤ b) matA) := by
  refine calls_post fun R' hR => ?_
  obtain ⟨S, hSF⟩ : ∃ S : Nat → Prop, S = fun _ => False := ⟨_, rfl⟩
  go_enter Tryd.func44, Tryd.ntmps44
  go_upto_region 1 with (fail)
  generalize hEW : (w).alloc (.cells #[.int .i64 0, .slice none 0 0, .slice none 0 0, .slice none 0 0] 26) = W
  have E := hid (env1 w S hEW)
  clear hEW
  go_wp2_with (refine wpl_store4 rfl (.tmp 0) (.tmp 3) rfl _ rfl rfl (((E.out.lit2 [2, 2] [1, 2, 3, 4] (by decide) (by decide))).hdr 0 rfl) ?_; intro V HV CV; replace E := hid ((E.out.lit2 [2, 2] [1, 2, 3, 4] (by decide) (by decide)).chg 0 rfl CV HV); (try simp only [List.cons_append, List.nil_append, List.set_cons_zero, List.set_cons_succ] at E))
  subst hSF
  exact bodyPost_ret (end_arr rfl HV rfl) rfl (hR.out _ _ (RetA.to rfl (ArrAt.mono (fun b _ h => h.1.elim False.elim id) _ (vec_at (k := 1) (E.out.ints 1 rfl) (E.out.ints 2 rfl))) E.out.ext))
def hiS : ByteArray := ⟨#[104, 105]⟩
def spS : ByteArray := ⟨#[32]⟩
def emS : ByteArray := ⟨#[]⟩
set_option maxRecDepth 100000 in
set_option maxHeartbeats 8000000 in
theorem law03_example (w : World) (hT : Tabs w) : Calls Tryd.prog 12 #[] w fun e w' => e = .returned (.bool true) ∧ Ext w w' := by
  refine calls_post fun R' hR => ?_
  obtain ⟨mm, hmm⟩ : ∃ a, a = matA := ⟨_, rfl⟩
  obtain ⟨hi, hhi⟩ : ∃ a, a = Arr.mk 2 [2] [104, 105] [] := ⟨_, rfl⟩
  obtain ⟨bx, hbx⟩ : ∃ a, a = Arr.mk 3 [2] [] [mm, hi] := ⟨_, rfl⟩
  obtain ⟨v2, hv2⟩ : ∃ a, a = Arr.mk 1 [2] [1, 2] [] := ⟨_, rfl⟩
  obtain ⟨cc, hcc⟩ : ∃ a, a = Arr.mk 1 [5] [1, 2, 1, 2, 1] [] := ⟨_, rfl⟩
  obtain ⟨bh, hbh⟩ : ∃ a, a = Arr.mk 3 [] [] [hi] := ⟨_, rfl⟩
  obtain ⟨s1, hs1⟩ : ∃ a, a = Arr.mk 1 [] [1] [] := ⟨_, rfl⟩
  obtain ⟨v1, hv1⟩ : ∃ a, a = Arr.mk 1 [1] [1] [] := ⟨_, rfl⟩
  obtain ⟨te, hte⟩ : ∃ a, a = Arr.mk 2 [0] [] [] := ⟨_, rfl⟩
  obtain ⟨ts, hts⟩ : ∃ a, a = Arr.mk 2 [1] [32] [] := ⟨_, rfl⟩
  obtain ⟨s2, hs2⟩ : ∃ a, a = Arr.mk 2 [] [32] [] := ⟨_, rfl⟩
  have z1 : Hid (hi = txtS hiS) := hid (by rw [hhi]; kernel_rfl)
  have z2 : Hid (bx = validS (bxlA [mm, hi])) := hid (by rw [hbx, hmm, hhi]; kernel_rfl)
  have z3 : Hid (v2 = validS (vctA [1, 2])) := hid (by rw [hv2]; kernel_rfl)
  have z4 : Hid (cc = ofS [5] v2) := hid (by rw [hcc, hv2]; kernel_rfl)
  have z5 : Hid (ofE [5] v2 = 0) := hid (by rw [hv2]; kernel_rfl)
  have z6 : Hid (rightS mm = 0) := hid (by rw [hmm]; kernel_rfl)
  have z7 : Hid (szN bx.kind bx.nums.length bx.items.length = 2) := hid (by rw [hbx]; kernel_rfl)
  have z8 : Hid (wtS bx = 8) := hid (by rw [hbx, hmm, hhi]; kernel_rfl)
  have z9 : Hid (bh = atS bx 1) := hid (by rw [hbx, hbh]; kernel_rfl)
  have za : Hid (bh = validS (boxA hi)) := hid (by rw [hbh, hhi]; kernel_rfl)
  have zb : Hid (cc = validS (vctA [1, 2, 1, 2, 1])) := hid (by rw [hcc]; kernel_rfl)
  have zc : Hid (rightS (.mk 1 [3] [1] []) = 16) := hid (by kernel_rfl)
  have zd : Hid (s1 = validS (numA 1)) := hid (by rw [hs1]; kernel_rfl)
  have ze : Hid (v1 = validS (vctA [1])) := hid (by rw [hv1]; kernel_rfl)
  have zf : Hid (te = txtS emS) := hid (by rw [hte]; kernel_rfl)
  have zg : Hid (ts = txtS spS) := hid (by rw [hts]; kernel_rfl)
  have zh : Hid (s2 = fillS te) := hid (by rw [hs2, hte]; kernel_rfl)
  have zi : Hid (s2 = atS ts 0) := hid (by rw [hs2, hts]; kernel_rfl)
  have ua1 : Hid (sameB bh bh = true) := hid (sameB_self _)
  have ua2 : Hid (sameB cc cc = true) := hid (sameB_self _)
  have ua3 : Hid (sameB s1 v1 = false) := hid (sameB_shape (by rw [hs1, hv1]; rfl))
  have ua4 : Hid (sameB s2 s2 = true) := hid (sameB_self _)
  replace hmm := hid hmm
  replace hhi := hid hhi
  replace hbx := hid hbx
  replace hv2 := hid hv2
  replace hcc := hid hcc
  replace hbh := hid hbh
  replace hs1 := hid hs1
  replace hv1 := hid hv1
  replace hte := hid hte
  replace hts := hid hts
  replace hs2 := hid hs2
  obtain ⟨S, hSF⟩ : ∃ S : Nat → Prop, S = fun _ => False := ⟨_, rfl⟩
  have E := hid (Env.start w S)
  go_enter Tryd.func12, Tryd.ntmps12
  go_wp2_with fail
  refine (law03_matrix _).mono ?_
  intro e w1 h
  obtain ⟨s101, c101, n101, m101, i101, j101, rfl, hA, hb⟩ := h.eq hmm.out
  replace E := hid ((E.out.up hb).addArr hA (fun b _ hq => E.out.fresh (Ext.refl _) hq))
  clear hA hb h
  (try simp only [List.cons_append, List.nil_append, List.set_cons_zero, List.set_cons_succ] at E)
  go_wp2_with fail
  refine (array_Text hiS w1 (by decide) (Utf8Tabs_below hT E.out.ext)).mono ?_
  intro e w2 h
  obtain ⟨s102, c102, n102, m102, i102, j102, rfl, hA, hb⟩ := h.eq z1.out
  replace E := hid ((E.out.up hb).addArr hA (fun b _ hq => E.out.fresh (Ext.refl _) hq))
  clear hA hb h
  (try simp only [List.cons_append, List.nil_append, List.set_cons_zero, List.set_cons_succ] at E)
  go_wp2_with fail
  replace E := hid (E.out.pair 0 1 rfl rfl c101 m101 j101 c102 m102 j102)
  (try simp only [List.cons_append, List.nil_append, List.set_cons_zero, List.set_cons_succ] at E)
  refine (array_Boxes [mm, hi] _ _ _ _ (E.out.items 2 rfl) (by simp)).mono ?_
  intro e w3 h
  obtain ⟨s103, c103, n103, m103, i103, j103, rfl, hA, hb⟩ := h.eq z2.out
  replace E := hid ((E.out.up hb).addArr hA (fun b _ hq => E.out.res (Ext.refl _) hq))
  clear hA hb h
  (try simp only [List.cons_append, List.nil_append, List.set_cons_zero, List.set_cons_succ] at E)
  go_upto_region 2 with (refine wpl_store4 rfl (.tmp 1) (.tmp 7) rfl _ rfl rfl ((E.out.alloc _).hdr 4 rfl) ?_; intro V1 HV CV; replace E := hid ((E.out.alloc _).chg 4 rfl CV HV); clear CV HV; (try simp only [List.cons_append, List.nil_append, List.set_cons_zero, List.set_cons_succ] at E))
  generalize w3.heap.size = p1 at E ⊢
  go_wp2_with fail
  replace E := hid (E.out.lit2 [5] [1, 2] (by decide) (by decide))
  (try simp only [List.cons_append, List.nil_append, List.set_cons_zero, List.set_cons_succ] at E)
  refine (array_Vector [1, 2] _ _ _ _ (E.out.ints 6 rfl)).mono ?_
  intro e w4 h
  obtain ⟨s104, c104, n104, m104, i104, j104, rfl, hA, hb⟩ := h.eq z3.out
  replace E := hid ((E.out.up hb).addArr hA (fun b _ hq => E.out.res (Ext.refl _) hq))
  clear hA hb h
  (try simp only [List.cons_append, List.nil_append, List.set_cons_zero, List.set_cons_succ] at E)
  go_wp2_with fail
  refine (array_Of [5] _ _ v2 _ _ _ _ _ _ _ _ (E.out.arr 7 rfl) (E.out.ints 5 rfl)).mono ?_
  intro e w5 h
  obtain ⟨s105, c105, n105, m105, i105, j105, rfl, hA, hb, hC105⟩ := h.eq z4.out z5.out
  replace E := hid ((E.out.up hb).addArr hA (fun b _ hq => E.out.res (Ext.refl _) hq))
  replace hC105 := hid hC105
  clear hA hb h
  (try simp only [List.cons_append, List.nil_append, List.set_cons_zero, List.set_cons_succ] at E)
  go_upto_region 3 with (refine wpl_store4 rfl (.tmp 2) (.tmp 13) rfl _ rfl rfl ((E.out.alloc _).hdr 9 rfl) ?_; intro V2 HV CV; replace E := hid ((E.out.alloc _).chg 9 rfl CV HV); clear CV HV; (try simp only [List.cons_append, List.nil_append, List.set_cons_zero, List.set_cons_succ] at E))
  generalize w5.heap.size = p2 at E ⊢
  have hTV : Tabs V2 := Utf8Tabs_below hT E.out.ext
  clear hC105
  obtain ⟨T, hT1, hT2, hT3⟩ := E.out.tw
  refine wp_region_mono (Sees V2 [(⟨p1, 0, none⟩, .int .i64 bx.kind), (⟨p1, 1, none⟩, .slice s103 bx.shape.length c103), (⟨p1, 2, none⟩, .slice n103 bx.nums.length m103), (⟨p1, 3, none⟩, .slice i103 bx.items.length j103), (⟨p2, 0, none⟩, .int .i64 cc.kind), (⟨p2, 1, none⟩, .slice s105 cc.shape.length c105), (⟨p2, 2, none⟩, .slice n105 cc.nums.length m105), (⟨p2, 3, none⟩, .slice i105 cc.items.length j105)]) [0, 1, 5, 10, 15, 16, 17, 18, 26, 27, 28, 31, 32, 34, 38, 39, 40, 41, 45, 46, 47, 48, 49] (fun k v u u' => match k with | 0 => RetA u T (mm) (.returned v) u' | 1 => v = .int .i64 0 | 5 => v = .int .i64 2 | 10 => v = .int .i64 8 | 15 => RetA u T (bh) (.returned v) u' | 16 => RetA u T (hi) (.returned v) u' | 17 => RetA u T (bh) (.returned v) u' | 18 => v = .bool true | 26 => v = .slice (some ⟨u.heap.size, 0, none⟩) 5 5 ∧ u' = u.alloc (.cells (([1, 2, 1, 2, 1] : List Int).map (Value.int .i64)).toArray 3) | 27 => RetA u T (cc) (.returned v) u' | 28 => v = .bool true | 31 => v = .slice (some ⟨u.heap.size, 0, none⟩) 1 1 ∧ u' = u.alloc (.cells (([3] : List Int).map (Value.int .i64)).toArray 3) | 32 => v = .slice (some ⟨u.heap.size, 0, none⟩) 1 1 ∧ u' = u.alloc (.cells (([1] : List Int).map (Value.int .i64)).toArray 3) | 34 => v = .int .i64 16 | 38 => RetA u T (s1) (.returned v) u' | 39 => v = .slice (some ⟨u.heap.size, 0, none⟩) 1 1 ∧ u' = u.alloc (.cells (([1] : List Int).map (Value.int .i64)).toArray 3) | 40 => RetA u T (v1) (.returned v) u' | 41 => v = .bool false | 45 => RetA u T (te) (.returned v) u' | 46 => RetA u T (s2) (.returned v) u' | 47 => RetA u T (ts) (.returned v) u' | 48 => RetA u T (s2) (.returned v) u' | 49 => v = .bool true | _ => False) (fun _ _ h e => h.up e) (Sees.start (all_cons ((E.out.hdr 4 rfl).c0) (all_cons ((E.out.hdr 4 rfl).c1) (all_cons ((E.out.hdr 4 rfl).c2) (all_cons ((E.out.hdr 4 rfl).c3) (all_cons ((E.out.hdr 9 rfl).c0) (all_cons ((E.out.hdr 9 rfl).c1) (all_cons ((E.out.hdr 9 rfl).c2) (all_cons ((E.out.hdr 9 rfl).c3) (all_nil)))))))))) (by kernel_rfl) (by kernel_rfl) ?_
  repeat (first | (refine m_plain (v := ?_) (by rfl) (by rfl) ?_ ?_; rotate_left; (intro wz hSw; obtain ⟨-, hSc⟩ := hSw; (try simp only [List.forall_mem_cons, List.forall_mem_nil, and_true] at hSc); go_simp; (first | done | with_reducible rfl)); (intro K hK; (try simp only [Act.put, List.setIfInBounds_toArray, List.set_cons_zero, List.set_cons_succ]); refine hK _ _ ?_; clear hK K)) | (refine m_skip (by rfl) (by rfl) ?_; (intro K hK; (try simp only [Act.put, List.setIfInBounds_toArray, List.set_cons_zero, List.set_cons_succ]); refine hK _ _ ?_; clear hK K)))
  refine m_make (by rfl) (by rfl) ?_ ?_
  · intro wz hSw hdep R hRz
    obtain ⟨hSe, hSc⟩ := hSw
    (try simp only [List.forall_mem_cons, List.forall_mem_nil, and_true] at hSc)
    unfold does
    (go_simp; refine Calls.mono (law03_matrix wz) ?_; intro e wq h; obtain ⟨v, rfl, h1⟩ := retA_arm hT2 hSe (RetA.inr T (h.eq hmm.out)); exact ⟨_, rfl, hRz.out _ _ h1⟩)
  intro v0 u0 x0 hG0 K hK
  have hF0 := hG0.fact
  (try dsimp only at hF0)
  obtain ⟨s0, c0, n0, m0, i0, j0, he, hA0, hb0⟩ := hF0
  injection he with he
  subst he
  (try simp only [Act.put, List.setIfInBounds_toArray, List.set_cons_zero, List.set_cons_succ]); refine hK _ _ ?_; clear hK K
  repeat (first | (refine m_plain (v := ?_) (by rfl) (by rfl) ?_ ?_; rotate_left; (intro wz hSw; obtain ⟨-, hSc⟩ := hSw; (try simp only [List.forall_mem_cons, List.forall_mem_nil, and_true] at hSc); go_simp; (first | done | with_reducible rfl)); (intro K hK; (try simp only [Act.put, List.setIfInBounds_toArray, List.set_cons_zero, List.set_cons_succ]); refine hK _ _ ?_; clear hK K)) | (refine m_skip (by rfl) (by rfl) ?_; (intro K hK; (try simp only [Act.put, List.setIfInBounds_toArray, List.set_cons_zero, List.set_cons_succ]); refine hK _ _ ?_; clear hK K)))
  refine m_make (by rfl) (by rfl) ?_ ?_
  · intro wz hSw hdep R hRz
    obtain ⟨hSe, hSc⟩ := hSw
    (try simp only [List.forall_mem_cons, List.forall_mem_nil, and_true] at hSc)
    unfold does
    (go_simp; refine Calls.mono (array_Right mm _ _ _ _ _ _ _ wz (hA0.up (hdep 0 _ rfl (depB_sound (f := 4) (by kernel_rfl))))) ?_; rintro e wq ⟨rfl, hqb⟩; rw [z6.out]; exact ⟨_, rfl, hRz.out _ _ ⟨hqb, rfl⟩⟩)
  intro v1 u1 x1 hG1 K hK
  have hF1 := hG1.fact
  (try dsimp only at hF1)
  subst hF1
  (try simp only [Act.put, List.setIfInBounds_toArray, List.set_cons_zero, List.set_cons_succ]); refine hK _ _ ?_; clear hK K
  repeat (first | (refine m_plain (v := ?_) (by rfl) (by rfl) ?_ ?_; rotate_left; (intro wz hSw; obtain ⟨-, hSc⟩ := hSw; (try simp only [List.forall_mem_cons, List.forall_mem_nil, and_true] at hSc); go_simp; (first | done | with_reducible rfl)); (intro K hK; (try simp only [Act.put, List.setIfInBounds_toArray, List.set_cons_zero, List.set_cons_succ]); refine hK _ _ ?_; clear hK K)) | (refine m_skip (by rfl) (by rfl) ?_; (intro K hK; (try simp only [Act.put, List.setIfInBounds_toArray, List.set_cons_zero, List.set_cons_succ]); refine hK _ _ ?_; clear hK K)))
  refine m_make (by rfl) (by rfl) ?_ ?_
  · intro wz hSw hdep R hRz
    obtain ⟨hSe, hSc⟩ := hSw
    (try simp only [List.forall_mem_cons, List.forall_mem_nil, and_true] at hSc)
    unfold does
    (go_simp; refine Calls.mono (size_array_Size bx _ _ _ _ _ _ _ wz (ArrAt.up (ArrAt.mono (fun b _ h => hT1 b h) _ (E.out.arr 3 rfl)) hSe)) ?_; rintro e wq ⟨rfl, hqb⟩; rw [z7.out]; exact ⟨_, rfl, hRz.out _ _ ⟨hqb, rfl⟩⟩)
  intro v5 u5 x5 hG5 K hK
  have hF5 := hG5.fact
  (try dsimp only at hF5)
  subst hF5
  (try simp only [Act.put, List.setIfInBounds_toArray, List.set_cons_zero, List.set_cons_succ]); refine hK _ _ ?_; clear hK K
  repeat (first | (refine m_plain (v := ?_) (by rfl) (by rfl) ?_ ?_; rotate_left; (intro wz hSw; obtain ⟨-, hSc⟩ := hSw; (try simp only [List.forall_mem_cons, List.forall_mem_nil, and_true] at hSc); go_simp; (first | done | with_reducible rfl)); (intro K hK; (try simp only [Act.put, List.setIfInBounds_toArray, List.set_cons_zero, List.set_cons_succ]); refine hK _ _ ?_; clear hK K)) | (refine m_skip (by rfl) (by rfl) ?_; (intro K hK; (try simp only [Act.put, List.setIfInBounds_toArray, List.set_cons_zero, List.set_cons_succ]); refine hK _ _ ?_; clear hK K)))
  refine m_make (by rfl) (by rfl) ?_ ?_
  · intro wz hSw hdep R hRz
    obtain ⟨hSe, hSc⟩ := hSw
    (try simp only [List.forall_mem_cons, List.forall_mem_nil, and_true] at hSc)
    unfold does
    (go_simp; refine Calls.mono (array_Weight bx _ _ _ _ _ _ _ wz (ArrAt.up (ArrAt.mono (fun b _ h => hT1 b h) _ (E.out.arr 3 rfl)) hSe)) ?_; rintro e wq ⟨rfl, hqb⟩; rw [z8.out]; exact ⟨_, rfl, hRz.out _ _ ⟨hqb, rfl⟩⟩)
  intro v10 u10 x10 hG10 K hK
  have hF10 := hG10.fact
  (try dsimp only at hF10)
  subst hF10
  (try simp only [Act.put, List.setIfInBounds_toArray, List.set_cons_zero, List.set_cons_succ]); refine hK _ _ ?_; clear hK K
  repeat (first | (refine m_plain (v := ?_) (by rfl) (by rfl) ?_ ?_; rotate_left; (intro wz hSw; obtain ⟨-, hSc⟩ := hSw; (try simp only [List.forall_mem_cons, List.forall_mem_nil, and_true] at hSc); go_simp; (first | done | with_reducible rfl)); (intro K hK; (try simp only [Act.put, List.setIfInBounds_toArray, List.set_cons_zero, List.set_cons_succ]); refine hK _ _ ?_; clear hK K)) | (refine m_skip (by rfl) (by rfl) ?_; (intro K hK; (try simp only [Act.put, List.setIfInBounds_toArray, List.set_cons_zero, List.set_cons_succ]); refine hK _ _ ?_; clear hK K)))
  refine m_make (by rfl) (by rfl) ?_ ?_
  · intro wz hSw hdep R hRz
    obtain ⟨hSe, hSc⟩ := hSw
    (try simp only [List.forall_mem_cons, List.forall_mem_nil, and_true] at hSc)
    unfold does
    (go_simp; refine Calls.mono (array_At bx _ _ _ _ _ _ 1 _ wz (ArrAt.up (ArrAt.mono (fun b _ h => hT1 b h) _ (E.out.arr 3 rfl)) hSe)) ?_; intro e wq h; obtain ⟨v, rfl, h1⟩ := retA_arm hT2 hSe (h.eq z9.out); exact ⟨_, rfl, hRz.out _ _ h1⟩)
  intro v15 u15 x15 hG15 K hK
  have hF15 := hG15.fact
  (try dsimp only at hF15)
  obtain ⟨s15, c15, n15, m15, i15, j15, he, hA15, hb15⟩ := hF15
  injection he with he
  subst he
  (try simp only [Act.put, List.setIfInBounds_toArray, List.set_cons_zero, List.set_cons_succ]); refine hK _ _ ?_; clear hK K
  repeat (first | (refine m_plain (v := ?_) (by rfl) (by rfl) ?_ ?_; rotate_left; (intro wz hSw; obtain ⟨-, hSc⟩ := hSw; (try simp only [List.forall_mem_cons, List.forall_mem_nil, and_true] at hSc); go_simp; (first | done | with_reducible rfl)); (intro K hK; (try simp only [Act.put, List.setIfInBounds_toArray, List.set_cons_zero, List.set_cons_succ]); refine hK _ _ ?_; clear hK K)) | (refine m_skip (by rfl) (by rfl) ?_; (intro K hK; (try simp only [Act.put, List.setIfInBounds_toArray, List.set_cons_zero, List.set_cons_succ]); refine hK _ _ ?_; clear hK K)))
  refine m_make (by rfl) (by rfl) ?_ ?_
  · intro wz hSw hdep R hRz
    obtain ⟨hSe, hSc⟩ := hSw
    (try simp only [List.forall_mem_cons, List.forall_mem_nil, and_true] at hSc)
    unfold does
    (go_simp; refine Calls.mono (array_Text hiS wz (by decide) (Utf8Tabs_below hTV hSe)) ?_; intro e wq h; obtain ⟨v, rfl, h1⟩ := retA_arm hT2 hSe (RetA.inr T (h.eq z1.out)); exact ⟨_, rfl, hRz.out _ _ h1⟩)
  intro v16 u16 x16 hG16 K hK
  have hF16 := hG16.fact
  (try dsimp only at hF16)
  obtain ⟨s16, c16, n16, m16, i16, j16, he, hA16, hb16⟩ := hF16
  injection he with he
  subst he
  (try simp only [Act.put, List.setIfInBounds_toArray, List.set_cons_zero, List.set_cons_succ]); refine hK _ _ ?_; clear hK K
  repeat (first | (refine m_plain (v := ?_) (by rfl) (by rfl) ?_ ?_; rotate_left; (intro wz hSw; obtain ⟨-, hSc⟩ := hSw; (try simp only [List.forall_mem_cons, List.forall_mem_nil, and_true] at hSc); go_simp; (first | done | with_reducible rfl)); (intro K hK; (try simp only [Act.put, List.setIfInBounds_toArray, List.set_cons_zero, List.set_cons_succ]); refine hK _ _ ?_; clear hK K)) | (refine m_skip (by rfl) (by rfl) ?_; (intro K hK; (try simp only [Act.put, List.setIfInBounds_toArray, List.set_cons_zero, List.set_cons_succ]); refine hK _ _ ?_; clear hK K)))
  refine m_make (by rfl) (by rfl) ?_ ?_
  · intro wz hSw hdep R hRz
    obtain ⟨hSe, hSc⟩ := hSw
    (try simp only [List.forall_mem_cons, List.forall_mem_nil, and_true] at hSc)
    unfold does
    (go_simp; refine Calls.mono (array_Box hi _ _ _ _ _ _ _ wz (hA16.up (hdep 16 _ rfl (depB_sound (f := 4) (by kernel_rfl))))) ?_; intro e wq h; obtain ⟨v, rfl, h1⟩ := retA_arm hT2 hSe (h.eq za.out); exact ⟨_, rfl, hRz.out _ _ h1⟩)
  intro v17 u17 x17 hG17 K hK
  have hF17 := hG17.fact
  (try dsimp only at hF17)
  obtain ⟨s17, c17, n17, m17, i17, j17, he, hA17, hb17⟩ := hF17
  injection he with he
  subst he
  (try simp only [Act.put, List.setIfInBounds_toArray, List.set_cons_zero, List.set_cons_succ]); refine hK _ _ ?_; clear hK K
  repeat (first | (refine m_plain (v := ?_) (by rfl) (by rfl) ?_ ?_; rotate_left; (intro wz hSw; obtain ⟨-, hSc⟩ := hSw; (try simp only [List.forall_mem_cons, List.forall_mem_nil, and_true] at hSc); go_simp; (first | done | with_reducible rfl)); (intro K hK; (try simp only [Act.put, List.setIfInBounds_toArray, List.set_cons_zero, List.set_cons_succ]); refine hK _ _ ?_; clear hK K)) | (refine m_skip (by rfl) (by rfl) ?_; (intro K hK; (try simp only [Act.put, List.setIfInBounds_toArray, List.set_cons_zero, List.set_cons_succ]); refine hK _ _ ?_; clear hK K)))
  refine m_make (by rfl) (by rfl) ?_ ?_
  · intro wz hSw hdep R hRz
    obtain ⟨hSe, hSc⟩ := hSw
    (try simp only [List.forall_mem_cons, List.forall_mem_nil, and_true] at hSc)
    unfold does
    (go_simp; refine Calls.mono (array_Same bh bh _ _ _ _ _ _ _ _ _ _ _ _ _ _ wz (hA15.up (hdep 15 _ rfl (depB_sound (f := 4) (by kernel_rfl)))) (hA17.up (hdep 17 _ rfl (depB_sound (f := 4) (by kernel_rfl))))) ?_; rintro e wq ⟨rfl, hqb⟩; rw [ua1.out]; exact ⟨_, rfl, hRz.out _ _ ⟨hqb, rfl⟩⟩)
  intro v18 u18 x18 hG18 K hK
  have hF18 := hG18.fact
  (try dsimp only at hF18)
  subst hF18
  (try simp only [Act.put, List.setIfInBounds_toArray, List.set_cons_zero, List.set_cons_succ]); refine hK _ _ ?_; clear hK K
  repeat (first | (refine m_plain (v := ?_) (by rfl) (by rfl) ?_ ?_; rotate_left; (intro wz hSw; obtain ⟨-, hSc⟩ := hSw; (try simp only [List.forall_mem_cons, List.forall_mem_nil, and_true] at hSc); go_simp; (first | done | with_reducible rfl)); (intro K hK; (try simp only [Act.put, List.setIfInBounds_toArray, List.set_cons_zero, List.set_cons_succ]); refine hK _ _ ?_; clear hK K)) | (refine m_skip (by rfl) (by rfl) ?_; (intro K hK; (try simp only [Act.put, List.setIfInBounds_toArray, List.set_cons_zero, List.set_cons_succ]); refine hK _ _ ?_; clear hK K)))
  refine m_make (by rfl) (by rfl) ?_ ?_
  · intro wz hSw hdep R hRz
    obtain ⟨hSe, hSc⟩ := hSw
    (try simp only [List.forall_mem_cons, List.forall_mem_nil, and_true] at hSc)
    unfold does
    (go_simp; exact hRz.out _ _ ⟨ext_alloc _ _, rfl, rfl⟩)
  intro v26 u26 x26 hG26 K hK
  have hF26 := hG26.fact
  (try dsimp only at hF26)
  obtain ⟨rfl, rfl⟩ := hF26
  (try simp only [Act.put, List.setIfInBounds_toArray, List.set_cons_zero, List.set_cons_succ]); refine hK _ _ ?_; clear hK K
  repeat (first | (refine m_plain (v := ?_) (by rfl) (by rfl) ?_ ?_; rotate_left; (intro wz hSw; obtain ⟨-, hSc⟩ := hSw; (try simp only [List.forall_mem_cons, List.forall_mem_nil, and_true] at hSc); go_simp; (first | done | with_reducible rfl)); (intro K hK; (try simp only [Act.put, List.setIfInBounds_toArray, List.set_cons_zero, List.set_cons_succ]); refine hK _ _ ?_; clear hK K)) | (refine m_skip (by rfl) (by rfl) ?_; (intro K hK; (try simp only [Act.put, List.setIfInBounds_toArray, List.set_cons_zero, List.set_cons_succ]); refine hK _ _ ?_; clear hK K)))
  refine m_make (by rfl) (by rfl) ?_ ?_
  · intro wz hSw hdep R hRz
    obtain ⟨hSe, hSc⟩ := hSw
    (try simp only [List.forall_mem_cons, List.forall_mem_nil, and_true] at hSc)
    unfold does
    (go_simp; refine Calls.mono (array_Vector [1, 2, 1, 2, 1] _ _ _ wz ((lit_at (hdep 26 _ rfl (depB_sound (f := 4) (by kernel_rfl))) (by first | decide | simp)).mono (fun b _ hb => hT2 b (Nat.le_trans (Below.size hG26.s.1) hb)))) ?_; intro e wq h; obtain ⟨v, rfl, h1⟩ := retA_arm hT2 hSe (h.eq zb.out); exact ⟨_, rfl, hRz.out _ _ h1⟩)
  intro v27 u27 x27 hG27 K hK
  have hF27 := hG27.fact
  (try dsimp only at hF27)
  obtain ⟨s27, c27, n27, m27, i27, j27, he, hA27, hb27⟩ := hF27
  injection he with he
  subst he
  (try simp only [Act.put, List.setIfInBounds_toArray, List.set_cons_zero, List.set_cons_succ]); refine hK _ _ ?_; clear hK K
  repeat (first | (refine m_plain (v := ?_) (by rfl) (by rfl) ?_ ?_; rotate_left; (intro wz hSw; obtain ⟨-, hSc⟩ := hSw; (try simp only [List.forall_mem_cons, List.forall_mem_nil, and_true] at hSc); go_simp; (first | done | with_reducible rfl)); (intro K hK; (try simp only [Act.put, List.setIfInBounds_toArray, List.set_cons_zero, List.set_cons_succ]); refine hK _ _ ?_; clear hK K)) | (refine m_skip (by rfl) (by rfl) ?_; (intro K hK; (try simp only [Act.put, List.setIfInBounds_toArray, List.set_cons_zero, List.set_cons_succ]); refine hK _ _ ?_; clear hK K)))
  refine m_make (by rfl) (by rfl) ?_ ?_
  · intro wz hSw hdep R hRz
    obtain ⟨hSe, hSc⟩ := hSw
    (try simp only [List.forall_mem_cons, List.forall_mem_nil, and_true] at hSc)
    unfold does
    (go_simp; refine Calls.mono (array_Same cc cc _ _ _ _ _ _ _ _ _ _ _ _ _ _ wz (ArrAt.up (ArrAt.mono (fun b _ h => hT1 b h) _ (E.out.arr 8 rfl)) hSe) (hA27.up (hdep 27 _ rfl (depB_sound (f := 4) (by kernel_rfl))))) ?_; rintro e wq ⟨rfl, hqb⟩; rw [ua2.out]; exact ⟨_, rfl, hRz.out _ _ ⟨hqb, rfl⟩⟩)
  intro v28 u28 x28 hG28 K hK
  have hF28 := hG28.fact
  (try dsimp only at hF28)
  subst hF28
  (try simp only [Act.put, List.setIfInBounds_toArray, List.set_cons_zero, List.set_cons_succ]); refine hK _ _ ?_; clear hK K
  repeat (first | (refine m_plain (v := ?_) (by rfl) (by rfl) ?_ ?_; rotate_left; (intro wz hSw; obtain ⟨-, hSc⟩ := hSw; (try simp only [List.forall_mem_cons, List.forall_mem_nil, and_true] at hSc); go_simp; (first | done | with_reducible rfl)); (intro K hK; (try simp only [Act.put, List.setIfInBounds_toArray, List.set_cons_zero, List.set_cons_succ]); refine hK _ _ ?_; clear hK K)) | (refine m_skip (by rfl) (by rfl) ?_; (intro K hK; (try simp only [Act.put, List.setIfInBounds_toArray, List.set_cons_zero, List.set_cons_succ]); refine hK _ _ ?_; clear hK K)))
  refine m_make (by rfl) (by rfl) ?_ ?_
  · intro wz hSw hdep R hRz
    obtain ⟨hSe, hSc⟩ := hSw
    (try simp only [List.forall_mem_cons, List.forall_mem_nil, and_true] at hSc)
    unfold does
    (go_simp; exact hRz.out _ _ ⟨ext_alloc _ _, rfl, rfl⟩)
  intro v31 u31 x31 hG31 K hK
  have hF31 := hG31.fact
  (try dsimp only at hF31)
  obtain ⟨rfl, rfl⟩ := hF31
  (try simp only [Act.put, List.setIfInBounds_toArray, List.set_cons_zero, List.set_cons_succ]); refine hK _ _ ?_; clear hK K
  repeat (first | (refine m_plain (v := ?_) (by rfl) (by rfl) ?_ ?_; rotate_left; (intro wz hSw; obtain ⟨-, hSc⟩ := hSw; (try simp only [List.forall_mem_cons, List.forall_mem_nil, and_true] at hSc); go_simp; (first | done | with_reducible rfl)); (intro K hK; (try simp only [Act.put, List.setIfInBounds_toArray, List.set_cons_zero, List.set_cons_succ]); refine hK _ _ ?_; clear hK K)) | (refine m_skip (by rfl) (by rfl) ?_; (intro K hK; (try simp only [Act.put, List.setIfInBounds_toArray, List.set_cons_zero, List.set_cons_succ]); refine hK _ _ ?_; clear hK K)))
  refine m_make (by rfl) (by rfl) ?_ ?_
  · intro wz hSw hdep R hRz
    obtain ⟨hSe, hSc⟩ := hSw
    (try simp only [List.forall_mem_cons, List.forall_mem_nil, and_true] at hSc)
    unfold does
    (go_simp; exact hRz.out _ _ ⟨ext_alloc _ _, rfl, rfl⟩)
  intro v32 u32 x32 hG32 K hK
  have hF32 := hG32.fact
  (try dsimp only at hF32)
  obtain ⟨rfl, rfl⟩ := hF32
  (try simp only [Act.put, List.setIfInBounds_toArray, List.set_cons_zero, List.set_cons_succ]); refine hK _ _ ?_; clear hK K
  repeat (first | (refine m_plain (v := ?_) (by rfl) (by rfl) ?_ ?_; rotate_left; (intro wz hSw; obtain ⟨-, hSc⟩ := hSw; (try simp only [List.forall_mem_cons, List.forall_mem_nil, and_true] at hSc); go_simp; (first | done | with_reducible rfl)); (intro K hK; (try simp only [Act.put, List.setIfInBounds_toArray, List.set_cons_zero, List.set_cons_succ]); refine hK _ _ ?_; clear hK K)) | (refine m_skip (by rfl) (by rfl) ?_; (intro K hK; (try simp only [Act.put, List.setIfInBounds_toArray, List.set_cons_zero, List.set_cons_succ]); refine hK _ _ ?_; clear hK K)))
  refine m_make (by rfl) (by rfl) ?_ ?_
  · intro wz hSw hdep R hRz
    obtain ⟨hSe, hSc⟩ := hSw
    (try simp only [List.forall_mem_cons, List.forall_mem_nil, and_true] at hSc)
    unfold does
    (go_simp; refine Calls.mono (array_Right (.mk 1 [3] [1] []) _ 1 _ 1 none 0 _ wz (vec_at ((lit_at (hdep 31 _ rfl (depB_sound (f := 4) (by kernel_rfl))) (by first | decide | simp)).mono (fun b _ hb => hT2 b (Nat.le_trans (Below.size hG31.s.1) hb))) ((lit_at (hdep 32 _ rfl (depB_sound (f := 4) (by kernel_rfl))) (by first | decide | simp)).mono (fun b _ hb => hT2 b (Nat.le_trans (Below.size hG32.s.1) hb))))) ?_; rintro e wq ⟨rfl, hqb⟩; rw [zc.out]; exact ⟨_, rfl, hRz.out _ _ ⟨hqb, rfl⟩⟩)
  intro v34 u34 x34 hG34 K hK
  have hF34 := hG34.fact
  (try dsimp only at hF34)
  subst hF34
  (try simp only [Act.put, List.setIfInBounds_toArray, List.set_cons_zero, List.set_cons_succ]); refine hK _ _ ?_; clear hK K
  repeat (first | (refine m_plain (v := ?_) (by rfl) (by rfl) ?_ ?_; rotate_left; (intro wz hSw; obtain ⟨-, hSc⟩ := hSw; (try simp only [List.forall_mem_cons, List.forall_mem_nil, and_true] at hSc); go_simp; (first | done | with_reducible rfl)); (intro K hK; (try simp only [Act.put, List.setIfInBounds_toArray, List.set_cons_zero, List.set_cons_succ]); refine hK _ _ ?_; clear hK K)) | (refine m_skip (by rfl) (by rfl) ?_; (intro K hK; (try simp only [Act.put, List.setIfInBounds_toArray, List.set_cons_zero, List.set_cons_succ]); refine hK _ _ ?_; clear hK K)))
  refine m_make (by rfl) (by rfl) ?_ ?_
  · intro wz hSw hdep R hRz
    obtain ⟨hSe, hSc⟩ := hSw
    (try simp only [List.forall_mem_cons, List.forall_mem_nil, and_true] at hSc)
    unfold does
    (go_simp; refine Calls.mono (array_Scalar 1 wz) ?_; intro e wq h; obtain ⟨v, rfl, h1⟩ := retA_arm hT2 hSe (RetA.inr T (h.eq zd.out)); exact ⟨_, rfl, hRz.out _ _ h1⟩)
  intro v38 u38 x38 hG38 K hK
  have hF38 := hG38.fact
  (try dsimp only at hF38)
  obtain ⟨s38, c38, n38, m38, i38, j38, he, hA38, hb38⟩ := hF38
  injection he with he
  subst he
  (try simp only [Act.put, List.setIfInBounds_toArray, List.set_cons_zero, List.set_cons_succ]); refine hK _ _ ?_; clear hK K
  repeat (first | (refine m_plain (v := ?_) (by rfl) (by rfl) ?_ ?_; rotate_left; (intro wz hSw; obtain ⟨-, hSc⟩ := hSw; (try simp only [List.forall_mem_cons, List.forall_mem_nil, and_true] at hSc); go_simp; (first | done | with_reducible rfl)); (intro K hK; (try simp only [Act.put, List.setIfInBounds_toArray, List.set_cons_zero, List.set_cons_succ]); refine hK _ _ ?_; clear hK K)) | (refine m_skip (by rfl) (by rfl) ?_; (intro K hK; (try simp only [Act.put, List.setIfInBounds_toArray, List.set_cons_zero, List.set_cons_succ]); refine hK _ _ ?_; clear hK K)))
  refine m_make (by rfl) (by rfl) ?_ ?_
  · intro wz hSw hdep R hRz
    obtain ⟨hSe, hSc⟩ := hSw
    (try simp only [List.forall_mem_cons, List.forall_mem_nil, and_true] at hSc)
    unfold does
    (go_simp; exact hRz.out _ _ ⟨ext_alloc _ _, rfl, rfl⟩)
  intro v39 u39 x39 hG39 K hK
  have hF39 := hG39.fact
  (try dsimp only at hF39)
  obtain ⟨rfl, rfl⟩ := hF39
  (try simp only [Act.put, List.setIfInBounds_toArray, List.set_cons_zero, List.set_cons_succ]); refine hK _ _ ?_; clear hK K
  repeat (first | (refine m_plain (v := ?_) (by rfl) (by rfl) ?_ ?_; rotate_left; (intro wz hSw; obtain ⟨-, hSc⟩ := hSw; (try simp only [List.forall_mem_cons, List.forall_mem_nil, and_true] at hSc); go_simp; (first | done | with_reducible rfl)); (intro K hK; (try simp only [Act.put, List.setIfInBounds_toArray, List.set_cons_zero, List.set_cons_succ]); refine hK _ _ ?_; clear hK K)) | (refine m_skip (by rfl) (by rfl) ?_; (intro K hK; (try simp only [Act.put, List.setIfInBounds_toArray, List.set_cons_zero, List.set_cons_succ]); refine hK _ _ ?_; clear hK K)))
  refine m_make (by rfl) (by rfl) ?_ ?_
  · intro wz hSw hdep R hRz
    obtain ⟨hSe, hSc⟩ := hSw
    (try simp only [List.forall_mem_cons, List.forall_mem_nil, and_true] at hSc)
    unfold does
    (go_simp; refine Calls.mono (array_Vector [1] _ _ _ wz ((lit_at (hdep 39 _ rfl (depB_sound (f := 4) (by kernel_rfl))) (by first | decide | simp)).mono (fun b _ hb => hT2 b (Nat.le_trans (Below.size hG39.s.1) hb)))) ?_; intro e wq h; obtain ⟨v, rfl, h1⟩ := retA_arm hT2 hSe (h.eq ze.out); exact ⟨_, rfl, hRz.out _ _ h1⟩)
  intro v40 u40 x40 hG40 K hK
  have hF40 := hG40.fact
  (try dsimp only at hF40)
  obtain ⟨s40, c40, n40, m40, i40, j40, he, hA40, hb40⟩ := hF40
  injection he with he
  subst he
  (try simp only [Act.put, List.setIfInBounds_toArray, List.set_cons_zero, List.set_cons_succ]); refine hK _ _ ?_; clear hK K
  repeat (first | (refine m_plain (v := ?_) (by rfl) (by rfl) ?_ ?_; rotate_left; (intro wz hSw; obtain ⟨-, hSc⟩ := hSw; (try simp only [List.forall_mem_cons, List.forall_mem_nil, and_true] at hSc); go_simp; (first | done | with_reducible rfl)); (intro K hK; (try simp only [Act.put, List.setIfInBounds_toArray, List.set_cons_zero, List.set_cons_succ]); refine hK _ _ ?_; clear hK K)) | (refine m_skip (by rfl) (by rfl) ?_; (intro K hK; (try simp only [Act.put, List.setIfInBounds_toArray, List.set_cons_zero, List.set_cons_succ]); refine hK _ _ ?_; clear hK K)))
  refine m_make (by rfl) (by rfl) ?_ ?_
  · intro wz hSw hdep R hRz
    obtain ⟨hSe, hSc⟩ := hSw
    (try simp only [List.forall_mem_cons, List.forall_mem_nil, and_true] at hSc)
    unfold does
    (go_simp; refine Calls.mono (array_Same s1 v1 _ _ _ _ _ _ _ _ _ _ _ _ _ _ wz (hA38.up (hdep 38 _ rfl (depB_sound (f := 4) (by kernel_rfl)))) (hA40.up (hdep 40 _ rfl (depB_sound (f := 4) (by kernel_rfl))))) ?_; rintro e wq ⟨rfl, hqb⟩; rw [ua3.out]; exact ⟨_, rfl, hRz.out _ _ ⟨hqb, rfl⟩⟩)
  intro v41 u41 x41 hG41 K hK
  have hF41 := hG41.fact
  (try dsimp only at hF41)
  subst hF41
  (try simp only [Act.put, List.setIfInBounds_toArray, List.set_cons_zero, List.set_cons_succ]); refine hK _ _ ?_; clear hK K
  repeat (first | (refine m_plain (v := ?_) (by rfl) (by rfl) ?_ ?_; rotate_left; (intro wz hSw; obtain ⟨-, hSc⟩ := hSw; (try simp only [List.forall_mem_cons, List.forall_mem_nil, and_true] at hSc); go_simp; (first | done | with_reducible rfl)); (intro K hK; (try simp only [Act.put, List.setIfInBounds_toArray, List.set_cons_zero, List.set_cons_succ]); refine hK _ _ ?_; clear hK K)) | (refine m_skip (by rfl) (by rfl) ?_; (intro K hK; (try simp only [Act.put, List.setIfInBounds_toArray, List.set_cons_zero, List.set_cons_succ]); refine hK _ _ ?_; clear hK K)))
  refine m_make (by rfl) (by rfl) ?_ ?_
  · intro wz hSw hdep R hRz
    obtain ⟨hSe, hSc⟩ := hSw
    (try simp only [List.forall_mem_cons, List.forall_mem_nil, and_true] at hSc)
    unfold does
    (go_simp; refine Calls.mono (array_Text emS wz (by decide) (Utf8Tabs_below hTV hSe)) ?_; intro e wq h; obtain ⟨v, rfl, h1⟩ := retA_arm hT2 hSe (RetA.inr T (h.eq zf.out)); exact ⟨_, rfl, hRz.out _ _ h1⟩)
  intro v45 u45 x45 hG45 K hK
  have hF45 := hG45.fact
  (try dsimp only at hF45)
  obtain ⟨s45, c45, n45, m45, i45, j45, he, hA45, hb45⟩ := hF45
  injection he with he
  subst he
  (try simp only [Act.put, List.setIfInBounds_toArray, List.set_cons_zero, List.set_cons_succ]); refine hK _ _ ?_; clear hK K
  repeat (first | (refine m_plain (v := ?_) (by rfl) (by rfl) ?_ ?_; rotate_left; (intro wz hSw; obtain ⟨-, hSc⟩ := hSw; (try simp only [List.forall_mem_cons, List.forall_mem_nil, and_true] at hSc); go_simp; (first | done | with_reducible rfl)); (intro K hK; (try simp only [Act.put, List.setIfInBounds_toArray, List.set_cons_zero, List.set_cons_succ]); refine hK _ _ ?_; clear hK K)) | (refine m_skip (by rfl) (by rfl) ?_; (intro K hK; (try simp only [Act.put, List.setIfInBounds_toArray, List.set_cons_zero, List.set_cons_succ]); refine hK _ _ ?_; clear hK K)))
  refine m_make (by rfl) (by rfl) ?_ ?_
  · intro wz hSw hdep R hRz
    obtain ⟨hSe, hSc⟩ := hSw
    (try simp only [List.forall_mem_cons, List.forall_mem_nil, and_true] at hSc)
    unfold does
    (go_simp; refine Calls.mono (fill_array_Fill te _ _ _ _ _ _ wz) ?_; intro e wq h; obtain ⟨v, rfl, h1⟩ := retA_arm hT2 hSe (RetA.inr T (h.eq zh.out)); exact ⟨_, rfl, hRz.out _ _ h1⟩)
  intro v46 u46 x46 hG46 K hK
  have hF46 := hG46.fact
  (try dsimp only at hF46)
  obtain ⟨s46, c46, n46, m46, i46, j46, he, hA46, hb46⟩ := hF46
  injection he with he
  subst he
  (try simp only [Act.put, List.setIfInBounds_toArray, List.set_cons_zero, List.set_cons_succ]); refine hK _ _ ?_; clear hK K
  repeat (first | (refine m_plain (v := ?_) (by rfl) (by rfl) ?_ ?_; rotate_left; (intro wz hSw; obtain ⟨-, hSc⟩ := hSw; (try simp only [List.forall_mem_cons, List.forall_mem_nil, and_true] at hSc); go_simp; (first | done | with_reducible rfl)); (intro K hK; (try simp only [Act.put, List.setIfInBounds_toArray, List.set_cons_zero, List.set_cons_succ]); refine hK _ _ ?_; clear hK K)) | (refine m_skip (by rfl) (by rfl) ?_; (intro K hK; (try simp only [Act.put, List.setIfInBounds_toArray, List.set_cons_zero, List.set_cons_succ]); refine hK _ _ ?_; clear hK K)))
  refine m_make (by rfl) (by rfl) ?_ ?_
  · intro wz hSw hdep R hRz
    obtain ⟨hSe, hSc⟩ := hSw
    (try simp only [List.forall_mem_cons, List.forall_mem_nil, and_true] at hSc)
    unfold does
    (go_simp; refine Calls.mono (array_Text spS wz (by decide) (Utf8Tabs_below hTV hSe)) ?_; intro e wq h; obtain ⟨v, rfl, h1⟩ := retA_arm hT2 hSe (RetA.inr T (h.eq zg.out)); exact ⟨_, rfl, hRz.out _ _ h1⟩)
  intro v47 u47 x47 hG47 K hK
  have hF47 := hG47.fact
  (try dsimp only at hF47)
  obtain ⟨s47, c47, n47, m47, i47, j47, he, hA47, hb47⟩ := hF47
  injection he with he
  subst he
  (try simp only [Act.put, List.setIfInBounds_toArray, List.set_cons_zero, List.set_cons_succ]); refine hK _ _ ?_; clear hK K
  repeat (first | (refine m_plain (v := ?_) (by rfl) (by rfl) ?_ ?_; rotate_left; (intro wz hSw; obtain ⟨-, hSc⟩ := hSw; (try simp only [List.forall_mem_cons, List.forall_mem_nil, and_true] at hSc); go_simp; (first | done | with_reducible rfl)); (intro K hK; (try simp only [Act.put, List.setIfInBounds_toArray, List.set_cons_zero, List.set_cons_succ]); refine hK _ _ ?_; clear hK K)) | (refine m_skip (by rfl) (by rfl) ?_; (intro K hK; (try simp only [Act.put, List.setIfInBounds_toArray, List.set_cons_zero, List.set_cons_succ]); refine hK _ _ ?_; clear hK K)))
  refine m_make (by rfl) (by rfl) ?_ ?_
  · intro wz hSw hdep R hRz
    obtain ⟨hSe, hSc⟩ := hSw
    (try simp only [List.forall_mem_cons, List.forall_mem_nil, and_true] at hSc)
    unfold does
    (go_simp; refine Calls.mono (array_At ts _ _ _ _ _ _ 0 _ wz (hA47.up (hdep 47 _ rfl (depB_sound (f := 4) (by kernel_rfl))))) ?_; intro e wq h; obtain ⟨v, rfl, h1⟩ := retA_arm hT2 hSe (h.eq zi.out); exact ⟨_, rfl, hRz.out _ _ h1⟩)
  intro v48 u48 x48 hG48 K hK
  have hF48 := hG48.fact
  (try dsimp only at hF48)
  obtain ⟨s48, c48, n48, m48, i48, j48, he, hA48, hb48⟩ := hF48
  injection he with he
  subst he
  (try simp only [Act.put, List.setIfInBounds_toArray, List.set_cons_zero, List.set_cons_succ]); refine hK _ _ ?_; clear hK K
  repeat (first | (refine m_plain (v := ?_) (by rfl) (by rfl) ?_ ?_; rotate_left; (intro wz hSw; obtain ⟨-, hSc⟩ := hSw; (try simp only [List.forall_mem_cons, List.forall_mem_nil, and_true] at hSc); go_simp; (first | done | with_reducible rfl)); (intro K hK; (try simp only [Act.put, List.setIfInBounds_toArray, List.set_cons_zero, List.set_cons_succ]); refine hK _ _ ?_; clear hK K)) | (refine m_skip (by rfl) (by rfl) ?_; (intro K hK; (try simp only [Act.put, List.setIfInBounds_toArray, List.set_cons_zero, List.set_cons_succ]); refine hK _ _ ?_; clear hK K)))
  refine m_make (by rfl) (by rfl) ?_ ?_
  · intro wz hSw hdep R hRz
    obtain ⟨hSe, hSc⟩ := hSw
    (try simp only [List.forall_mem_cons, List.forall_mem_nil, and_true] at hSc)
    unfold does
    (go_simp; refine Calls.mono (array_Same s2 s2 _ _ _ _ _ _ _ _ _ _ _ _ _ _ wz (hA46.up (hdep 46 _ rfl (depB_sound (f := 4) (by kernel_rfl)))) (hA48.up (hdep 48 _ rfl (depB_sound (f := 4) (by kernel_rfl))))) ?_; rintro e wq ⟨rfl, hqb⟩; rw [ua4.out]; exact ⟨_, rfl, hRz.out _ _ ⟨hqb, rfl⟩⟩)
  intro v49 u49 x49 hG49 K hK
  have hF49 := hG49.fact
  (try dsimp only at hF49)
  subst hF49
  (try simp only [Act.put, List.setIfInBounds_toArray, List.set_cons_zero, List.set_cons_succ]); refine hK _ _ ?_; clear hK K
  repeat (first | (refine m_plain (v := ?_) (by rfl) (by rfl) ?_ ?_; rotate_left; (intro wz hSw; obtain ⟨-, hSc⟩ := hSw; (try simp only [List.forall_mem_cons, List.forall_mem_nil, and_true] at hSc); go_simp; (first | done | with_reducible rfl)); (intro K hK; (try simp only [Act.put, List.setIfInBounds_toArray, List.set_cons_zero, List.set_cons_succ]); refine hK _ _ ?_; clear hK K)) | (refine m_skip (by rfl) (by rfl) ?_; (intro K hK; (try simp only [Act.put, List.setIfInBounds_toArray, List.set_cons_zero, List.set_cons_succ]); refine hK _ _ ?_; clear hK K)))
  refine m_nil ?_
  intro wf hSf hAf
  have ef := hid (E.out.up hSf.1).ext
  clear hSf hAf
  go_wp2_with fail
  exact hR.out _ _ ⟨rfl, ef.out⟩
end Go.Proofs.YtdobnkbmjkcpoaaDoor
