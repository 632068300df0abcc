/- The constructors of package array and of its reference: contracts. Conditions: the arrays and lists are read. -/
import Derived.Test.YtcoknjlkhefgpaaGG
import Derived.Test.YtcoknjlkhefgpaaGC
import Derived.Test.YtcoknjlkhefgpaaGF
set_option linter.unusedVariables false
set_option linter.unusedSimpArgs false
namespace Go.Proofs.Ytcoknjlkhefgpaa
open Go.RowKit Go.Sort
attribute [local go_sem ↓] run_max2 run_min2
attribute [local go_sem] eql_ints_nil eql_arrs_nil
set_option maxHeartbeats 2000000 in
theorem array_valid (a : Arr) (sa : Option Addr) (ca : Nat) (na : Option Addr) (ma : Nat) (ia : Option Addr) (ja : Nat) (S : Nat → Prop) (w : World) (h : ArrAt w S a sa na ia) : Calls Try.prog 85 #[.agg #[.int .i64 a.kind, .slice sa a.shape.length ca, .slice na a.nums.length ma, .slice ia a.items.length ja]] w (RetA w (fun b => S b ∨ w.heap.size ≤ b) (validS a)) := by
  refine calls_post fun R' hR => ?_
  have h0 := hid h
  clear h
  by_cases c : rightS a = 0
  case pos =>
    have cb : (rightS a != 0) = false := by simp [c]
    have hv := hid (validS_yes c)
    replace c := hid c
    go_enter Try.func85, Try.ntmps85
    go_wp2_with fail
    generalize hEW : ((w).alloc (.cells #[.int .i64 a.kind, .slice sa a.shape.length ca, .slice na a.nums.length ma, .slice ia a.items.length ja] 26)).alloc (.cells #[.int .i64 0, .slice none 0 0, .slice none 0 0, .slice none 0 0] 26) = W
    have E := hid (env2 w S hEW)
    clear hEW
    replace E := hid (E.out.arg h0.out)
    (try simp only [List.cons_append, List.nil_append, List.set_cons_zero, List.set_cons_succ] at E)
    refine (array_Right a _ _ _ _ _ _ _ _ (E.out.arr 2 rfl)).mono ?_
    rintro e w1 ⟨rfl, hb⟩
    replace E := hid (E.out.up hb)
    clear hb
    obtain ⟨q00, q01, q02, q03⟩ := (E.out.hdr 0 rfl).all
    go_wp2_with (refine wpl_store4 rfl (.tmp 2) (.tmp 7) rfl _ rfl rfl (E.out.hdr 1 rfl) ?_; intro V HV CV; replace E := hid (E.out.chg 1 rfl CV HV))
    exact bodyPost_ret (end_arr rfl HV rfl) rfl (hR.out _ _ (RetA.to hv.out (ArrAt.mono (fun b _ h => h.1) _ (E.out.arr 2 rfl)) E.out.ext))
  case neg =>
    have cb : (rightS a != 0) = true := by simp [c]
    have hv := hid (validS_no c)
    replace c := hid c
    go_enter Try.func85, Try.ntmps85
    go_wp2_with fail
    generalize hEW : ((w).alloc (.cells #[.int .i64 a.kind, .slice sa a.shape.length ca, .slice na a.nums.length ma, .slice ia a.items.length ja] 26)).alloc (.cells #[.int .i64 0, .slice none 0 0, .slice none 0 0, .slice none 0 0] 26) = W
    have E := hid (env2 w S hEW)
    clear hEW
    replace E := hid (E.out.arg h0.out)
    (try simp only [List.cons_append, List.nil_append, List.set_cons_zero, List.set_cons_succ] at E)
    refine (array_Right a _ _ _ _ _ _ _ _ (E.out.arr 2 rfl)).mono ?_
    rintro e w1 ⟨rfl, hb⟩
    replace E := hid (E.out.up hb)
    clear hb
    go_wp2_with (refine wpl_store4 rfl (.tmp 2) (.tmp 6) rfl _ rfl rfl (E.out.hdr 1 rfl) ?_; intro V HV CV; replace E := hid (E.out.chg 1 rfl CV HV))
    exact bodyPost_ret (end_arr rfl HV rfl) rfl (hR.out _ _ (RetA.zero hv.out E.out.ext))
set_option maxHeartbeats 2000000 in
theorem array_Scalar (m : Int) (w : World) : Calls Try.prog 72 #[.int .i64 m] w (RetA w (fun b => w.heap.size ≤ b) (validS (numA m))) := by
  refine calls_post fun R' hR => ?_
  obtain ⟨S, hSF⟩ : ∃ S : Nat → Prop, ∀ b, ¬ S b := ⟨fun _ => False, fun _ h => h⟩
  obtain ⟨r, hr⟩ : ∃ r, r = validS (numA m) := ⟨_, rfl⟩
  replace hr := hid hr
  go_enter Try.func72, Try.ntmps72
  go_upto_region 1 with (fail)
  generalize hEW : (w).alloc (.cells #[.int .i64 0, .slice none 0 0, .slice none 0 0, .slice none 0 0] 26) = W
  have E := hid (env1 w S hEW)
  clear hEW
  go_wp2_with fail
  replace E := hid (E.out.lit [m] (by simp))
  (try simp only [List.cons_append, List.nil_append, List.set_cons_zero, List.set_cons_succ] at E)
  refine (array_valid (numA m) none 0 _ _ none 0 _ _ (nums_at (E.out.ints 1 rfl))).mono ?_
  intro e w1 h
  obtain ⟨s1, c1, n1, m1, i1, j1, rfl, hA, hb⟩ := h.eq hr.out
  replace E := hid ((E.out.up hb).addArr hA (fun b _ hq => E.out.res (Ext.refl _) hq))
  clear hA hb h
  (try simp only [List.cons_append, List.nil_append, List.set_cons_zero, List.set_cons_succ] at E)
  go_wp2_with (refine wpl_store4 rfl (.tmp 2) (.tmp 6) rfl _ rfl rfl (E.out.hdr 0 rfl) ?_; intro V HV CV; replace E := hid (E.out.chg 0 rfl CV HV))
  exact bodyPost_ret (end_arr rfl HV rfl) rfl (hR.out _ _ (RetA.to hr.out.symm (ArrAt.mono (fun b _ h => h.1.elim (fun q => absurd q (hSF b)) id) _ (E.out.arr 2 rfl)) E.out.ext))
theorem atS_no {a : Arr} {i : Int} (h : i < 0 ∨ (szA a : Int) ≤ i) : atS a i = .zero := if_pos h
theorem atS_N {a : Arr} {i : Int} (h : ¬ (i < 0 ∨ (szA a : Int) ≤ i)) (k : a.kind ≠ 3) : atS a i = .mk a.kind [] [a.nums.getD i.toNat 0] [] := by rw [atS, if_neg h, if_neg k]
theorem atS_A {a : Arr} {i : Int} (h : ¬ (i < 0 ∨ (szA a : Int) ≤ i)) (k : a.kind = 3) : atS a i = .mk 3 [] [] [a.items.getD i.toNat .zero] := by rw [atS, if_neg h, if_pos k]
theorem szA_3 {a : Arr} (k : a.kind = 3) : szA a = a.items.length := by simp [szA, szN, k]
theorem szA_N {a : Arr} (k : a.kind ≠ 3) {i : Nat} (h : i < szA a) : i < a.nums.length := by
  unfold szA szN at h
  split at h
  · exact h
  · omega
set_option maxHeartbeats 4000000 in
theorem array_At (a : Arr) (sa : Option Addr) (ca : Nat) (na : Option Addr) (ma : Nat) (ia : Option Addr) (ja : Nat) (i : Int) (S : Nat → Prop) (w : World) (h : ArrAt w S a sa na ia) : Calls Try.prog 40 #[.agg #[.int .i64 a.kind, .slice sa a.shape.length ca, .slice na a.nums.length ma, .slice ia a.items.length ja], .int .i64 i] w (RetA w (fun b => S b ∨ w.heap.size ≤ b) (atS a i)) := by
  refine calls_post fun R' hR => ?_
  have h0 := hid h
  have hnl := h.nums.1
  have hil := h.len
  clear h
  by_cases c0 : i < 0
  case pos =>
    have hv := hid (atS_no (a := a) (Or.inl c0))
    go_enter Try.func40, Try.ntmps40
    go_upto_region 1 with (fail)
    generalize hEW : ((w).alloc (.cells #[.int .i64 a.kind, .slice sa a.shape.length ca, .slice na a.nums.length ma, .slice ia a.items.length ja] 26)).alloc (.cells #[.int .i64 0, .slice none 0 0, .slice none 0 0, .slice none 0 0] 26) = W
    have E := hid (env2 w S hEW)
    clear hEW
    replace E := hid (E.out.arg h0.out)
    (try simp only [List.cons_append, List.nil_append, List.set_cons_zero, List.set_cons_succ] at E)
    go_wp2_with (refine wpl_store4 rfl (.tmp 4) (.tmp 13) rfl _ rfl rfl (E.out.hdr 1 rfl) ?_; intro V HV CV; replace E := hid (E.out.chg 1 rfl CV HV))
    exact bodyPost_ret (end_arr rfl HV rfl) rfl (hR.out _ _ (RetA.zero hv.out E.out.ext))
  by_cases c1 : (szA a : Int) ≤ i
  case pos =>
    have hv := hid (atS_no (a := a) (Or.inr c1))
    go_enter Try.func40, Try.ntmps40
    go_upto_region 1 with (fail)
    generalize hEW : ((w).alloc (.cells #[.int .i64 a.kind, .slice sa a.shape.length ca, .slice na a.nums.length ma, .slice ia a.items.length ja] 26)).alloc (.cells #[.int .i64 0, .slice none 0 0, .slice none 0 0, .slice none 0 0] 26) = W
    have E := hid (env2 w S hEW)
    clear hEW
    replace E := hid (E.out.arg h0.out)
    (try simp only [List.cons_append, List.nil_append, List.set_cons_zero, List.set_cons_succ] at E)
    obtain ⟨q00, q01, q02, q03⟩ := (E.out.hdr 0 rfl).all
    go_wp2_with fail
    refine (size_array_Size a _ _ _ _ _ _ _ _ (E.out.arr 2 rfl)).mono ?_
    rintro e w1 ⟨rfl, hb⟩
    replace E := hid (E.out.up hb)
    clear hb
    clear q00 q01 q02 q03
    replace c1 : (szN a.kind a.nums.length a.items.length : Int) ≤ i := c1
    go_wp2_with (refine wpl_store4 rfl (.tmp 4) (.tmp 13) rfl _ rfl rfl (E.out.hdr 1 rfl) ?_; intro V HV CV; replace E := hid (E.out.chg 1 rfl CV HV))
    exact bodyPost_ret (end_arr rfl HV rfl) rfl (hR.out _ _ (RetA.zero hv.out E.out.ext))
  obtain ⟨k, rfl⟩ : ∃ k : Nat, i = k := ⟨i.toNat, by omega⟩
  have c1' : ¬ (szN a.kind a.nums.length a.items.length : Int) ≤ (k : Int) := c1
  have ck : k < szA a := by omega
  by_cases k3 : a.kind = 3
  case pos =>
    have kb : (a.kind == 3) = true := by simp [k3]
    have ck' : k < a.items.length := by rw [← szA_3 k3]; exact ck
    have hv := hid (atS_A (by omega) k3 : atS a k = _)
    rw [Int.toNat_natCast, show a.items.getD k .zero = a.items[k] by simp [ck']] at hv
    replace k3 := hid k3
    go_enter Try.func40, Try.ntmps40
    go_upto_region 1 with (fail)
    generalize hEW : ((w).alloc (.cells #[.int .i64 a.kind, .slice sa a.shape.length ca, .slice na a.nums.length ma, .slice ia a.items.length ja] 26)).alloc (.cells #[.int .i64 0, .slice none 0 0, .slice none 0 0, .slice none 0 0] 26) = W
    have E := hid (env2 w S hEW)
    clear hEW
    replace E := hid (E.out.arg h0.out)
    (try simp only [List.cons_append, List.nil_append, List.set_cons_zero, List.set_cons_succ] at E)
    obtain ⟨q00, q01, q02, q03⟩ := (E.out.hdr 0 rfl).all
    go_wp2_with fail
    refine (size_array_Size a _ _ _ _ _ _ _ _ (E.out.arr 2 rfl)).mono ?_
    rintro e w1 ⟨rfl, hb⟩
    replace E := hid (E.out.up hb)
    clear hb
    clear q00 q01 q02 q03
    obtain ⟨b1, o1, sz, cz, nz, mz, iz, jz, hia, hS1, hbl1, e0, e1, e2, e3, hz⟩ := (E.out.arr 2 rfl).items.at ck'
    generalize a.items[k] = z at hv e0 e1 e2 e3 hz
    subst hia
    replace E := hid (E.out.addArr hz (fun _ _ h => h))
    (try simp only [List.cons_append, List.nil_append, List.set_cons_zero, List.set_cons_succ] at E)
    clear hz
    have t3 : (0 : Int) ≤ (k : Int) := by omega
    have t4 : (k : Int) < (a.items.length : Int) := by omega
    obtain ⟨q00, q01, q02, q03⟩ := (E.out.hdr 0 rfl).all
    go_upto_region 4 with (fail)
    obtain ⟨T, hT1, hT2, hT3⟩ := E.out.tw
    refine wp_region_mono_tail 10 (Sees w1 [(⟨w.heap.size, 0, none⟩, .int .i64 a.kind), (⟨w.heap.size, 3, none⟩, .slice (some ⟨b1, o1, none⟩) a.items.length ja), (⟨b1, o1 + k * 4, none⟩, .int .i64 z.kind), (⟨b1, o1 + k * 4 + 1, none⟩, .slice sz z.shape.length cz), (⟨b1, o1 + k * 4 + 2, none⟩, .slice nz z.nums.length mz), (⟨b1, o1 + k * 4 + 3, none⟩, .slice iz z.items.length jz)]) [7, 8] (fun k v u u' => match k with | 7 => RetA u (fun b => w1.heap.size ≤ b) z (.returned v) u' | 8 => ∃ sa sc na nc ia ic, v = .slice (some ⟨u.heap.size, 0, none⟩) 1 1 ∧ u' = u.alloc (.cells #[.int .i64 z.kind, .slice sa z.shape.length sc, .slice na z.nums.length nc, .slice ia z.items.length ic] 26) ∧ ArrAt u (fun b => w1.heap.size ≤ b) z sa na ia | _ => False) (fun _ _ h e => h.up e) (Sees.start (all_cons (q00) (all_cons (q03) (all_cons (e0) (all_cons (e1) (all_cons (e2) (all_cons (e3) (all_nil)))))))) (by kernel_rfl) (by kernel_rfl) ?_
    simp only [List.take_succ_cons, List.take_zero, List.drop_succ_cons, List.drop_zero]
    repeat (first | (refine m_plain (v := ?_) (by rfl) (by rfl) ?_ ?_; rotate_left; (intro wz hSw; obtain ⟨-, hSc⟩ := hSw; (try simp only [List.forall_mem_cons, List.forall_mem_nil, and_true] at hSc); go_simp; (first | done | with_reducible rfl)); (intro K hK; (try simp only [Act.put, List.setIfInBounds_toArray, List.set_cons_zero, List.set_cons_succ]); refine hK _ _ ?_; clear hK K)) | (refine m_skip (by rfl) (by rfl) ?_; (intro K hK; (try simp only [Act.put, List.setIfInBounds_toArray, List.set_cons_zero, List.set_cons_succ]); refine hK _ _ ?_; clear hK K)))
    refine m_make (by rfl) (by rfl) ?_ ?_
    · intro wz hSw hdep R hRz
      obtain ⟨hSe, hSc⟩ := hSw
      (try simp only [List.forall_mem_cons, List.forall_mem_nil, and_true] at hSc)
      unfold does
      (go_simp; refine Calls.mono (array_Clone z _ _ _ _ _ _ _ wz (ArrAt.up (ArrAt.mono (fun b _ h => hT1 b h) _ (E.out.arr 3 rfl)) hSe)) ?_; rintro e wq ⟨ta, tc, tn, tnc, ti, tic, rfl, hq, hqb⟩; exact ⟨_, rfl, hRz.out _ _ ⟨hqb, ta, tc, tn, tnc, ti, tic, rfl, ArrAt.mono (fun b _ hb => Nat.le_trans (Below.size hSe) hb) z hq, hqb⟩⟩)
    intro v7 u7 x7 hG7 K hK
    have hF7 := hG7.fact
    (try dsimp only at hF7)
    obtain ⟨s7, c7, n7, m7, i7, j7, he, hA7, hb7⟩ := hF7
    injection he with he
    subst he
    (try simp only [Act.put, List.setIfInBounds_toArray, List.set_cons_zero, List.set_cons_succ]); refine hK _ _ ?_; clear hK K
    repeat (first | (refine m_plain (v := ?_) (by rfl) (by rfl) ?_ ?_; rotate_left; (intro wz hSw; obtain ⟨-, hSc⟩ := hSw; (try simp only [List.forall_mem_cons, List.forall_mem_nil, and_true] at hSc); go_simp; (first | done | with_reducible rfl)); (intro K hK; (try simp only [Act.put, List.setIfInBounds_toArray, List.set_cons_zero, List.set_cons_succ]); refine hK _ _ ?_; clear hK K)) | (refine m_skip (by rfl) (by rfl) ?_; (intro K hK; (try simp only [Act.put, List.setIfInBounds_toArray, List.set_cons_zero, List.set_cons_succ]); refine hK _ _ ?_; clear hK K)))
    refine m_make (by rfl) (by rfl) ?_ ?_
    · intro wz hSw hdep R hRz
      obtain ⟨hSe, hSc⟩ := hSw
      (try simp only [List.forall_mem_cons, List.forall_mem_nil, and_true] at hSc)
      unfold does
      (go_simp; exact hRz.out _ _ ⟨ext_alloc _ _, s7, c7, n7, m7, i7, j7, rfl, rfl, hA7.up (hdep 7 _ rfl (depB_sound (f := 60) (by kernel_rfl)))⟩)
    intro v8 u8 x8 hG8 K hK
    have hF8 := hG8.fact
    (try dsimp only at hF8)
    obtain ⟨s8, c8, n8, m8, i8, j8, rfl, rfl, hA8⟩ := hF8
    (try simp only [Act.put, List.setIfInBounds_toArray, List.set_cons_zero, List.set_cons_succ]); refine hK _ _ ?_; clear hK K
    repeat (first | (refine m_plain (v := ?_) (by rfl) (by rfl) ?_ ?_; rotate_left; (intro wz hSw; obtain ⟨-, hSc⟩ := hSw; (try simp only [List.forall_mem_cons, List.forall_mem_nil, and_true] at hSc); go_simp; (first | done | with_reducible rfl)); (intro K hK; (try simp only [Act.put, List.setIfInBounds_toArray, List.set_cons_zero, List.set_cons_succ]); refine hK _ _ ?_; clear hK K)) | (refine m_skip (by rfl) (by rfl) ?_; (intro K hK; (try simp only [Act.put, List.setIfInBounds_toArray, List.set_cons_zero, List.set_cons_succ]); refine hK _ _ ?_; clear hK K)))
    refine m_nil ?_
    intro wf hSf hAf
    have hn : ItemsAt wf (fun b => w1.heap.size ≤ b) (some ⟨u8.heap.size, 0, none⟩) 0 [z] := box_items (hAf 8 _ rfl) (Below.size hG8.s.1) hA8
    replace E := hid ((E.out.up hSf.1).addArrF (u := w1) (box_at (k := a.kind) hn) E.out.blt E.out.size)
    (try simp only [List.cons_append, List.nil_append, List.set_cons_zero, List.set_cons_succ] at E)
    clear hSf hAf hG7 hG8 hn hT1 hT2 hT3 hA7 hA8 hb7
    refine wpl_store4 (by rfl) (.tmp 4) (.tmp 26) (by rfl) _ (by rfl) (by rfl) (E.out.hdr 1 rfl) ?_
    intro V HV CV
    replace E := hid (E.out.chg 1 rfl CV HV)
    (try simp only [List.cons_append, List.nil_append, List.set_cons_zero, List.set_cons_succ] at E)
    clear CV
    go_wp2_with fail
    exact bodyPost_ret (end_arr rfl HV rfl) rfl (hR.out _ _ (RetA.to (by rw [hv.out, k3.out]) (ArrAt.mono (fun b _ h => h.1.1) _ (E.out.arrF 4 rfl)) E.out.ext))
  case neg =>
    have kb : (a.kind == 3) = false := by simp [k3]
    have ck' := szA_N k3 ck
    have hv := hid (atS_N (by omega) k3 : atS a k = _)
    rw [Int.toNat_natCast] at hv
    replace k3 := hid k3
    go_enter Try.func40, Try.ntmps40
    go_upto_region 1 with (fail)
    generalize hEW : ((w).alloc (.cells #[.int .i64 a.kind, .slice sa a.shape.length ca, .slice na a.nums.length ma, .slice ia a.items.length ja] 26)).alloc (.cells #[.int .i64 0, .slice none 0 0, .slice none 0 0, .slice none 0 0] 26) = W
    have E := hid (env2 w S hEW)
    clear hEW
    replace E := hid (E.out.arg h0.out)
    (try simp only [List.cons_append, List.nil_append, List.set_cons_zero, List.set_cons_succ] at E)
    obtain ⟨q00, q01, q02, q03⟩ := (E.out.hdr 0 rfl).all
    go_wp2_with fail
    refine (size_array_Size a _ _ _ _ _ _ _ _ (E.out.arr 2 rfl)).mono ?_
    rintro e w1 ⟨rfl, hb⟩
    replace E := hid (E.out.up hb)
    clear hb
    clear q00 q01 q02 q03
    obtain ⟨b1, o1, hna, hbl1, hS1, hc⟩ := (E.out.arr 2 rfl).nums.at (k := k) ck'
    generalize a.nums.getD k 0 = d at hv hc
    subst hna
    have t3 : (0 : Int) ≤ (k : Int) := by omega
    have t4 : (k : Int) < (a.nums.length : Int) := by omega
    obtain ⟨q00, q01, q02, q03⟩ := (E.out.hdr 0 rfl).all
    go_upto_region 5 with (fail)
    refine wp_region_mono_tail 9 (Sees w1 [(⟨w.heap.size, 0, none⟩, .int .i64 a.kind), (⟨w.heap.size, 2, none⟩, .slice (some ⟨b1, o1, none⟩) a.nums.length ma), (⟨b1, o1 + k, none⟩, .int .i64 d)]) [7] (fun k v u u' => match k with | 7 => v = .slice (some ⟨u.heap.size, 0, none⟩) 1 1 ∧ u' = u.alloc (.cells (([d] : List Int).map (Value.int .i64)).toArray 3) | _ => False) (fun _ _ h e => h.up e) (Sees.start (all_cons (q00) (all_cons (q02) (all_cons (hc) (all_nil))))) (by kernel_rfl) (by kernel_rfl) ?_
    simp only [List.take_succ_cons, List.take_zero, List.drop_succ_cons, List.drop_zero]
    repeat (first | (refine m_plain (v := ?_) (by rfl) (by rfl) ?_ ?_; rotate_left; (intro wz hSw; obtain ⟨-, hSc⟩ := hSw; (try simp only [List.forall_mem_cons, List.forall_mem_nil, and_true] at hSc); go_simp; (first | done | with_reducible rfl)); (intro K hK; (try simp only [Act.put, List.setIfInBounds_toArray, List.set_cons_zero, List.set_cons_succ]); refine hK _ _ ?_; clear hK K)) | (refine m_skip (by rfl) (by rfl) ?_; (intro K hK; (try simp only [Act.put, List.setIfInBounds_toArray, List.set_cons_zero, List.set_cons_succ]); refine hK _ _ ?_; clear hK K)))
    refine m_make (by rfl) (by rfl) ?_ ?_
    · intro wz hSw hdep R hRz
      obtain ⟨hSe, hSc⟩ := hSw
      (try simp only [List.forall_mem_cons, List.forall_mem_nil, and_true] at hSc)
      unfold does
      (go_simp; exact hRz.out _ _ ⟨ext_alloc _ _, rfl, rfl⟩)
    intro v7 u7 x7 hG7 K hK
    have hF7 := hG7.fact
    (try dsimp only at hF7)
    obtain ⟨rfl, rfl⟩ := hF7
    (try simp only [Act.put, List.setIfInBounds_toArray, List.set_cons_zero, List.set_cons_succ]); refine hK _ _ ?_; clear hK K
    repeat (first | (refine m_plain (v := ?_) (by rfl) (by rfl) ?_ ?_; rotate_left; (intro wz hSw; obtain ⟨-, hSc⟩ := hSw; (try simp only [List.forall_mem_cons, List.forall_mem_nil, and_true] at hSc); go_simp; (first | done | with_reducible rfl)); (intro K hK; (try simp only [Act.put, List.setIfInBounds_toArray, List.set_cons_zero, List.set_cons_succ]); refine hK _ _ ?_; clear hK K)) | (refine m_skip (by rfl) (by rfl) ?_; (intro K hK; (try simp only [Act.put, List.setIfInBounds_toArray, List.set_cons_zero, List.set_cons_succ]); refine hK _ _ ?_; clear hK K)))
    refine m_nil ?_
    intro wf hSf hAf
    have hn : IntsAt wf (fun b => w1.heap.size ≤ b) (some ⟨u7.heap.size, 0, none⟩) [d] := (lit_at (l := [d]) (hAf 7 _ rfl) (by simp)).mono (fun b _ hb => Nat.le_trans (Below.size hG7.s.1) hb)
    replace E := hid ((E.out.up hSf.1).addArrF (u := w1) (nums_at (k := a.kind) hn) E.out.blt E.out.size)
    (try simp only [List.cons_append, List.nil_append, List.set_cons_zero, List.set_cons_succ] at E)
    clear hSf hAf hG7 hn
    refine wpl_store4 (by rfl) (.tmp 4) (.tmp 35) (by rfl) _ (by rfl) (by rfl) (E.out.hdr 1 rfl) ?_
    intro V HV CV
    replace E := hid (E.out.chg 1 rfl CV HV)
    (try simp only [List.cons_append, List.nil_append, List.set_cons_zero, List.set_cons_succ] at E)
    clear CV
    go_wp2_with fail
    exact bodyPost_ret (end_arr rfl HV rfl) rfl (hR.out _ _ (RetA.to hv.out (ArrAt.mono (fun b _ h => h.1.1) _ (E.out.arrF 3 rfl)) E.out.ext))
set_option maxHeartbeats 4000000 in
theorem ref03_At (a : Arr) (sa : Option Addr) (ca : Nat) (na : Option Addr) (ma : Nat) (ia : Option Addr) (ja : Nat) (i : Int) (S : Nat → Prop) (w : World) (h : ArrAt w S a sa na ia) : Calls Try.prog 29 #[.agg #[.int .i64 a.kind, .slice sa a.shape.length ca, .slice na a.nums.length ma, .slice ia a.items.length ja], .int .i64 i] w (RetA w (fun b => S b ∨ w.heap.size ≤ b) (atS a i)) := by
  refine calls_post fun R' hR => ?_
  have h0 := hid h
  have hnl := h.nums.1
  have hil := h.len
  clear h
  by_cases c0 : i < 0
  case pos =>
    have hv := hid (atS_no (a := a) (Or.inl c0))
    go_enter Try.func29, Try.ntmps29
    go_upto_region 1 with (fail)
    generalize hEW : ((w).alloc (.cells #[.int .i64 a.kind, .slice sa a.shape.length ca, .slice na a.nums.length ma, .slice ia a.items.length ja] 26)).alloc (.cells #[.int .i64 0, .slice none 0 0, .slice none 0 0, .slice none 0 0] 26) = W
    have E := hid (env2 w S hEW)
    clear hEW
    replace E := hid (E.out.arg h0.out)
    (try simp only [List.cons_append, List.nil_append, List.set_cons_zero, List.set_cons_succ] at E)
    go_wp2_with (refine wpl_store4 rfl (.tmp 4) (.tmp 13) rfl _ rfl rfl (E.out.hdr 1 rfl) ?_; intro V HV CV; replace E := hid (E.out.chg 1 rfl CV HV))
    exact bodyPost_ret (end_arr rfl HV rfl) rfl (hR.out _ _ (RetA.zero hv.out E.out.ext))
  by_cases c1 : (szA a : Int) ≤ i
  case pos =>
    have hv := hid (atS_no (a := a) (Or.inr c1))
    go_enter Try.func29, Try.ntmps29
    go_upto_region 1 with (fail)
    generalize hEW : ((w).alloc (.cells #[.int .i64 a.kind, .slice sa a.shape.length ca, .slice na a.nums.length ma, .slice ia a.items.length ja] 26)).alloc (.cells #[.int .i64 0, .slice none 0 0, .slice none 0 0, .slice none 0 0] 26) = W
    have E := hid (env2 w S hEW)
    clear hEW
    replace E := hid (E.out.arg h0.out)
    (try simp only [List.cons_append, List.nil_append, List.set_cons_zero, List.set_cons_succ] at E)
    obtain ⟨q00, q01, q02, q03⟩ := (E.out.hdr 0 rfl).all
    go_wp2_with fail
    refine (size_ref03_Size a _ _ _ _ _ _ _ _ (E.out.arr 2 rfl)).mono ?_
    rintro e w1 ⟨rfl, hb⟩
    replace E := hid (E.out.up hb)
    clear hb
    clear q00 q01 q02 q03
    replace c1 : (szN a.kind a.nums.length a.items.length : Int) ≤ i := c1
    go_wp2_with (refine wpl_store4 rfl (.tmp 4) (.tmp 13) rfl _ rfl rfl (E.out.hdr 1 rfl) ?_; intro V HV CV; replace E := hid (E.out.chg 1 rfl CV HV))
    exact bodyPost_ret (end_arr rfl HV rfl) rfl (hR.out _ _ (RetA.zero hv.out E.out.ext))
  obtain ⟨k, rfl⟩ : ∃ k : Nat, i = k := ⟨i.toNat, by omega⟩
  have c1' : ¬ (szN a.kind a.nums.length a.items.length : Int) ≤ (k : Int) := c1
  have ck : k < szA a := by omega
  by_cases k3 : a.kind = 3
  case pos =>
    have kb : (a.kind == 3) = true := by simp [k3]
    have ck' : k < a.items.length := by rw [← szA_3 k3]; exact ck
    have hv := hid (atS_A (by omega) k3 : atS a k = _)
    rw [Int.toNat_natCast, show a.items.getD k .zero = a.items[k] by simp [ck']] at hv
    replace k3 := hid k3
    go_enter Try.func29, Try.ntmps29
    go_upto_region 1 with (fail)
    generalize hEW : ((w).alloc (.cells #[.int .i64 a.kind, .slice sa a.shape.length ca, .slice na a.nums.length ma, .slice ia a.items.length ja] 26)).alloc (.cells #[.int .i64 0, .slice none 0 0, .slice none 0 0, .slice none 0 0] 26) = W
    have E := hid (env2 w S hEW)
    clear hEW
    replace E := hid (E.out.arg h0.out)
    (try simp only [List.cons_append, List.nil_append, List.set_cons_zero, List.set_cons_succ] at E)
    obtain ⟨q00, q01, q02, q03⟩ := (E.out.hdr 0 rfl).all
    go_wp2_with fail
    refine (size_ref03_Size a _ _ _ _ _ _ _ _ (E.out.arr 2 rfl)).mono ?_
    rintro e w1 ⟨rfl, hb⟩
    replace E := hid (E.out.up hb)
    clear hb
    clear q00 q01 q02 q03
    obtain ⟨b1, o1, sz, cz, nz, mz, iz, jz, hia, hS1, hbl1, e0, e1, e2, e3, hz⟩ := (E.out.arr 2 rfl).items.at ck'
    generalize a.items[k] = z at hv e0 e1 e2 e3 hz
    subst hia
    replace E := hid (E.out.addArr hz (fun _ _ h => h))
    (try simp only [List.cons_append, List.nil_append, List.set_cons_zero, List.set_cons_succ] at E)
    clear hz
    have t3 : (0 : Int) ≤ (k : Int) := by omega
    have t4 : (k : Int) < (a.items.length : Int) := by omega
    obtain ⟨q00, q01, q02, q03⟩ := (E.out.hdr 0 rfl).all
    go_wp2_with fail
    refine (ref03_Clone z _ _ _ _ _ _ _ _ (E.out.arr 3 rfl)).mono ?_
    intro e w2 h
    obtain ⟨s1, c1, n1, m1, i1, j1, rfl, hA, hb⟩ := h.eq rfl
    replace E := hid ((E.out.up hb).addArr hA (fun b _ hq => E.out.fresh (Ext.refl _) hq))
    clear hA hb h
    (try simp only [List.cons_append, List.nil_append, List.set_cons_zero, List.set_cons_succ] at E)
    go_wp2_with (refine wpl_store4 rfl (.tmp 4) (.tmp 24) rfl _ rfl rfl ((E.out.box 4 rfl c1 m1 j1).hdr 1 rfl) ?_; intro V HV CV; replace E := hid ((E.out.box 4 rfl c1 m1 j1).chg 1 rfl CV HV); (try simp only [List.cons_append, List.nil_append, List.set_cons_zero, List.set_cons_succ] at E))
    exact bodyPost_ret (end_arr rfl HV rfl) rfl (hR.out _ _ (RetA.to hv.out (ArrAt.mono (fun b _ h => h.1) _ (box_at (E.out.items 5 rfl))) E.out.ext))
  case neg =>
    have kb : (a.kind == 3) = false := by simp [k3]
    have ck' := szA_N k3 ck
    have hv := hid (atS_N (by omega) k3 : atS a k = _)
    rw [Int.toNat_natCast] at hv
    replace k3 := hid k3
    go_enter Try.func29, Try.ntmps29
    go_upto_region 1 with (fail)
    generalize hEW : ((w).alloc (.cells #[.int .i64 a.kind, .slice sa a.shape.length ca, .slice na a.nums.length ma, .slice ia a.items.length ja] 26)).alloc (.cells #[.int .i64 0, .slice none 0 0, .slice none 0 0, .slice none 0 0] 26) = W
    have E := hid (env2 w S hEW)
    clear hEW
    replace E := hid (E.out.arg h0.out)
    (try simp only [List.cons_append, List.nil_append, List.set_cons_zero, List.set_cons_succ] at E)
    obtain ⟨q00, q01, q02, q03⟩ := (E.out.hdr 0 rfl).all
    go_wp2_with fail
    refine (size_ref03_Size a _ _ _ _ _ _ _ _ (E.out.arr 2 rfl)).mono ?_
    rintro e w1 ⟨rfl, hb⟩
    replace E := hid (E.out.up hb)
    clear hb
    clear q00 q01 q02 q03
    obtain ⟨b1, o1, hna, hbl1, hS1, hc⟩ := (E.out.arr 2 rfl).nums.at (k := k) ck'
    generalize a.nums.getD k 0 = d at hv hc
    subst hna
    have t3 : (0 : Int) ≤ (k : Int) := by omega
    have t4 : (k : Int) < (a.nums.length : Int) := by omega
    obtain ⟨q00, q01, q02, q03⟩ := (E.out.hdr 0 rfl).all
    go_upto_region 5 with (fail)
    refine wp_region_mono_tail 9 (Sees w1 [(⟨w.heap.size, 0, none⟩, .int .i64 a.kind), (⟨w.heap.size, 2, none⟩, .slice (some ⟨b1, o1, none⟩) a.nums.length ma), (⟨b1, o1 + k, none⟩, .int .i64 d)]) [7] (fun k v u u' => match k with | 7 => v = .slice (some ⟨u.heap.size, 0, none⟩) 1 1 ∧ u' = u.alloc (.cells (([d] : List Int).map (Value.int .i64)).toArray 3) | _ => False) (fun _ _ h e => h.up e) (Sees.start (all_cons (q00) (all_cons (q02) (all_cons (hc) (all_nil))))) (by kernel_rfl) (by kernel_rfl) ?_
    simp only [List.take_succ_cons, List.take_zero, List.drop_succ_cons, List.drop_zero]
    repeat (first | (refine m_plain (v := ?_) (by rfl) (by rfl) ?_ ?_; rotate_left; (intro wz hSw; obtain ⟨-, hSc⟩ := hSw; (try simp only [List.forall_mem_cons, List.forall_mem_nil, and_true] at hSc); go_simp; (first | done | with_reducible rfl)); (intro K hK; (try simp only [Act.put, List.setIfInBounds_toArray, List.set_cons_zero, List.set_cons_succ]); refine hK _ _ ?_; clear hK K)) | (refine m_skip (by rfl) (by rfl) ?_; (intro K hK; (try simp only [Act.put, List.setIfInBounds_toArray, List.set_cons_zero, List.set_cons_succ]); refine hK _ _ ?_; clear hK K)))
    refine m_make (by rfl) (by rfl) ?_ ?_
    · intro wz hSw hdep R hRz
      obtain ⟨hSe, hSc⟩ := hSw
      (try simp only [List.forall_mem_cons, List.forall_mem_nil, and_true] at hSc)
      unfold does
      (go_simp; exact hRz.out _ _ ⟨ext_alloc _ _, rfl, rfl⟩)
    intro v7 u7 x7 hG7 K hK
    have hF7 := hG7.fact
    (try dsimp only at hF7)
    obtain ⟨rfl, rfl⟩ := hF7
    (try simp only [Act.put, List.setIfInBounds_toArray, List.set_cons_zero, List.set_cons_succ]); refine hK _ _ ?_; clear hK K
    repeat (first | (refine m_plain (v := ?_) (by rfl) (by rfl) ?_ ?_; rotate_left; (intro wz hSw; obtain ⟨-, hSc⟩ := hSw; (try simp only [List.forall_mem_cons, List.forall_mem_nil, and_true] at hSc); go_simp; (first | done | with_reducible rfl)); (intro K hK; (try simp only [Act.put, List.setIfInBounds_toArray, List.set_cons_zero, List.set_cons_succ]); refine hK _ _ ?_; clear hK K)) | (refine m_skip (by rfl) (by rfl) ?_; (intro K hK; (try simp only [Act.put, List.setIfInBounds_toArray, List.set_cons_zero, List.set_cons_succ]); refine hK _ _ ?_; clear hK K)))
    refine m_nil ?_
    intro wf hSf hAf
    have hn : IntsAt wf (fun b => w1.heap.size ≤ b) (some ⟨u7.heap.size, 0, none⟩) [d] := (lit_at (l := [d]) (hAf 7 _ rfl) (by simp)).mono (fun b _ hb => Nat.le_trans (Below.size hG7.s.1) hb)
    replace E := hid ((E.out.up hSf.1).addArrF (u := w1) (nums_at (k := a.kind) hn) E.out.blt E.out.size)
    (try simp only [List.cons_append, List.nil_append, List.set_cons_zero, List.set_cons_succ] at E)
    clear hSf hAf hG7 hn
    refine wpl_store4 (by rfl) (.tmp 4) (.tmp 33) (by rfl) _ (by rfl) (by rfl) (E.out.hdr 1 rfl) ?_
    intro V HV CV
    replace E := hid (E.out.chg 1 rfl CV HV)
    (try simp only [List.cons_append, List.nil_append, List.set_cons_zero, List.set_cons_succ] at E)
    clear CV
    go_wp2_with fail
    exact bodyPost_ret (end_arr rfl HV rfl) rfl (hR.out _ _ (RetA.to hv.out (ArrAt.mono (fun b _ h => h.1.1) _ (E.out.arrF 3 rfl)) E.out.ext))
end Go.Proofs.Ytcoknjlkhefgpaa
