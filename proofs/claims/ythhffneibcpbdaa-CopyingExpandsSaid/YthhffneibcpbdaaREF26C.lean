/- ref26.Expand: contract (under way). Conditions: the arrays are read; a slice's capacity is at least its length. -/
import Derived.Test.YthhffneibcpbdaaREF26B
import Derived.Test.YthhffneibcpbdaaP26X
import Derived.Deep.CutRange
import Derived.Deep.DeepCutAuto
set_option linter.unusedVariables false
set_option linter.unusedSimpArgs false
namespace Go.Proofs.Ythhffneibcpbdaa
open Go.RowKit Go.Sort
attribute [local go_sem ↓] run_max2 run_min2
attribute [local go_sem] eql_ints_nil eql_arrs_nil
theorem fill_put (y : Arr) (hk : y.kind = 1 ∨ y.kind = 2 ∨ y.kind = 3) : (∀ (l : List Int) (j : Nat), putN y.kind (l ++ repL (fillS y).nums j) (fillS y) = l ++ repL (fillS y).nums (j + 1)) ∧ (∀ (l : List Arr) (j : Nat), putI y.kind (l ++ repL (fillS y).items j) (fillS y) = l ++ repL (fillS y).items (j + 1)) := by
  by_cases k : y.kind = 3
  · have f := fill_3 (y := y) k
    refine ⟨fun l j => ?_, fun l j => ?_⟩
    · rw [putN_A k, f.1, repL_nil, repL_nil]
    · rw [putI_A k, f.2, List.append_assoc]; rfl
  · obtain ⟨f1, c, f2, f3⟩ := fill_n hk k
    refine ⟨fun l j => ?_, fun l j => ?_⟩
    · rw [putN_N k, f2, List.append_assoc]; rfl
    · rw [putI_N k, f1, repL_nil, repL_nil]
theorem ExOk.fin {x y A : Arr} (h : ExOk x y) (e : A = expA x y) : bndS A = expS x y ∧ bndE A = expE x y := by
  subst e
  have hr := h.right
  unfold bndS bndE
  by_cases v : 262144 < exH x.nums y x.nums.length
  · have e := expE_s h.c h.b h.o (Or.inr v)
    have hn : ¬ rightS (expA x y) = 0 := fun q => (hr.1 q) v
    rw [if_neg hn, if_neg hn, expS_no (by rw [e]; decide), e]; exact ⟨rfl, rfl⟩
  · have e := expE_0 h.c h.b h.o h.s v
    rw [if_pos (hr.2 v), if_pos (hr.2 v), expS_yes e, e]; exact ⟨rfl, rfl⟩
set_option maxRecDepth 100000 in
set_option maxHeartbeats 8000000 in
theorem ref26_Expand (x : Arr) (sx : Option Addr) (cx : Nat) (nx : Option Addr) (mx : Nat) (ix : Option Addr) (jx : Nat) (y : Arr) (sy : Option Addr) (cy : Nat) (ny : Option Addr) (my : Nat) (iy : Option Addr) (jy : Nat) (S : Nat → Prop) (w : World) (h : ArrAt w S x sx nx ix) (g : ArrAt w S y sy ny iy) (hcx : x.shape.length ≤ cx ∧ x.nums.length ≤ mx ∧ x.items.length ≤ jx) (hcy : y.shape.length ≤ cy ∧ y.nums.length ≤ my ∧ y.items.length ≤ jy) :
    Calls Try.prog 32 #[.agg #[.int .i64 x.kind, .slice sx x.shape.length cx, .slice nx x.nums.length mx, .slice ix x.items.length jx], .agg #[.int .i64 y.kind, .slice sy y.shape.length cy, .slice ny y.nums.length my, .slice iy y.items.length jy]] w (RetAEC w (fun b => S b ∨ w.heap.size ≤ b) (expS x y) (expE x y)) := by
  refine calls_post fun R' hR => ?_
  have h0 := hid h
  have g0 := hid g
  replace hcx := hid hcx
  replace hcy := hid hcy
  clear h g
  go_enter Try.func32, Try.ntmps32
  go_upto_region 1 with (fail)
  generalize hEW : (((w).alloc (.cells #[.int .i64 x.kind, .slice sx x.shape.length cx, .slice nx x.nums.length mx, .slice ix x.items.length jx] 26)).alloc (.cells #[.int .i64 y.kind, .slice sy y.shape.length cy, .slice ny y.nums.length my, .slice iy y.items.length jy] 26)).alloc (.cells #[.int .i64 0, .slice none 0 0, .slice none 0 0, .slice none 0 0] 26) = W
  have E := hid (env3 w S hEW)
  clear hEW
  replace E := hid ((E.out.arg h0.out).arg g0.out)
  (try simp only [List.cons_append, List.nil_append, List.set_cons_zero, List.set_cons_succ] at E)
  obtain ⟨q00, q01, q02, q03⟩ := (E.out.hdr 0 rfl).all
  obtain ⟨q10, q11, q12, q13⟩ := (E.out.hdr 1 rfl).all
  go_wp2_with fail
  clear q00 q01 q02 q03 q10 q11 q12 q13
  refine (ref26_checked x _ _ _ _ _ _ y _ _ _ _ _ _ _ _ (E.out.arr 3 rfl) (E.out.arr 4 rfl) hcx.out.2.1).mono ?_
  rintro e w1 ⟨so, sl, sc, rfl, hso, hb⟩
  by_cases c : chkE26 x y = 0
  case neg =>
    have cb : (chkE26 x y != 0) = true := by simpa using c
    have hn := hid (expE_c c)
    have hv := hid (expS_no (x := x) (y := y) (by rw [hn.out]; exact c))
    replace c := hid c
    replace E := hid (E.out.up hb)
    clear hso hb
    go_wp2_with (refine wpl_store4 rfl (.tmp 4) (.tmp 22) rfl _ rfl rfl (E.out.hdr 2 rfl) ?_; intro V HV CV; replace E := hid (E.out.chg 2 rfl CV HV))
    exact bodyPost_ret (end_arr2 rfl HV rfl rfl) rfl (hR.out _ _ (RetAEC.zero hv.out hn.out E.out.ext))
  have cb : (chkE26 x y != 0) = false := by simpa using c
  obtain ⟨rfl, hI, hsc⟩ := hso c
  replace E := hid ((E.out.up hb).addInts hI (fun _ _ h => h))
  clear hso hb hI
  (try simp only [List.cons_append, List.nil_append, List.set_cons_zero, List.set_cons_succ] at E)
  have K := chk26_ok c
  have hs := (right_ok K.ry).2.1
  have ht := tal_nn hs
  have ht6 := tal_le hs
  have xl := K.r
  have hx6 := (right_l3 K.rx)
  replace K := hid K
  replace c := hid c
  rw [c.out]
  obtain ⟨q00, q01, q02, q03⟩ := (E.out.hdr 0 rfl).all
  obtain ⟨q10, q11, q12, q13⟩ := (E.out.hdr 1 rfl).all
  go_wp2_with fail
  refine (ref26_bits x.nums so _ _ _ (E.out.ints 5 rfl)).mono ?_
  rintro e w2 ⟨rfl, rfl⟩
  cases hB : x.nums.all bitB with
  | false =>
    have hbs : bitsS x.nums = (0, false) := if_neg (by rw [hB]; decide)
    have hn := hid (expE_b c.out hB)
    have hv := hid (expS_no (x := x) (y := y) (by rw [hn.out]; decide))
    rw [hbs]
    replace hbs := hid hbs
    replace hB := hid hB
    obtain ⟨q00, q01, q02, q03⟩ := (E.out.hdr 0 rfl).all
    go_wp2_with (refine wpl_store4 rfl (.tmp 4) (.tmp 31) rfl _ rfl rfl (E.out.hdr 2 rfl) ?_; intro V HV CV; replace E := hid (E.out.chg 2 rfl CV HV))
    exact bodyPost_ret (end_arr2 rfl HV rfl rfl) rfl (hR.out _ _ (RetAEC.zero hv.out hn.out E.out.ext))
  | true =>
  have hbs : bitsS x.nums = (sumF (numF x.nums) x.nums.length, true) := if_pos hB
  rw [hbs]
  replace hbs := hid hbs
  have ho := ones_cast hB (Nat.le_refl x.nums.length)
  rw [← ho]
  replace ho := hid ho
  obtain ⟨q10, q11, q12, q13⟩ := (E.out.hdr 1 rfl).all
  go_wp2_with fail
  clear q10 q11 q12 q13
  refine (ref23_Tally y _ _ _ _ _ _ _ _ (E.out.arr 4 rfl)).mono ?_
  rintro e w3 ⟨rfl, hb⟩
  replace E := hid (E.out.up hb)
  clear hb
  rw [← ht]
  by_cases o : onesM x.nums x.nums.length = talM y
  case neg =>
    have ob : (((onesM x.nums x.nums.length : Nat) : Int) != ((talM y : Nat) : Int)) = true := bne_iff_ne.2 (by omega)
    have hn := hid (expE_o c.out hB o)
    have hv := hid (expS_no (x := x) (y := y) (by rw [hn.out]; decide))
    replace o := hid o
    obtain ⟨q00, q01, q02, q03⟩ := (E.out.hdr 0 rfl).all
    go_wp2_with (refine wpl_store4 rfl (.tmp 4) (.tmp 36) rfl _ rfl rfl (E.out.hdr 2 rfl) ?_; intro V HV CV; replace E := hid (E.out.chg 2 rfl CV HV))
    exact bodyPost_ret (end_arr2 rfl HV rfl rfl) rfl (hR.out _ _ (RetAEC.zero hv.out hn.out E.out.ext))
  have ob : (((onesM x.nums x.nums.length : Nat) : Int) != ((talM y : Nat) : Int)) = false := bne_eq_false_iff_eq.2 (by omega)
  have hsl8 : y.shape.length ≤ 1000 := by have := (shapeB_iff.1 hs).1; omega
  go_upto_region 9 with (fail)
  cases hsS : shapeB ((x.nums.length : Int) :: celL y) with
  | false =>
    have hD : Hid (¬ dimsE ((x.nums.length : Int) :: celL y) = 0) := hid (fun q => by rw [dimsE_zero.1 q] at hsS; cases hsS)
    have hn := hid (expE_s c.out hB o (Or.inl hsS))
    have hv := hid (expS_no (x := x) (y := y) (by rw [hn.out]; decide))
    obtain ⟨T, hT1, hT2, hT3⟩ := E.out.tw
    obtain ⟨q10, q11, q12, q13⟩ := (E.out.hdr 1 rfl).all
    refine wp_region_seq_tail 8 (Sees w3 [(⟨(w.heap.size+1), 0, none⟩, .int .i64 y.kind), (⟨(w.heap.size+1), 1, none⟩, .slice sy y.shape.length cy), (⟨(w.heap.size+1), 2, none⟩, .slice ny y.nums.length my), (⟨(w.heap.size+1), 3, none⟩, .slice iy y.items.length jy)]) [3, 7] (fun k v u u' => match k with | 3 => v = .tuple #[.agg #[.int .i64 0, .slice none 0 0, .slice none 0 0, .slice none 0 0], .int .i64 21] | 7 => v = .pointer (some ⟨u.heap.size, 0, none⟩) ∧ u' = u.alloc (.cells #[.int .i64 0, .slice none 0 0, .slice none 0 0, .slice none 0 0] 26) | _ => False) (fun _ _ h e => h.up e) (Sees.start (all_cons ((E.out.hdr 1 rfl).c0) (all_cons ((E.out.hdr 1 rfl).c1) (all_cons ((E.out.hdr 1 rfl).c2) (all_cons ((E.out.hdr 1 rfl).c3) (all_nil)))))) ?_
    simp only [List.take_succ_cons, List.take_zero, List.drop_succ_cons, List.drop_zero]
    repeat (first | (refine m_plain (v := ?_) (by rfl) (by rfl) ?_ ?_; rotate_left; (intro wz hSw; obtain ⟨-, hSc⟩ := hSw; (try simp only [List.forall_mem_cons, List.forall_mem_nil, and_true] at hSc); go_simp; (first | done | with_reducible rfl)); (intro K hK; (try simp only [Act.put, List.setIfInBounds_toArray, List.set_cons_zero, List.set_cons_succ]); refine hK _ _ ?_; clear hK K)) | (refine m_skip (by rfl) (by rfl) ?_; (intro K hK; (try simp only [Act.put, List.setIfInBounds_toArray, List.set_cons_zero, List.set_cons_succ]); refine hK _ _ ?_; clear hK K)))
    clear q10 q11 q12 q13
    refine m_make (by rfl) (by rfl) ?_ ?_
    · intro wz hSw hdep R hRz
      obtain ⟨hSe, hSc⟩ := hSw
      (try simp only [List.forall_mem_cons, List.forall_mem_nil, and_true] at hSc)
      unfold does
      (go_simp; refine Calls.mono (ref26_shaped y _ _ _ _ _ _ x.nums.length T wz (ArrAt.up (ArrAt.mono (fun b _ h => hT1 b h) _ (E.out.arr 4 rfl)) hSe) hcy.out.1 hsl8) ?_; rintro e' wq ⟨⟨hd1, rfl⟩ | ⟨hd1, h1⟩, hb⟩ <;> first | exact absurd hd1 hD.out | exact ⟨_, rfl, hRz.out _ _ ⟨hb, rfl⟩⟩)
    intro v3 u3 x3 hG3 K hK
    have hF3 := hG3.fact
    (try dsimp only at hF3)
    subst hF3
    (try simp only [Act.put, List.setIfInBounds_toArray, List.set_cons_zero, List.set_cons_succ]); refine hK _ _ ?_; clear hK K
    repeat (first | (refine m_plain (v := ?_) (by rfl) (by rfl) ?_ ?_; rotate_left; (intro wz hSw; obtain ⟨-, hSc⟩ := hSw; (try simp only [List.forall_mem_cons, List.forall_mem_nil, and_true] at hSc); go_simp; (first | done | with_reducible rfl)); (intro K hK; (try simp only [Act.put, List.setIfInBounds_toArray, List.set_cons_zero, List.set_cons_succ]); refine hK _ _ ?_; clear hK K)) | (refine m_skip (by rfl) (by rfl) ?_; (intro K hK; (try simp only [Act.put, List.setIfInBounds_toArray, List.set_cons_zero, List.set_cons_succ]); refine hK _ _ ?_; clear hK K)))
    refine m_make (by rfl) (by rfl) ?_ ?_
    · intro wz hSw hdep R hRz
      obtain ⟨hSe, hSc⟩ := hSw
      (try simp only [List.forall_mem_cons, List.forall_mem_nil, and_true] at hSc)
      unfold does
      (go_simp; exact hRz.out _ _ ⟨ext_alloc _ _, rfl, rfl⟩)
    intro v7 u7 x7 hG7 K hK
    have hF7 := hG7.fact
    (try dsimp only at hF7)
    obtain ⟨rfl, rfl⟩ := hF7
    (try simp only [Act.put, List.setIfInBounds_toArray, List.set_cons_zero, List.set_cons_succ]); refine hK _ _ ?_; clear hK K
    repeat (first | (refine m_plain (v := ?_) (by rfl) (by rfl) ?_ ?_; rotate_left; (intro wz hSw; obtain ⟨-, hSc⟩ := hSw; (try simp only [List.forall_mem_cons, List.forall_mem_nil, and_true] at hSc); go_simp; (first | done | with_reducible rfl)); (intro K hK; (try simp only [Act.put, List.setIfInBounds_toArray, List.set_cons_zero, List.set_cons_succ]); refine hK _ _ ?_; clear hK K)) | (refine m_skip (by rfl) (by rfl) ?_; (intro K hK; (try simp only [Act.put, List.setIfInBounds_toArray, List.set_cons_zero, List.set_cons_succ]); refine hK _ _ ?_; clear hK K)))
    refine m_nil ?_
    intro wf hSf hAf
    replace E := hid (E.out.made hG7.s.1 (hAf 7 _ rfl) hSf.1)
    clear hSf hAf hG3 hG7 hT1 hT2 hT3
    (try simp only [List.cons_append, List.nil_append, List.set_cons_zero, List.set_cons_succ] at E)
    generalize u7.heap.size = bo at E ⊢
    refine wpl_store4 rfl (.tmp 10) (.tmp 42) rfl _ rfl rfl (E.out.hdr 6 rfl) ?_
    intro V1 HV CV
    replace E := hid (E.out.chg 6 rfl CV HV)
    clear HV CV
    (try simp only [List.cons_append, List.nil_append, List.set_cons_zero, List.set_cons_succ] at E)
    go_wp2_with (refine wpl_store4 rfl (.tmp 4) (.tmp 46) rfl _ rfl rfl (E.out.hdr 2 rfl) ?_; intro V HV CV; replace E := hid (E.out.chg 2 rfl CV HV))
    exact bodyPost_ret (end_arr2 rfl HV rfl rfl) rfl (hR.out _ _ (RetAEC.zero hv.out hn.out E.out.ext))
  | true =>
    have OK : Hid (ExOk x y) := hid ⟨c.out, hB, o, hsS⟩
    have hsD := dimsE_zero.2 hsS
    have hcS := cntC_eq hsS
    obtain ⟨s, hss⟩ : ∃ s, s = (x.nums.length : Int) :: celL y := ⟨_, rfl⟩
    rw [← hss] at hsS hsD hcS
    replace hss := hid hss
    replace hsD := hid hsD
    replace hsS := hid hsS
    obtain ⟨T, hT1, hT2, hT3⟩ := E.out.tw
    obtain ⟨q10, q11, q12, q13⟩ := (E.out.hdr 1 rfl).all
    refine wp_region_seq_tail 8 (Sees w3 [(⟨(w.heap.size+1), 0, none⟩, .int .i64 y.kind), (⟨(w.heap.size+1), 1, none⟩, .slice sy y.shape.length cy), (⟨(w.heap.size+1), 2, none⟩, .slice ny y.nums.length my), (⟨(w.heap.size+1), 3, none⟩, .slice iy y.items.length jy)]) [3, 7] (fun k v u u' => match k with | 3 => ∃ so sc, v = .tuple #[.agg #[.int .i64 y.kind, .slice so s.length sc, .slice none 0 0, .slice none 0 0], .int .i64 0] ∧ OwnI u' u.heap.size so sc s | 7 => v = .pointer (some ⟨u.heap.size, 0, none⟩) ∧ u' = u.alloc (.cells #[.int .i64 0, .slice none 0 0, .slice none 0 0, .slice none 0 0] 26) | _ => False) (fun _ _ h e => h.up e) (Sees.start (all_cons ((E.out.hdr 1 rfl).c0) (all_cons ((E.out.hdr 1 rfl).c1) (all_cons ((E.out.hdr 1 rfl).c2) (all_cons ((E.out.hdr 1 rfl).c3) (all_nil)))))) ?_
    simp only [List.take_succ_cons, List.take_zero, List.drop_succ_cons, List.drop_zero]
    repeat (first | (refine m_plain (v := ?_) (by rfl) (by rfl) ?_ ?_; rotate_left; (intro wz hSw; obtain ⟨-, hSc⟩ := hSw; (try simp only [List.forall_mem_cons, List.forall_mem_nil, and_true] at hSc); go_simp; (first | done | with_reducible rfl)); (intro K hK; (try simp only [Act.put, List.setIfInBounds_toArray, List.set_cons_zero, List.set_cons_succ]); refine hK _ _ ?_; clear hK K)) | (refine m_skip (by rfl) (by rfl) ?_; (intro K hK; (try simp only [Act.put, List.setIfInBounds_toArray, List.set_cons_zero, List.set_cons_succ]); refine hK _ _ ?_; clear hK K)))
    refine m_make (by rfl) (by rfl) ?_ ?_
    · intro wz hSw hdep R hRz
      obtain ⟨hSe, hSc⟩ := hSw
      (try simp only [List.forall_mem_cons, List.forall_mem_nil, and_true] at hSc)
      unfold does
      (go_simp; refine Calls.mono (ref26_shaped y _ _ _ _ _ _ x.nums.length T wz (ArrAt.up (ArrAt.mono (fun b _ h => hT1 b h) _ (E.out.arr 4 rfl)) hSe) hcy.out.1 hsl8) ?_; rw [← hss.out]; rintro e' wq ⟨⟨hd1, rfl⟩ | ⟨hd1, so, sc, rfl, hO⟩, hb⟩ <;> first | exact absurd hsD.out hd1 | exact ⟨_, rfl, hRz.out _ _ ⟨hb, so, sc, rfl, hO⟩⟩)
    intro v3 u3 x3 hG3 K hK
    have hF3 := hG3.fact
    (try dsimp only at hF3)
    obtain ⟨oa, oc, rfl, hO⟩ := hF3
    (try simp only [Act.put, List.setIfInBounds_toArray, List.set_cons_zero, List.set_cons_succ]); refine hK _ _ ?_; clear hK K
    repeat (first | (refine m_plain (v := ?_) (by rfl) (by rfl) ?_ ?_; rotate_left; (intro wz hSw; obtain ⟨-, hSc⟩ := hSw; (try simp only [List.forall_mem_cons, List.forall_mem_nil, and_true] at hSc); go_simp; (first | done | with_reducible rfl)); (intro K hK; (try simp only [Act.put, List.setIfInBounds_toArray, List.set_cons_zero, List.set_cons_succ]); refine hK _ _ ?_; clear hK K)) | (refine m_skip (by rfl) (by rfl) ?_; (intro K hK; (try simp only [Act.put, List.setIfInBounds_toArray, List.set_cons_zero, List.set_cons_succ]); refine hK _ _ ?_; clear hK K)))
    refine m_make (by rfl) (by rfl) ?_ ?_
    · intro wz hSw hdep R hRz
      obtain ⟨hSe, hSc⟩ := hSw
      (try simp only [List.forall_mem_cons, List.forall_mem_nil, and_true] at hSc)
      unfold does
      (go_simp; exact hRz.out _ _ ⟨ext_alloc _ _, rfl, rfl⟩)
    intro v7 u7 x7 hG7 K hK
    have hF7 := hG7.fact
    (try dsimp only at hF7)
    obtain ⟨rfl, rfl⟩ := hF7
    (try simp only [Act.put, List.setIfInBounds_toArray, List.set_cons_zero, List.set_cons_succ]); refine hK _ _ ?_; clear hK K
    repeat (first | (refine m_plain (v := ?_) (by rfl) (by rfl) ?_ ?_; rotate_left; (intro wz hSw; obtain ⟨-, hSc⟩ := hSw; (try simp only [List.forall_mem_cons, List.forall_mem_nil, and_true] at hSc); go_simp; (first | done | with_reducible rfl)); (intro K hK; (try simp only [Act.put, List.setIfInBounds_toArray, List.set_cons_zero, List.set_cons_succ]); refine hK _ _ ?_; clear hK K)) | (refine m_skip (by rfl) (by rfl) ?_; (intro K hK; (try simp only [Act.put, List.setIfInBounds_toArray, List.set_cons_zero, List.set_cons_succ]); refine hK _ _ ?_; clear hK K)))
    refine m_nil ?_
    intro wf hSf hAf
    have hcap := hid hO.cap
    have hs8 : s.length ≤ 9 := by rw [hss.out]; have := (shapeB_iff.1 (celL_ok hs)).1; simp only [List.length_cons]; omega
    replace E := hid (E.out.madeI ((hO.ints (by omega)).mono fun b _ hb => hb.1) (hAf 3 _ rfl) (hG7.order 3 _ rfl) hG3.s.1 hG7.s.1 (hAf 7 _ rfl) hSf.1)
    clear hSf hAf hG3 hG7 hO hT1 hT2 hT3
    clear q10 q11 q12 q13
    (try simp only [List.cons_append, List.nil_append, List.set_cons_zero, List.set_cons_succ] at E)
    generalize u7.heap.size = bo at E ⊢
    refine wpl_store4 rfl (.tmp 10) (.tmp 42) rfl _ rfl rfl (E.out.hdr 6 rfl) ?_
    intro V1 HV CV
    replace E := hid (E.out.chg 6 rfl CV HV)
    clear HV CV
    (try simp only [List.cons_append, List.nil_append, List.set_cons_zero, List.set_cons_succ] at E)
    go_wp2_with fail
    replace E := hid ((E.out.row0I).row0A)
    (try simp only [List.cons_append, List.nil_append, List.set_cons_zero, List.set_cons_succ] at E)
    replace E := hid (E.out.pick 9 rfl)
    simp only [List.eraseIdx_cons_succ, List.eraseIdx_cons_zero] at E
    replace E := hid (E.out.pick 9 rfl)
    simp only [List.eraseIdx_cons_succ, List.eraseIdx_cons_zero] at E
    go_upto_region 14 with (fail)
    go_loopw [11, 12, 13] (fun nxt i u wr => ∃ (k : Nat) (ln : List Int) (li : List Arr) (na : Option Addr) (nc : Nat) (ia : Option Addr) (ic : Nat), k ≤ x.nums.length ∧ i = .int .i64 k ∧ nxt = .int .i64 (onesM x.nums k : Nat) ∧ Hid (ln = exN x.nums y k ∧ li = exI x.nums y k) ∧ Env w S wr [.rowI na nc (ln), .rowA ia ic (li), .obj w.heap.size (.cells #[.int .i64 x.kind, .slice sx x.shape.length cx, .slice nx x.nums.length mx, .slice ix x.items.length jx] 26 (0, 0)), .obj (w.heap.size + 1) (.cells #[.int .i64 y.kind, .slice sy y.shape.length cy, .slice ny y.nums.length my, .slice iy y.items.length jy] 26 (0, 0)), .obj (w.heap.size + 1 + 1) (.cells #[.int .i64 0, .slice none 0 0, .slice none 0 0, .slice none 0 0] 26 (0, 0)), .arr x sx nx ix, .arr y sy ny iy, .ints x.nums so, .obj bo (.cells #[.int .i64 y.kind, .slice oa s.length oc, .slice na ln.length nc, .slice ia li.length ic] 26 (0, 0)), .ints s oa]) (fun _ i _ _ => x.nums.length - (intOf i).toNat)
    case atStart => exact ⟨0, [], [], none, 0, none, 0, Nat.zero_le _, rfl, rfl, hid ⟨rfl, rfl⟩, E.out⟩
    case round =>
      clear E
      obtain ⟨k, ln, li, na, nc, ia, ic, hk2, rfl, rfl, hC, E⟩ := hrel
      replace E := hid E
      by_cases hlt : k < x.nums.length
      case pos =>
        have hll := OK.out.len hk2
        rw [← hC.out.1, ← hC.out.2] at hll
        obtain ⟨b1, o1, hs1, hbl1, hS1', hc1⟩ := (E.out.ints 7 rfl).at hlt
        have hbit := bit_at hB hlt
        simp only [bitB, decide_eq_true_eq] at hbit
        obtain ⟨on, hon⟩ : ∃ q, q = onesM x.nums k := ⟨_, rfl⟩
        by_cases q : x.nums.getD k 0 = 1
        case pos =>
          have q1 : numF x.nums k = 1 := q
          have hot : on < talM y := by rw [hon, ← o]; exact ones_lt hB hlt q1
          have ho1 := hid (ones_1 hB hlt q1)
          have hCn : Hid (ln ++ blkL y.nums on (celN y) = exN x.nums y (k + 1) ∧ li ++ blkL y.items on (celN y) = exI x.nums y (k + 1)) := hid ⟨by rw [exN, if_pos q1, ← hon, ← hC.out.1], by rw [exI, if_pos q1, ← hon, ← hC.out.2]⟩
          have hon6 : on ≤ 65536 := by omega
          rw [← hon] at ho1 ⊢
          rw [q] at hc1
          replace q := hid q
          replace q1 := hid q1
          replace hon := hid hon
          subst hs1
          obtain ⟨q80, q81, q82, q83⟩ := (E.out.hdr 8 rfl).all
          obtain ⟨q30, q31, q32, q33⟩ := (E.out.hdr 3 rfl).all
          go_wp2_with fail
          clear q80 q81 q82 q83 q30 q31 q32 q33
          refine (ref26_cell y.kind oa s.length oc na nc ln ia ic li y _ _ _ _ _ _ on w S _ _ E.out (E.out.arr 6 rfl) rfl (flat_of K.out.ry) hs hcy.out.1 hot (sz_tal K.out.ry) (by omega) (by omega)).mono ?_
          rintro e w7 ⟨na2, nc2, ia2, ic2, rfl, E1⟩
          clear E
          have E := hid E1
          clear E1
          generalize ln ++ blkL y.nums on (celN y) = ln2 at E hCn ⊢
          generalize li ++ blkL y.items on (celN y) = li2 at E hCn ⊢
          go_wp2_with (refine wpl_store4 rfl (.tmp 10) (.tmp 62) rfl _ rfl rfl (E.out.hdr 8 rfl) ?_; intro V HV CV; replace E := hid (E.out.chg 8 rfl CV HV); clear HV CV; (try simp only [List.cons_append, List.nil_append, List.set_cons_zero, List.set_cons_succ] at E))
          go_roundw
          case rel => exact ⟨k + 1, ln2, li2, na2, nc2, ia2, ic2, by omega, by go_num, by rw [ho1.out, Int.natCast_add]; rfl, hCn, E.out⟩
          case measure => simp [intOf]; omega
        case neg =>
          have q0 : numF x.nums k ≠ 1 := q
          have ho0 := hid (ones_0 hB hlt q0)
          have hCn : Hid (ln ++ repL (fillS y).nums (celN y) = exN x.nums y (k + 1) ∧ li ++ repL (fillS y).items (celN y) = exI x.nums y (k + 1)) := hid ⟨by rw [exN, if_neg q0, ← hC.out.1], by rw [exI, if_neg q0, ← hC.out.2]⟩
          have hfl := fill_len y
          have hn6 := celN_le hs
          have hcn := hid (celN_eq hs)
          have hsc := hid (celL_ok hs)
          have hP := hid (fill_put y (flat_of K.out.ry).k)
          rw [← hon] at ho0 ⊢
          generalize x.nums.getD k 0 = d at hc1 q hbit
          have db : (d == 1) = false := by simpa using q
          replace q0 := hid q0
          replace hon := hid hon
          replace hbit := hid hbit
          obtain ⟨p, hp⟩ : ∃ p, p = celN y := ⟨_, rfl⟩
          rw [← hp] at hn6 hCn hcn
          replace hp := hid hp
          subst hs1
          obtain ⟨q80, q81, q82, q83⟩ := (E.out.hdr 8 rfl).all
          obtain ⟨q30, q31, q32, q33⟩ := (E.out.hdr 3 rfl).all
          go_upto_region 20 with (fail)
          clear q80 q81 q82 q83 q30 q31 q32 q33
          clear hc1
          go_loopw [13] (fun v wr => ∃ (j : Nat) (na : Option Addr) (nc : Nat) (ia : Option Addr) (ic : Nat), j ≤ p ∧ v = .int .i64 j ∧ Env w S wr [.rowI na nc (ln ++ repL (fillS y).nums j), .rowA ia ic (li ++ repL (fillS y).items j), .obj w.heap.size (.cells #[.int .i64 x.kind, .slice sx x.shape.length cx, .slice nx x.nums.length mx, .slice ix x.items.length jx] 26 (0, 0)), .obj (w.heap.size + 1) (.cells #[.int .i64 y.kind, .slice sy y.shape.length cy, .slice ny y.nums.length my, .slice iy y.items.length jy] 26 (0, 0)), .obj (w.heap.size + 1 + 1) (.cells #[.int .i64 0, .slice none 0 0, .slice none 0 0, .slice none 0 0] 26 (0, 0)), .arr x sx nx ix, .arr y sy ny iy, .ints x.nums (some ⟨b1, o1, none⟩), .obj bo (.cells #[.int .i64 y.kind, .slice oa s.length oc, .slice na (ln ++ repL (fillS y).nums j).length nc, .slice ia (li ++ repL (fillS y).items j).length ic] 26 (0, 0)), .ints s oa]) (fun v _ => p - (intOf v).toNat)
          case atStart => exact ⟨0, na, nc, ia, ic, Nat.zero_le _, rfl, by rw [show ln ++ repL (fillS y).nums 0 = ln by simp [repL], show li ++ repL (fillS y).items 0 = li by simp [repL]]; exact E.out⟩
          case round =>
            clear E
            obtain ⟨j, na, nc, ia, ic, hj, rfl, E⟩ := hrel
            replace E := hid E
            by_cases hj2 : j < p
            case pos =>
              have hlN : (ln ++ repL (fillS y).nums j).length ≤ 200000 := by rw [List.length_append]; have := repL_le hfl.1 j; omega
              have hlI : (li ++ repL (fillS y).items j).length ≤ 200000 := by rw [List.length_append]; have := repL_le hfl.2 j; omega
              have hN := hid (hP.out.1 ln j)
              have hI := hid (hP.out.2 li j)
              obtain ⟨nn, hnn⟩ : ∃ l, l = ln ++ repL (fillS y).nums j := ⟨_, rfl⟩
              obtain ⟨ii, hii2⟩ : ∃ l, l = li ++ repL (fillS y).items j := ⟨_, rfl⟩
              rw [← hnn, ← hii2] at E
              rw [← hnn] at hN hlN
              rw [← hii2] at hI hlI
              replace hnn := hid hnn
              replace hii2 := hid hii2
              obtain ⟨q30, q31, q32, q33⟩ := (E.out.hdr 3 rfl).all
              go_wp2_with fail
              clear q30 q31 q32 q33
              refine (ref23_Cell y _ _ _ _ _ _ _ _ (E.out.arr 6 rfl) hcy.out.1).mono ?_
              rintro e w2 ⟨co, cc, rfl, hI2, hb⟩
              replace E := hid (E.out.up hb)
              clear hb
              go_wp2_with fail
              refine (ref03_Count (celL y) _ _ _ _ hI2).mono ?_
              rintro e w3 ⟨rfl, rfl⟩
              clear hI2
              rw [cntC_eq hsc.out, ← hcn.out]
              go_upto_region 22 with (fail)
              obtain ⟨q80, q81, q82, q83⟩ := (E.out.hdr 8 rfl).all
              obtain ⟨q30, q31, q32, q33⟩ := (E.out.hdr 3 rfl).all
              obtain ⟨T, hT1, hT2, hT3⟩ := E.out.tw
              refine wp_region_mono_tail 3 (Sees w2 [(⟨bo, 0, none⟩, .int .i64 y.kind), (⟨bo, 1, none⟩, .slice oa s.length oc), (⟨bo, 2, none⟩, .slice na nn.length nc), (⟨bo, 3, none⟩, .slice ia ii.length ic), (⟨(w.heap.size+1), 0, none⟩, .int .i64 y.kind), (⟨(w.heap.size+1), 1, none⟩, .slice sy y.shape.length cy), (⟨(w.heap.size+1), 2, none⟩, .slice ny y.nums.length my), (⟨(w.heap.size+1), 3, none⟩, .slice iy y.items.length jy)]) [2] (fun k v u u' => match k with | 2 => RetA u T (fillS y) (.returned v) u' | _ => False) (fun _ _ h e => h.up e) (Sees.start (all_cons (q80) (all_cons (q81) (all_cons (q82) (all_cons (q83) (all_cons ((E.out.hdr 3 rfl).c0) (all_cons ((E.out.hdr 3 rfl).c1) (all_cons ((E.out.hdr 3 rfl).c2) (all_cons ((E.out.hdr 3 rfl).c3) (all_nil)))))))))) (by kernel_rfl) (by kernel_rfl) ?_
              simp only [List.take_succ_cons, List.take_zero, List.drop_succ_cons, List.drop_zero]
              repeat (first | (refine m_plain (v := ?_) (by rfl) (by rfl) ?_ ?_; rotate_left; (intro wz hSw; obtain ⟨-, hSc⟩ := hSw; (try simp only [List.forall_mem_cons, List.forall_mem_nil, and_true] at hSc); go_simp; (first | done | with_reducible rfl)); (intro K hK; (try simp only [Act.put, List.setIfInBounds_toArray, List.set_cons_zero, List.set_cons_succ]); refine hK _ _ ?_; clear hK K)) | (refine m_skip (by rfl) (by rfl) ?_; (intro K hK; (try simp only [Act.put, List.setIfInBounds_toArray, List.set_cons_zero, List.set_cons_succ]); refine hK _ _ ?_; clear hK K)))
              refine m_make (by rfl) (by rfl) ?_ ?_
              · intro wz hSw hdep R hRz
                obtain ⟨hSe, hSc⟩ := hSw
                (try simp only [List.forall_mem_cons, List.forall_mem_nil, and_true] at hSc)
                unfold does
                (go_simp; refine Calls.mono (fill_ref03_Fill y _ _ _ _ _ _ wz) ?_; intro e wq h; obtain ⟨v, rfl, h1⟩ := retA_arm hT2 hSe (RetA.inr T (h.eq rfl)); exact ⟨_, rfl, hRz.out _ _ h1⟩)
              intro v2 u2 x2 hG2 K hK
              have hF2 := hG2.fact
              (try dsimp only at hF2)
              obtain ⟨s2, c2, n2, m2, i2, j2, he, hA2, hb2⟩ := hF2
              injection he with he
              subst he
              (try simp only [Act.put, List.setIfInBounds_toArray, List.set_cons_zero, List.set_cons_succ]); refine hK _ _ ?_; clear hK K
              repeat (first | (refine m_plain (v := ?_) (by rfl) (by rfl) ?_ ?_; rotate_left; (intro wz hSw; obtain ⟨-, hSc⟩ := hSw; (try simp only [List.forall_mem_cons, List.forall_mem_nil, and_true] at hSc); go_simp; (first | done | with_reducible rfl)); (intro K hK; (try simp only [Act.put, List.setIfInBounds_toArray, List.set_cons_zero, List.set_cons_succ]); refine hK _ _ ?_; clear hK K)) | (refine m_skip (by rfl) (by rfl) ?_; (intro K hK; (try simp only [Act.put, List.setIfInBounds_toArray, List.set_cons_zero, List.set_cons_succ]); refine hK _ _ ?_; clear hK K)))
              refine m_nil ?_
              intro wf hSf hAf
              have hAt := hid (ArrAt.mono (fun b _ q => hT3 b q) _ (hA2.up (hAf 2 _ rfl)))
              replace E := hid (E.out.up hSf.1)
              clear hSf hAf hG2 hA2 hb2 hT1 hT2 hT3
              clear q80 q81 q82 q83 q30 q31 q32 q33
              go_wp2_with fail
              refine (ref03_Put y.kind oa s.length oc _ _ _ _ _ _ (fillS y) _ _ _ _ _ _ w S wf _ E.out hAt.out (by omega) (by omega)).mono ?_
              rintro e w9 ⟨na2, nc2, ia2, ic2, rfl, E1⟩
              generalize hn2 : putN y.kind nn (fillS y) = nn2 at E1 ⊢
              generalize hi2 : putI y.kind ii (fillS y) = ii2 at E1 ⊢
              replace hn2 := hid (hn2.symm.trans hN.out)
              replace hi2 := hid (hi2.symm.trans hI.out)
              clear E
              have E := hid E1
              clear E1
              go_wp2_with (refine wpl_store4 rfl (.tmp 10) (.tmp 75) rfl _ rfl rfl (E.out.hdr 8 rfl) ?_; intro V2 HV CV; replace E := hid (E.out.chg 8 rfl CV HV); (try simp only [List.cons_append, List.nil_append, List.set_cons_zero, List.set_cons_succ] at E))
              go_roundw
              case rel => exact ⟨j + 1, na2, nc2, ia2, ic2, by omega, by go_num, by rw [← hn2.out, ← hi2.out]; exact E.out⟩
              case measure => simp [intOf]; omega
            case neg =>
              obtain rfl : j = p := by omega
              obtain ⟨nn, hnn⟩ : ∃ l, l = ln ++ repL (fillS y).nums j := ⟨_, rfl⟩
              obtain ⟨ii, hii2⟩ : ∃ l, l = li ++ repL (fillS y).items j := ⟨_, rfl⟩
              rw [← hnn, ← hii2] at E
              rw [← hnn, ← hii2] at hCn
              replace hnn := hid hnn
              replace hii2 := hid hii2
              obtain ⟨q30, q31, q32, q33⟩ := (E.out.hdr 3 rfl).all
              go_wp2_with fail
              clear q30 q31 q32 q33
              refine (ref23_Cell y _ _ _ _ _ _ _ _ (E.out.arr 6 rfl) hcy.out.1).mono ?_
              rintro e w2 ⟨co, cc, rfl, hI2, hb⟩
              replace E := hid (E.out.up hb)
              clear hb
              go_wp2_with fail
              refine (ref03_Count (celL y) _ _ _ _ hI2).mono ?_
              rintro e w3 ⟨rfl, rfl⟩
              clear hI2
              rw [cntC_eq hsc.out, ← hcn.out]
              go_wp2_with fail
              go_roundw
              case rel => exact ⟨k + 1, nn, ii, na, nc, ia, ic, by omega, by go_num, by rw [ho0.out], hCn, E.out⟩
              case measure => simp [intOf]; omega
      case neg =>
        have hke : k = x.nums.length := by omega
        have hll := OK.out.len hk2
        rw [← hC.out.1, ← hC.out.2] at hll
        obtain ⟨fin1, fin2⟩ := ExOk.fin OK.out (A := .mk y.kind s ln li) (by rw [hC.out.1, hC.out.2, hss.out, hke]; rfl)
        replace fin1 := hid fin1
        replace fin2 := hid fin2
        replace hke := hid hke
        have c2 := hid (OwnI.cap (E.out.rowI 0 rfl))
        have c3 := hid (OwnA.cap (E.out.rowA 1 rfl))
        replace E := hid (E.out.doneI 0 rfl (by omega))
        (try simp only [List.cons_append, List.nil_append, List.set_cons_zero, List.set_cons_succ] at E)
        replace E := hid (E.out.doneA 1 rfl)
        (try simp only [List.cons_append, List.nil_append, List.set_cons_zero, List.set_cons_succ] at E)
        obtain ⟨q80, q81, q82, q83⟩ := (E.out.hdr 8 rfl).all
        go_wp2_with fail
        clear q80 q81 q82 q83
        refine (ref26_bounded (.mk y.kind s ln li) _ _ _ _ _ _ _ _ (ArrAt.iff.2 ⟨E.out.ints 9 rfl, E.out.ints 0 rfl, by show li.length ≤ _; omega, E.out.items 1 rfl⟩) ⟨hcap.out, c2.out, c3.out⟩).mono ?_
        intro e w5 h
        obtain ⟨s7, c7, n7, m7, i7, j7, rfl, hA, hb, hC7⟩ := h.eq fin1.out.symm fin2.out
        replace E := hid ((E.out.up hb).addArr hA (fun b _ hq => hq))
        replace hC7 := hid hC7
        clear hA hb h
        (try simp only [List.cons_append, List.nil_append, List.set_cons_zero, List.set_cons_succ] at E)
        go_wp2_with (refine wpl_store4 rfl (.tmp 4) (.tmp 78) rfl _ rfl rfl (E.out.hdr 4 rfl) ?_; intro V HV CV; replace E := hid (E.out.chg 4 rfl CV HV); clear CV; (try simp only [List.cons_append, List.nil_append, List.set_cons_zero, List.set_cons_succ] at E))
        refine bodyPost_ret (end_arr2 rfl HV rfl rfl) rfl (hR.out _ _ ?_)
        exact RetAEC.at rfl rfl (ArrAt.mono (fun b _ h => h.1) _ (E.out.arr 10 rfl)) E.out.ext hC7.out
end Go.Proofs.Ythhffneibcpbdaa
