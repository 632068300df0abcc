/- The theorem TopCuts: true. Conditions: the arguments are read; a slice's capacity is at least its length. -/
import Derived.Test.YtdpdcjadedcglaaK27
import Derived.Test.YtdpdcjadedcglaaGU
import Derived.Test.YtdpdcjadedcglaaGT
import Derived.Test.YtdpdcjadedcglaaJOIN
set_option linter.unusedVariables false
set_option maxRecDepth 20000
set_option linter.unusedSimpArgs false
namespace Go.Proofs.Ytdpdcjadedcglaa
open Go.RowKit Go.Sort
attribute [local go_sem ↓] run_max2 run_min2
attribute [local go_sem] eql_ints_nil eql_arrs_nil
def bI (b : Bool) : Int := if b then 1 else 0
def bitsI (l : List Bool) : List Int := l.map bI
theorem bitsI_bit (l : List Bool) : bitL (bitsI l) := fun k h => by
  simp only [bitsI, List.length_map] at h
  rw [List.getD_eq_getElem?_getD, bitsI, List.getElem?_map, List.getElem?_eq_getElem h]
  cases l[k] <;> simp [bI]
theorem bitsI_take (l : List Bool) {k : Nat} (h : k < l.length) : bitsI (l.take (k + 1)) = bitsI (l.take k) ++ [bI l[k]] := by
  unfold bitsI; rw [← List.take_append_getElem h, List.map_append]; rfl
set_option maxRecDepth 100000 in
set_option maxHeartbeats 8000000 in
theorem top_TopCuts (bs : List Bool) (bo : Option Addr) (bc : Nat) (y : Arr) (sy : Option Addr) (cy : Nat) (ny : Option Addr) (my : Nat) (iy : Option Addr) (jy : Nat) (S : Nat → Prop) (w : World) (hbs : BoolsAt w S bo bs) (h : ArrAt w S y sy ny iy) (hcy : y.shape.length ≤ cy ∧ y.nums.length ≤ my ∧ y.items.length ≤ jy) :
    Calls Try.prog 5 #[.slice bo bs.length bc, .agg #[.int .i64 y.kind, .slice sy y.shape.length cy, .slice ny y.nums.length my, .slice iy y.items.length jy]] w fun e w' => e = .returned (.bool true) ∧ Below w.heap.size w w' := by
  refine calls_post fun R' hR => ?_
  have h0 := hid h
  have hb0 := hid hbs
  replace hcy := hid hcy
  clear h hbs
  go_enter Try.func5, Try.ntmps5
  go_upto_region 1 with (fail)
  generalize hEW : (w).alloc (.cells #[.int .i64 y.kind, .slice sy y.shape.length cy, .slice ny y.nums.length my, .slice iy y.items.length jy] 27) = W
  have E := hid (env1 w S hEW)
  clear hEW
  replace E := hid ((E.out.arg h0.out).argB hb0.out)
  (try simp only [List.cons_append, List.nil_append, List.set_cons_zero, List.set_cons_succ] at E)
  obtain ⟨q00, q01, q02, q03⟩ := (E.out.hdr 0 rfl).all
  go_wp2_with fail
  clear q00 q01 q02 q03
  refine (top_few y _ _ _ _ _ _ 60 _ _ (E.out.arr 1 rfl)).mono ?_
  rintro e w1 ⟨b1, rfl, hfw, hb⟩
  replace E := hid (E.out.up hb)
  clear hb
  cases b1 with
  | false =>
    clear hfw
    go_wp2_with (go_at_call 8; refine (top_knows27 _).mono ?_; rintro e w9 ⟨rfl, hb9⟩)
    exact hR.out _ _ ⟨rfl, (E.out.up hb9).ext⟩
  | true =>
  obtain ⟨ry, hwy⟩ := hfw rfl
  clear hfw
  by_cases c0 : y.shape.length = 1
  case neg =>
    have cb0 : ((y.shape.length : Int) != 1) = true := by simp; omega
    replace ry := hid ry
    replace hwy := hid hwy
    replace c0 := hid c0
    obtain ⟨q00, q01, q02, q03⟩ := (E.out.hdr 0 rfl).all
    go_wp2_with (go_at_call 8; refine (top_knows27 _).mono ?_; rintro e w9 ⟨rfl, hb9⟩)
    exact hR.out _ _ ⟨rfl, (E.out.up hb9).ext⟩
  have cb0 : ((y.shape.length : Int) != 1) = false := by simp [c0]
  have hsY := (right_ok ry).2.1
  obtain ⟨t, ht⟩ : ∃ t, t = talM y := ⟨_, rfl⟩
  have htN : Hid (talN y = (t : Int)) := hid (by rw [ht]; exact (tal_nn hsY).symm)
  have ht6 : t ≤ 65536 := by rw [ht]; exact tal_le hsY
  have hry := hid ry
  have hr1 := hid c0
  replace hwy := hid hwy
  replace ht := hid ht
  clear ry c0 hsY
  obtain ⟨q00, q01, q02, q03⟩ := (E.out.hdr 0 rfl).all
  go_wp2_with fail
  clear q00 q01 q02 q03
  refine (top_tally y _ _ _ _ _ _ _ _ (E.out.arr 1 rfl)).mono ?_
  rintro e w2 ⟨rfl, hb⟩
  replace E := hid (E.out.up hb)
  clear hb
  rw [htN.out]
  by_cases c1 : bs.length = t
  case neg =>
    have cb1 : ((bs.length : Int) != (t : Int)) = true := by simp; omega
    replace c1 := hid c1
    go_wp2_with (go_at_call 8; refine (top_knows27 _).mono ?_; rintro e w9 ⟨rfl, hb9⟩)
    exact hR.out _ _ ⟨rfl, (E.out.up hb9).ext⟩
  have cb1 : ((bs.length : Int) != (t : Int)) = false := by simp [c1]
  have c1' := hid c1
  have hbl6 : bs.length ≤ 65536 := by omega
  clear c1
  by_cases c2 : bs.length = 0
  case pos =>
    have cb2 : ((bs.length : Int) == 0) = true := by simp [c2]
    replace c2 := hid c2
    go_wp2_with (go_at_call 8; refine (top_knows27 _).mono ?_; rintro e w9 ⟨rfl, hb9⟩)
    exact hR.out _ _ ⟨rfl, (E.out.up hb9).ext⟩
  have cb2 : ((bs.length : Int) == 0) = false := by rw [beq_eq_false_iff_ne]; omega
  have c2p : 0 < bs.length := by omega
  have c2i : (0 : Int) < (bs.length : Int) := by omega
  replace c2 := hid c2
  obtain ⟨bb, bof, hbo, _, _, hbc⟩ := E.out.bools 2 rfl 0 c2p
  rw [Nat.add_zero] at hbc
  have hfst : Hid (bs[0] = true → numF (bitsI bs) 0 ≠ 0) := hid fun q => by
    unfold numF bitsI
    rw [List.getD_eq_getElem?_getD, List.getElem?_map, List.getElem?_eq_getElem c2p, q]
    simp [bI]
  generalize bs[0] = b0 at hbc hfst
  subst hbo
  cases b0 with
  | false =>
    go_wp2_with (go_at_call 8; refine (top_knows27 _).mono ?_; rintro e w9 ⟨rfl, hb9⟩)
    exact hR.out _ _ ⟨rfl, (E.out.up hb9).ext⟩
  | true =>
  obtain ⟨q00, q01, q02, q03⟩ := (E.out.hdr 0 rfl).all
  go_wp2_with fail
  clear q00 q01 q02 q03
  refine (top_deep y _ _ _ _ _ _ _ _ (E.out.arr 1 rfl) hry.out).mono ?_
  rintro e w3 ⟨rfl, hb⟩
  replace E := hid (E.out.up hb)
  clear hb hbc
  by_cases c3 : depA y ≤ 15
  case neg =>
    have cb3 : (16 : Int) ≤ depA y := by omega
    go_wp2_with (go_at_call 8; refine (top_knows27 _).mono ?_; rintro e w9 ⟨rfl, hb9⟩)
    exact hR.out _ _ ⟨rfl, (E.out.up hb9).ext⟩
  have cb3 : ¬ (16 : Int) ≤ depA y := by omega
  have c3' := hid c3
  clear c3
  replace E := hid E.out.row0I
  (try simp only [List.cons_append, List.nil_append, List.set_cons_zero, List.set_cons_succ] at E)
  go_upto_region 5 with fail
  clear cb0 cb1 cb2 cb3 c2i
  go_loopw [5, 6] (fun o i wr => ∃ (k : Nat) (lo : Option Addr) (lc : Nat), k ≤ bs.length ∧ o = .slice lo (bitsI (bs.take k)).length lc ∧ i = .int .i64 (k : Int) ∧ Env w S wr [.obj w.heap.size (.cells #[.int .i64 y.kind, .slice sy y.shape.length cy, .slice ny y.nums.length my, .slice iy y.items.length jy] 27 (0, 0)), .arr y sy ny iy, boolsF (some ⟨bb, bof, none⟩) bs, .rowI lo lc (bitsI (bs.take k))]) (fun _ i _ => bs.length - (intOf i).toNat)
  case atStart => exact ⟨0, none, 0, Nat.zero_le _, rfl, rfl, E.out⟩
  case round =>
    clear E
    obtain ⟨q, lo, lc, hq, rfl, rfl, E⟩ := hrel
    replace E := hid E
    by_cases hlt : q < bs.length
    case pos =>
      obtain ⟨b2, of2, hbo, _, _, hbc⟩ := E.out.bools 2 rfl q hlt
      injection hbo with hbo
      injection hbo with e1 e2
      subst e1
      subst e2
      have hstep := bitsI_take bs hlt
      obtain ⟨cur, hcur⟩ : ∃ c, c = bitsI (bs.take q) := ⟨_, rfl⟩
      have hcl : cur.length ≤ 65536 := by rw [hcur]; simp [bitsI]; omega
      rw [← hcur] at E hstep ⊢
      generalize bs[q] = b1 at hbc hstep
      replace hcur := hid hcur
      have tt0 : (0 : Int) ≤ (q : Int) := by omega
      have tt1 : (q : Int) < (bs.length : Int) := by omega
      cases b1 with
      | false =>
        replace hstep := hid hstep
        go_wp2_with (refine wplE_appI (E.out.up (ext_alloc _ _)) 3 rfl rfl (.tmp 57) (.tmp 59) rfl rfl (fun _ => True) _ 1 [(0 : Int)] rfl ((lit_at (l := [(0 : Int)]) (Ext.refl _) (by simp)).mono fun _ _ _ => trivial) (by simp only [List.length_cons, List.length_nil]; omega) ?_; intro V lo2 lc2 E1; clear E; have E := hid E1; clear E1; (try simp only [List.cons_append, List.nil_append, List.set_cons_zero, List.set_cons_succ] at E))
        go_roundw
        case rel => exact ⟨q + 1, lo2, lc2, by omega, by rw [hstep.out]; simp, by go_num, by rw [hstep.out]; exact E.out⟩
        case measure => simp [intOf]; omega
      | true =>
        replace hstep := hid hstep
        go_wp2_with (refine wplE_appI (E.out.up (ext_alloc _ _)) 3 rfl rfl (.tmp 57) (.tmp 59) rfl rfl (fun _ => True) _ 1 [(1 : Int)] rfl ((lit_at (l := [(1 : Int)]) (Ext.refl _) (by simp)).mono fun _ _ _ => trivial) (by simp only [List.length_cons, List.length_nil]; omega) ?_; intro V lo2 lc2 E1; clear E; have E := hid E1; clear E1; (try simp only [List.cons_append, List.nil_append, List.set_cons_zero, List.set_cons_succ] at E))
        go_roundw
        case rel => exact ⟨q + 1, lo2, lc2, by omega, by rw [hstep.out]; simp, by go_num, by rw [hstep.out]; exact E.out⟩
        case measure => simp [intOf]; omega
    case neg =>
      have hqe : bs.take q = bs := List.take_of_length_le (by omega)
      rw [hqe] at E ⊢
      obtain ⟨L, hL⟩ : ∃ l, l = bitsI bs := ⟨_, rfl⟩
      rw [← hL] at E ⊢
      have hLl : L.length = bs.length := by rw [hL]; simp [bitsI]
      have hL6 : L.length ≤ 65536 := by omega
      have hcap := OwnI.cap (E.out.rowI 3 rfl)
      replace E := hid (E.out.doneI 3 rfl (by omega))
      (try simp only [List.cons_append, List.nil_append, List.set_cons_zero, List.set_cons_succ] at E)
      obtain ⟨K, G0, g0⟩ := cut_law (l := L) hry.out hr1.out (by rw [hL]; exact bitsI_bit bs) (by rw [hLl, c1'.out]; exact ht.out) (by omega) (by rw [hL]; exact hfst.out (by trivial)) c3'.out hwy.out
      obtain ⟨xx, hxx⟩ : ∃ a, a = vecA L := ⟨_, rfl⟩
      obtain ⟨rr, hrr⟩ : ∃ a, a = cutA xx y := ⟨_, rfl⟩
      rw [← hxx] at K G0
      have y1 : Hid (rr = cutS (vecA L) y) := hid (by rw [hrr, hxx]; exact (cutS_yes (cutE_0 (hxx ▸ K.c) (hxx ▸ K.l) (hxx ▸ K.b) (hxx ▸ K.r))).symm)
      have y2 : Hid (cutE (vecA L) y = 0) := hid (by rw [← hxx]; exact cutE_0 K.c K.l K.b K.r)
      have hrl : rr.items.length = (cuts L L.length).length := by rw [hrr, hxx]; simp [cutA, Arr.items, vecA, Arr.nums]
      have hr0 : 0 < rr.items.length := by omega
      have hr0' : (0 : Int) < (rr.items.length : Int) := by omega
      have hr0b : ((rr.items.length : Int) == 0) = false := by rw [beq_eq_false_iff_ne]; omega
      replace hL := hid hL
      replace hLl := hid hLl
      replace hqe := hid hqe
      replace hxx := hid hxx
      replace hrr := hid hrr
      replace K := hid K
      replace hrl := hid hrl
      have tt2 : ¬ (q : Int) < (bs.length : Int) := by omega
      clear hlt hq g0
      have hG0 := hid G0
      clear G0
      go_upto_region 11 with fail
      obtain ⟨N, hN⟩ := E.out.nz (.cells #[.int .i64 0, .slice none 0 0, .slice none 0 0, .slice none 0 0] 27 (0, 0))
      obtain ⟨q00, q01, q02, q03⟩ := (E.out.hdr 0 rfl).all
      refine wp_region_edge 6 8 (by kernel_rfl) (by kernel_rfl) (fun o _ v c a w h => by cases hd : o.dst <;> (rw [hd] at h; exact h)) _ rfl 8 (Sees wr [(⟨w.heap.size, 0, none⟩, .int .i64 y.kind), (⟨w.heap.size, 1, none⟩, .slice sy y.shape.length cy), (⟨w.heap.size, 2, none⟩, .slice ny y.nums.length my), (⟨w.heap.size, 3, none⟩, .slice iy y.items.length jy)]) [1, 3, 7] (fun k v u u' => match k with | 1 => ∃ g, v = .agg #[.int .i64 1, .slice (some ⟨g, 0, none⟩) 1 1, .slice lo L.length lc, .slice none 0 0] ∧ u'.heap[g]? = some (.cells #[.int .i64 (L.length : Int)] 3 (0, 0)) ∧ wr.heap.size ≤ g | 3 => RetCC u (N u) (rr) 0 (.returned v) u' | 7 => v = .pointer (some ⟨u.heap.size, 0, none⟩) ∧ u' = u.alloc (.cells #[.int .i64 0, .slice none 0 0, .slice none 0 0, .slice none 0 0] 27) | _ => False) (fun _ _ h e => h.up e) (Sees.start (all_cons ((E.out.hdr 0 rfl).c0) (all_cons ((E.out.hdr 0 rfl).c1) (all_cons ((E.out.hdr 0 rfl).c2) (all_cons ((E.out.hdr 0 rfl).c3) (all_nil)))))) (by kernel_rfl) ?_
      simp only [withEdge, List.modify_succ_cons, List.modify_zero_cons, List.push_toArray, List.cons_append, List.nil_append]
      simp only [List.take_succ_cons, List.take_zero, List.drop_succ_cons, List.drop_zero]
      repeat (first | (refine m_plain (v := ?_) (by rfl) (by rfl) ?_ ?_; rotate_left; (intro wz hSw; obtain ⟨-, hSc⟩ := hSw; (try simp only [List.forall_mem_cons, List.forall_mem_nil, and_true] at hSc); go_simp; (first | done | with_reducible rfl)); (intro K hK; (try simp only [Act.put, List.setIfInBounds_toArray, List.set_cons_zero, List.set_cons_succ]); refine hK _ _ ?_; clear hK K)) | (refine m_skip (by rfl) (by rfl) ?_; (intro K hK; (try simp only [Act.put, List.setIfInBounds_toArray, List.set_cons_zero, List.set_cons_succ]); refine hK _ _ ?_; clear hK K)))
      refine m_make (by rfl) (by rfl) ?_ ?_
      · intro wz hSw hdep R hRz
        obtain ⟨hSe, hSc⟩ := hSw
        (try simp only [List.forall_mem_cons, List.forall_mem_nil, and_true] at hSc)
        unfold does
        (go_simp; refine Calls.mono (top_vectorX L lo lc wz) ?_; rintro e wq ⟨g, rfl, hg, hle, hb⟩; exact ⟨_, rfl, hRz.out _ _ ⟨hb, g, rfl, hg, Nat.le_trans (Below.size hSe) hle⟩⟩)
      intro v1 u1 x1 hG1 K hK
      have hF1 := hG1.fact
      (try dsimp only at hF1)
      obtain ⟨g1, rfl, hg1, hg2⟩ := hF1
      (try simp only [Act.put, List.setIfInBounds_toArray, List.set_cons_zero, List.set_cons_succ]); refine hK _ _ ?_; clear hK K
      repeat (first | (refine m_plain (v := ?_) (by rfl) (by rfl) ?_ ?_; rotate_left; (intro wz hSw; obtain ⟨-, hSc⟩ := hSw; (try simp only [List.forall_mem_cons, List.forall_mem_nil, and_true] at hSc); go_simp; (first | done | with_reducible rfl)); (intro K hK; (try simp only [Act.put, List.setIfInBounds_toArray, List.set_cons_zero, List.set_cons_succ]); refine hK _ _ ?_; clear hK K)) | (refine m_skip (by rfl) (by rfl) ?_; (intro K hK; (try simp only [Act.put, List.setIfInBounds_toArray, List.set_cons_zero, List.set_cons_succ]); refine hK _ _ ?_; clear hK K)))
      refine m_make (by rfl) (by rfl) ?_ ?_
      · intro wz hSw hdep R hRz
        obtain ⟨hSe, hSc⟩ := hSw
        (try simp only [List.forall_mem_cons, List.forall_mem_nil, and_true] at hSc)
        unfold does
        (go_simp; have hm := (((hdep 1 _ rfl (depB_sound (f := 60) (by kernel_rfl)))).block _ (Array.getElem?_eq_some_iff.1 hg1).1).trans hg1; refine Calls.mono (copying_CutK (vecA L) (some ⟨g1, 0, none⟩) 1 lo lc none 0 y _ _ _ _ _ _ (N wz) wz (vec_at (IntsAt.box (by rw [hN]; exact Or.inr ⟨hg2, by rw [hm]; intro q; simp at q⟩) (cell_of_row wz g1 0 _ _ _ hm)) (((E.out.ints 3 rfl).mono (fun b hb h => by rw [hN]; exact Or.inl ⟨h, hb⟩)).up hSe)) (ArrAt.up (ArrAt.mono (fun b hb h => by rw [hN]; exact Or.inl ⟨h, hb⟩) _ (E.out.arr 1 rfl)) hSe) ⟨Nat.le_refl _, hcap, Nat.le_refl _⟩ hcy.out) ?_; intro e wq h; rw [← y1.out, y2.out] at h; obtain ⟨ta, tc, tn, tnc, ti, tic, rfl, hq, hqb, hqc⟩ := h; exact ⟨_, rfl, hRz.out _ _ ⟨hqb, ta, tc, tn, tnc, ti, tic, rfl, ArrAt.mono (fun b hb h => h.elim id fun q => by rw [hN]; exact Nz.new hSe q) _ hq, hqb, hqc⟩⟩)
      intro v3 u3 x3 hG3 K hK
      have hF3 := hG3.fact
      (try dsimp only at hF3)
      obtain ⟨s111, c111, n111, m111, i111, j111, he, hA111, hb111, hC111, hK111⟩ := hF3
      injection he with he
      subst he
      replace hC111 := hid hC111
      (try simp only [Act.put, List.setIfInBounds_toArray, List.set_cons_zero, List.set_cons_succ]); refine hK _ _ ?_; clear hK K
      repeat (first | (refine m_plain (v := ?_) (by rfl) (by rfl) ?_ ?_; rotate_left; (intro wz hSw; obtain ⟨-, hSc⟩ := hSw; (try simp only [List.forall_mem_cons, List.forall_mem_nil, and_true] at hSc); go_simp; (first | done | with_reducible rfl)); (intro K hK; (try simp only [Act.put, List.setIfInBounds_toArray, List.set_cons_zero, List.set_cons_succ]); refine hK _ _ ?_; clear hK K)) | (refine m_skip (by rfl) (by rfl) ?_; (intro K hK; (try simp only [Act.put, List.setIfInBounds_toArray, List.set_cons_zero, List.set_cons_succ]); refine hK _ _ ?_; clear hK K)))
      refine m_make (by rfl) (by rfl) ?_ ?_
      · intro wz hSw hdep R hRz
        obtain ⟨hSe, hSc⟩ := hSw
        (try simp only [List.forall_mem_cons, List.forall_mem_nil, and_true] at hSc)
        unfold does
        (go_simp; exact hRz.out _ _ ⟨ext_alloc _ _, rfl, rfl⟩)
      intro v7 u7 x7 hG7 K hK
      have hF7 := hG7.fact
      (try dsimp only at hF7)
      obtain ⟨rfl, rfl⟩ := hF7
      (try simp only [Act.put, List.setIfInBounds_toArray, List.set_cons_zero, List.set_cons_succ]); refine hK _ _ ?_; clear hK K
      repeat (first | (refine m_plain (v := ?_) (by rfl) (by rfl) ?_ ?_; rotate_left; (intro wz hSw; obtain ⟨-, hSc⟩ := hSw; (try simp only [List.forall_mem_cons, List.forall_mem_nil, and_true] at hSc); go_simp; (first | done | with_reducible rfl)); (intro K hK; (try simp only [Act.put, List.setIfInBounds_toArray, List.set_cons_zero, List.set_cons_succ]); refine hK _ _ ?_; clear hK K)) | (refine m_skip (by rfl) (by rfl) ?_; (intro K hK; (try simp only [Act.put, List.setIfInBounds_toArray, List.set_cons_zero, List.set_cons_succ]); refine hK _ _ ?_; clear hK K)))
      refine m_nil ?_
      intro wf hSf hAf
      subst hN
      have hK := hK111.up (hAf 3 _ rfl)
      replace E := hid (E.out.varN hA111 (hAf 3 _ rfl) hb111 (hG7.order 3 _ rfl) hG3.s.1 hG7.s.1 (hAf 7 _ rfl) hSf.1)
      clear hAf hSf hG1 hG3 hG7 hA111 hb111 hg1 hg2 hK111
      clear q00 q01 q02 q03
      (try simp only [List.cons_append, List.nil_append, List.set_cons_zero, List.set_cons_succ] at E)
      replace E := hid (E.out.addCaps 5 rfl hK)
      clear hK
      (try simp only [List.cons_append, List.nil_append, List.set_cons_zero, List.set_cons_succ] at E)
      refine wpl_store4 (by rfl) (.tmp 8) (.tmp 66) (by rfl) _ (by rfl) (by rfl) (E.out.hdr 4 rfl) ?_
      intro V5 HV CV
      replace E := hid (E.out.chg 4 rfl CV HV)
      clear CV HV
      (try simp only [List.cons_append, List.nil_append, List.set_cons_zero, List.set_cons_succ] at E)
      generalize u7.heap.size = p5 at E ⊢
      obtain ⟨m0, hz0, hm0, hm1, hR0, hG1⟩ := K.out.grp' hrr.out hG0.out hr0
      obtain ⟨b', off', s0, c0, n0, k0, i0, j0, hia, e0, e1, e2, e3, hz, hcz⟩ := E.out.itemC 5 6 rfl rfl hr0
      simp only [Nat.zero_mul, Nat.add_zero] at e0 e1 e2 e3
      generalize rr.items[0] = ga at hz0 e0 e1 e2 e3 hz hcz
      replace E := hid (E.out.addArr hz (fun _ _ h => h))
      (try simp only [List.cons_append, List.nil_append, List.set_cons_zero, List.set_cons_succ] at E)
      clear hz
      have hga : Hid (ga = secA y 0 m0) := hid hz0
      have hcz0 := hid hcz
      have hGq := hid hG1
      have hmt : 0 + m0 ≤ t := by rw [ht.out]; exact hm1
      clear hz0 hcz hG1 hm0 hm1 hR0
      subst hia
      obtain ⟨q40, q41, q42, q43⟩ := (E.out.hdr 4 rfl).all
      go_upto_region 15 with (refine wpl_store4 rfl (.tmp 10) (.tmp 79) rfl _ rfl rfl ((E.out.alloc _).hdr 8 rfl) ?_; intro V6 HV CV; replace E := hid ((E.out.alloc _).chg 8 rfl CV HV); clear CV HV; (try simp only [List.cons_append, List.nil_append, List.set_cons_zero, List.set_cons_succ] at E))
      clear e0 e1 e2 e3
      clear q40 q41 q42 q43
      generalize V5.heap.size = pa at E ⊢
      replace E := hid (E.out.perm (M := [.obj w.heap.size (.cells #[.int .i64 y.kind, .slice sy y.shape.length cy, .slice ny y.nums.length my, .slice iy y.items.length jy] 27 (0, 0)), .arr y sy ny iy, boolsF (some ⟨bb, bof, none⟩) bs, .ints L lo, .obj p5 (.cells #[.int .i64 rr.kind, .slice s111 rr.shape.length c111, .slice n111 rr.nums.length m111, .slice (some ⟨b', off', none⟩) rr.items.length j111] 27 (0, 0)), .arr rr s111 n111 (some ⟨b', off', none⟩), capsF (some ⟨b', off', none⟩) rr.items, .obj pa (.cells #[.int .i64 ga.kind, .slice s0 ga.shape.length c0, .slice n0 ga.nums.length k0, .slice i0 ga.items.length j0] 27 (0, 0)), .arr ga s0 n0 i0]) (List.Perm.cons _ (List.Perm.cons _ (List.Perm.cons _ (List.Perm.cons _ (List.Perm.cons _ (List.Perm.cons _ (List.Perm.cons _ (List.Perm.swap _ _ _)))))))))
      go_wp2_with fail
      go_loopw [11] (fun i wr => ∃ (k q : Nat) (ga : Arr) (sg : Option Addr) (cg : Nat) (ng : Option Addr) (mg : Nat) (ig : Option Addr) (jg : Nat), k ≤ rr.items.length ∧ q ≤ t ∧ Hid (ga = secA y 0 q) ∧ Hid (GrpAt xx y k q) ∧ i = .int .i64 (k : Int) ∧ Hid (ga.shape.length ≤ cg ∧ ga.nums.length ≤ mg ∧ ga.items.length ≤ jg) ∧
        Env w S wr [.obj w.heap.size (.cells #[.int .i64 y.kind, .slice sy y.shape.length cy, .slice ny y.nums.length my, .slice iy y.items.length jy] 27 (0, 0)), .arr y sy ny iy, boolsF (some ⟨bb, bof, none⟩) bs, .ints L lo, .obj p5 (.cells #[.int .i64 rr.kind, .slice s111 rr.shape.length c111, .slice n111 rr.nums.length m111, .slice (some ⟨b', off', none⟩) rr.items.length j111] 27 (0, 0)), .arr rr s111 n111 (some ⟨b', off', none⟩), capsF (some ⟨b', off', none⟩) rr.items, .obj pa (.cells #[.int .i64 ga.kind, .slice sg ga.shape.length cg, .slice ng ga.nums.length mg, .slice ig ga.items.length jg] 27 (0, 0)), .arr ga sg ng ig]) (fun i _ => rr.items.length - (intOf i).toNat)
      case atStart => exact ⟨1, m0, ga, s0, c0, n0, k0, i0, j0, hr0, by omega, hga, by simpa only [Nat.zero_add] using hGq, rfl, hcz0, E.out⟩
      case round =>
        clear E
        obtain ⟨k, q2, gb, sg, cg, ng, mg, ig, jg, hk, hq2, hgb, hGk, rfl, hcb, E⟩ := hrel
        replace E := hid E
        have hrlen := (E.out.arr 5 rfl).len
        by_cases hlt : k < rr.items.length
        case pos =>
          obtain ⟨m1, hz1, hm0, hm1, hR1, hG1⟩ := K.out.grp' hrr.out hGk.out hlt
          obtain ⟨b2', off2', s1, c1, n1, k1, i1, j1, hia, e0, e1, e2, e3, hz, hcz⟩ := E.out.itemC 5 6 rfl rfl hlt
          injection hia with hia
          injection hia with ei1 ei2
          subst ei1
          subst ei2
          have J := sec_join hry.out (by rw [hr1.out]; decide) (q := q2) (m := m1) hm1
          generalize rr.items[k] = gz at hz1 e0 e1 e2 e3 hz hcz
          have hz1' : gz = secA y q2 m1 := hz1
          rw [← hz1', ← hgb.out] at J
          obtain ⟨gn, hgn⟩ : ∃ a, a = secA y 0 (q2 + m1) := ⟨_, rfl⟩
          rw [← hgn] at J
          have hj1 : Hid (gn = joinS false gb gz) := hid J.2.symm
          have hj2 : Hid (joinE false gb gz = 0) := hid J.1
          have hqt : q2 + m1 ≤ t := by rw [ht.out]; exact hm1
          have hGq2 := hid hG1
          have hcz1 := hid hcz
          replace hgn := hid hgn
          replace E := hid (E.out.addArr hz (fun _ _ h => h))
          (try simp only [List.cons_append, List.nil_append, List.set_cons_zero, List.set_cons_succ] at E)
          clear hz hz1 hz1' hcz hG1 J hR1 hm0 hm1 hGq
          have tt0 : (0 : Int) ≤ (k : Int) := by omega
          have tt1 : (k : Int) < (rr.items.length : Int) := by omega
          obtain ⟨q40, q41, q42, q43⟩ := (E.out.hdr 4 rfl).all
          go_upto_region 18 with fail
          clear q40 q41 q42 q43
          obtain ⟨q40, q41, q42, q43⟩ := (E.out.hdr 4 rfl).all
          obtain ⟨q70, q71, q72, q73⟩ := (E.out.hdr 7 rfl).all
          obtain ⟨N, hN⟩ := E.out.nz (.cells #[.int .i64 0, .slice none 0 0, .slice none 0 0, .slice none 0 0] 27 (0, 0))
          refine wp_region_edge 9 11 (by kernel_rfl) (by kernel_rfl) (fun o _ v c a w h => by cases hd : o.dst <;> (rw [hd] at h; exact h)) _ rfl 11 (Sees wr [(⟨pa, 0, none⟩, .int .i64 gb.kind), (⟨pa, 1, none⟩, .slice sg gb.shape.length cg), (⟨pa, 2, none⟩, .slice ng gb.nums.length mg), (⟨pa, 3, none⟩, .slice ig gb.items.length jg), (⟨p5, 3, none⟩, .slice (some ⟨b', off', none⟩) rr.items.length j111), (⟨b', off' + k * 4, none⟩, .int .i64 gz.kind), (⟨b', off' + k * 4 + 1, none⟩, .slice s1 gz.shape.length c1), (⟨b', off' + k * 4 + 2, none⟩, .slice n1 gz.nums.length k1), (⟨b', off' + k * 4 + 3, none⟩, .slice i1 gz.items.length j1)]) [6, 10] (fun k v u u' => match k with | 6 => RetAEC u (N u) (gn) 0 (.returned v) u' | 10 => v = .pointer (some ⟨u.heap.size, 0, none⟩) ∧ u' = u.alloc (.cells #[.int .i64 0, .slice none 0 0, .slice none 0 0, .slice none 0 0] 27) | _ => False) (fun _ _ h e => h.up e) (Sees.start (all_cons ((E.out.hdr 7 rfl).c0) (all_cons ((E.out.hdr 7 rfl).c1) (all_cons ((E.out.hdr 7 rfl).c2) (all_cons ((E.out.hdr 7 rfl).c3) (all_cons (q43) (all_cons (e0) (all_cons (e1) (all_cons (e2) (all_cons (e3) (all_nil))))))))))) (by kernel_rfl) ?_
          simp only [withEdge, List.modify_succ_cons, List.modify_zero_cons, List.push_toArray, List.cons_append, List.nil_append]
          simp only [List.take_succ_cons, List.take_zero, List.drop_succ_cons, List.drop_zero]
          repeat (first | (refine m_plain (v := ?_) (by rfl) (by rfl) ?_ ?_; rotate_left; (intro wz hSw; obtain ⟨-, hSc⟩ := hSw; (try simp only [List.forall_mem_cons, List.forall_mem_nil, and_true] at hSc); go_simp; (first | done | with_reducible rfl)); (intro K hK; (try simp only [Act.put, List.setIfInBounds_toArray, List.set_cons_zero, List.set_cons_succ]); refine hK _ _ ?_; clear hK K)) | (refine m_skip (by rfl) (by rfl) ?_; (intro K hK; (try simp only [Act.put, List.setIfInBounds_toArray, List.set_cons_zero, List.set_cons_succ]); refine hK _ _ ?_; clear hK K)))
          refine m_make (by rfl) (by rfl) ?_ ?_
          · intro wz hSw hdep R hRz
            obtain ⟨hSe, hSc⟩ := hSw
            (try simp only [List.forall_mem_cons, List.forall_mem_nil, and_true] at hSc)
            unfold does
            (go_simp; refine Calls.mono (joining_First gb _ _ _ _ _ _ gz _ _ _ _ _ _ (N wz) wz (ArrAt.up (ArrAt.mono (fun b hb h => by rw [hN]; exact Or.inl ⟨h, hb⟩) _ (E.out.arr 8 rfl)) hSe) (ArrAt.up (ArrAt.mono (fun b hb h => by rw [hN]; exact Or.inl ⟨h, hb⟩) _ (E.out.arr 9 rfl)) hSe) hcb.out hcz1.out) ?_; intro e wq h; obtain ⟨ta, tc, tn, tnc, ti, tic, rfl, hq, hqb, hqc⟩ := h.eq hj1.out hj2.out; exact ⟨_, rfl, hRz.out _ _ ⟨hqb, ta, tc, tn, tnc, ti, tic, rfl, ArrAt.mono (fun b hb h => h.elim id fun q => by rw [hN]; exact Nz.new hSe q) _ hq, hqb, hqc⟩⟩)
          intro v6 u6 x6 hG6 K hK
          have hF6 := hG6.fact
          (try dsimp only at hF6)
          obtain ⟨s112, c112, n112, m112, i112, j112, he, hA112, hb112, hC112⟩ := hF6
          injection he with he
          subst he
          replace hC112 := hid hC112
          (try simp only [Act.put, List.setIfInBounds_toArray, List.set_cons_zero, List.set_cons_succ]); refine hK _ _ ?_; clear hK K
          repeat (first | (refine m_plain (v := ?_) (by rfl) (by rfl) ?_ ?_; rotate_left; (intro wz hSw; obtain ⟨-, hSc⟩ := hSw; (try simp only [List.forall_mem_cons, List.forall_mem_nil, and_true] at hSc); go_simp; (first | done | with_reducible rfl)); (intro K hK; (try simp only [Act.put, List.setIfInBounds_toArray, List.set_cons_zero, List.set_cons_succ]); refine hK _ _ ?_; clear hK K)) | (refine m_skip (by rfl) (by rfl) ?_; (intro K hK; (try simp only [Act.put, List.setIfInBounds_toArray, List.set_cons_zero, List.set_cons_succ]); refine hK _ _ ?_; clear hK K)))
          refine m_make (by rfl) (by rfl) ?_ ?_
          · intro wz hSw hdep R hRz
            obtain ⟨hSe, hSc⟩ := hSw
            (try simp only [List.forall_mem_cons, List.forall_mem_nil, and_true] at hSc)
            unfold does
            (go_simp; exact hRz.out _ _ ⟨ext_alloc _ _, rfl, rfl⟩)
          intro v10 u10 x10 hG10 K hK
          have hF10 := hG10.fact
          (try dsimp only at hF10)
          obtain ⟨rfl, rfl⟩ := hF10
          (try simp only [Act.put, List.setIfInBounds_toArray, List.set_cons_zero, List.set_cons_succ]); refine hK _ _ ?_; clear hK K
          repeat (first | (refine m_plain (v := ?_) (by rfl) (by rfl) ?_ ?_; rotate_left; (intro wz hSw; obtain ⟨-, hSc⟩ := hSw; (try simp only [List.forall_mem_cons, List.forall_mem_nil, and_true] at hSc); go_simp; (first | done | with_reducible rfl)); (intro K hK; (try simp only [Act.put, List.setIfInBounds_toArray, List.set_cons_zero, List.set_cons_succ]); refine hK _ _ ?_; clear hK K)) | (refine m_skip (by rfl) (by rfl) ?_; (intro K hK; (try simp only [Act.put, List.setIfInBounds_toArray, List.set_cons_zero, List.set_cons_succ]); refine hK _ _ ?_; clear hK K)))
          refine m_nil ?_
          intro wf hSf hAf
          subst hN
          replace E := hid (E.out.varN hA112 (hAf 6 _ rfl) hb112 (hG10.order 6 _ rfl) hG6.s.1 hG10.s.1 (hAf 10 _ rfl) hSf.1)
          clear hAf hSf hG6 hG10 hA112 hb112 e0 e1 e2 e3
          clear q40 q41 q42 q43 q70 q71 q72 q73
          (try simp only [List.cons_append, List.nil_append, List.set_cons_zero, List.set_cons_succ] at E)
          refine wpl_store4 (by rfl) (.tmp 12) (.tmp 95) (by rfl) _ (by rfl) (by rfl) (E.out.hdr 10 rfl) ?_
          intro V7 HV CV
          replace E := hid (E.out.chg 10 rfl CV HV)
          clear CV HV
          (try simp only [List.cons_append, List.nil_append, List.set_cons_zero, List.set_cons_succ] at E)
          generalize u10.heap.size = p10 at E ⊢
          obtain ⟨q100, q101, q102, q103⟩ := (E.out.hdr 10 rfl).all
          go_wp2_with (refine wpl_store4 rfl (.tmp 10) (.tmp 99) rfl _ rfl rfl (E.out.hdr 7 rfl) ?_; intro V8 HV CV; replace E := hid (E.out.chg 7 rfl CV HV); clear CV HV; (try simp only [List.cons_append, List.nil_append, List.set_cons_zero, List.set_cons_succ] at E))
          go_roundw
          case rel => exact ⟨k + 1, q2 + m1, gn, s112, c112, n112, m112, i112, j112, by omega, hqt, hgn, hGq2, by go_num, hC112, E.out.sub (List.Sublist.cons_cons _ (List.Sublist.cons_cons _ (List.Sublist.cons_cons _ (List.Sublist.cons_cons _ (List.Sublist.cons_cons _ (List.Sublist.cons_cons _ (List.Sublist.cons_cons _ (List.Sublist.cons_cons _ (List.Sublist.cons _ (List.Sublist.cons _ (List.Sublist.cons _ (List.Sublist.cons_cons _ (List.nil_sublist _)))))))))))))⟩
          case measure => simp [intOf]; omega
        case neg =>
          have hfin := hGk.out.fin (by rw [hxx.out]; show (cuts L L.length).length ≤ k; rw [← hrl.out]; omega) (by rw [hxx.out]; show 0 < (cuts L L.length).length; rw [← hrl.out]; exact hr0)
          have hqt : q2 = talM y := by
            rw [hfin, hxx.out]
            show L.length = _
            rw [hLl.out, c1'.out]; exact ht.out
          have hge : Hid (gb = y) := hid (by rw [hgb.out, hqt]; exact sec_all hry.out (by rw [hr1.out]; decide))
          have hsame : Hid (sameB gb y = true) := hid (by rw [hge.out]; exact sameB_self _)
          have tt3 : ¬ (k : Int) < (rr.items.length : Int) := by omega
          replace hfin := hid hfin
          replace hqt := hid hqt
          obtain ⟨q00, q01, q02, q03⟩ := (E.out.hdr 0 rfl).all
          obtain ⟨q40, q41, q42, q43⟩ := (E.out.hdr 4 rfl).all
          obtain ⟨q70, q71, q72, q73⟩ := (E.out.hdr 7 rfl).all
          go_wp2_with fail
          clear q00 q01 q02 q03 q40 q41 q42 q43 q70 q71 q72 q73
          refine (array_Same gb y _ _ _ _ _ _ _ _ _ _ _ _ _ _ _ (E.out.arr 8 rfl) (E.out.arr 1 rfl)).mono ?_
          rintro e w9 ⟨rfl, hb⟩
          replace E := hid (E.out.up hb)
          clear hb
          rw [hsame.out]
          go_wp2_with (go_at_call 8; refine (top_knows27 _).mono ?_; rintro e w10 ⟨rfl, hb10⟩)
          exact hR.out _ _ ⟨rfl, (E.out.up hb10).ext⟩
end Go.Proofs.Ytdpdcjadedcglaa
