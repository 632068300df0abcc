/- ref23.fits, bounded, Pick: contracts. Conditions: the arrays are read; a slice's capacity is at least its length (bounded). -/
import Derived.Test.YtcoknjlkhefgpaaI23A
import Derived.Test.YtcoknjlkhefgpaaP23P
set_option linter.unusedVariables false
set_option linter.unusedSimpArgs false
namespace Go.Proofs.Ytcoknjlkhefgpaa
open Go.RowKit Go.Sort
attribute [local go_sem ↓] run_max2 run_min2
attribute [local go_sem] eql_ints_nil eql_arrs_nil
set_option maxHeartbeats 4000000 in
theorem ref23_fits (x : Arr) (sx : Option Addr) (cx : Nat) (nx : Option Addr) (mx : Nat) (ix : Option Addr) (jx : Nat) (d : Int) (S : Nat → Prop) (w : World) (h : ArrAt w S x sx nx ix) : Calls Try.prog 44 #[.agg #[.int .i64 x.kind, .slice sx x.shape.length cx, .slice nx x.nums.length mx, .slice ix x.items.length jx], .int .i64 d] w fun e w' => e = .returned (.bool (!x.nums.any (outB d))) ∧ Below w.heap.size w w' := by
  refine calls_post fun R' hR => ?_
  have h0 := hid h
  have hxn := h.nums.1
  clear h
  go_enter Try.func44, Try.ntmps44
  go_upto_region 1 with (fail)
  generalize hEW : (w).alloc (.cells #[.int .i64 x.kind, .slice sx x.shape.length cx, .slice nx x.nums.length mx, .slice ix x.items.length jx] 26) = W
  have E := hid (env1 w S hEW)
  clear hEW
  replace E := hid (E.out.arg h0.out)
  (try simp only [List.cons_append, List.nil_append, List.set_cons_zero, List.set_cons_succ] at E)
  obtain ⟨q00, q01, q02, q03⟩ := (E.out.hdr 0 rfl).all
  go_upto_region 2 with (fail)
  go_loopw [5] (fun i wr => ∃ j : Nat, j ≤ x.nums.length ∧ i = .int .i64 j ∧ Hid (∀ m (hm : m < x.nums.length), m < j → outB d x.nums[m] = false) ∧ Env w S wr [.obj w.heap.size (.cells #[.int .i64 x.kind, .slice sx x.shape.length cx, .slice nx x.nums.length mx, .slice ix x.items.length jx] 26 (0, 0)), .arr x sx nx ix]) (fun i _ => x.nums.length - (intOf i).toNat)
  case atStart => exact ⟨0, Nat.zero_le _, rfl, hid (fun m hm q => by omega), E.out⟩
  case round =>
    clear E q00 q01 q02 q03
    obtain ⟨j, hj, rfl, hb, E⟩ := hrel
    replace E := hid E
    by_cases hlt : j < x.nums.length
    · obtain ⟨b1, o1, hnx, hbl, hS1, hc1⟩ := (E.out.arr 1 rfl).nums.at hlt
      have hg : x.nums.getD j 0 = x.nums[j] := by simp [hlt]
      rw [hg] at hc1
      have hN : Hid (outB d x.nums[j] = false → ∀ m (hm : m < x.nums.length), m < j + 1 → outB d x.nums[m] = false) := hid fun q m hm hk => by
        rcases Nat.lt_succ_iff_lt_or_eq.1 hk with h1 | h1
        · exact hb.out m hm h1
        · subst h1; exact q
      have hY : Hid (outB d x.nums[j] = true → x.nums.any (outB d) = true) := hid fun q => List.any_eq_true.2 ⟨_, List.getElem_mem hlt, q⟩
      clear hg
      generalize x.nums[j] = v at hc1 hN hY
      have t0 : (0 : Int) ≤ (j : Int) := by omega
      have t1 : (j : Int) < (x.nums.length : Int) := by omega
      subst hnx
      obtain ⟨q00, q01, q02, q03⟩ := (E.out.hdr 0 rfl).all
      by_cases n0 : v < 0
      · have hy := hid (hY.out (by simp [outB, n0]))
        go_wp2_with fail
        exact hR.out _ _ ⟨by rw [hy.out] <;> rfl, E.out.ext⟩
      · by_cases n1 : d ≤ v
        · have hy := hid (hY.out (by simp [outB, n1]))
          go_wp2_with fail
          exact hR.out _ _ ⟨by rw [hy.out] <;> rfl, E.out.ext⟩
        · have hn := hid (hN.out (by simp [outB]; omega))
          go_wp2_with fail
          go_roundw
          case rel => exact ⟨j + 1, by omega, by go_num, hn, E.out⟩
          case measure => simp [intOf]; omega
    · have hn : Hid (x.nums.any (outB d) = false) := hid (any_take_no fun m hm => hb.out m hm (by omega))
      obtain ⟨q00, q01, q02, q03⟩ := (E.out.hdr 0 rfl).all
      go_wp2_with fail
      exact hR.out _ _ ⟨by rw [hn.out] <;> rfl, E.out.ext⟩
/-- bounded: the array if it is not too heavy -/
def bwE (a : Arr) : Int := if 262144 < wtS a then 21 else 0
def bwS (a : Arr) : Arr := if bwE a = 0 then a else .zero
set_option maxHeartbeats 4000000 in
theorem ref23_bounded (a : Arr) (sa : Option Addr) (ca : Nat) (na : Option Addr) (ma : Nat) (ia : Option Addr) (ja : Nat) (S : Nat → Prop) (w : World) (h : ArrAt w S a sa na ia) (hc : a.shape.length ≤ ca ∧ a.nums.length ≤ ma ∧ a.items.length ≤ ja) :
    Calls Try.prog 47 #[.agg #[.int .i64 a.kind, .slice sa a.shape.length ca, .slice na a.nums.length ma, .slice ia a.items.length ja]] w (RetAEC w S (bwS a) (bwE a)) := by
  refine calls_post fun R' hR => ?_
  have h0 := hid h
  clear h
  go_enter Try.func47, Try.ntmps47
  go_upto_region 1 with (fail)
  generalize hEW : ((w).alloc (.cells #[.int .i64 a.kind, .slice sa a.shape.length ca, .slice na a.nums.length ma, .slice ia a.items.length ja] 26)).alloc (.cells #[.int .i64 0, .slice none 0 0, .slice none 0 0, .slice none 0 0] 26) = W
  have E := hid (env2 w S hEW)
  clear hEW
  replace E := hid (E.out.arg h0.out)
  (try simp only [List.cons_append, List.nil_append, List.set_cons_zero, List.set_cons_succ] at E)
  obtain ⟨q00, q01, q02, q03⟩ := (E.out.hdr 0 rfl).all
  go_wp2_with fail
  clear q00 q01 q02 q03
  refine (ref03_Weight a _ _ _ _ _ _ _ _ (E.out.arr 2 rfl)).mono ?_
  rintro e w1 ⟨rfl, hb⟩
  replace E := hid (E.out.up hb)
  clear hb
  by_cases c : 262144 < wtS a
  case pos =>
    have hn : Hid (bwE a = 21) := hid (if_pos c)
    have hv : Hid (bwS a = .zero) := hid (if_neg (by rw [hn.out]; decide))
    go_wp2_with (refine wpl_store4 rfl (.tmp 2) (.tmp 7) rfl _ rfl rfl (E.out.hdr 1 rfl) ?_; intro V HV CV; replace E := hid (E.out.chg 1 rfl CV HV))
    exact bodyPost_ret (end_arr2 rfl HV rfl rfl) rfl (hR.out _ _ (RetAEC.zero hv.out hn.out E.out.ext))
  have hn : Hid (bwE a = 0) := hid (if_neg c)
  have hv : Hid (bwS a = a) := hid (if_pos hn.out)
  obtain ⟨q00, q01, q02, q03⟩ := (E.out.hdr 0 rfl).all
  go_wp2_with (refine wpl_store4 rfl (.tmp 2) (.tmp 8) rfl _ rfl rfl (E.out.hdr 1 rfl) ?_; intro V HV CV; replace E := hid (E.out.chg 1 rfl CV HV); clear CV; (try simp only [List.cons_append, List.nil_append, List.set_cons_zero, List.set_cons_succ] at E))
  refine bodyPost_ret (end_arr2 rfl HV rfl rfl) rfl (hR.out _ _ ?_)
  exact RetAEC.at hv.out hn.out (h0.out.later E.out.ext) E.out.ext hc
set_option maxRecDepth 100000 in
set_option maxHeartbeats 8000000 in
theorem ref23_Pick (x : Arr) (sx : Option Addr) (cx : Nat) (nx : Option Addr) (mx : Nat) (ix : Option Addr) (jx : Nat) (y : Arr) (sy : Option Addr) (cy : Nat) (ny : Option Addr) (my : Nat) (iy : Option Addr) (jy : Nat) (S : Nat → Prop) (w : World) (h : ArrAt w S x sx nx ix) (g : ArrAt w S y sy ny iy) :
    Calls Try.prog 15 #[.agg #[.int .i64 x.kind, .slice sx x.shape.length cx, .slice nx x.nums.length mx, .slice ix x.items.length jx], .agg #[.int .i64 y.kind, .slice sy y.shape.length cy, .slice ny y.nums.length my, .slice iy y.items.length jy]] w (RetAE w (fun b => S b ∨ w.heap.size ≤ b) (pckS x y) (pckE x y)) := by
  refine calls_post fun R' hR => ?_
  have h0 := hid h
  have g0 := hid g
  have hxs := h.shape.1
  have hxn := h.nums.1
  have hys := g.shape.1
  clear h g
  go_enter Try.func15, Try.ntmps15
  go_upto_region 1 with (fail)
  generalize hEW : (((w).alloc (.cells #[.int .i64 x.kind, .slice sx x.shape.length cx, .slice nx x.nums.length mx, .slice ix x.items.length jx] 26)).alloc (.cells #[.int .i64 y.kind, .slice sy y.shape.length cy, .slice ny y.nums.length my, .slice iy y.items.length jy] 26)).alloc (.cells #[.int .i64 0, .slice none 0 0, .slice none 0 0, .slice none 0 0] 26) = W
  have E := hid (env3 w S hEW)
  clear hEW
  replace E := hid ((E.out.arg h0.out).arg g0.out)
  (try simp only [List.cons_append, List.nil_append, List.set_cons_zero, List.set_cons_succ] at E)
  obtain ⟨q00, q01, q02, q03⟩ := (E.out.hdr 0 rfl).all
  go_wp2_with fail
  clear q00 q01 q02 q03
  refine (ref03_Right x _ _ _ _ _ _ _ _ (E.out.arr 3 rfl)).mono ?_
  rintro e w1 ⟨rfl, hb⟩
  replace E := hid (E.out.up hb)
  clear hb
  by_cases c1 : rightS x = 0
  case neg =>
    have cb : (rightS x != 0) = true := by simpa using c1
    have hn := hid (pckE_r (x := x) (y := y) (Or.inl c1))
    have hv := hid (pckS_no (x := x) (y := y) (by rw [hn.out]; decide))
    replace c1 := hid c1
    go_wp2_with (refine wpl_store4 rfl (.tmp 4) (.tmp 17) rfl _ rfl rfl (E.out.hdr 2 rfl) ?_; intro V HV CV; replace E := hid (E.out.chg 2 rfl CV HV))
    exact bodyPost_ret (end_arr2 rfl HV rfl rfl) rfl (hR.out _ _ (RetAE.zero hv.out hn.out E.out.ext))
  have cb1 : (rightS x != 0) = false := by simpa using c1
  obtain ⟨q10, q11, q12, q13⟩ := (E.out.hdr 1 rfl).all
  go_wp2_with fail
  clear q10 q11 q12 q13
  refine (ref03_Right y _ _ _ _ _ _ _ _ (E.out.arr 4 rfl)).mono ?_
  rintro e w2 ⟨rfl, hb⟩
  replace E := hid (E.out.up hb)
  clear hb
  by_cases c2 : rightS y = 0
  case neg =>
    have cb : (rightS y != 0) = true := by simpa using c2
    have hn := hid (pckE_r (x := x) (y := y) (Or.inr c2))
    have hv := hid (pckS_no (x := x) (y := y) (by rw [hn.out]; decide))
    replace c1 := hid c1
    replace c2 := hid c2
    go_wp2_with (refine wpl_store4 rfl (.tmp 4) (.tmp 17) rfl _ rfl rfl (E.out.hdr 2 rfl) ?_; intro V HV CV; replace E := hid (E.out.chg 2 rfl CV HV))
    exact bodyPost_ret (end_arr2 rfl HV rfl rfl) rfl (hR.out _ _ (RetAE.zero hv.out hn.out E.out.ext))
  have cb2 : (rightS y != 0) = false := by simpa using c2
  by_cases k : x.kind = 1
  case neg =>
    have kb : (x.kind != 1) = true := by simpa using k
    have hn := hid (pckE_k c1 c2 k)
    have hv := hid (pckS_no (x := x) (y := y) (by rw [hn.out]; decide))
    replace k := hid k
    replace c1 := hid c1
    replace c2 := hid c2
    obtain ⟨q00, q01, q02, q03⟩ := (E.out.hdr 0 rfl).all
    go_wp2_with (refine wpl_store4 rfl (.tmp 4) (.tmp 21) rfl _ rfl rfl (E.out.hdr 2 rfl) ?_; intro V HV CV; replace E := hid (E.out.chg 2 rfl CV HV))
    exact bodyPost_ret (end_arr2 rfl HV rfl rfl) rfl (hR.out _ _ (RetAE.zero hv.out hn.out E.out.ext))
  have kb : (x.kind != 1) = false := by simpa using k
  by_cases r : 1 < x.shape.length
  case pos =>
    have rb : (1 : Int) < (x.shape.length : Int) := by omega
    have hn := hid (pckE_n c1 c2 k r)
    have hv := hid (pckS_no (x := x) (y := y) (by rw [hn.out]; decide))
    replace k := hid k
    replace c1 := hid c1
    replace c2 := hid c2
    obtain ⟨q00, q01, q02, q03⟩ := (E.out.hdr 0 rfl).all
    go_wp2_with (refine wpl_store4 rfl (.tmp 4) (.tmp 26) rfl _ rfl rfl (E.out.hdr 2 rfl) ?_; intro V HV CV; replace E := hid (E.out.chg 2 rfl CV HV))
    exact bodyPost_ret (end_arr2 rfl HV rfl rfl) rfl (hR.out _ _ (RetAE.zero hv.out hn.out E.out.ext))
  have rb : ¬ (1 : Int) < (x.shape.length : Int) := by omega
  by_cases l : x.nums.length = y.shape.length
  case neg =>
    have lb : ((x.nums.length : Int) != (y.shape.length : Int)) = true := bne_iff_ne.2 (by omega)
    have hn := hid (pckE_l c1 c2 k r l)
    have hv := hid (pckS_no (x := x) (y := y) (by rw [hn.out]; decide))
    replace k := hid k
    replace c1 := hid c1
    replace c2 := hid c2
    replace l := hid l
    obtain ⟨q00, q01, q02, q03⟩ := (E.out.hdr 0 rfl).all
    obtain ⟨q10, q11, q12, q13⟩ := (E.out.hdr 1 rfl).all
    go_wp2_with (refine wpl_store4 rfl (.tmp 4) (.tmp 34) rfl _ rfl rfl (E.out.hdr 2 rfl) ?_; intro V HV CV; replace E := hid (E.out.chg 2 rfl CV HV))
    exact bodyPost_ret (end_arr2 rfl HV rfl rfl) rfl (hR.out _ _ (RetAE.zero hv.out hn.out E.out.ext))
  have lb : ((x.nums.length : Int) != (y.shape.length : Int)) = false := by simp [l]
  have hi := hid (pckE_i c1 c2 k r l)
  have hsY := (right_ok c2).2.1
  have hsz := sz_cnt c2
  have hof := hid (fun q : inB y.shape x.nums = true => offS_bd (inB_yes l q))
  have hB := shapeB_iff.1 hsY
  have hpr : Hid (∀ i, i ≤ y.shape.length → (∀ j, j < i → 0 ≤ x.nums.getD j 0 ∧ x.nums.getD j 0 < y.shape.getD j 0) → 0 ≤ offF y.shape x.nums i ∧ offF y.shape x.nums i < 65536) := fun i hi hj => by
    have h1 := offF_bdx hB.2.1 i hi hj
    have h2 := prodNZ_take_le hB.2.1 i
    have := hB.2.2
    omega
  have hel : Hid (∀ i, i < y.shape.length → y.shape.getD i 0 ≤ 65536) := fun i hi => Int.le_trans (prodNZ_ge_mem hB.2.1 (getD_mem hi)) hB.2.2
  replace hB := hid hB
  replace k := hid k
  replace l := hid l
  replace c1 := hid c1
  replace c2 := hid c2
  replace hsY := hid hsY
  replace hsz := hid hsz
  obtain ⟨q00, q01, q02, q03⟩ := (E.out.hdr 0 rfl).all
  obtain ⟨q10, q11, q12, q13⟩ := (E.out.hdr 1 rfl).all
  go_upto_region 11 with (fail)
  clear q00 q01 q02 q03 q10 q11 q12 q13
  go_loopw [6, 7] (fun o i wr => ∃ j : Nat, j ≤ x.nums.length ∧ i = .int .i64 j ∧ o = .int .i64 (offF y.shape x.nums j) ∧ Hid (∀ m, m < j → 0 ≤ x.nums.getD m 0 ∧ x.nums.getD m 0 < y.shape.getD m 0) ∧ Env w S wr [.obj w.heap.size (.cells #[.int .i64 x.kind, .slice sx x.shape.length cx, .slice nx x.nums.length mx, .slice ix x.items.length jx] 26 (0, 0)), .obj (w.heap.size + 1) (.cells #[.int .i64 y.kind, .slice sy y.shape.length cy, .slice ny y.nums.length my, .slice iy y.items.length jy] 26 (0, 0)), .obj (w.heap.size + 1 + 1) (.cells #[.int .i64 0, .slice none 0 0, .slice none 0 0, .slice none 0 0] 26 (0, 0)), .arr x sx nx ix, .arr y sy ny iy]) (fun _ i _ => x.nums.length - (intOf i).toNat)
  case atStart => exact ⟨0, Nat.zero_le _, rfl, rfl, hid (fun m hm => by omega), E.out⟩
  case round =>
    clear E
    obtain ⟨j, hj, rfl, rfl, hbk, E⟩ := hrel
    replace E := hid E
    by_cases hlt : j < x.nums.length
    case pos =>
      have hlt2 : j < y.shape.length := by have := l.out; omega
      obtain ⟨b1, o1, hnx, hbl1, hS1, hc1⟩ := (E.out.arr 3 rfl).nums.at hlt
      obtain ⟨b2, o2, hsy, hbl2, hS2, hc2⟩ := (E.out.arr 4 rfl).shape.at hlt2
      obtain ⟨f1, f2⟩ := hpr.out j (by omega) hbk.out
      have f4 := hel.out j hlt2
      have hF : Hid (offF y.shape x.nums (j + 1) = offF y.shape x.nums j * y.shape.getD j 0 + x.nums.getD j 0) := rfl
      have hN : Hid (0 ≤ x.nums.getD j 0 ∧ x.nums.getD j 0 < y.shape.getD j 0 → ∀ m, m < j + 1 → 0 ≤ x.nums.getD m 0 ∧ x.nums.getD m 0 < y.shape.getD m 0) := hid fun q m hm => by
        rcases Nat.lt_succ_iff_lt_or_eq.1 hm with h1 | h1
        · exact hbk.out m h1
        · subst h1; exact q
      have hb2 : Hid (0 ≤ x.nums.getD j 0 ∧ x.nums.getD j 0 < y.shape.getD j 0 → offF y.shape x.nums (j + 1) < 65536) := hid fun q => (hpr.out (j + 1) (by omega) (hN.out q)).2
      have hbad : Hid (x.nums.getD j 0 < 0 ∨ y.shape.getD j 0 ≤ x.nums.getD j 0 → pckE x y = 18) := hid fun q => by rw [hi.out, if_pos (inB_at hlt2 q)]
      rw [hF.out] at hb2
      generalize y.shape.getD j 0 = d at hc2 f4 hF hN hb2 hbad
      generalize x.nums.getD j 0 = v at hc1 hF hN hb2 hbad
      generalize offF y.shape x.nums j = q at f1 f2 hF hb2 ⊢
      have t0 : (0 : Int) ≤ (j : Int) := by omega
      have t1 : (j : Int) < (x.nums.length : Int) := by omega
      have t2 : (j : Int) < (y.shape.length : Int) := by omega
      replace hnx := hid hnx
      replace hsy := hid hsy
      obtain ⟨q00, q01, q02, q03⟩ := (E.out.hdr 0 rfl).all
      obtain ⟨q10, q11, q12, q13⟩ := (E.out.hdr 1 rfl).all
      rw [hnx.out] at q02
      rw [hsy.out] at q11
      by_cases n0 : v < 0
      case pos =>
        have hn := hid (hbad.out (Or.inl n0))
        have hv := hid (pckS_no (x := x) (y := y) (by rw [hn.out]; decide))
        clear hb2 hN hbad
        go_upto_region 13 with (fail)
        refine wp_region_mono (Sees wr [(⟨w.heap.size, 2, none⟩, .slice (some ⟨b1, o1, none⟩) x.nums.length mx), (⟨w.heap.size + 1, 1, none⟩, .slice (some ⟨b2, o2, none⟩) y.shape.length cy), (⟨b1, o1 + j, none⟩, .int .i64 v), (⟨b2, o2 + j, none⟩, .int .i64 d)]) [] (fun k v u u' => match k with  | _ => False) (fun _ _ h e => h.up e) (Sees.start (all_cons (q02) (all_cons (q11) (all_cons (hc1) (all_cons (hc2) (all_nil)))))) (by kernel_rfl) (by kernel_rfl) ?_
        repeat (first | (refine m_plain (v := ?_) (by rfl) (by rfl) ?_ ?_; rotate_left; (intro wz hSw; obtain ⟨-, hSc⟩ := hSw; (try simp only [List.forall_mem_cons, List.forall_mem_nil, and_true] at hSc); go_simp; (first | done | with_reducible rfl)); (intro K hK; (try simp only [Act.put, List.setIfInBounds_toArray, List.set_cons_zero, List.set_cons_succ]); refine hK _ _ ?_; clear hK K)) | (refine m_skip (by rfl) (by rfl) ?_; (intro K hK; (try simp only [Act.put, List.setIfInBounds_toArray, List.set_cons_zero, List.set_cons_succ]); refine hK _ _ ?_; clear hK K)))
        refine m_nil ?_
        intro wf hSf hAf
        replace E := hid (E.out.up hSf.1)
        replace hc1 := up_cell hc1 hSf.1
        replace hc2 := up_cell hc2 hSf.1
        clear hSf hAf
        clear q00 q01 q02 q03 q10 q11 q12 q13
        obtain ⟨q00, q01, q02, q03⟩ := (E.out.hdr 0 rfl).all
        obtain ⟨q10, q11, q12, q13⟩ := (E.out.hdr 1 rfl).all
        rw [hnx.out] at q02
        rw [hsy.out] at q11
        clear hc1 hc2
        go_wp2_with (refine wpl_store4 rfl (.tmp 4) (.tmp 61) rfl _ rfl rfl (E.out.hdr 2 rfl) ?_; intro V HV CV; replace E := hid (E.out.chg 2 rfl CV HV))
        exact bodyPost_ret (end_arr2 rfl HV rfl rfl) rfl (hR.out _ _ (RetAE.zero hv.out hn.out E.out.ext))
      by_cases n1 : d ≤ v
      case pos =>
        have hn := hid (hbad.out (Or.inr n1))
        have hv := hid (pckS_no (x := x) (y := y) (by rw [hn.out]; decide))
        clear hb2 hN hbad
        go_upto_region 13 with (fail)
        refine wp_region_mono (Sees wr [(⟨w.heap.size, 2, none⟩, .slice (some ⟨b1, o1, none⟩) x.nums.length mx), (⟨w.heap.size + 1, 1, none⟩, .slice (some ⟨b2, o2, none⟩) y.shape.length cy), (⟨b1, o1 + j, none⟩, .int .i64 v), (⟨b2, o2 + j, none⟩, .int .i64 d)]) [] (fun k v u u' => match k with  | _ => False) (fun _ _ h e => h.up e) (Sees.start (all_cons (q02) (all_cons (q11) (all_cons (hc1) (all_cons (hc2) (all_nil)))))) (by kernel_rfl) (by kernel_rfl) ?_
        repeat (first | (refine m_plain (v := ?_) (by rfl) (by rfl) ?_ ?_; rotate_left; (intro wz hSw; obtain ⟨-, hSc⟩ := hSw; (try simp only [List.forall_mem_cons, List.forall_mem_nil, and_true] at hSc); go_simp; (first | done | with_reducible rfl)); (intro K hK; (try simp only [Act.put, List.setIfInBounds_toArray, List.set_cons_zero, List.set_cons_succ]); refine hK _ _ ?_; clear hK K)) | (refine m_skip (by rfl) (by rfl) ?_; (intro K hK; (try simp only [Act.put, List.setIfInBounds_toArray, List.set_cons_zero, List.set_cons_succ]); refine hK _ _ ?_; clear hK K)))
        refine m_nil ?_
        intro wf hSf hAf
        replace E := hid (E.out.up hSf.1)
        replace hc1 := up_cell hc1 hSf.1
        replace hc2 := up_cell hc2 hSf.1
        clear hSf hAf
        clear q00 q01 q02 q03 q10 q11 q12 q13
        obtain ⟨q00, q01, q02, q03⟩ := (E.out.hdr 0 rfl).all
        obtain ⟨q10, q11, q12, q13⟩ := (E.out.hdr 1 rfl).all
        rw [hnx.out] at q02
        rw [hsy.out] at q11
        clear hc1 hc2
        go_wp2_with (refine wpl_store4 rfl (.tmp 4) (.tmp 61) rfl _ rfl rfl (E.out.hdr 2 rfl) ?_; intro V HV CV; replace E := hid (E.out.chg 2 rfl CV HV))
        exact bodyPost_ret (end_arr2 rfl HV rfl rfl) rfl (hR.out _ _ (RetAE.zero hv.out hn.out E.out.ext))
      have f3 := hb2.out ⟨by omega, by omega⟩
      have hn := hid (hN.out ⟨by omega, by omega⟩)
      have m0 : 0 ≤ q * d := Int.mul_nonneg f1 (by omega)
      have hw1 : IntKind.i64.wrap (q * d) = q * d := IntWalk.i64_in _ (by omega)
      have hw2 : IntKind.i64.wrap (q * d + v) = q * d + v := IntWalk.i64_in _ (by omega)
      clear hb2 hN hbad
      go_upto_region 13 with (fail)
      refine wp_region_mono (Sees wr [(⟨w.heap.size, 2, none⟩, .slice (some ⟨b1, o1, none⟩) x.nums.length mx), (⟨w.heap.size + 1, 1, none⟩, .slice (some ⟨b2, o2, none⟩) y.shape.length cy), (⟨b1, o1 + j, none⟩, .int .i64 v), (⟨b2, o2 + j, none⟩, .int .i64 d)]) [] (fun k v u u' => match k with  | _ => False) (fun _ _ h e => h.up e) (Sees.start (all_cons (q02) (all_cons (q11) (all_cons (hc1) (all_cons (hc2) (all_nil)))))) (by kernel_rfl) (by kernel_rfl) ?_
      repeat (first | (refine m_plain (v := ?_) (by rfl) (by rfl) ?_ ?_; rotate_left; (intro wz hSw; obtain ⟨-, hSc⟩ := hSw; (try simp only [List.forall_mem_cons, List.forall_mem_nil, and_true] at hSc); go_simp; (first | done | with_reducible rfl)); (intro K hK; (try simp only [Act.put, List.setIfInBounds_toArray, List.set_cons_zero, List.set_cons_succ]); refine hK _ _ ?_; clear hK K)) | (refine m_skip (by rfl) (by rfl) ?_; (intro K hK; (try simp only [Act.put, List.setIfInBounds_toArray, List.set_cons_zero, List.set_cons_succ]); refine hK _ _ ?_; clear hK K)))
      refine m_nil ?_
      intro wf hSf hAf
      replace E := hid (E.out.up hSf.1)
      replace hc1 := up_cell hc1 hSf.1
      replace hc2 := up_cell hc2 hSf.1
      clear hSf hAf
      clear q00 q01 q02 q03 q10 q11 q12 q13
      obtain ⟨q00, q01, q02, q03⟩ := (E.out.hdr 0 rfl).all
      obtain ⟨q10, q11, q12, q13⟩ := (E.out.hdr 1 rfl).all
      rw [hnx.out] at q02
      rw [hsy.out] at q11
      go_upto_region 15 with (fail)
      refine wp_region_mono (Sees wf [(⟨w.heap.size, 2, none⟩, .slice (some ⟨b1, o1, none⟩) x.nums.length mx), (⟨w.heap.size + 1, 1, none⟩, .slice (some ⟨b2, o2, none⟩) y.shape.length cy), (⟨b1, o1 + j, none⟩, .int .i64 v), (⟨b2, o2 + j, none⟩, .int .i64 d)]) [] (fun k v u u' => match k with  | _ => False) (fun _ _ h e => h.up e) (Sees.start (all_cons (q02) (all_cons (q11) (all_cons (hc1) (all_cons (hc2) (all_nil)))))) (by kernel_rfl) (by kernel_rfl) ?_
      repeat (first | (refine m_plain (v := ?_) (by rfl) (by rfl) ?_ ?_; rotate_left; (intro wz hSw; obtain ⟨-, hSc⟩ := hSw; (try simp only [List.forall_mem_cons, List.forall_mem_nil, and_true] at hSc); go_simp; (first | done | with_reducible rfl)); (intro K hK; (try simp only [Act.put, List.setIfInBounds_toArray, List.set_cons_zero, List.set_cons_succ]); refine hK _ _ ?_; clear hK K)) | (refine m_skip (by rfl) (by rfl) ?_; (intro K hK; (try simp only [Act.put, List.setIfInBounds_toArray, List.set_cons_zero, List.set_cons_succ]); refine hK _ _ ?_; clear hK K)))
      refine m_nil ?_
      intro wg hSf hAf
      replace E := hid (E.out.up hSf.1)
      replace hc1 := up_cell hc1 hSf.1
      replace hc2 := up_cell hc2 hSf.1
      clear hSf hAf
      clear q00 q01 q02 q03 q10 q11 q12 q13
      obtain ⟨q00, q01, q02, q03⟩ := (E.out.hdr 0 rfl).all
      obtain ⟨q10, q11, q12, q13⟩ := (E.out.hdr 1 rfl).all
      rw [hnx.out] at q02
      rw [hsy.out] at q11
      clear hc1 hc2
      go_wp2_with fail
      go_roundw
      case rel => exact ⟨j + 1, by omega, by go_num, by rw [hF.out], hn, E.out⟩
      case measure => simp [intOf]; omega
    case neg =>
      have hjl : j = y.shape.length := by have := l.out; omega
      have hin : inB y.shape x.nums = true := inB_all fun m hm => hbk.out m (by omega)
      have hn : Hid (pckE x y = 0) := hid (by rw [hi.out, if_neg (by simp [hin])])
      have hv := hid (pckS_yes hn.out)
      obtain ⟨f0, f1⟩ := hof.out hin
      rw [← hsz.out] at f1
      have hA : Hid (pckA x y = if y.kind = 3 then y.items.getD (offS y.shape x.nums).toNat .zero else atS y (offS y.shape x.nums)) := hid rfl
      have hO : offF y.shape x.nums j = offS y.shape x.nums := by rw [hjl]; rfl
      rw [hO]
      have hj2 : ¬ (j : Int) < (x.nums.length : Int) := by omega
      replace hin := hid hin
      replace hO := hid hO
      replace hjl := hid hjl
      obtain ⟨t, ht⟩ : ∃ t : Nat, offS y.shape x.nums = (t : Int) := ⟨(offS y.shape x.nums).toNat, by omega⟩
      rw [ht] at f1 hA ⊢
      replace ht := hid ht
      obtain ⟨q00, q01, q02, q03⟩ := (E.out.hdr 0 rfl).all
      obtain ⟨q10, q11, q12, q13⟩ := (E.out.hdr 1 rfl).all
      go_upto_region 16 with (fail)
      go_wp2_with fail
      clear q00 q01 q02 q03 q10 q11 q12 q13
      refine (ref03_At y _ _ _ _ _ _ (t : Int) _ _ (E.out.arr 4 rfl)).mono ?_
      intro e w8 h
      obtain ⟨s101, c101, n101, m101, i101, j101, rfl, hA, hb⟩ := h.eq rfl
      replace E := hid ((E.out.up hb).addArr hA (fun b _ hq => E.out.res (Ext.refl _) hq))
      clear hA hb h
      (try simp only [List.cons_append, List.nil_append, List.set_cons_zero, List.set_cons_succ] at E)
      obtain ⟨r, hr⟩ : ∃ r, r = atS y (t : Int) := ⟨_, rfl⟩
      rw [← hr] at E hA ⊢
      replace hr := hid hr
      go_upto_region 17 with (refine wpl_store4 rfl (.tmp 8) (.tmp 77) rfl _ rfl rfl ((E.out.alloc _).hdr 6 rfl) ?_; intro V1 HV CV; replace E := hid ((E.out.alloc _).chg 6 rfl CV HV); clear CV HV; (try simp only [List.cons_append, List.nil_append, List.set_cons_zero, List.set_cons_succ] at E))
      generalize w8.heap.size = p1 at E ⊢
      by_cases k3 : y.kind = 3
      case pos =>
        have kb3 : (y.kind == 3) = true := by simp [k3]
        have hl3 : t < y.items.length := by rw [← szA_3 k3]; omega
        rw [if_pos k3, Int.toNat_natCast] at hA
        have hat : r.items = [y.items.getD t .zero] := by
          rw [hr.out]; unfold atS; rw [if_neg (by omega), if_pos k3, Int.toNat_natCast]; rfl
        have hr1 : r.items.length = 1 := by rw [hat]; rfl
        obtain ⟨b', off', sz, cz, nz, mz, iz, jz, hna, hSb', hbl', e0, e1, e2, e3, hz⟩ := (E.out.arr 5 rfl).items.at (k := 0) (by omega)
        have hz0 : Hid (pckA x y = r.items[0]) := hid (by rw [hA.out]; simp only [hat]; rfl)
        generalize r.items[0] = z at e0 e1 e2 e3 hz hz0
        simp only [Nat.zero_mul, Nat.add_zero] at e0 e1 e2 e3
        replace E := hid (E.out.addArr hz (fun _ _ h => h))
        clear hz
        (try simp only [List.cons_append, List.nil_append, List.set_cons_zero, List.set_cons_succ] at E)
        have tt1 : (0 : Int) < (r.items.length : Int) := by omega
        have tt2 : 0 < r.items.length := by omega
        replace hat := hid hat
        replace k3 := hid k3
        replace hr1 := hid hr1
        replace hna := hid hna
        obtain ⟨q10, q11, q12, q13⟩ := (E.out.hdr 1 rfl).all
        obtain ⟨q60, q61, q62, q63⟩ := (E.out.hdr 6 rfl).all
        rw [hna.out] at q63
        go_wp2_with (refine wpl_store4 rfl (.tmp 4) (.tmp 84) rfl _ rfl rfl (E.out.hdr 2 rfl) ?_; intro V HV CV; replace E := hid (E.out.chg 2 rfl CV HV))
        exact bodyPost_ret (end_arr2 rfl HV rfl rfl) rfl (hR.out _ _ (RetAE.to (hv.out.trans hz0.out) hn.out (ArrAt.mono (fun b _ h => h.1) _ (E.out.arr 7 rfl)) E.out.ext))
      case neg =>
        have kb3 : (y.kind == 3) = false := by simp [k3]
        rw [if_neg k3] at hA
        replace k3 := hid k3
        obtain ⟨q10, q11, q12, q13⟩ := (E.out.hdr 1 rfl).all
        obtain ⟨q60, q61, q62, q63⟩ := (E.out.hdr 6 rfl).all
        go_wp2_with (refine wpl_store4 rfl (.tmp 4) (.tmp 85) rfl _ rfl rfl (E.out.hdr 2 rfl) ?_; intro V HV CV; replace E := hid (E.out.chg 2 rfl CV HV))
        exact bodyPost_ret (end_arr2 rfl HV rfl rfl) rfl (hR.out _ _ (RetAE.to (hv.out.trans hA.out) hn.out (ArrAt.mono (fun b _ h => h.1) _ (E.out.arr 5 rfl)) E.out.ext))
end Go.Proofs.Ytcoknjlkhefgpaa
