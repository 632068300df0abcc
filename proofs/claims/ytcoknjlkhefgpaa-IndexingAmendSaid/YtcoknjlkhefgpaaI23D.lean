/- shape.Offset (an index that is none) and indexing.Pick: contracts. Conditions: the arrays are read. -/
import Derived.Test.YtcoknjlkhefgpaaI23A
import Derived.Test.YtcoknjlkhefgpaaP23P
import Derived.Test.YtcoknjlkhefgpaaPAIR
import Derived.Test.YtcoknjlkhefgpaaGD
set_option linter.unusedVariables false
set_option linter.unusedSimpArgs false
namespace Go.Proofs.Ytcoknjlkhefgpaa
open Go.RowKit Go.Sort
attribute [local go_sem ↓] run_max2 run_min2
attribute [local go_sem] eql_ints_nil eql_arrs_nil
set_option maxHeartbeats 2000000 in
theorem shape_OffsetX (s l : List Int) (ao : Option Addr) (cap : Nat) (bo : Option Addr) (bcap : Nat) (S T : Nat → Prop) (w : World) (h : IntsAt w S ao s) (g : IntsAt w T bo l) (hs : shapeB s = true) (hl : l.length = s.length) (hin : inB s l = false) :
    Calls Try.prog 38 #[.slice ao s.length cap, .slice bo l.length bcap] w fun e w' => e = .returned (.tuple #[.int .i64 0, .bool false]) ∧ w = w' := by
  refine calls_post fun R' hR => ?_
  have sl := h.1
  have gl := g.1
  have hs' := hid hs
  have hB := shapeB_iff.1 hs
  have hpr : Hid (∀ i, i ≤ s.length → (∀ j, j < i → 0 ≤ l.getD j 0 ∧ l.getD j 0 < s.getD j 0) → 0 ≤ offF s l i ∧ offF s l i < 65536) := fun i hi hj => by
    have h1 := offF_bdx hB.2.1 i hi hj
    have h2 := prodNZ_take_le hB.2.1 i
    have := hB.2.2
    omega
  have hel : Hid (∀ i, i < s.length → s.getD i 0 ≤ 65536) := fun i hi => Int.le_trans (prodNZ_ge_mem hB.2.1 (getD_mem hi)) hB.2.2
  have h' := hid h
  have g' := hid g
  clear hs hB
  have e0 : ((l.length : Int) != (s.length : Int)) = false := by simp [hl]
  replace hl := hid hl
  replace hin := hid hin
  go_enter Try.func38, Try.ntmps38
  go_wp2_with (go_at_call 33; refine (shape_Right _ _ _ _ _ h'.out).mono ?_; rintro e w' ⟨rfl, rfl⟩; rw [hs'.out])
  go_loop [6, 21] (fun o i => ∃ j : Nat, j ≤ l.length ∧ i = .int .i64 j ∧ o = .int .i64 (offF s l j) ∧ Hid (∀ k, k < j → 0 ≤ l.getD k 0 ∧ l.getD k 0 < s.getD k 0)) (fun _ i => l.length - (intOf i).toNat)
  case atStart => exact ⟨0, Nat.zero_le _, rfl, rfl, hid (fun k hk => by omega)⟩
  case round =>
    obtain ⟨j, hj, rfl, rfl, hbk⟩ := hrel
    by_cases hlt : j < l.length
    · have hlt2 : j < s.length := by have := hl.out; omega
      obtain ⟨b, off, rfl, hbl, hS, hc⟩ := h.at hlt2
      obtain ⟨b', off', rfl, hbl', hS', hc'⟩ := g.at hlt
      obtain ⟨f1, f2⟩ := hpr.out j (by omega) hbk.out
      have f4 := hel.out j hlt2
      have hF : Hid (offF s l (j + 1) = offF s l j * s.getD j 0 + l.getD j 0) := rfl
      have hN : Hid (0 ≤ l.getD j 0 ∧ l.getD j 0 < s.getD j 0 → ∀ k, k < j + 1 → 0 ≤ l.getD k 0 ∧ l.getD k 0 < s.getD k 0) := hid fun q k hk => by
        rcases Nat.lt_succ_iff_lt_or_eq.1 hk with h1 | h1
        · exact hbk.out k h1
        · subst h1; exact q
      have hb2 : Hid (0 ≤ l.getD j 0 ∧ l.getD j 0 < s.getD j 0 → offF s l (j + 1) < 65536) := hid fun q => (hpr.out (j + 1) (by omega) (hN.out q)).2
      rw [hF.out] at hb2
      generalize s.getD j 0 = d at hc f4 hF hN hb2
      generalize l.getD j 0 = x at hc' hF hN hb2
      generalize offF s l j = y at f1 f2 hF hb2 ⊢
      by_cases n0 : x < 0
      · go_wp2_with fail
        exact hR.out _ _ ⟨rfl, rfl⟩
      · by_cases n1 : d ≤ x
        · go_wp2_with fail
          exact hR.out _ _ ⟨rfl, rfl⟩
        · have f3 := hb2.out ⟨by omega, by omega⟩
          have hn := hid (hN.out ⟨by omega, by omega⟩)
          have m0 : 0 ≤ y * d := Int.mul_nonneg f1 (by omega)
          go_wp2_with fail
          go_round
          case rel => exact ⟨j + 1, by omega, by go_num, by rw [hF.out], hn⟩
          case measure => simp [intOf]; omega
    · have hje : j = s.length := by have := hl.out; omega
      have hA := inB_all (s := s) (l := l) fun k hk => hbk.out k (by omega)
      rw [hin.out] at hA
      cases hA
set_option maxRecDepth 100000 in
set_option maxHeartbeats 8000000 in
theorem indexing_Pick (x : Arr) (sx : Option Addr) (cx : Nat) (nx : Option Addr) (mx : Nat) (ix : Option Addr) (jx : Nat) (y : Arr) (sy : Option Addr) (cy : Nat) (ny : Option Addr) (my : Nat) (iy : Option Addr) (jy : Nat) (S : Nat → Prop) (w : World) (h : ArrAt w S x sx nx ix) (g : ArrAt w S y sy ny iy) :
    Calls Try.prog 14 #[.agg #[.int .i64 x.kind, .slice sx x.shape.length cx, .slice nx x.nums.length mx, .slice ix x.items.length jx], .agg #[.int .i64 y.kind, .slice sy y.shape.length cy, .slice ny y.nums.length my, .slice iy y.items.length jy]] w (RetAE w (fun b => S b ∨ w.heap.size ≤ b) (pckS x y) (pckE x y)) := by
  refine calls_post fun R' hR => ?_
  have h0 := hid h
  have g0 := hid g
  have hxs := h.shape.1
  have hxn := h.nums.1
  have hys := g.shape.1
  clear h g
  go_enter Try.func14, Try.ntmps14
  go_upto_region 1 with (fail)
  generalize hEW : (((w).alloc (.cells #[.int .i64 x.kind, .slice sx x.shape.length cx, .slice nx x.nums.length mx, .slice ix x.items.length jx] 26)).alloc (.cells #[.int .i64 y.kind, .slice sy y.shape.length cy, .slice ny y.nums.length my, .slice iy y.items.length jy] 26)).alloc (.cells #[.int .i64 0, .slice none 0 0, .slice none 0 0, .slice none 0 0] 26) = W
  have E := hid (env3 w S hEW)
  clear hEW
  replace E := hid ((E.out.arg h0.out).arg g0.out)
  (try simp only [List.cons_append, List.nil_append, List.set_cons_zero, List.set_cons_succ] at E)
  obtain ⟨q00, q01, q02, q03⟩ := (E.out.hdr 0 rfl).all
  obtain ⟨q10, q11, q12, q13⟩ := (E.out.hdr 1 rfl).all
  go_wp2_with fail
  clear q00 q01 q02 q03 q10 q11 q12 q13
  replace E := hid (E.out.pair 3 4 rfl rfl cx mx jx cy my jy)
  generalize World.alloc _ _ = V3 at E ⊢
  generalize W.heap.size = p3 at E ⊢
  (try simp only [List.cons_append, List.nil_append, List.set_cons_zero, List.set_cons_succ] at E)
  refine (indexing_right [x, y] _ _ _ _ (E.out.items 5 rfl) (by simp)).mono ?_
  rintro e w6 ⟨rfl, hb⟩
  replace E := hid (E.out.up hb)
  clear hb
  by_cases c : rightS x = 0 ∧ rightS y = 0
  case neg =>
    have cb : [x, y].any badB = true := by rw [← Bool.not_eq_false]; exact fun q => c (bad_two.1 q)
    rw [cb]
    have hn := hid (pckE_r (x := x) (y := y) (by omega))
    have hv := hid (pckS_no (x := x) (y := y) (by rw [hn.out]; decide))
    replace c := hid c
    replace cb := hid cb
    go_wp2_with (refine wpl_store4 rfl (.tmp 4) (.tmp 14) rfl _ rfl rfl (E.out.hdr 2 rfl) ?_; intro V HV CV; replace E := hid (E.out.chg 2 rfl CV HV))
    exact bodyPost_ret (end_arr2 rfl HV rfl rfl) rfl (hR.out _ _ (RetAE.zero hv.out hn.out E.out.ext))
  have cb : [x, y].any badB = false := bad_two.2 c
  rw [cb]
  replace cb := hid cb
  by_cases k : x.kind = 1
  case neg =>
    have kb : (x.kind != 1) = true := by simpa using k
    have hn := hid (pckE_k c.1 c.2 k)
    have hv := hid (pckS_no (x := x) (y := y) (by rw [hn.out]; decide))
    replace k := hid k
    replace c := hid c
    obtain ⟨q00, q01, q02, q03⟩ := (E.out.hdr 0 rfl).all
    go_wp2_with (refine wpl_store4 rfl (.tmp 4) (.tmp 19) rfl _ rfl rfl (E.out.hdr 2 rfl) ?_; intro V HV CV; replace E := hid (E.out.chg 2 rfl CV HV))
    exact bodyPost_ret (end_arr2 rfl HV rfl rfl) rfl (hR.out _ _ (RetAE.zero hv.out hn.out E.out.ext))
  have kb : (x.kind != 1) = false := by simpa using k
  by_cases r : 1 < x.shape.length
  case pos =>
    have rb : (1 : Int) < (x.shape.length : Int) := by omega
    have hn := hid (pckE_n c.1 c.2 k r)
    have hv := hid (pckS_no (x := x) (y := y) (by rw [hn.out]; decide))
    replace k := hid k
    replace c := hid c
    obtain ⟨q00, q01, q02, q03⟩ := (E.out.hdr 0 rfl).all
    go_wp2_with (refine wpl_store4 rfl (.tmp 4) (.tmp 25) rfl _ rfl rfl (E.out.hdr 2 rfl) ?_; intro V HV CV; replace E := hid (E.out.chg 2 rfl CV HV))
    exact bodyPost_ret (end_arr2 rfl HV rfl rfl) rfl (hR.out _ _ (RetAE.zero hv.out hn.out E.out.ext))
  have rb : ¬ (1 : Int) < (x.shape.length : Int) := by omega
  by_cases l : x.nums.length = y.shape.length
  case neg =>
    have lb : ((x.nums.length : Int) != (y.shape.length : Int)) = true := bne_iff_ne.2 (by omega)
    have hn := hid (pckE_l c.1 c.2 k r l)
    have hv := hid (pckS_no (x := x) (y := y) (by rw [hn.out]; decide))
    replace k := hid k
    replace c := hid c
    replace l := hid l
    obtain ⟨q00, q01, q02, q03⟩ := (E.out.hdr 0 rfl).all
    obtain ⟨q10, q11, q12, q13⟩ := (E.out.hdr 1 rfl).all
    go_wp2_with (refine wpl_store4 rfl (.tmp 4) (.tmp 34) rfl _ rfl rfl (E.out.hdr 2 rfl) ?_; intro V HV CV; replace E := hid (E.out.chg 2 rfl CV HV))
    exact bodyPost_ret (end_arr2 rfl HV rfl rfl) rfl (hR.out _ _ (RetAE.zero hv.out hn.out E.out.ext))
  have lb : ((x.nums.length : Int) != (y.shape.length : Int)) = false := by simp [l]
  have hi := hid (pckE_i c.1 c.2 k r l)
  have hsY := (right_ok c.2).2.1
  have hsz := sz_cnt c.2
  have hof := hid (fun q : inB y.shape x.nums = true => offS_bd (inB_yes l q))
  replace k := hid k
  replace l := hid l
  obtain ⟨q00, q01, q02, q03⟩ := (E.out.hdr 0 rfl).all
  obtain ⟨q10, q11, q12, q13⟩ := (E.out.hdr 1 rfl).all
  go_wp2_with fail
  clear q00 q01 q02 q03 q10 q11 q12 q13
  cases hin : inB y.shape x.nums with
  | false =>
    have hn : Hid (pckE x y = 18) := hid (by rw [hi.out, if_pos hin])
    have hv := hid (pckS_no (x := x) (y := y) (by rw [hn.out]; decide))
    replace c := hid c
    refine (shape_OffsetX y.shape x.nums _ _ _ _ _ _ _ (E.out.arr 4 rfl).shape (E.out.arr 3 rfl).nums hsY l.out hin).mono ?_
    rintro e w7 ⟨rfl, rfl⟩
    replace hin := hid hin
    replace hsY := hid hsY
    go_wp2_with (refine wpl_store4 rfl (.tmp 4) (.tmp 45) rfl _ rfl rfl (E.out.hdr 2 rfl) ?_; intro V HV CV; replace E := hid (E.out.chg 2 rfl CV HV))
    exact bodyPost_ret (end_arr2 rfl HV rfl rfl) rfl (hR.out _ _ (RetAE.zero hv.out hn.out E.out.ext))
  | true =>
  have hn : Hid (pckE x y = 0) := hid (by rw [hi.out, if_neg (by simp [hin])])
  have hv := hid (pckS_yes hn.out)
  obtain ⟨f0, f1⟩ := hof.out hin
  refine (shape_Offset y.shape x.nums _ _ _ _ _ _ _ (E.out.arr 4 rfl).shape (E.out.arr 3 rfl).nums hsY (inB_yes l.out hin)).mono ?_
  rintro e w7 ⟨rfl, rfl⟩
  rw [← hsz] at f1
  have hA : Hid (pckA x y = if y.kind = 3 then y.items.getD (offS y.shape x.nums).toNat .zero else atS y (offS y.shape x.nums)) := hid rfl
  replace hin := hid hin
  replace hsY := hid hsY
  replace c := hid c
  obtain ⟨t, ht⟩ : ∃ t : Nat, offS y.shape x.nums = (t : Int) := ⟨(offS y.shape x.nums).toNat, by omega⟩
  rw [ht] at f1 hA ⊢
  replace ht := hid ht
  replace hsz := hid hsz
  by_cases k3 : y.kind = 3
  case pos =>
    have kb3 : (y.kind == 3) = true := by simp [k3]
    have hl3 : t < y.items.length := by rw [← szA_3 k3]; omega
    rw [if_pos k3, Int.toNat_natCast] at hA
    obtain ⟨b', off', sz, cz, nz, mz, iz, jz, hna, hSb', hbl', e0, e1, e2, e3, hz⟩ := (E.out.arr 4 rfl).items.at hl3
    have hgd : y.items.getD t .zero = y.items[t] := by simp [hl3]
    rw [hgd] at hA
    clear hgd
    generalize y.items[t] = z at hA e0 e1 e2 e3 hz
    replace E := hid (E.out.addArr hz (fun _ _ h => h))
    clear hz
    (try simp only [List.cons_append, List.nil_append, List.set_cons_zero, List.set_cons_succ] at E)
    have tt0 : (0 : Int) ≤ (t : Int) := by omega
    have tt1 : (t : Int) < (y.items.length : Int) := by omega
    replace k3 := hid k3
    replace hna := hid hna
    obtain ⟨q10, q11, q12, q13⟩ := (E.out.hdr 1 rfl).all
    rw [hna.out] at q13
    go_wp2_with fail
    clear q10 q11 q12 q13
    clear e0 e1 e2 e3
    refine (array_Clone z _ _ _ _ _ _ _ _ (E.out.arr 6 rfl)).mono ?_
    intro e w8 h
    obtain ⟨s101, c101, n101, m101, i101, j101, rfl, hA, hb⟩ := h.eq rfl
    replace E := hid ((E.out.up hb).addArr hA (fun b _ hq => E.out.fresh (Ext.refl _) hq))
    clear hA hb h
    (try simp only [List.cons_append, List.nil_append, List.set_cons_zero, List.set_cons_succ] at E)
    go_wp2_with (refine wpl_store4 rfl (.tmp 4) (.tmp 54) rfl _ rfl rfl (E.out.hdr 2 rfl) ?_; intro V HV CV; replace E := hid (E.out.chg 2 rfl CV HV))
    exact bodyPost_ret (end_arr2 rfl HV rfl rfl) rfl (hR.out _ _ (RetAE.to (hv.out.trans hA.out) hn.out (ArrAt.mono (fun b _ h => h.1) _ (E.out.arr 7 rfl)) E.out.ext))
  case neg =>
    have kb3 : (y.kind == 3) = false := by simp [k3]
    rw [if_neg k3] at hA
    replace k3 := hid k3
    obtain ⟨q10, q11, q12, q13⟩ := (E.out.hdr 1 rfl).all
    go_wp2_with fail
    clear q10 q11 q12 q13
    refine (array_At y _ _ _ _ _ _ (t : Int) _ _ (E.out.arr 4 rfl)).mono ?_
    intro e w8 h
    obtain ⟨s101, c101, n101, m101, i101, j101, rfl, hA, hb⟩ := h.eq rfl
    replace E := hid ((E.out.up hb).addArr hA (fun b _ hq => E.out.res (Ext.refl _) hq))
    clear hA hb h
    (try simp only [List.cons_append, List.nil_append, List.set_cons_zero, List.set_cons_succ] at E)
    obtain ⟨r, hr⟩ : ∃ r, r = atS y (t : Int) := ⟨_, rfl⟩
    rw [← hr] at E hA ⊢
    replace hr := hid hr
    go_wp2_with (refine wpl_store4 rfl (.tmp 4) (.tmp 57) rfl _ rfl rfl (E.out.hdr 2 rfl) ?_; intro V HV CV; replace E := hid (E.out.chg 2 rfl CV HV))
    exact bodyPost_ret (end_arr2 rfl HV rfl rfl) rfl (hR.out _ _ (RetAE.to (hv.out.trans hA.out) hn.out (ArrAt.mono (fun b _ h => h.1) _ (E.out.arr 6 rfl)) E.out.ext))
end Go.Proofs.Ytcoknjlkhefgpaa
