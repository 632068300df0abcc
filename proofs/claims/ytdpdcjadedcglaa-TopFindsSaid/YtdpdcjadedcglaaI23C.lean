/- indexing.From: contract. Conditions: the arrays are read; a slice's capacity is at least its length; the shapes are short. -/
import Derived.Test.YtdpdcjadedcglaaI23B
import Derived.Test.YtdpdcjadedcglaaP23
import Derived.Test.YtdpdcjadedcglaaPAIR
import Derived.Deep.CutRange
import Derived.Deep.DeepCutAuto
set_option linter.unusedVariables false
set_option maxRecDepth 20000
set_option linter.unusedSimpArgs false
namespace Go.Proofs.Ytdpdcjadedcglaa
open Go.RowKit Go.Sort
attribute [local go_sem ↓] run_max2 run_min2
attribute [local go_sem] eql_ints_nil eql_arrs_nil
set_option maxRecDepth 100000 in
set_option maxHeartbeats 8000000 in
theorem indexing_From (x : Arr) (sx : Option Addr) (cx : Nat) (nx : Option Addr) (mx : Nat) (ix : Option Addr) (jx : Nat) (y : Arr) (sy : Option Addr) (cy : Nat) (ny : Option Addr) (my : Nat) (iy : Option Addr) (jy : Nat) (S : Nat → Prop) (w : World) (h : ArrAt w S x sx nx ix) (g : ArrAt w S y sy ny iy) (hcy : y.shape.length ≤ cy) (hxl : x.shape.length ≤ 10000) (hyl : y.shape.length ≤ 10000) :
    Calls Try.prog 12 #[.agg #[.int .i64 x.kind, .slice sx x.shape.length cx, .slice nx x.nums.length mx, .slice ix x.items.length jx], .agg #[.int .i64 y.kind, .slice sy y.shape.length cy, .slice ny y.nums.length my, .slice iy y.items.length jy]] w (RetAEC w (fun b => w.heap.size ≤ b) (frmS x y) (frmE x y)) := by
  refine calls_post fun R' hR => ?_
  have h0 := hid h
  have g0 := hid g
  have hcl : (celL y).length ≤ 10000 := by unfold celL; rw [List.length_drop]; omega
  have hxn := h.nums.1
  clear h g
  go_enter Try.func12, Try.ntmps12
  go_upto_region 1 with (fail)
  generalize hEW : (((w).alloc (.cells #[.int .i64 x.kind, .slice sx x.shape.length cx, .slice nx x.nums.length mx, .slice ix x.items.length jx] 27)).alloc (.cells #[.int .i64 y.kind, .slice sy y.shape.length cy, .slice ny y.nums.length my, .slice iy y.items.length jy] 27)).alloc (.cells #[.int .i64 0, .slice none 0 0, .slice none 0 0, .slice none 0 0] 27) = W
  have E := hid (env3 w S hEW)
  clear hEW
  replace E := hid ((E.out.arg h0.out).arg g0.out)
  (try simp only [List.cons_append, List.nil_append, List.set_cons_zero, List.set_cons_succ] at E)
  obtain ⟨q10, q11, q12, q13⟩ := (E.out.hdr 1 rfl).all
  go_wp2_with fail
  clear q10 q11 q12 q13
  refine (indexing_split y _ _ _ _ _ _ _ _ (E.out.arr 4 rfl) hcy).mono ?_
  rintro e w1 ⟨so, sc, rfl, hI, hb⟩
  replace E := hid ((E.out.up hb).addInts hI (fun _ _ h => h))
  clear hI hb
  (try simp only [List.cons_append, List.nil_append, List.set_cons_zero, List.set_cons_succ] at E)
  obtain ⟨s, hss⟩ : ∃ s, s = x.shape ++ celL y := ⟨_, rfl⟩
  have hsl : s.length ≤ 20000 := by rw [hss, List.length_append]; omega
  obtain ⟨q00, q01, q02, q03⟩ := (E.out.hdr 0 rfl).all
  go_wp2_with fail
  clear q00 q01 q02 q03
  replace E := hid (E.out.alloc (.cells #[.slice sx x.shape.length cx, .slice so (celL y).length sc] 24))
  generalize World.alloc _ _ = V2 at E ⊢
  generalize w1.heap.size = p2 at E ⊢
  (try simp only [List.cons_append, List.nil_append, List.set_cons_zero, List.set_cons_succ] at E)
  obtain ⟨r0, r1⟩ := row2 (E.out.obj 6 rfl)
  refine (slices_Concat2 x.shape (celL y) _ _ _ _ p2 _ V2 (E.out.arr 3 rfl).shape (E.out.ints 5 rfl) r0 r1 (by omega)).mono ?_
  rintro e w5 ⟨oa, oc, rfl, hO, hb⟩
  clear r0 r1
  rw [← hss] at hO ⊢
  replace E := hid (E.out.addRowI hO hb)
  clear hO hb
  (try simp only [List.cons_append, List.nil_append, List.set_cons_zero, List.set_cons_succ] at E)
  have hcap := hid (OwnI.cap (E.out.rowI 7 rfl))
  replace E := hid (E.out.doneI 7 rfl (by omega))
  (try simp only [List.cons_append, List.nil_append, List.set_cons_zero, List.set_cons_succ] at E)
  replace hss := hid hss
  obtain ⟨q00, q01, q02, q03⟩ := (E.out.hdr 0 rfl).all
  obtain ⟨q10, q11, q12, q13⟩ := (E.out.hdr 1 rfl).all
  go_wp2_with fail
  clear q00 q01 q02 q03 q10 q11 q12 q13
  replace E := hid (E.out.pair 3 4 rfl rfl cx mx jx cy my jy)
  generalize World.alloc _ _ = V3 at E ⊢
  generalize w5.heap.size = p3 at E ⊢
  (try simp only [List.cons_append, List.nil_append, List.set_cons_zero, List.set_cons_succ] at E)
  refine (indexing_right [x, y] _ _ _ _ (E.out.items 8 rfl) (by simp)).mono ?_
  rintro e w6 ⟨rfl, hb⟩
  replace E := hid (E.out.up hb)
  clear hb
  by_cases c : rightS x = 0 ∧ rightS y = 0
  case neg =>
    have cb : [x, y].any badB = true := by rw [← Bool.not_eq_false]; exact fun q => c (bad_two.1 q)
    rw [cb]
    have hn := hid (frmE_r (x := x) (y := y) (by omega))
    have hv := hid (frmS_no (x := x) (y := y) (by rw [hn.out]; decide))
    replace c := hid c
    replace cb := hid cb
    go_wp2_with (refine wpl_store4 rfl (.tmp 4) (.tmp 30) rfl _ rfl rfl (E.out.hdr 2 rfl) ?_; intro V HV CV; replace E := hid (E.out.chg 2 rfl CV HV))
    exact bodyPost_ret (end_arr2 rfl HV rfl rfl) rfl (hR.out _ _ (RetAEC.zero hv.out hn.out E.out.ext))
  have cb : [x, y].any badB = false := bad_two.2 c
  rw [cb]
  have hkE := frmE_k c.1 c.2
  have hsE := frmE_s c.1 c.2
  have hbE := frmE_b c.1 c.2
  have hOK := FrOk.mk (x := x) (y := y) c.1 c.2
  have hsY := (right_ok c.2).2.1
  have hsC := hid (celL_ok hsY)
  have hcn := hid (celN_eq hsY)
  have hn6 := celN_le hsY
  replace hsY := hid hsY
  replace c := hid c
  replace cb := hid cb
  by_cases k : x.kind = 1
  case neg =>
    have kb : (x.kind != 1) = true := by simpa using k
    have hn := hid (hkE k)
    have hv := hid (frmS_no (x := x) (y := y) (by rw [hn.out]; decide))
    replace k := hid k
    replace hkE := hid hkE
    replace hsE := hid hsE
    replace hbE := hid hbE
    replace hOK := hid hOK
    obtain ⟨q00, q01, q02, q03⟩ := (E.out.hdr 0 rfl).all
    go_wp2_with (refine wpl_store4 rfl (.tmp 4) (.tmp 35) rfl _ rfl rfl (E.out.hdr 2 rfl) ?_; intro V HV CV; replace E := hid (E.out.chg 2 rfl CV HV))
    exact bodyPost_ret (end_arr2 rfl HV rfl rfl) rfl (hR.out _ _ (RetAEC.zero hv.out hn.out E.out.ext))
  have kb : (x.kind != 1) = false := by simpa using k
  replace hsE := hsE k
  replace hbE := hbE k
  replace hOK := hOK k
  rw [← hss.out] at hsE hbE hOK
  replace k := hid k
  replace hkE := hid hkE
  replace hsE := hid hsE
  replace hbE := hid hbE
  replace hOK := hid hOK
  obtain ⟨q00, q01, q02, q03⟩ := (E.out.hdr 0 rfl).all
  go_wp2_with fail
  clear q00 q01 q02 q03
  refine (shape_Right s _ _ _ _ (E.out.ints 7 rfl)).mono ?_
  rintro e w7 ⟨rfl, rfl⟩
  cases hsS : shapeB s with
  | false =>
    have hn := hid (hsE.out hsS)
    have hv := hid (frmS_no (x := x) (y := y) (by rw [hn.out]; decide))
    replace hsS := hid hsS
    go_wp2_with (refine wpl_store4 rfl (.tmp 4) (.tmp 40) rfl _ rfl rfl (E.out.hdr 2 rfl) ?_; intro V HV CV; replace E := hid (E.out.chg 2 rfl CV HV))
    exact bodyPost_ret (end_arr2 rfl HV rfl rfl) rfl (hR.out _ _ (RetAEC.zero hv.out hn.out E.out.ext))
  | true =>
  replace hbE := hbE.out hsS
  replace hOK := hOK.out hsS
  replace hsE := hid hsE
  replace hsS := hid hsS
  replace hbE := hid hbE
  replace hOK := hid hOK
  obtain ⟨q00, q01, q02, q03⟩ := (E.out.hdr 0 rfl).all
  go_wp2_with fail
  clear q00 q01 q02 q03
  refine (indexing_within x.nums _ _ (talN y) _ _ (E.out.arr 3 rfl).nums).mono ?_
  rintro e w8 ⟨rfl, hb⟩
  replace E := hid (E.out.up hb)
  clear hb
  cases hbB : x.nums.any (outB (talN y)) with
  | true =>
    have hn := hid (hbE.out hbB)
    have hv := hid (frmS_no (x := x) (y := y) (by rw [hn.out]; decide))
    replace hbB := hid hbB
    go_wp2_with (refine wpl_store4 rfl (.tmp 4) (.tmp 47) rfl _ rfl rfl (E.out.hdr 2 rfl) ?_; intro V HV CV; replace E := hid (E.out.chg 2 rfl CV HV))
    exact bodyPost_ret (end_arr2 rfl HV rfl rfl) rfl (hR.out _ _ (RetAEC.zero hv.out hn.out E.out.ext))
  | false =>
  have OK := hid (hOK.out hbB)
  replace hbB := hid hbB
  clear hbE hOK
  go_wp2_with fail
  refine (shape_Size (celL y) _ _ _ _ (E.out.ints 5 rfl)).mono ?_
  rintro e w9 ⟨rfl, rfl⟩
  rw [sizeS_true hsC.out, ← hcn.out]
  have hFE := hid OK.out.e
  have hFV : Hid (frmS x y = gatS y s (frO x y)) := hid (by rw [OK.out.v, ← hss.out])
  have hle := OK.out.len.1
  have hfl := frO_len x y
  have hsz := hid (sz_tal OK.out.ry)
  have hsz6 := hid (szA_le OK.out.ry)
  have hin : Hid (∀ k, k < x.nums.length → 0 ≤ x.nums.getD k 0 ∧ x.nums.getD k 0 < (talM y : Int)) := hid fun k hk => OK.out.in (getD_mem hk)
  have hfl2 : (frO x y).length ≤ 65536 := by omega
  obtain ⟨n, hn⟩ : ∃ n, n = celN y := ⟨_, rfl⟩
  rw [← hn] at hn6 hle ⊢
  have hsz2 : Hid (szA y = talM y * n) := hid (by rw [hsz.out, hn])
  have hst : Hid (∀ k j, frP x y k (j + 1) = frP x y k j ++ [x.nums.getD k 0 * (n : Int) + (j : Int)]) := hid fun k j => by rw [frP_succ, hn]
  have hnx : Hid (∀ k, k < x.nums.length → frP x y k n = frP x y (k + 1) 0) := hid fun k hk => by rw [hn]; exact frP_next hk
  have hpl : Hid (∀ k j, j ≤ n → (frP x y k j).length ≤ 131072) := hid fun k j hj => by
    have := frP_len x y k j
    rw [← hn] at this
    omega
  replace hn := hid hn
  replace hfl := hid hfl
  replace E := hid E.out.row0I
  (try simp only [List.cons_append, List.nil_append, List.set_cons_zero, List.set_cons_succ] at E)
  obtain ⟨q00, q01, q02, q03⟩ := (E.out.hdr 0 rfl).all
  go_upto_region 14 with (fail)
  clear q00 q01 q02 q03
  go_loopw [10, 53] (fun f v wr => ∃ (k : Nat) (fa : Option Addr) (fc : Nat), k ≤ x.nums.length ∧ v = .int .i64 k ∧ f = .slice fa (frP x y k 0).length fc ∧ Env w S wr [.obj w.heap.size (.cells #[.int .i64 x.kind, .slice sx x.shape.length cx, .slice (nx) x.nums.length mx, .slice ix x.items.length jx] 27 (0, 0)), .obj (w.heap.size + 1) (.cells #[.int .i64 y.kind, .slice sy y.shape.length cy, .slice ny y.nums.length my, .slice iy y.items.length jy] 27 (0, 0)), .obj (w.heap.size + 1 + 1) (.cells #[.int .i64 0, .slice none 0 0, .slice none 0 0, .slice none 0 0] 27 (0, 0)), .arr x sx (nx) ix, .arr y sy ny iy, .ints (celL y) so, .obj p2 (.cells #[.slice sx x.shape.length cx, .slice so (celL y).length sc] 24 (0, 0)), .ints s oa, .items [x, y] (some ⟨p3, 0, none⟩), .rowI fa fc (frP x y k 0)]) (fun _ v _ => x.nums.length - (intOf v).toNat)
  case atStart => exact ⟨0, none, 0, Nat.zero_le _, rfl, by rw [frP_0]; rfl, by rw [frP_0]; exact E.out⟩
  case round =>
    clear E
    obtain ⟨k, fa, fc, hk, rfl, rfl, E⟩ := hrel
    replace E := hid E
    by_cases hlt : k < x.nums.length
    case pos =>
      obtain ⟨b1, o1, hs1, hbl1, hS1, hc1⟩ := (E.out.arr 3 rfl).nums.at hlt
      obtain ⟨hi0, hi1⟩ := hin.out k hlt
      have hst1 := hid (hst.out k)
      obtain ⟨iv, hiv⟩ : ∃ iv : Nat, x.nums.getD k 0 = (iv : Int) := ⟨(x.nums.getD k 0).toNat, by omega⟩
      rw [hiv] at hi1 hst1 hc1
      obtain ⟨q, hq⟩ : ∃ q, q = iv * n := ⟨_, rfl⟩
      have hq6 : q ≤ 65536 := by
        have h1 : iv ≤ talM y := by omega
        have h2 := Nat.mul_le_mul_right n h1
        have h3 := hsz2.out
        have h4 := hsz6.out
        omega
      have hq2 : (iv : Int) * (n : Int) = (q : Int) := by rw [hq, Int.natCast_mul]
      have hst2 : Hid (∀ j : Nat, frP x y k (j + 1) = frP x y k j ++ [((q + j : Nat) : Int)]) := hid fun j => by rw [hst1.out j, hq2]; rfl
      replace hiv := hid hiv
      replace hq := hid hq
      replace hq2 := hid hq2
      clear hst1 hi0 hi1
      replace hs1 := hid hs1
      obtain ⟨cur, hcur⟩ : ∃ c, c = frP x y k 0 := ⟨_, rfl⟩
      rw [← hcur] at E ⊢
      have hs2 := hs1.out
      subst hs2
      clear hs1
      go_upto_region 17 with (fail)
      subst hcur
      go_loopw [10, 58] (fun f v wr => ∃ (j : Nat) (fa : Option Addr) (fc : Nat), j ≤ n ∧ v = .int .i64 j ∧ f = .slice fa (frP x y k j).length fc ∧ Env w S wr [.obj w.heap.size (.cells #[.int .i64 x.kind, .slice sx x.shape.length cx, .slice (some ⟨b1, o1, none⟩) x.nums.length mx, .slice ix x.items.length jx] 27 (0, 0)), .obj (w.heap.size + 1) (.cells #[.int .i64 y.kind, .slice sy y.shape.length cy, .slice ny y.nums.length my, .slice iy y.items.length jy] 27 (0, 0)), .obj (w.heap.size + 1 + 1) (.cells #[.int .i64 0, .slice none 0 0, .slice none 0 0, .slice none 0 0] 27 (0, 0)), .arr x sx (some ⟨b1, o1, none⟩) ix, .arr y sy ny iy, .ints (celL y) so, .obj p2 (.cells #[.slice sx x.shape.length cx, .slice so (celL y).length sc] 24 (0, 0)), .ints s oa, .items [x, y] (some ⟨p3, 0, none⟩), .rowI fa fc (frP x y k j)]) (fun _ v _ => n - (intOf v).toNat)
      case atStart => exact ⟨0, fa, fc, Nat.zero_le _, rfl, rfl, E.out⟩
      case round =>
        clear E hc1 hS1
        obtain ⟨j, fa2, fc2, hj, rfl, rfl, E⟩ := hrel
        replace E := hid E
        by_cases hlt2 : j < n
        case pos =>
          have hst3 := hid (hst2.out j)
          have hcl3 := hpl.out k j hj
          obtain ⟨cur, hcur⟩ : ∃ c, c = frP x y k j := ⟨_, rfl⟩
          rw [← hcur] at E hcl3 hst3 ⊢
          have hw1 : IntKind.i64.wrap ((iv : Int) * (n : Int)) = (q : Int) := by rw [hq2.out]; exact IntWalk.i64_in _ (by omega)
          have hw2 : IntKind.i64.wrap ((q : Int) + (j : Int)) = ((q + j : Nat) : Int) := by rw [Int.natCast_add]; exact IntWalk.i64_in _ (by omega)
          replace hcur := hid hcur
          go_wp2_with (at_builtin; replace E := hid (E.out.lit [((q + j : Nat) : Int)] (show (1 : Nat) ≤ 17592186044416 by decide)); (try simp only [List.cons_append, List.nil_append, List.set_cons_zero, List.set_cons_succ] at E); refine wplE_appI E.out 9 rfl rfl (.tmp 61) (.tmp 67) rfl rfl _ _ _ [((q + j : Nat) : Int)] rfl (E.out.ints 10 rfl) (by (try simp only [List.length_nil, List.length_cons]); omega) ?_; intro V4 a3 k3 E1; rw [← hst3.out] at E1 ⊢; clear E; have E := hid E1; clear E1; (try simp only [List.cons_append, List.nil_append, List.set_cons_zero, List.set_cons_succ] at E))
          go_roundw
          case rel => exact ⟨j + 1, a3, k3, by omega, by go_num, rfl, E.out.sub (by simp)⟩
          case measure => simp [intOf]; omega
        case neg =>
          obtain rfl : j = n := by omega
          rw [hnx.out k hlt] at E ⊢
          obtain ⟨cur, hcur⟩ : ∃ c, c = frP x y (k + 1) 0 := ⟨_, rfl⟩
          rw [← hcur] at E ⊢
          go_wp2_with fail
          go_roundw
          case rel => exact ⟨k + 1, fa2, fc2, by omega, by go_num, by rw [hcur], by rw [← hcur]; exact E.out⟩
          case measure => simp [intOf]; omega
    case neg =>
      obtain rfl : k = x.nums.length := by omega
      rw [frP_all] at E ⊢
      obtain ⟨fl, hflx⟩ : ∃ c, c = frO x y := ⟨_, rfl⟩
      rw [← hflx] at E hFE hFV hfl2 ⊢
      have hmem : Hid (∀ j, j < fl.length → 0 ≤ fl.getD j 0 ∧ fl.getD j 0 < (szA y : Int)) := hid fun j hj => OK.out.mem (by rw [← hflx]; exact getD_mem hj)
      replace hflx := hid hflx
      replace E := hid (E.out.doneI 9 rfl (by omega))
      (try simp only [List.cons_append, List.nil_append, List.set_cons_zero, List.set_cons_succ] at E)
      obtain ⟨q10, q11, q12, q13⟩ := (E.out.hdr 1 rfl).all
      go_wp2_with fail
      clear q10 q11 q12 q13
      refine (indexing_gather y _ _ _ _ _ _ s _ _ fl _ _ _ _ (E.out.arr 4 rfl) (E.out.ints 7 rfl) (E.out.ints 9 rfl) (flat_of OK.out.ry) hmem.out (by omega)).mono ?_
      intro e w10 h
      obtain ⟨s11, c11, n11, m11, i11, j11, rfl, hA, hb, hC11⟩ := h.eq hFV.out hFE.out.symm
      replace E := hid ((E.out.up hb).addArrF hA E.out.blt E.out.size)
      replace hC11 := hid hC11
      clear hA hb h
      (try simp only [List.cons_append, List.nil_append, List.set_cons_zero, List.set_cons_succ] at E)
      go_wp2_with (refine wpl_store4 rfl (.tmp 4) (.tmp 75) rfl _ rfl rfl (E.out.hdr 2 rfl) ?_; intro V HV CV; replace E := hid (E.out.chg 2 rfl CV HV); clear CV; (try simp only [List.cons_append, List.nil_append, List.set_cons_zero, List.set_cons_succ] at E))
      refine bodyPost_ret (end_arr2 rfl HV rfl rfl) rfl (hR.out _ _ ?_)
      exact RetAEC.at rfl rfl (ArrAt.mono (fun b _ h => h.2) _ (E.out.arrF 10 rfl)) E.out.ext hC11.out
end Go.Proofs.Ytdpdcjadedcglaa
