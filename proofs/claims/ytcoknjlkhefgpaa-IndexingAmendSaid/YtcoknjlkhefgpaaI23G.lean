/- indexing.Select: contract. Conditions: the arrays are read; a slice's capacity is at least its length; an Int array has no items. -/
import Derived.Test.YtcoknjlkhefgpaaI23B
import Derived.Test.YtcoknjlkhefgpaaI23E
import Derived.Test.YtcoknjlkhefgpaaI23F
import Derived.Test.YtcoknjlkhefgpaaREF23C
import Derived.Test.YtcoknjlkhefgpaaPAIR
set_option linter.unusedVariables false
set_option linter.unusedSimpArgs false
namespace Go.Proofs.Ytcoknjlkhefgpaa
open Go.RowKit Go.Sort
attribute [local go_sem ↓] run_max2 run_min2
attribute [local go_sem] eql_ints_nil eql_arrs_nil
def selE (x y : Arr) : Int := if rightS x ≠ 0 ∨ rightS y ≠ 0 then 1 else if lisE x ≠ 0 then lisE x else if y.shape.length < (lisS x).length then 16 else chsE (lisS x) y
def selS (x y : Arr) : Arr := if selE x y = 0 then chsS (lisS x) y else .zero
theorem selS_no {x y : Arr} (h : selE x y ≠ 0) : selS x y = .zero := if_neg h
theorem selE_r {x y : Arr} (h : rightS x ≠ 0 ∨ rightS y ≠ 0) : selE x y = 1 := if_pos h
theorem selE_l {x y : Arr} (h : rightS x = 0) (g : rightS y = 0) (k : lisE x ≠ 0) : selE x y = lisE x := by
  unfold selE; rw [if_neg (by simp [h, g]), if_pos k]
theorem selE_n {x y : Arr} (h : rightS x = 0) (g : rightS y = 0) (k : lisE x = 0) (l : y.shape.length < (lisS x).length) : selE x y = 16 := by
  unfold selE; rw [if_neg (by simp [h, g]), if_neg (by simp [k]), if_pos l]
theorem selE_c {x y : Arr} (h : rightS x = 0) (g : rightS y = 0) (k : lisE x = 0) (l : ¬ y.shape.length < (lisS x).length) : selE x y = chsE (lisS x) y := by
  unfold selE; rw [if_neg (by simp [h, g]), if_neg (by simp [k]), if_neg l]
theorem selS_c {x y : Arr} (h : selE x y = chsE (lisS x) y) : selS x y = chsS (lisS x) y := by
  unfold selS
  split
  · rfl
  · rename_i q; rw [h] at q; exact (chsS_no q).symm
theorem lis_ok {x : Arr} (h : rightS x = 0) (k : lisE x = 0) : ∀ l ∈ lisS x, rightS l = 0 ∧ l.kind = 1 := by
  have hk2 : x.kind ≠ 2 := fun q => by rw [lisE_2 q] at k; cases k
  have hk : (lisS x).any knB = false := by
    rw [← Bool.not_eq_true]; exact fun q => by rw [lisE_k q] at k; cases k
  intro l hl
  have h1 : l.kind = 1 := by
    rw [List.any_eq_false] at hk
    have := hk l hl
    simpa [knB] using this
  refine ⟨?_, h1⟩
  unfold lisS at hl
  split at hl
  · obtain ⟨n, hn, rfl⟩ := List.mem_map.1 hl
    by_cases c : rightS (numA n) = 0
    · rw [validS_yes c]; exact c
    · rw [validS_no c] at h1; cases h1
  · exact ((right_iff.1 h).2.2.1 l hl).1
theorem lis_in {x y : Arr} (h : rightS x = 0) (k : lisE x = 0) (hy : rightS y = 0) (l : ¬ y.shape.length < (lisS x).length) : ChIn (lisS x) y := by
  have H := lis_ok h k
  exact ⟨flat_of hy, (right_ok hy).2.1, sz_cnt hy, by omega, fun a ha => nums_cnt (H a ha).1 (H a ha).2, fun a ha => (shapeB_iff.1 (right_ok (H a ha).1).2.1).1⟩
theorem pos_of : ∀ {L : List Arr} {s : List Int}, (∀ d ∈ s, 0 ≤ d) → (∀ l ∈ L, (l.nums.length : Int) = cnt l.shape) → L.length ≤ s.length → chsBad L s = false → 0 < cnt (L.flatMap Arr.shape ++ s.drop L.length) → ∀ d ∈ s, 1 ≤ d
  | [], s, hs, _, _, _, hc, d, hd => by
    simp only [List.flatMap_nil, List.nil_append, List.length_nil, List.drop_zero] at hc
    have h0 : d ≠ 0 := fun q => by subst q; rw [cnt_zero hd] at hc; omega
    have := hs d hd
    omega
  | l :: L, [], _, _, hl, _, _, _, _ => by simp at hl
  | l :: L, e :: s, hs, hn, hl, hb, hc, d, hd => by
    simp only [List.flatMap_cons, List.length_cons, List.drop_succ_cons, List.append_assoc] at hc
    rw [cnt_app] at hc
    have hs' : ∀ d ∈ s, 0 ≤ d := fun x hx => hs x (List.mem_cons_of_mem _ hx)
    have h1 := hn l (List.mem_cons_self ..)
    have hL0 : 0 ≤ cnt l.shape := by omega
    have hne : cnt l.shape ≠ 0 := fun q => by rw [q, Int.zero_mul] at hc; omega
    have hc2 : 0 < cnt (L.flatMap Arr.shape ++ s.drop L.length) := by
      rcases Int.lt_trichotomy (cnt (L.flatMap Arr.shape ++ s.drop L.length)) 0 with q | q | q
      · have := Int.mul_le_mul_of_nonneg_left (Int.le_of_lt q) hL0
        rw [Int.mul_zero] at this; omega
      · rw [q, Int.mul_zero] at hc; omega
      · exact q
    rcases List.mem_cons.1 hd with rfl | hd
    · have hb1 : l.nums.any (outB d) = false := by
        simp only [chsBad, List.getD_cons_zero, Bool.or_eq_false_iff] at hb; exact hb.1
      have h0 : 0 < l.nums.length := by omega
      have := outB_no (any_no hb1 (List.getElem_mem h0))
      omega
    · exact pos_of hs' (fun a ha => hn a (List.mem_cons_of_mem _ ha)) (by simpa using hl) (by simpa using chsBad_tl hb) hc2 d hd
set_option maxRecDepth 100000 in
set_option maxHeartbeats 8000000 in
theorem indexing_Select (x : Arr) (sx : Option Addr) (cx : Nat) (nx : Option Addr) (mx : Nat) (ix : Option Addr) (jx : Nat) (y : Arr) (sy : Option Addr) (cy : Nat) (ny : Option Addr) (my : Nat) (iy : Option Addr) (jy : Nat) (S : Nat → Prop) (w : World) (h : ArrAt w S x sx nx ix) (g : ArrAt w S y sy ny iy) (hI1 : x.kind = 1 → ix = none ∧ jx = 0 ∧ x.items = []) (hcy : y.shape.length ≤ cy) :
    Calls Try.prog 21 #[.agg #[.int .i64 x.kind, .slice sx x.shape.length cx, .slice nx x.nums.length mx, .slice ix x.items.length jx], .agg #[.int .i64 y.kind, .slice sy y.shape.length cy, .slice ny y.nums.length my, .slice iy y.items.length jy]] w (RetAEC w (fun b => w.heap.size ≤ b) (selS x y) (selE x y)) := by
  refine calls_post fun R' hR => ?_
  have h0 := hid h
  have g0 := hid g
  have hxs := h.shape.1
  have hxn := h.nums.1
  have hys := g.shape.1
  clear h g
  replace hI1 := hid hI1
  go_enter Try.func21, Try.ntmps21
  go_upto_region 1 with (fail)
  generalize hEW : (((w).alloc (.cells #[.int .i64 x.kind, .slice sx x.shape.length cx, .slice nx x.nums.length mx, .slice ix x.items.length jx] 26)).alloc (.cells #[.int .i64 y.kind, .slice sy y.shape.length cy, .slice ny y.nums.length my, .slice iy y.items.length jy] 26)).alloc (.cells #[.int .i64 0, .slice none 0 0, .slice none 0 0, .slice none 0 0] 26) = W
  have E := hid (env3 w S hEW)
  clear hEW
  replace E := hid ((E.out.arg h0.out).arg g0.out)
  (try simp only [List.cons_append, List.nil_append, List.set_cons_zero, List.set_cons_succ] at E)
  obtain ⟨q00, q01, q02, q03⟩ := (E.out.hdr 0 rfl).all
  obtain ⟨q10, q11, q12, q13⟩ := (E.out.hdr 1 rfl).all
  go_wp2_with fail
  clear q00 q01 q02 q03 q10 q11 q12 q13
  replace E := hid (E.out.pair 3 4 rfl rfl cx mx jx cy my jy)
  generalize World.alloc _ _ = V3 at E ⊢
  generalize W.heap.size = p3 at E ⊢
  (try simp only [List.cons_append, List.nil_append, List.set_cons_zero, List.set_cons_succ] at E)
  refine (indexing_right [x, y] _ _ _ _ (E.out.items 5 rfl) (by simp)).mono ?_
  rintro e w6 ⟨rfl, hb⟩
  replace E := hid (E.out.up hb)
  clear hb
  by_cases c : rightS x = 0 ∧ rightS y = 0
  case neg =>
    have cb : [x, y].any badB = true := by rw [← Bool.not_eq_false]; exact fun q => c (bad_two.1 q)
    rw [cb]
    have hn := hid (selE_r (x := x) (y := y) (by omega))
    have hv := hid (selS_no (x := x) (y := y) (by rw [hn.out]; decide))
    replace c := hid c
    replace cb := hid cb
    go_wp2_with (refine wpl_store4 rfl (.tmp 4) (.tmp 19) rfl _ rfl rfl (E.out.hdr 2 rfl) ?_; intro V HV CV; replace E := hid (E.out.chg 2 rfl CV HV))
    exact bodyPost_ret (end_arr2 rfl HV rfl rfl) rfl (hR.out _ _ (RetAEC.zero hv.out hn.out E.out.ext))
  have cb : [x, y].any badB = false := bad_two.2 c
  rw [cb]
  replace cb := hid cb
  obtain ⟨hn6, hi6⟩ : x.nums.length ≤ 100000 ∧ x.items.length ≤ 100000 := by
    have := form_len (right_form c.1)
    omega
  have hEl := hid (selE_l (x := x) (y := y) c.1 c.2)
  have hEn := hid (selE_n (x := x) (y := y) c.1 c.2)
  have hEc := hid (selE_c (x := x) (y := y) c.1 c.2)
  have hIn := hid (fun k l => lis_in (x := x) (y := y) c.1 k c.2 l)
  replace c := hid c
  obtain ⟨q00, q01, q02, q03⟩ := (E.out.hdr 0 rfl).all
  go_wp2_with fail
  clear q00 q01 q02 q03
  refine (indexing_lists x _ _ _ _ _ _ _ _ (E.out.arr 3 rfl) hI1.out hn6 hi6).mono ?_
  rintro e w7 ⟨hl, hb⟩
  rcases hl with ⟨hl0, rfl⟩ | ⟨hl0, lo, lc, rfl, hI⟩
  · replace E := hid (E.out.up hb)
    clear hb
    have hn := hid (hEl.out hl0)
    have hv := hid (selS_no (x := x) (y := y) (by rw [hn.out]; exact hl0))
    obtain ⟨le, hle⟩ : ∃ e, e = lisE x := ⟨_, rfl⟩
    rw [← hle] at hl0 hn ⊢
    have lb : (le != 0) = true := by simpa using hl0
    replace hl0 := hid hl0
    replace hle := hid hle
    go_wp2_with (refine wpl_store4 rfl (.tmp 4) (.tmp 27) rfl _ rfl rfl (E.out.hdr 2 rfl) ?_; intro V HV CV; replace E := hid (E.out.chg 2 rfl CV HV))
    exact bodyPost_ret (end_arr2 rfl HV rfl rfl) rfl (hR.out _ _ (RetAEC.zero hv.out hn.out E.out.ext))
  replace hEn := hid (hEn.out hl0)
  replace hEc := hid (hEc.out hl0)
  replace hIn := hid (hIn.out hl0)
  clear hEl
  replace hl0 := hid hl0
  have hSc := hid (fun q => selS_c (x := x) (y := y) q)
  obtain ⟨L, hLx⟩ : ∃ l, l = lisS x := ⟨_, rfl⟩
  rw [← hLx] at hI hEn hEc hIn hSc ⊢
  replace hLx := hid hLx
  replace E := hid ((E.out.up hb).addItems hI (fun b _ hq => E.out.res (Ext.refl _) hq))
  clear hI hb
  (try simp only [List.cons_append, List.nil_append, List.set_cons_zero, List.set_cons_succ] at E)
  by_cases l : y.shape.length < L.length
  case pos =>
    have lb : (y.shape.length : Int) < (L.length : Int) := by omega
    have hn := hid (hEn.out l)
    have hv := hid (selS_no (x := x) (y := y) (by rw [hn.out]; decide))
    replace l := hid l
    obtain ⟨q10, q11, q12, q13⟩ := (E.out.hdr 1 rfl).all
    go_wp2_with (refine wpl_store4 rfl (.tmp 4) (.tmp 35) rfl _ rfl rfl (E.out.hdr 2 rfl) ?_; intro V HV CV; replace E := hid (E.out.chg 2 rfl CV HV))
    exact bodyPost_ret (end_arr2 rfl HV rfl rfl) rfl (hR.out _ _ (RetAEC.zero hv.out hn.out E.out.ext))
  have lb : ¬ (y.shape.length : Int) < (L.length : Int) := by omega
  have hE1 := hEc.out l
  have hS1 := hSc.out hE1
  have H := hIn.out l
  have hll := H.l
  have hys8 := (shapeB_iff.1 H.s).1
  have hbk : Hid (∀ j, j ≤ L.length → ((L.take j).flatMap Arr.shape).length ≤ 64) := hid fun j hj => by
    have h1 := flat8 (L := L.take j) fun x hx => H.b x (List.mem_of_mem_take hx)
    have h2 : (L.take j).length ≤ 8 := by rw [List.length_take]; omega
    omega
  have hEs := hid (chsE_s (L := L) (y := y))
  have hEb := hid (chsE_b (L := L) (y := y))
  have hEg := hid (chsE_g (L := L) (y := y))
  have hSg := hid (chsS_g (L := L) (y := y))
  rw [← hE1] at hEs hEb hEg
  rw [← hS1] at hSg
  have hSn := hid (selS_no (x := x) (y := y))
  replace hE1 := hid hE1
  replace hS1 := hid hS1
  replace H := hid H
  clear hEn hEc hIn hSc
  replace E := hid E.out.row0I
  (try simp only [List.cons_append, List.nil_append, List.set_cons_zero, List.set_cons_succ] at E)
  obtain ⟨q10, q11, q12, q13⟩ := (E.out.hdr 1 rfl).all
  go_upto_region 10 with (fail)
  clear q10 q11 q12 q13
  replace l := hid l
  go_loopw [8, 10, 38] (fun sv pv v wr => ∃ (j : Nat) (ao : Option Addr) (ac : Nat), j ≤ L.length ∧ v = .int .i64 j ∧ sv = .slice ao ((L.take j).flatMap Arr.shape).length ac ∧ Env w S wr [.obj w.heap.size (.cells #[.int .i64 x.kind, .slice sx x.shape.length cx, .slice nx x.nums.length mx, .slice ix x.items.length jx] 26 (0, 0)), .obj (w.heap.size + 1) (.cells #[.int .i64 y.kind, .slice sy y.shape.length cy, .slice ny y.nums.length my, .slice iy y.items.length jy] 26 (0, 0)), .obj (w.heap.size + 1 + 1) (.cells #[.int .i64 0, .slice none 0 0, .slice none 0 0, .slice none 0 0] 26 (0, 0)), .arr x sx nx ix, .arr y sy ny iy, .items [x, y] (some ⟨p3, 0, none⟩), .items L lo, .rowI ao ac ((L.take j).flatMap Arr.shape)]) (fun _ _ v _ => L.length - (intOf v).toNat)
  case atStart => exact ⟨0, none, 0, Nat.zero_le _, rfl, rfl, E.out⟩
  case round =>
    clear E
    obtain ⟨j, ao, ac, hj, rfl, rfl, E⟩ := hrel
    replace E := hid E
    by_cases hlt : j < L.length
    case pos =>
      obtain ⟨b', off', sz, cz, nz, mz, iz, jz, hlo, hSb', hbl', e0, e1, e2, e3, hz⟩ := (E.out.items 6 rfl).at hlt
      subst hlo
      have hst := hid (flat_stepA hlt)
      have hb1 := hbk.out (j + 1) (by omega)
      rw [hst.out, List.length_append] at hb1
      generalize L[j] = z at e0 e1 e2 e3 hz hst hb1
      obtain ⟨cur, hcur⟩ : ∃ c, c = (L.take j).flatMap Arr.shape := ⟨_, rfl⟩
      rw [← hcur] at E hst hb1 ⊢
      replace hcur := hid hcur
      obtain ⟨zs, hzs⟩ : ∃ c, c = z.shape := ⟨_, rfl⟩
      have hzI := hz.shape
      rw [← hzs] at e1 hst hb1 hzI
      replace hzs := hid hzs
      replace E := hid (E.out.addInts hzI (fun _ _ h => h))
      clear hz hzI
      (try simp only [List.cons_append, List.nil_append, List.set_cons_zero, List.set_cons_succ] at E)
      have t0 : (0 : Int) ≤ (j : Int) := by omega
      have t1 : (j : Int) < (L.length : Int) := by omega
      go_upto_region 12 with (refine wpl_store4 rfl (.tmp 10) (.tmp 41) rfl _ rfl rfl ((E.out.alloc _).hdr 9 rfl) ?_; intro V2 HV CV; replace E := hid ((E.out.alloc _).chg 9 rfl CV HV); clear CV HV; (try simp only [List.cons_append, List.nil_append, List.set_cons_zero, List.set_cons_succ] at E))
      generalize wr.heap.size = po at E ⊢
      clear e0 e1 e2 e3
      obtain ⟨q90, q91, q92, q93⟩ := (E.out.hdr 9 rfl).all
      go_wp2_with (at_builtin; refine wplE_appI E.out 7 rfl rfl (.tmp 42) (.tmp 44) rfl rfl _ _ cz zs rfl (E.out.ints 8 rfl) (by omega) ?_; intro V4 a2 k2 E1; generalize hnn : cur ++ zs = nn at E1 ⊢; replace hnn := hid (hst.out.trans hnn); clear E; have E := hid E1; clear E1; (try simp only [List.cons_append, List.nil_append, List.set_cons_zero, List.set_cons_succ] at E))
      go_roundw
      case rel => exact ⟨j + 1, a2, k2, by omega, by go_num, by rw [hnn.out], by rw [hnn.out]; exact E.out.sub (by simp)⟩
      case measure => simp [intOf]; omega
    case neg =>
      obtain rfl : j = L.length := by omega
      rw [List.take_length] at E ⊢
      have hb1 := hbk.out L.length (Nat.le_refl _)
      rw [List.take_length] at hb1
      obtain ⟨cur, hcur⟩ : ∃ c, c = L.flatMap Arr.shape := ⟨_, rfl⟩
      rw [← hcur] at E hb1 ⊢
      obtain ⟨rs, hrs⟩ : ∃ c, c = y.shape.drop L.length := ⟨_, rfl⟩
      obtain ⟨sh, hsh⟩ : ∃ c, c = chsSh L y := ⟨_, rfl⟩
      have hcat : Hid (cur ++ rs = sh) := hid (by rw [hsh, hcur, hrs]; rfl)
      have hrl : rs.length ≤ 8 := by rw [hrs, List.length_drop]; omega
      have hshl : sh.length ≤ 72 := by rw [← hcat.out, List.length_append]; omega
      rw [← hsh] at hEs hEb hEg hSg
      replace hcur := hid hcur
      replace hrs := hid hrs
      replace hsh := hid hsh
      have t2 : ¬ (L.length : Int) < (L.length : Int) := by omega
      obtain ⟨q10, q11, q12, q13⟩ := (E.out.hdr 1 rfl).all
      go_wp2_with (first | (refine wpl_cutI rfl (.tmp 49) (.tmp 51) rfl y.shape L.length rs hrs.out rfl rfl (by omega) hll hcy (E.out.arr 4 rfl).shape ?_; intro bo hB) | (at_builtin; refine wplE_appI E.out 7 rfl rfl (.tmp 47) (.tmp 52) rfl rfl _ _ _ rs rfl hB (by omega) ?_; intro V2 a2 k2 E1; rw [hcat.out] at E1 ⊢; clear E; have E := hid E1; clear E1; (try simp only [List.cons_append, List.nil_append, List.set_cons_zero, List.set_cons_succ] at E)))
      refine (shape_Right sh _ _ _ _ (E.out.rowIr 7 rfl (by omega))).mono ?_
      rintro e w8 ⟨rfl, rfl⟩
      clear hB q10 q11 q12 q13
      cases hsS : shapeB sh with
      | false =>
        have hn := hid (hEs.out hsS)
        have hv := hid (hSn.out (by rw [hn.out]; decide))
        replace hsS := hid hsS
        go_wp2_with (refine wpl_store4 rfl (.tmp 4) (.tmp 57) rfl _ rfl rfl (E.out.hdr 2 rfl) ?_; intro V HV CV; replace E := hid (E.out.chg 2 rfl CV HV))
        exact bodyPost_ret (end_arr2 rfl HV rfl rfl) rfl (hR.out _ _ (RetAEC.zero hv.out hn.out E.out.ext))
      | true =>
      replace hEb := hid (hEb.out hsS)
      replace hEg := hid (hEg.out hsS)
      replace hSg := hid (hSg.out hsS)
      replace hsS := hid hsS
      have hcap := hid (OwnI.cap (E.out.rowI 7 rfl))
      replace E := hid (E.out.doneI 7 rfl (by omega))
      (try simp only [List.cons_append, List.nil_append, List.set_cons_zero, List.set_cons_succ] at E)
      go_upto_region 18 with (fail)
      go_loopw [11, 12, 60] (fun iv pv v wr => ∃ j : Nat, j ≤ L.length ∧ v = .int .i64 j ∧ Hid (∀ m (hm : m < L.length), m < j → L[m].nums.any (outB (y.shape.getD m 0)) = false) ∧ Env w S wr [.obj w.heap.size (.cells #[.int .i64 x.kind, .slice sx x.shape.length cx, .slice nx x.nums.length mx, .slice ix x.items.length jx] 26 (0, 0)), .obj (w.heap.size + 1) (.cells #[.int .i64 y.kind, .slice sy y.shape.length cy, .slice ny y.nums.length my, .slice iy y.items.length jy] 26 (0, 0)), .obj (w.heap.size + 1 + 1) (.cells #[.int .i64 0, .slice none 0 0, .slice none 0 0, .slice none 0 0] 26 (0, 0)), .arr x sx nx ix, .arr y sy ny iy, .items [x, y] (some ⟨p3, 0, none⟩), .items L lo, .ints sh a2]) (fun _ _ v _ => L.length - (intOf v).toNat)
      case atStart => exact ⟨0, Nat.zero_le _, rfl, hid (fun m hm q => by omega), E.out⟩
      case round =>
        clear E
        obtain ⟨j, hj, rfl, hbd, E⟩ := hrel
        replace E := hid E
        by_cases hlt : j < L.length
        case pos =>
          obtain ⟨b', off', sz, cz, nz, mz, iz, jz, hlo, hSb', hbl', e0, e1, e2, e3, hz⟩ := (E.out.items 6 rfl).at hlt
          subst hlo
          have hN : Hid (L[j].nums.any (outB (y.shape.getD j 0)) = false → ∀ m (hm : m < L.length), m < j + 1 → L[m].nums.any (outB (y.shape.getD m 0)) = false) := hid fun q m hm hk => by
            rcases Nat.lt_succ_iff_lt_or_eq.1 hk with h1 | h1
            · exact hbd.out m hm h1
            · subst h1; exact q
          have hY : Hid (L[j].nums.any (outB (y.shape.getD j 0)) = true → chsBad L y.shape = true) := hid fun q => chsBad_at hlt q
          generalize L[j] = z at e0 e1 e2 e3 hz hN hY
          replace E := hid (E.out.addArr hz (fun _ _ h => h))
          clear hz
          (try simp only [List.cons_append, List.nil_append, List.set_cons_zero, List.set_cons_succ] at E)
          have t0 : (0 : Int) ≤ (j : Int) := by omega
          have t1 : (j : Int) < (L.length : Int) := by omega
          have t3 : (j : Int) < (y.shape.length : Int) := by omega
          go_upto_region 20 with (refine wpl_store4 rfl (.tmp 12) (.tmp 64) rfl _ rfl rfl ((E.out.alloc _).hdr 9 rfl) ?_; intro V2 HV CV; replace E := hid ((E.out.alloc _).chg 9 rfl CV HV); clear CV HV; (try simp only [List.cons_append, List.nil_append, List.set_cons_zero, List.set_cons_succ] at E))
          generalize wr.heap.size = po at E ⊢
          clear e0 e1 e2 e3
          obtain ⟨b1, o1, hsy, hbl1, hS1, hc1⟩ := (E.out.arr 4 rfl).shape.at (k := j) (by omega)
          generalize y.shape.getD j 0 = d at hc1 hN hY
          replace hsy := hid hsy
          obtain ⟨q10, q11, q12, q13⟩ := (E.out.hdr 1 rfl).all
          obtain ⟨q90, q91, q92, q93⟩ := (E.out.hdr 9 rfl).all
          rw [hsy.out] at q11
          obtain ⟨T, hT1, hT2, hT3⟩ := E.out.tw
          refine wp_region_mono (Sees V2 [(⟨w.heap.size + 1, 1, none⟩, .slice (some ⟨b1, o1, none⟩) y.shape.length cy), (⟨b1, o1 + j, none⟩, .int .i64 d), (⟨po, 2, none⟩, .slice nz z.nums.length mz)]) [7] (fun k v u u' => match k with | 7 => v = .bool (!z.nums.any (outB d)) | _ => False) (fun _ _ h e => h.up e) (Sees.start (all_cons (q11) (all_cons (hc1) (all_cons (q92) (all_nil))))) (by kernel_rfl) (by kernel_rfl) ?_
          repeat (first | (refine m_plain (v := ?_) (by rfl) (by rfl) ?_ ?_; rotate_left; (intro wz hSw; obtain ⟨-, hSc⟩ := hSw; (try simp only [List.forall_mem_cons, List.forall_mem_nil, and_true] at hSc); go_simp; (first | done | with_reducible rfl)); (intro K hK; (try simp only [Act.put, List.setIfInBounds_toArray, List.set_cons_zero, List.set_cons_succ]); refine hK _ _ ?_; clear hK K)) | (refine m_skip (by rfl) (by rfl) ?_; (intro K hK; (try simp only [Act.put, List.setIfInBounds_toArray, List.set_cons_zero, List.set_cons_succ]); refine hK _ _ ?_; clear hK K)))
          refine m_make (by rfl) (by rfl) ?_ ?_
          · intro wz hSw hdep R hRz
            obtain ⟨hSe, hSc⟩ := hSw
            (try simp only [List.forall_mem_cons, List.forall_mem_nil, and_true] at hSc)
            unfold does
            (go_simp; refine Calls.mono (indexing_within z.nums _ _ d _ wz ((ArrAt.up (ArrAt.mono (fun b _ h => hT1 b h) _ (E.out.arr 8 rfl)) hSe)).nums) ?_; rintro e wq ⟨rfl, hqb⟩; exact ⟨_, rfl, hRz.out _ _ ⟨hqb, rfl⟩⟩)
          intro v7 u7 x7 hG7 K hK
          have hF7 := hG7.fact
          (try dsimp only at hF7)
          subst hF7
          (try simp only [Act.put, List.setIfInBounds_toArray, List.set_cons_zero, List.set_cons_succ]); refine hK _ _ ?_; clear hK K
          repeat (first | (refine m_plain (v := ?_) (by rfl) (by rfl) ?_ ?_; rotate_left; (intro wz hSw; obtain ⟨-, hSc⟩ := hSw; (try simp only [List.forall_mem_cons, List.forall_mem_nil, and_true] at hSc); go_simp; (first | done | with_reducible rfl)); (intro K hK; (try simp only [Act.put, List.setIfInBounds_toArray, List.set_cons_zero, List.set_cons_succ]); refine hK _ _ ?_; clear hK K)) | (refine m_skip (by rfl) (by rfl) ?_; (intro K hK; (try simp only [Act.put, List.setIfInBounds_toArray, List.set_cons_zero, List.set_cons_succ]); refine hK _ _ ?_; clear hK K)))
          refine m_nil ?_
          intro wf hSf hAf
          replace E := hid (E.out.up hSf.1)
          clear hSf hAf hG7 hT1 hT2 hT3 hc1
          clear q10 q11 q12 q13 q90 q91 q92 q93
          cases hzb : z.nums.any (outB d) with
          | true =>
            have hn := hid (hEb.out (hY.out hzb))
            have hv := hid (hSn.out (by rw [hn.out]; decide))
            replace hzb := hid hzb
            go_wp2_with (refine wpl_store4 rfl (.tmp 4) (.tmp 74) rfl _ rfl rfl (E.out.hdr 2 rfl) ?_; intro V HV CV; replace E := hid (E.out.chg 2 rfl CV HV))
            exact bodyPost_ret (end_arr2 rfl HV rfl rfl) rfl (hR.out _ _ (RetAEC.zero hv.out hn.out E.out.ext))
          | false =>
            have hn := hid (hN.out hzb)
            replace hzb := hid hzb
            go_wp2_with fail
            go_roundw
            case rel => exact ⟨j + 1, by omega, by go_num, hn, E.out.sub (by simp)⟩
            case measure => simp [intOf]; omega
        case neg =>
          have hbF := chsBad_no fun m hm => hbd.out m hm (by omega)
          replace hEg := hid (hEg.out hbF)
          replace hSg := hid (hSg.out hbF)
          have OK := hid (H.out.ok (by rw [← hsh.out]; exact hsS.out) hbF)
          have hps := hid (fun q => pos_of (L := L) (s := y.shape) (shapeB_iff.1 H.out.s).2.1 H.out.n H.out.l hbF q)
          have t4 : ¬ (j : Int) < (L.length : Int) := by omega
          replace hbF := hid hbF
          go_upto_region 24 with (fail)
          replace E := hid (E.out.alloc (.cells #[.slice none 0 0] 23))
          generalize World.alloc _ _ = V5 at E ⊢
          generalize wr.heap.size = pf at E ⊢
          (try simp only [List.cons_append, List.nil_append, List.set_cons_zero, List.set_cons_succ] at E)
          go_wp2_with fail
          refine (shape_Size sh _ _ _ _ (E.out.ints 7 rfl)).mono ?_
          rintro e w9 ⟨rfl, rfl⟩
          rw [sizeS_true hsS.out]
          have hO2 := OK.out.le
          have hmem : Hid (∀ j, j < (chsO L y).length → 0 ≤ (chsO L y).getD j 0 ∧ (chsO L y).getD j 0 < (szA y : Int)) := hid fun j hj => OK.out.rg _ (getD_mem hj)
          by_cases c0 : 0 < cnt sh
          case pos =>
            have hpos := hps.out (by rw [hsh.out] at c0; exact c0)
            replace c0' := hid c0
            replace E := hid E.out.row0I.front
            replace E := hid ((((E.out.pick 5 rfl).pick 7 rfl).pick 2 rfl).pick 9 rfl)
            simp only [List.eraseIdx_cons_succ, List.eraseIdx_cons_zero] at E
            replace hpos := hid hpos
            obtain ⟨q50, q51, q52, q53⟩ := (E.out.hdr 5 rfl).all
            go_wp2_with fail
            clear q50 q51 q52 q53
            refine (indexing_each L _ _ y _ _ _ _ _ _ pf H.out.s hpos.out H.out.l hcy none 0 [] w S _ _ E.out hbF.out (by simp; omega)).mono ?_
            rintro e w10 ⟨fa2, fc2, rfl, E1⟩
            rw [List.nil_append] at E1
            obtain ⟨fl, hfl⟩ : ∃ l, l = chsO L y := ⟨_, rfl⟩
            rw [← hfl] at E1 hO2 hmem hEg hSg
            replace hfl := hid hfl
            clear E
            have E := hid E1
            clear E1
            replace E := hid (E.out.doneI 1 rfl (by omega))
            (try simp only [List.cons_append, List.nil_append, List.set_cons_zero, List.set_cons_succ] at E)
            have c5 := (cell_row1 (E.out.obj 0 rfl)).1
            obtain ⟨q50, q51, q52, q53⟩ := (E.out.hdr 5 rfl).all
            go_wp2_with fail
            clear q50 q51 q52 q53
            clear c5
            refine (indexing_gather y _ _ _ _ _ _ sh _ _ fl _ _ _ _ (E.out.arr 3 rfl) (E.out.ints 9 rfl) (E.out.ints 1 rfl) H.out.F hmem.out (by omega)).mono ?_
            intro e w11 h
            obtain ⟨s12, c12, n12, m12, i12, j12, rfl, hA, hb, hC12⟩ := h.eq hSg.out hEg.out.symm
            replace E := hid ((E.out.up hb).addArrF hA E.out.blt E.out.size)
            replace hC12 := hid hC12
            clear hA hb h
            (try simp only [List.cons_append, List.nil_append, List.set_cons_zero, List.set_cons_succ] at E)
            go_wp2_with (refine wpl_store4 rfl (.tmp 4) (.tmp 87) rfl _ rfl rfl (E.out.hdr 6 rfl) ?_; intro V HV CV; replace E := hid (E.out.chg 6 rfl CV HV); clear CV; (try simp only [List.cons_append, List.nil_append, List.set_cons_zero, List.set_cons_succ] at E))
            refine bodyPost_ret (end_arr2 rfl HV rfl rfl) rfl (hR.out _ _ ?_)
            exact RetAEC.at rfl rfl (ArrAt.mono (fun b _ h => h.2) _ (E.out.arrF 10 rfl)) E.out.ext hC12.out
          case neg =>
            have hO := OK.out.nil (by have := (cnt_le hsS.out).1; rw [← hsh.out]; omega)
            rw [hO] at hEg hSg
            replace hO := hid hO
            have c5 := (cell_row1 (E.out.obj 8 rfl)).1
            obtain ⟨q10, q11, q12, q13⟩ := (E.out.hdr 1 rfl).all
            go_wp2_with fail
            clear q10 q11 q12 q13
            clear c5
            refine (indexing_gather y _ _ _ _ _ _ sh _ _ [] none 0 _ _ (E.out.arr 4 rfl) (E.out.ints 7 rfl) (IntsAt.nil _ _ _) H.out.F (by simp) (by simp)).mono ?_
            intro e w11 h
            obtain ⟨s12, c12, n12, m12, i12, j12, rfl, hA, hb, hC12⟩ := h.eq hSg.out hEg.out.symm
            replace E := hid ((E.out.up hb).addArrF hA E.out.blt E.out.size)
            replace hC12 := hid hC12
            clear hA hb h
            (try simp only [List.cons_append, List.nil_append, List.set_cons_zero, List.set_cons_succ] at E)
            go_wp2_with (refine wpl_store4 rfl (.tmp 4) (.tmp 87) rfl _ rfl rfl (E.out.hdr 2 rfl) ?_; intro V HV CV; replace E := hid (E.out.chg 2 rfl CV HV); clear CV; (try simp only [List.cons_append, List.nil_append, List.set_cons_zero, List.set_cons_succ] at E))
            refine bodyPost_ret (end_arr2 rfl HV rfl rfl) rfl (hR.out _ _ ?_)
            exact RetAEC.at rfl rfl (ArrAt.mono (fun b _ h => h.2) _ (E.out.arrF 9 rfl)) E.out.ext hC12.out
end Go.Proofs.Ytcoknjlkhefgpaa
