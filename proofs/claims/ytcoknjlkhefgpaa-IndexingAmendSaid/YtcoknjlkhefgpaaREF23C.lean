/- ref23.choose and ref23.From: contracts. Conditions: the arrays are read; a slice's capacity is at least its length. -/
import Derived.Test.YtcoknjlkhefgpaaREF23B
import Derived.Test.YtcoknjlkhefgpaaP23D
set_option linter.unusedVariables false
set_option linter.unusedSimpArgs false
namespace Go.Proofs.Ytcoknjlkhefgpaa
open Go.RowKit Go.Sort
attribute [local go_sem ↓] run_max2 run_min2
attribute [local go_sem] eql_ints_nil eql_arrs_nil
structure ChIn (L : List Arr) (y : Arr) : Prop where
  F : Flat y
  s : shapeB y.shape = true
  z : (szA y : Int) = cnt y.shape
  l : L.length ≤ y.shape.length
  n : ∀ x ∈ L, (x.nums.length : Int) = cnt x.shape
  b : ∀ x ∈ L, x.shape.length ≤ 8
theorem flat8 {L : List Arr} (h : ∀ x ∈ L, x.shape.length ≤ 8) : (L.flatMap Arr.shape).length ≤ L.length * 8 := by
  induction L with
  | nil => simp
  | cons l L ih =>
    rw [List.flatMap_cons, List.length_append, List.length_cons]
    have := h l (List.mem_cons_self ..)
    have := ih fun x hx => h x (List.mem_cons_of_mem _ hx)
    omega
theorem flat_stepA {L : List Arr} {k : Nat} (hk : k < L.length) : (L.take (k + 1)).flatMap Arr.shape = (L.take k).flatMap Arr.shape ++ L[k].shape := by
  rw [List.take_succ_eq_append_getElem hk, List.flatMap_append]; simp
structure ChOk (L : List Arr) (y : Arr) : Prop where
  le : (chsO L y).length ≤ 65536
  nil : cnt (chsSh L y) = 0 → chsO L y = []
  rg : ∀ i ∈ chsO L y, 0 ≤ i ∧ i < (szA y : Int)
  O : chsO L y = offR y.shape (L.map Arr.nums) ((0 : Nat) : Int)
theorem ChIn.ok {L : List Arr} {y : Arr} (h : ChIn L y) (s : shapeB (chsSh L y) = true) (b : chsBad L y.shape = false) : ChOk L y := by
  have hn := (shapeB_iff.1 h.s).2.1
  have hO := chs_O h.l hn
  have hl := offR_len (t := ((0 : Nat) : Int)) hn h.l h.n
  have hc := cnt_le s
  have he : chsSh L y = L.flatMap Arr.shape ++ y.shape.drop L.length := rfl
  rw [← hO, ← he] at hl
  refine ⟨by omega, fun q => List.eq_nil_of_length_eq_zero (by omega), ?_, hO⟩
  rw [hO]
  exact offR_in (by simp) hn (by rw [h.z]; simp) b
set_option maxRecDepth 100000 in
set_option maxHeartbeats 8000000 in
theorem ref23_choose (L : List Arr) (lo : Option Addr) (lc : Nat) (y : Arr) (sy : Option Addr) (cy : Nat) (ny : Option Addr) (my : Nat) (iy : Option Addr) (jy : Nat) (S : Nat → Prop) (w : World) (h : ArrAt w S y sy ny iy) (g : ItemsAt w S lo 0 L) (H : ChIn L y) (hL1 : 0 < L.length) (hc : y.shape.length ≤ cy) :
    Calls Try.prog 37 #[.slice lo L.length lc, .agg #[.int .i64 y.kind, .slice sy y.shape.length cy, .slice ny y.nums.length my, .slice iy y.items.length jy]] w (RetAEC w (fun b => S b ∨ w.heap.size ≤ b) (chsS L y) (chsE L y)) := by
  refine calls_post fun R' hR => ?_
  have h0 := hid h
  have g0 := hid g
  have hll := H.l
  have hys := (shapeB_iff.1 H.s).1
  have hny := h.nums.1
  clear h g
  have hsz6 : szA y ≤ 65536 := by have := cnt_le H.s; have := H.z; omega
  have hbk : Hid (∀ j, j ≤ L.length → ((L.take j).flatMap Arr.shape).length ≤ 64) := hid fun j hj => by
    have h1 := flat8 (L := L.take j) fun x hx => H.b x (List.mem_of_mem_take hx)
    have h2 : (L.take j).length ≤ 8 := by rw [List.length_take]; omega
    omega
  have hEs := hid (chsE_s (L := L) (y := y))
  have hEb := hid (chsE_b (L := L) (y := y))
  have hEg := hid (chsE_g (L := L) (y := y))
  have hSg := hid (chsS_g (L := L) (y := y))
  have hSn := hid (chsS_no (L := L) (y := y))
  replace H := hid H
  go_enter Try.func37, Try.ntmps37
  go_upto_region 1 with (fail)
  generalize hEW : ((w).alloc (.cells #[.int .i64 y.kind, .slice sy y.shape.length cy, .slice ny y.nums.length my, .slice iy y.items.length jy] 26)).alloc (.cells #[.int .i64 0, .slice none 0 0, .slice none 0 0, .slice none 0 0] 26) = W
  have E := hid (env2 w S hEW)
  clear hEW
  replace E := hid (((E.out.arg h0.out).argL g0.out).row0I)
  (try simp only [List.cons_append, List.nil_append, List.set_cons_zero, List.set_cons_succ] at E)
  obtain ⟨lb, lf, _, _, _, _, _, _, hlo0, _, _, _, _, _, _, _⟩ := (E.out.items 3 rfl).at hL1
  subst hlo0
  go_upto_region 3 with (fail)
  go_loopw [6, 7] (fun sv v wr => ∃ (j : Nat) (ao : Option Addr) (ac : Nat), j ≤ L.length ∧ v = .int .i64 j ∧ sv = .slice ao ((L.take j).flatMap Arr.shape).length ac ∧ Env w S wr [.obj w.heap.size (.cells #[.int .i64 y.kind, .slice sy y.shape.length cy, .slice ny y.nums.length my, .slice iy y.items.length jy] 26 (0, 0)), .obj (w.heap.size + 1) (.cells #[.int .i64 0, .slice none 0 0, .slice none 0 0, .slice none 0 0] 26 (0, 0)), .arr y sy ny iy, .items L (some ⟨lb, lf, none⟩), .rowI ao ac ((L.take j).flatMap Arr.shape)]) (fun _ v _ => L.length - (intOf v).toNat)
  case atStart => exact ⟨0, none, 0, Nat.zero_le _, rfl, rfl, E.out⟩
  case round =>
    clear E
    obtain ⟨j, ao, ac, hj, rfl, rfl, E⟩ := hrel
    replace E := hid E
    by_cases hlt : j < L.length
    case pos =>
      obtain ⟨b', off', sz, cz, nz, mz, iz, jz, hlo, hSb', hbl', e0, e1, e2, e3, hz⟩ := (E.out.items 3 rfl).at hlt
      obtain ⟨hb1, ho1⟩ : b' = lb ∧ off' = lf := by simpa [eq_comm] using hlo
      rw [hb1, ho1] at e1
      clear hlo hSb' hbl' e0 e2 e3 hb1 ho1
      have hst := hid (flat_stepA hlt)
      have hb1 := hbk.out (j + 1) (by omega)
      rw [hst.out, List.length_append] at hb1
      generalize L[j] = z at e1 hz hst hb1
      obtain ⟨cur, hcur⟩ : ∃ c, c = (L.take j).flatMap Arr.shape := ⟨_, rfl⟩
      rw [← hcur] at E hst hb1 ⊢
      replace hcur := hid hcur
      obtain ⟨zs, hzs⟩ : ∃ c, c = z.shape := ⟨_, rfl⟩
      have hzI := hid hz.shape
      rw [← hzs] at e1 hst hb1 hzI
      replace hzs := hid hzs
      clear hz
      have t0 : (0 : Int) ≤ (j : Int) := by omega
      have t1 : (j : Int) < (L.length : Int) := by omega
      go_wp2_with (at_builtin; refine wplE_appI E.out 4 rfl rfl (.tmp 16) (.tmp 21) rfl rfl _ _ cz zs rfl hzI.out (by omega) ?_; intro V2 a2 k2 E1; generalize hnn : cur ++ zs = nn at E1 ⊢; replace hnn := hid (hst.out.trans hnn); clear E; have E := hid E1; clear E1; (try simp only [List.cons_append, List.nil_append, List.set_cons_zero, List.set_cons_succ] at E))
      go_roundw
      case rel => exact ⟨j + 1, a2, k2, by omega, by go_num, by rw [hnn.out], by rw [hnn.out]; exact E.out⟩
      case measure => simp [intOf]; omega
    case neg =>
      obtain rfl : j = L.length := by omega
      rw [List.take_length] at E ⊢
      have hb1 := hbk.out L.length (Nat.le_refl _)
      rw [List.take_length] at hb1
      obtain ⟨cur, hcur⟩ : ∃ c, c = L.flatMap Arr.shape := ⟨_, rfl⟩
      rw [← hcur] at E hb1 ⊢
      obtain ⟨rs, hrs⟩ : ∃ c, c = y.shape.drop L.length := ⟨_, rfl⟩
      obtain ⟨sh, hsh⟩ : ∃ c, c = chsSh L y := ⟨_, rfl⟩
      have hcat : Hid (cur ++ rs = sh) := hid (by rw [hsh, hcur, hrs]; rfl)
      have hrl : rs.length ≤ 8 := by rw [hrs, List.length_drop]; omega
      have hshl : sh.length ≤ 72 := by rw [← hcat.out, List.length_append]; omega
      rw [← hsh] at hEs hEb hEg hSg
      replace hcur := hid hcur
      replace hrs := hid hrs
      replace hsh := hid hsh
      have t2 : ¬ (L.length : Int) < (L.length : Int) := by omega
      obtain ⟨q00, q01, q02, q03⟩ := (E.out.hdr 0 rfl).all
      go_wp2_with (first | (refine wpl_cutI rfl (.tmp 25) (.tmp 27) rfl y.shape L.length rs hrs.out rfl rfl (by omega) hll hc (E.out.arr 2 rfl).shape ?_; intro bo hB) | (at_builtin; refine wplE_appI E.out 4 rfl rfl (.tmp 23) (.tmp 28) rfl rfl _ _ _ rs rfl hB (by omega) ?_; intro V2 a2 k2 E1; rw [hcat.out] at E1 ⊢; clear E; have E := hid E1; clear E1; (try simp only [List.cons_append, List.nil_append, List.set_cons_zero, List.set_cons_succ] at E)))
      refine (ref03_Dims sh _ _ _ _ (E.out.rowIr 4 rfl (by omega))).mono ?_
      rintro e w3 ⟨rfl, rfl⟩
      cases hsS : shapeB sh with
      | false =>
        have hn := hid (hEs.out hsS)
        have hv := hid (hSn.out (by rw [hn.out]; decide))
        have db : (dimsE sh != 0) = true := bne_iff_ne.2 fun q => by rw [dimsE_zero.1 q] at hsS; cases hsS
        replace hsS := hid hsS
        clear q00 q01 q02 q03
        go_wp2_with (refine wpl_store4 rfl (.tmp 4) (.tmp 33) rfl _ rfl rfl (E.out.hdr 1 rfl) ?_; intro V HV CV; replace E := hid (E.out.chg 1 rfl CV HV))
        exact bodyPost_ret (end_arr2 rfl HV rfl rfl) rfl (hR.out _ _ (RetAEC.zero hv.out hn.out E.out.ext))
      | true =>
      have d0 : dimsE sh = 0 := dimsE_zero.2 hsS
      rw [d0]
      replace d0 := hid d0
      replace hEb := hid (hEb.out hsS)
      replace hEg := hid (hEg.out hsS)
      replace hSg := hid (hSg.out hsS)
      replace hsS := hid hsS
      have hcap := hid (OwnI.cap (E.out.rowI 4 rfl))
      replace E := hid (E.out.doneI 4 rfl (by omega))
      (try simp only [List.cons_append, List.nil_append, List.set_cons_zero, List.set_cons_succ] at E)
      clear q00 q01 q02 q03
      go_upto_region 10 with (fail)
      go_loopw [8] (fun v wr => ∃ j : Nat, j ≤ L.length ∧ v = .int .i64 j ∧ Hid (∀ m (hm : m < L.length), m < j → L[m].nums.any (outB (y.shape.getD m 0)) = false) ∧ Env w S wr [.obj w.heap.size (.cells #[.int .i64 y.kind, .slice sy y.shape.length cy, .slice ny y.nums.length my, .slice iy y.items.length jy] 26 (0, 0)), .obj (w.heap.size + 1) (.cells #[.int .i64 0, .slice none 0 0, .slice none 0 0, .slice none 0 0] 26 (0, 0)), .arr y sy ny iy, .items L (some ⟨lb, lf, none⟩), .ints sh a2]) (fun v _ => L.length - (intOf v).toNat)
      case atStart => exact ⟨0, Nat.zero_le _, rfl, hid (fun m hm q => by omega), E.out⟩
      case round =>
        clear E hB
        obtain ⟨j, hj, rfl, hbd, E⟩ := hrel
        replace E := hid E
        by_cases hlt : j < L.length
        case pos =>
          obtain ⟨b', off', sz, cz, nz, mz, iz, jz, hlo, hSb', hbl', e0, e1, e2, e3, hz⟩ := (E.out.items 3 rfl).at hlt
          obtain ⟨hb3, ho3⟩ : b' = lb ∧ off' = lf := by simpa [eq_comm] using hlo
          rw [hb3, ho3] at e0 e1 e2 e3
          clear hlo hSb' hbl' hb3 ho3
          obtain ⟨b1, o1, hsy, hbl1, hS1, hc1⟩ := (E.out.arr 2 rfl).shape.at (k := j) (by omega)
          have hN : Hid (L[j].nums.any (outB (y.shape.getD j 0)) = false → ∀ m (hm : m < L.length), m < j + 1 → L[m].nums.any (outB (y.shape.getD m 0)) = false) := hid fun q m hm hk => by
            rcases Nat.lt_succ_iff_lt_or_eq.1 hk with h1 | h1
            · exact hbd.out m hm h1
            · subst h1; exact q
          have hY : Hid (L[j].nums.any (outB (y.shape.getD j 0)) = true → chsBad L y.shape = true) := hid fun q => chsBad_at hlt q
          generalize L[j] = z at e0 e1 e2 e3 hz hN hY
          generalize y.shape.getD j 0 = d at hc1 hN hY
          replace E := hid (E.out.addArr hz (fun _ _ h => h))
          clear hz
          (try simp only [List.cons_append, List.nil_append, List.set_cons_zero, List.set_cons_succ] at E)
          have t0 : (0 : Int) ≤ (j : Int) := by omega
          have t1 : (j : Int) < (L.length : Int) := by omega
          have t3 : (j : Int) < (y.shape.length : Int) := by omega
          replace hsy := hid hsy
          go_upto_region 12 with (fail)
          obtain ⟨q00, q01, q02, q03⟩ := (E.out.hdr 0 rfl).all
          rw [hsy.out] at q01
          obtain ⟨T, hT1, hT2, hT3⟩ := E.out.tw
          refine wp_region_mono (Sees wr [(⟨w.heap.size, 1, none⟩, .slice (some ⟨b1, o1, none⟩) y.shape.length cy), (⟨b1, o1 + j, none⟩, .int .i64 d), (⟨lb, lf + j * 4, none⟩, .int .i64 z.kind), (⟨lb, lf + j * 4 + 1, none⟩, .slice sz z.shape.length cz), (⟨lb, lf + j * 4 + 2, none⟩, .slice nz z.nums.length mz), (⟨lb, lf + j * 4 + 3, none⟩, .slice iz z.items.length jz)]) [9] (fun k v u u' => match k with | 9 => v = .bool (!z.nums.any (outB d)) | _ => False) (fun _ _ h e => h.up e) (Sees.start (all_cons (q01) (all_cons (hc1) (all_cons (e0) (all_cons (e1) (all_cons (e2) (all_cons (e3) (all_nil)))))))) (by kernel_rfl) (by kernel_rfl) ?_
          repeat (first | (refine m_plain (v := ?_) (by rfl) (by rfl) ?_ ?_; rotate_left; (intro wz hSw; obtain ⟨-, hSc⟩ := hSw; (try simp only [List.forall_mem_cons, List.forall_mem_nil, and_true] at hSc); go_simp; (first | done | with_reducible rfl)); (intro K hK; (try simp only [Act.put, List.setIfInBounds_toArray, List.set_cons_zero, List.set_cons_succ]); refine hK _ _ ?_; clear hK K)) | (refine m_skip (by rfl) (by rfl) ?_; (intro K hK; (try simp only [Act.put, List.setIfInBounds_toArray, List.set_cons_zero, List.set_cons_succ]); refine hK _ _ ?_; clear hK K)))
          refine m_make (by rfl) (by rfl) ?_ ?_
          · intro wz hSw hdep R hRz
            obtain ⟨hSe, hSc⟩ := hSw
            (try simp only [List.forall_mem_cons, List.forall_mem_nil, and_true] at hSc)
            unfold does
            (go_simp; refine Calls.mono (ref23_fits z _ _ _ _ _ _ d _ wz (ArrAt.up (ArrAt.mono (fun b _ h => hT1 b h) _ (E.out.arr 5 rfl)) hSe)) ?_; rintro e wq ⟨rfl, hqb⟩; exact ⟨_, rfl, hRz.out _ _ ⟨hqb, rfl⟩⟩)
          intro v9 u9 x9 hG9 K hK
          have hF9 := hG9.fact
          (try dsimp only at hF9)
          subst hF9
          (try simp only [Act.put, List.setIfInBounds_toArray, List.set_cons_zero, List.set_cons_succ]); refine hK _ _ ?_; clear hK K
          repeat (first | (refine m_plain (v := ?_) (by rfl) (by rfl) ?_ ?_; rotate_left; (intro wz hSw; obtain ⟨-, hSc⟩ := hSw; (try simp only [List.forall_mem_cons, List.forall_mem_nil, and_true] at hSc); go_simp; (first | done | with_reducible rfl)); (intro K hK; (try simp only [Act.put, List.setIfInBounds_toArray, List.set_cons_zero, List.set_cons_succ]); refine hK _ _ ?_; clear hK K)) | (refine m_skip (by rfl) (by rfl) ?_; (intro K hK; (try simp only [Act.put, List.setIfInBounds_toArray, List.set_cons_zero, List.set_cons_succ]); refine hK _ _ ?_; clear hK K)))
          refine m_nil ?_
          intro wf hSf hAf
          replace E := hid (E.out.up hSf.1)
          clear hSf hAf hG9 hT1 hT2 hT3 e0 e1 e2 e3 hc1
          clear q00 q01 q02 q03
          cases hzb : z.nums.any (outB d) with
          | true =>
            have hn := hid (hEb.out (hY.out hzb))
            have hv := hid (hSn.out (by rw [hn.out]; decide))
            replace hzb := hid hzb
            go_wp2_with (refine wpl_store4 rfl (.tmp 4) (.tmp 51) rfl _ rfl rfl (E.out.hdr 1 rfl) ?_; intro V HV CV; replace E := hid (E.out.chg 1 rfl CV HV))
            exact bodyPost_ret (end_arr2 rfl HV rfl rfl) rfl (hR.out _ _ (RetAEC.zero hv.out hn.out E.out.ext))
          | false =>
            have hn := hid (hN.out hzb)
            replace hzb := hid hzb
            go_wp2_with fail
            go_roundw
            case rel => exact ⟨j + 1, by omega, by go_num, hn, E.out.sub (by simp)⟩
            case measure => simp [intOf]; omega
        case neg =>
          have hbF := chsBad_no fun m hm => hbd.out m hm (by omega)
          replace hEg := hid (hEg.out hbF)
          replace hSg := hid (hSg.out hbF)
          have OK := hid (H.out.ok (by rw [← hsh.out]; exact hsS.out) hbF)
          have t4 : ¬ (j : Int) < (L.length : Int) := by omega
          replace hbF := hid hbF
          obtain ⟨q00, q01, q02, q03⟩ := (E.out.hdr 0 rfl).all
          go_upto_region 15 with (refine wpl_store4 rfl (.tmp 9) (.tmp 55) rfl _ rfl rfl ((E.out.alloc _).hdr 5 rfl) ?_; intro V3 HV CV; replace E := hid ((E.out.alloc _).chg 5 rfl CV HV); clear CV HV; (try simp only [List.cons_append, List.nil_append, List.set_cons_zero, List.set_cons_succ] at E))
          clear q00 q01 q02 q03
          generalize wr.heap.size = po at E ⊢
          go_wp2_with fail
          refine (ref03_Count sh _ _ _ _ (E.out.ints 4 rfl)).mono ?_
          rintro e w5 ⟨rfl, rfl⟩
          rw [cntC_eq hsS.out]
          by_cases c0 : cnt sh = 0
          case pos =>
            have cb : (cnt sh == 0) = true := by simp [c0]
            have hO := OK.out.nil (by rw [← hsh.out]; exact c0)
            have hE0 : Hid (chsE L y = 0) := hid (by rw [hEg.out, hO, gatE_eq, if_neg]; rw [gatW_nil]; omega)
            have hS0 : Hid (chsS L y = .mk y.kind sh [] []) := hid (by rw [hSg.out, gatS_yes (by rw [← hEg.out]; exact hE0.out), hO]; rfl)
            replace hO := hid hO
            replace c0 := hid c0
            obtain ⟨q50, q51, q52, q53⟩ := (E.out.hdr 5 rfl).all
            go_wp2_with (refine wpl_store4 rfl (.tmp 4) (.tmp 59) rfl _ rfl rfl (E.out.hdr 1 rfl) ?_; intro V4 HV CV; replace E := hid (E.out.chg 1 rfl CV HV); (try simp only [List.cons_append, List.nil_append, List.set_cons_zero, List.set_cons_succ] at E))
            refine bodyPost_ret (end_arr2 rfl HV rfl rfl) rfl (hR.out _ _ ?_)
            exact RetAEC.of hS0.out hE0.out rfl ((E.out.ints 4 rfl).mono fun b _ h => h.1) (IntsAt.nil _ _ none) (Nat.zero_le _) (by simp only [ItemsAt]) E.out.ext hcap.out (Nat.zero_le _) (Nat.zero_le _)
          case neg =>
            have cb : (cnt sh == 0) = false := by simp [c0]
            replace c0 := hid c0
            have hO1 : Hid (offR y.shape ((L.drop 0).map Arr.nums) ((0 : Nat) : Int) = chsO L y) := hid (by rw [List.drop_zero]; exact OK.out.O.symm)
            have hO2 := OK.out.le
            have hO3 : Hid (([] : List Int).length + (offR y.shape ((L.drop 0).map Arr.nums) ((0 : Nat) : Int)).length ≤ 900000) := hid (by rw [hO1.out]; simp; omega)
            have hO4 : Hid (([] : List Arr).length + (offR y.shape ((L.drop 0).map Arr.nums) ((0 : Nat) : Int)).length ≤ 900000) := hid (by rw [hO1.out]; simp; omega)
            have hO5 : Hid (((0 : Nat) : Int) + cnt y.shape ≤ (szA y : Int)) := hid (by have := H.out.z; omega)
            have hbE : Hid (chsE L y = bwE (gatA y sh (chsO L y))) := hid (by rw [bw_gat H.out.F OK.out.rg OK.out.le]; exact hEg.out)
            have hbS : Hid (chsS L y = bwS (gatA y sh (chsO L y))) := hid (by rw [hSg.out]; unfold gatS bwS; rw [← hbE.out, ← hEg.out])
            have hgA : Hid (gatA y sh (chsO L y) = .mk y.kind sh (gatL y.nums (chsO L y)) (gatL y.items (chsO L y))) := hid rfl
            have hgN := gatL_le y.nums (chsO L y)
            have hgI := gatL_le y.items (chsO L y)
            replace E := hid E.out.row0A.front
            replace E := hid E.out.row0I.front
            obtain ⟨q20, q21, q22, q23⟩ := (E.out.hdr 2 rfl).all
            obtain ⟨q70, q71, q72, q73⟩ := (E.out.hdr 7 rfl).all
            go_wp2_with fail
            clear q20 q21 q22 q23 q70 q71 q72 q73
            refine (ref23_chosen y.kind a2 sh.length k2 L _ lc y _ _ _ _ _ _ rfl H.out.F H.out.s hc (by omega) hsz6 y.shape 0 0 _ _ none 0 [] none 0 [] w S _ _ rfl rfl rfl (by simp) E.out (E.out.arr 4 rfl) (E.out.items 5 rfl) hO5.out hbF.out hO3.out hO4.out).mono ?_
            rintro e w6 ⟨na2, nc2, ia2, ic2, rfl, E1⟩
            rw [hO1.out, List.nil_append, List.nil_append] at E1 ⊢
            obtain ⟨nn, hnn⟩ : ∃ l, l = gatL y.nums (chsO L y) := ⟨_, rfl⟩
            obtain ⟨ii, hii⟩ : ∃ l, l = gatL y.items (chsO L y) := ⟨_, rfl⟩
            rw [← hnn] at E1 hgN hgA ⊢
            rw [← hii] at E1 hgI hgA ⊢
            rw [hgA.out] at hbE hbS
            replace hnn := hid hnn
            replace hii := hid hii
            clear E
            have E := hid E1
            clear E1
            have hC : Hid (sh.length ≤ k2 ∧ nn.length ≤ nc2 ∧ ii.length ≤ ic2) := hid ⟨hcap.out, OwnI.cap (E.out.rowI 0 rfl), OwnA.cap (E.out.rowA 1 rfl)⟩
            replace E := hid ((E.out.doneI 0 rfl (by omega)).doneA 1 rfl)
            (try simp only [List.cons_append, List.nil_append, List.set_cons_zero, List.set_cons_succ] at E)
            replace E := hid (E.out.addArr (a := .mk y.kind sh nn ii) (ArrAt.iff.2 ⟨E.out.ints 6 rfl, E.out.ints 0 rfl, by show ii.length ≤ _; omega, E.out.items 1 rfl⟩) (fun _ _ h => h))
            (try simp only [List.cons_append, List.nil_append, List.set_cons_zero, List.set_cons_succ] at E)
            go_wp2_with fail
            refine (ref23_bounded (.mk y.kind sh nn ii) _ _ _ _ _ _ _ _ (E.out.arr 8 rfl) hC.out).mono ?_
            intro e w7 h
            obtain ⟨s9, c9, n9, m9, i9, j9, rfl, hA, hb, hC9⟩ := h.eq hbS.out hbE.out.symm
            clear h
            replace hC9 := hid hC9
            replace E := hid ((E.out.up hb).addArr hA (fun _ _ q => q))
            clear hA hb
            (try simp only [List.cons_append, List.nil_append, List.set_cons_zero, List.set_cons_succ] at E)
            obtain ⟨r, hr⟩ : ∃ r, r = chsS L y := ⟨_, rfl⟩
            rw [← hr] at E hR hC9 ⊢
            replace hr := hid hr
            go_wp2_with (refine wpl_store4 rfl (.tmp 4) (.tmp 65) rfl _ rfl rfl (E.out.hdr 3 rfl) ?_; intro V4 HV CV; replace E := hid (E.out.chg 3 rfl CV HV); clear CV; (try simp only [List.cons_append, List.nil_append, List.set_cons_zero, List.set_cons_succ] at E))
            refine bodyPost_ret (end_arr2 rfl HV rfl rfl) rfl (hR.out _ _ ?_)
            exact RetAEC.at rfl rfl (ArrAt.mono (fun b _ h => h.1) _ (E.out.arr 9 rfl)) E.out.ext hC9.out
theorem unsc_in {x y : Arr} (hx : rightS x = 0) (hk : x.kind = 1) (hy : rightS y = 0) : ChIn [x] (unsc y) := by
  have F := flat_of hy
  have hs := (right_ok hy).2.1
  have hxs := (shapeB_iff.1 (right_ok hx).2.1).1
  have hz := sz_cnt hy
  have hc := nums_cnt hx hk
  refine ⟨⟨by rw [unsc_kind]; exact F.k, fun q => by rw [unsc_nums]; exact F.n (by rw [← unsc_kind]; exact q), fun q => by rw [unsc_items]; exact F.i (by rw [← unsc_kind]; exact q)⟩, ?_, ?_, ?_, fun a ha => ?_, fun a ha => ?_⟩
  · unfold unsc; split
    · exact shapeB_one (by omega) (by omega)
    · exact hs
  · have : szA (unsc y) = szA y := by unfold szA; rw [unsc_kind, unsc_nums, unsc_items]
    rw [this, hz]
    unfold unsc; split
    · rename_i h; rw [List.eq_nil_of_length_eq_zero h, cnt_nil]; rfl
    · rfl
  · unfold unsc; split
    · exact Nat.le_refl _
    · rename_i h; simp only [List.length_cons, List.length_nil]; omega
  · rw [List.mem_singleton.1 ha]; exact hc
  · rw [List.mem_singleton.1 ha]; exact hxs
theorem frm_chs {x y : Arr} (hx : rightS x = 0) (hk : x.kind = 1) (hy : rightS y = 0) : frmE x y = chsE [x] (unsc y) ∧ frmS x y = chsS [x] (unsc y) := by
  have h1 : frmE x y = chsE [x] (unsc y) := by unfold frmE; rw [if_neg (by simp [hx, hy]), if_neg (by simp [hk])]
  refine ⟨h1, ?_⟩
  unfold frmS chsS
  rw [h1, frm_sh]
  split
  · unfold gatA; rw [unsc_kind, unsc_nums, unsc_items]
  · rfl
set_option maxRecDepth 100000 in
set_option maxHeartbeats 8000000 in
theorem ref23_From (x : Arr) (sx : Option Addr) (cx : Nat) (nx : Option Addr) (mx : Nat) (ix : Option Addr) (jx : Nat) (y : Arr) (sy : Option Addr) (cy : Nat) (ny : Option Addr) (my : Nat) (iy : Option Addr) (jy : Nat) (S : Nat → Prop) (w : World) (h : ArrAt w S x sx nx ix) (g : ArrAt w S y sy ny iy) (hc : y.shape.length ≤ cy) :
    Calls Try.prog 12 #[.agg #[.int .i64 x.kind, .slice sx x.shape.length cx, .slice nx x.nums.length mx, .slice ix x.items.length jx], .agg #[.int .i64 y.kind, .slice sy y.shape.length cy, .slice ny y.nums.length my, .slice iy y.items.length jy]] w (RetAEC w (fun b => S b ∨ w.heap.size ≤ b) (frmS x y) (frmE x y)) := by
  refine calls_post fun R' hR => ?_
  have h0 := hid h
  have g0 := hid g
  clear h g
  go_enter Try.func12, Try.ntmps12
  go_upto_region 1 with (fail)
  generalize hEW : (((w).alloc (.cells #[.int .i64 x.kind, .slice sx x.shape.length cx, .slice nx x.nums.length mx, .slice ix x.items.length jx] 26)).alloc (.cells #[.int .i64 y.kind, .slice sy y.shape.length cy, .slice ny y.nums.length my, .slice iy y.items.length jy] 26)).alloc (.cells #[.int .i64 0, .slice none 0 0, .slice none 0 0, .slice none 0 0] 26) = W
  have E := hid (env3 w S hEW)
  clear hEW
  replace E := hid ((E.out.arg h0.out).arg g0.out)
  (try simp only [List.cons_append, List.nil_append, List.set_cons_zero, List.set_cons_succ] at E)
  obtain ⟨q00, q01, q02, q03⟩ := (E.out.hdr 0 rfl).all
  go_wp2_with fail
  clear q00 q01 q02 q03
  refine (ref03_Right x _ _ _ _ _ _ _ _ (E.out.arr 3 rfl)).mono ?_
  rintro e w1 ⟨rfl, hb⟩
  replace E := hid (E.out.up hb)
  clear hb
  by_cases c1 : rightS x = 0
  case neg =>
    have cb : (rightS x != 0) = true := by simpa using c1
    have hn := hid (frmE_r (x := x) (y := y) (Or.inl c1))
    have hv := hid (frmS_no (x := x) (y := y) (by rw [hn.out]; decide))
    replace c1 := hid c1
    go_wp2_with (refine wpl_store4 rfl (.tmp 4) (.tmp 15) rfl _ rfl rfl (E.out.hdr 2 rfl) ?_; intro V HV CV; replace E := hid (E.out.chg 2 rfl CV HV))
    exact bodyPost_ret (end_arr2 rfl HV rfl rfl) rfl (hR.out _ _ (RetAEC.zero hv.out hn.out E.out.ext))
  have cb1 : (rightS x != 0) = false := by simpa using c1
  obtain ⟨q10, q11, q12, q13⟩ := (E.out.hdr 1 rfl).all
  go_wp2_with fail
  clear q10 q11 q12 q13
  refine (ref03_Right y _ _ _ _ _ _ _ _ (E.out.arr 4 rfl)).mono ?_
  rintro e w2 ⟨rfl, hb⟩
  replace E := hid (E.out.up hb)
  clear hb
  by_cases c2 : rightS y = 0
  case neg =>
    have cb : (rightS y != 0) = true := by simpa using c2
    have hn := hid (frmE_r (x := x) (y := y) (Or.inr c2))
    have hv := hid (frmS_no (x := x) (y := y) (by rw [hn.out]; decide))
    replace c1 := hid c1
    replace c2 := hid c2
    go_wp2_with (refine wpl_store4 rfl (.tmp 4) (.tmp 15) rfl _ rfl rfl (E.out.hdr 2 rfl) ?_; intro V HV CV; replace E := hid (E.out.chg 2 rfl CV HV))
    exact bodyPost_ret (end_arr2 rfl HV rfl rfl) rfl (hR.out _ _ (RetAEC.zero hv.out hn.out E.out.ext))
  have cb2 : (rightS y != 0) = false := by simpa using c2
  by_cases k : x.kind = 1
  case neg =>
    have kb : (x.kind != 1) = true := by simpa using k
    have hn := hid (frmE_k c1 c2 k)
    have hv := hid (frmS_no (x := x) (y := y) (by rw [hn.out]; decide))
    replace k := hid k
    replace c1 := hid c1
    replace c2 := hid c2
    obtain ⟨q00, q01, q02, q03⟩ := (E.out.hdr 0 rfl).all
    go_wp2_with (refine wpl_store4 rfl (.tmp 4) (.tmp 19) rfl _ rfl rfl (E.out.hdr 2 rfl) ?_; intro V HV CV; replace E := hid (E.out.chg 2 rfl CV HV))
    exact bodyPost_ret (end_arr2 rfl HV rfl rfl) rfl (hR.out _ _ (RetAEC.zero hv.out hn.out E.out.ext))
  have kb : (x.kind != 1) = false := by simpa using k
  have HI := unsc_in c1 k c2
  obtain ⟨hE2, hS2⟩ := frm_chs c1 k c2
  replace c1 := hid c1
  replace c2 := hid c2
  replace k := hid k
  obtain ⟨q00, q01, q02, q03⟩ := (E.out.hdr 0 rfl).all
  obtain ⟨q10, q11, q12, q13⟩ := (E.out.hdr 1 rfl).all
  go_upto_region 6 with (refine wpl_store4 rfl (.tmp 6) (.tmp 20) rfl _ rfl rfl ((E.out.alloc _).hdr 5 rfl) ?_; intro V1 HV CV; replace E := hid ((E.out.alloc _).chg 5 rfl CV HV); clear CV HV; (try simp only [List.cons_append, List.nil_append, List.set_cons_zero, List.set_cons_succ] at E))
  clear q00 q01 q02 q03 q10 q11 q12 q13
  generalize w2.heap.size = p1 at E ⊢
  by_cases hsc : y.shape.length = 0
  case pos =>
    have sb : ((y.shape.length : Int) == 0) = true := by simp [hsc]
    have hU : unsc y = .mk y.kind [1] y.nums y.items := if_pos hsc
    rw [hU] at HI hE2 hS2
    replace HI := hid HI
    replace hE2 := hid hE2
    replace hS2 := hid hS2
    replace hU := hid hU
    obtain ⟨q10, q11, q12, q13⟩ := (E.out.hdr 1 rfl).all
    go_upto_region 8 with (refine wpl_store1 rfl (.tmp 26) (.tmp 25) rfl p1 rfl rfl ((E.out.lit [1] (by decide)).hdr 5 rfl) ?_; intro V2 HV CV; replace E := hid ((E.out.lit [1] (by decide)).chg 5 rfl CV HV); clear CV HV; (try simp only [List.cons_append, List.nil_append, List.set_cons_zero, List.set_cons_succ] at E))
    clear q10 q11 q12 q13
    generalize V1.heap.size = p2 at E ⊢
    replace E := hid (E.out.addArr (a := .mk y.kind [1] y.nums y.items) (ArrAt.iff.2 ⟨E.out.ints 6 rfl, (E.out.arr 4 rfl).nums, (E.out.arr 4 rfl).len, (E.out.arr 4 rfl).items⟩) (fun _ _ h => h))
    (try simp only [List.cons_append, List.nil_append, List.set_cons_zero, List.set_cons_succ] at E)
    replace hsc := hid hsc
    have hp1 := (E.out.lt 5 rfl).2
    obtain ⟨q00, q01, q02, q03⟩ := (E.out.hdr 0 rfl).all
    obtain ⟨q50, q51, q52, q53⟩ := (E.out.hdr 5 rfl).all
    go_wp2_with fail
    clear q00 q01 q02 q03 q50 q51 q52 q53
    replace E := hid (E.out.box 3 rfl cx mx jx)
    generalize World.alloc _ _ = V3 at E ⊢
    generalize V2.heap.size = p3 at E ⊢
    (try simp only [List.cons_append, List.nil_append, List.set_cons_zero, List.set_cons_succ] at E)
    refine (ref23_choose [x] _ 1 (.mk y.kind [1] y.nums y.items) _ 1 _ _ _ _ _ _ (E.out.arr 7 rfl) (E.out.items 8 rfl) HI.out (by simp) (by simp [Arr.shape])).mono ?_
    intro e w7 h
    obtain ⟨s9, c9, n9, m9, i9, j9, rfl, hA, hb, hC9⟩ := h.eq hS2.out hE2.out.symm
    clear h
    replace hC9 := hid hC9
    replace E := hid ((E.out.up hb).addArr hA (fun b _ hq => E.out.res (Ext.refl _) hq))
    clear hA hb
    (try simp only [List.cons_append, List.nil_append, List.set_cons_zero, List.set_cons_succ] at E)
    obtain ⟨r, hr⟩ : ∃ r, r = frmS x y := ⟨_, rfl⟩
    rw [← hr] at E hR hC9 ⊢
    replace hr := hid hr
    go_wp2_with (refine wpl_store4 rfl (.tmp 4) (.tmp 31) rfl _ rfl rfl (E.out.hdr 2 rfl) ?_; intro V4 HV CV; replace E := hid (E.out.chg 2 rfl CV HV); clear CV; (try simp only [List.cons_append, List.nil_append, List.set_cons_zero, List.set_cons_succ] at E))
    refine bodyPost_ret (end_arr2 rfl HV rfl rfl) rfl (hR.out _ _ ?_)
    exact RetAEC.at rfl rfl (ArrAt.mono (fun b _ h => h.1) _ (E.out.arr 9 rfl)) E.out.ext hC9.out
  case neg =>
    have sb : ((y.shape.length : Int) == 0) = false := by simp; exact fun q => hsc (by rw [q]; rfl)
    have hU : unsc y = y := if_neg hsc
    rw [hU] at HI hE2 hS2
    replace HI := hid HI
    replace hE2 := hid hE2
    replace hS2 := hid hS2
    replace hU := hid hU
    replace hsc := hid hsc
    have hp1 := (E.out.lt 5 rfl).2
    obtain ⟨q00, q01, q02, q03⟩ := (E.out.hdr 0 rfl).all
    obtain ⟨q10, q11, q12, q13⟩ := (E.out.hdr 1 rfl).all
    obtain ⟨q50, q51, q52, q53⟩ := (E.out.hdr 5 rfl).all
    go_wp2_with fail
    clear q00 q01 q02 q03 q10 q11 q12 q13 q50 q51 q52 q53
    replace E := hid (E.out.box 3 rfl cx mx jx)
    generalize World.alloc _ _ = V3 at E ⊢
    generalize V1.heap.size = p3 at E ⊢
    (try simp only [List.cons_append, List.nil_append, List.set_cons_zero, List.set_cons_succ] at E)
    refine (ref23_choose [x] _ 1 y _ _ _ _ _ _ _ _ (E.out.arr 4 rfl) (E.out.items 6 rfl) HI.out (by simp) hc).mono ?_
    intro e w7 h
    obtain ⟨s9, c9, n9, m9, i9, j9, rfl, hA, hb, hC9⟩ := h.eq hS2.out hE2.out.symm
    clear h
    replace hC9 := hid hC9
    replace E := hid ((E.out.up hb).addArr hA (fun b _ hq => E.out.res (Ext.refl _) hq))
    clear hA hb
    (try simp only [List.cons_append, List.nil_append, List.set_cons_zero, List.set_cons_succ] at E)
    obtain ⟨r, hr⟩ : ∃ r, r = frmS x y := ⟨_, rfl⟩
    rw [← hr] at E hR hC9 ⊢
    replace hr := hid hr
    go_wp2_with (refine wpl_store4 rfl (.tmp 4) (.tmp 31) rfl _ rfl rfl (E.out.hdr 2 rfl) ?_; intro V4 HV CV; replace E := hid (E.out.chg 2 rfl CV HV); clear CV; (try simp only [List.cons_append, List.nil_append, List.set_cons_zero, List.set_cons_succ] at E))
    refine bodyPost_ret (end_arr2 rfl HV rfl rfl) rfl (hR.out _ _ ?_)
    exact RetAEC.at rfl rfl (ArrAt.mono (fun b _ h => h.1) _ (E.out.arr 7 rfl)) E.out.ext hC9.out
end Go.Proofs.Ytcoknjlkhefgpaa
