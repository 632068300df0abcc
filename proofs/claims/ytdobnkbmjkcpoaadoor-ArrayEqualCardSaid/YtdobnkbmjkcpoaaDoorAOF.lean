/- array.Of: contract. Conditions: the shape and the array are read. -/
import Derived.Test.YtdobnkbmjkcpoaaDoorOF
set_option linter.unusedVariables false
set_option linter.unusedSimpArgs false
namespace Go.Proofs.YtdobnkbmjkcpoaaDoor
open Go.RowKit Go.Sort
attribute [local go_sem ↓] run_max2 run_min2
attribute [local go_sem] eql_ints_nil eql_arrs_nil
theorem dimsE_15 {s : List Int} (h : 8 < s.length) : dimsE s = 15 := if_pos h
theorem dimsE_16 {s : List Int} (h : ¬ 8 < s.length) (n : s.any negB = true) : dimsE s = 16 := by unfold dimsE; rw [if_neg h, if_pos n]
theorem dimsE_21 {s : List Int} (h : ¬ 8 < s.length) (n : s.any negB = false) (b : shapeB s = false) : dimsE s = 21 := by
  have h0 : dimsE s ≠ 0 := fun q => by rw [dimsE_zero.1 q] at b; cases b
  unfold dimsE at h0 ⊢
  rw [if_neg h, if_neg (by simp [n])] at h0 ⊢
  split
  · rfl
  · rename_i q; rw [if_neg q] at h0; exact absurd rfl h0
theorem array_Of_1 (d : Int) (w : World) : Calls Tryd.prog 59 #[.int .i64 d] w fun e w' => e = .returned (.bool (negB d)) ∧ w = w' := by
  refine calls_post fun R' hR => ?_
  go_enter Tryd.func59, Tryd.ntmps59
  go_wp2
  exact hR.out _ _ ⟨rfl, rfl⟩
set_option maxRecDepth 100000 in
set_option maxHeartbeats 8000000 in
theorem array_Of (s : List Int) (so : Option Addr) (sc : Nat) (y : Arr) (sy : Option Addr) (cy : Nat) (ny : Option Addr) (my : Nat) (iy : Option Addr) (jy : Nat) (S : Nat → Prop) (w : World) (h : ArrAt w S y sy ny iy) (g : IntsAt w S so s) :
    Calls Tryd.prog 41 #[.slice so s.length sc, .agg #[.int .i64 y.kind, .slice sy y.shape.length cy, .slice ny y.nums.length my, .slice iy y.items.length jy]] w (RetAEC w (fun b => S b ∨ w.heap.size ≤ b) (ofS s y) (ofE s y)) := by
  refine calls_post fun R' hR => ?_
  have h0 := hid h
  have g0 := hid g
  have hsl := g.1
  have hnl := h.nums.1
  have hil := h.len
  clear h g
  go_enter Tryd.func41, Tryd.ntmps41
  go_upto_region 1 with (fail)
  generalize hEW : ((w).alloc (.cells #[.int .i64 y.kind, .slice sy y.shape.length cy, .slice ny y.nums.length my, .slice iy y.items.length jy] 26)).alloc (.cells #[.int .i64 0, .slice none 0 0, .slice none 0 0, .slice none 0 0] 26) = W
  have E := hid (env2 w S hEW)
  clear hEW
  replace E := hid ((E.out.arg h0.out).argI g0.out)
  (try simp only [List.cons_append, List.nil_append, List.set_cons_zero, List.set_cons_succ] at E)
  obtain ⟨q00, q01, q02, q03⟩ := (E.out.hdr 0 rfl).all
  go_wp2_with fail
  clear q00 q01 q02 q03
  refine (array_Right y _ _ _ _ _ _ _ _ (E.out.arr 2 rfl)).mono ?_
  rintro e w1 ⟨rfl, hb⟩
  replace E := hid (E.out.up hb)
  clear hb
  by_cases c : rightS y = 0
  case neg =>
    have cb : (rightS y != 0) = true := by simpa using c
    have hn := hid (ofE_y (s := s) c)
    have hv := hid (ofS_no (s := s) (y := y) (by rw [hn.out]; decide))
    replace c := hid c
    go_wp2_with (refine wpl_store4 rfl (.tmp 4) (.tmp 14) rfl _ rfl rfl (E.out.hdr 1 rfl) ?_; intro V HV CV; replace E := hid (E.out.chg 1 rfl CV HV))
    exact bodyPost_ret (end_arr2 rfl HV rfl rfl) rfl (hR.out _ _ (RetAEC.zero hv.out hn.out E.out.ext))
  have cb : (rightS y != 0) = false := by simpa using c
  by_cases l8 : 8 < s.length
  case pos =>
    have lb : (8 : Int) < (s.length : Int) := by omega
    have hd := dimsE_15 l8
    have hn := hid ((ofE_d (s := s) c (by rw [hd]; decide)).trans hd)
    have hv := hid (ofS_no (s := s) (y := y) (by rw [hn.out]; decide))
    replace c := hid c
    replace hd := hid hd
    go_wp2_with (refine wpl_store4 rfl (.tmp 4) (.tmp 19) rfl _ rfl rfl (E.out.hdr 1 rfl) ?_; intro V HV CV; replace E := hid (E.out.chg 1 rfl CV HV))
    exact bodyPost_ret (end_arr2 rfl HV rfl rfl) rfl (hR.out _ _ (RetAEC.zero hv.out hn.out E.out.ext))
  have lb : ¬ (8 : Int) < (s.length : Int) := by omega
  go_wp2_with fail
  refine (slices_ContainsFunc_array_Of_1 negB s _ _ _ _ (E.out.ints 3 rfl) (fun n => array_Of_1 n _)).mono ?_
  rintro e w2 ⟨rfl, rfl⟩
  cases ng : s.any negB with
  | true =>
    have hd := dimsE_16 l8 ng
    have hn := hid ((ofE_d (s := s) c (by rw [hd]; decide)).trans hd)
    have hv := hid (ofS_no (s := s) (y := y) (by rw [hn.out]; decide))
    replace c := hid c
    replace hd := hid hd
    replace ng := hid ng
    go_wp2_with (refine wpl_store4 rfl (.tmp 4) (.tmp 23) rfl _ rfl rfl (E.out.hdr 1 rfl) ?_; intro V HV CV; replace E := hid (E.out.chg 1 rfl CV HV))
    exact bodyPost_ret (end_arr2 rfl HV rfl rfl) rfl (hR.out _ _ (RetAEC.zero hv.out hn.out E.out.ext))
  | false =>
  go_wp2_with fail
  refine (shape_Right s _ _ _ _ (E.out.ints 3 rfl)).mono ?_
  rintro e w2 ⟨rfl, rfl⟩
  cases sb : shapeB s with
  | false =>
    have hd := dimsE_21 l8 ng sb
    have hn := hid ((ofE_d (s := s) c (by rw [hd]; decide)).trans hd)
    have hv := hid (ofS_no (s := s) (y := y) (by rw [hn.out]; decide))
    replace c := hid c
    replace hd := hid hd
    replace ng := hid ng
    replace sb := hid sb
    go_wp2_with (refine wpl_store4 rfl (.tmp 4) (.tmp 28) rfl _ rfl rfl (E.out.hdr 1 rfl) ?_; intro V HV CV; replace E := hid (E.out.chg 1 rfl CV HV))
    exact bodyPost_ret (end_arr2 rfl HV rfl rfl) rfl (hR.out _ _ (RetAEC.zero hv.out hn.out E.out.ext))
  | true =>
  have d : dimsE s = 0 := dimsE_zero.2 sb
  have hs : Hid (shapeB s = true) := hid sb
  have hsF := hid (szN_of c)
  have hsA : Hid (szA (fromS y) = haveN y) := hid hsF.out
  have hv := hid (haveN_pos c)
  have hfk := hid (fromS_kind c)
  have hzb := hid (szN_no c)
  have hw := hid (fun q => ofE_w (s := s) c d q)
  have h00 := hid (fun q => ofE_0 (s := s) c d q)
  have hsy := hid (fun q => ofS_yes (s := s) (y := y) q)
  have hHk : Hid ((y.kind = 3 → haveN y = (fromS y).items.length) ∧ (y.kind ≠ 3 → haveN y = (fromS y).nums.length)) := hid ⟨fun q => if_pos q, fun q => if_neg q⟩
  obtain ⟨F, hF⟩ : ∃ F, F = fromS y := ⟨_, rfl⟩
  obtain ⟨H, hH⟩ : ∃ H, H = haveN y := ⟨_, rfl⟩
  obtain ⟨n, hnn⟩ : ∃ n, n = (cnt s).toNat := ⟨_, rfl⟩
  have hcs := cnt_le sb
  have hn6 : n ≤ 65536 := by omega
  have hcn : Hid (sizeS s = (n : Int)) := hid (by rw [sizeS_true sb]; omega)
  rw [← hF] at hsF hsA hfk hw h00 hsy hHk
  rw [← hH] at hsF hsA hv hw h00 hsy hHk
  rw [← hnn] at hw h00 hsy
  clear hcs lb cb
  replace hnn := hid hnn
  replace hH := hid hH
  replace c := hid c
  replace d := hid d
  replace ng := hid ng
  replace sb := hid sb
  obtain ⟨q00, q01, q02, q03⟩ := (E.out.hdr 0 rfl).all
  go_wp2_with fail
  clear q00 q01 q02 q03
  refine (size_array_Size y _ _ _ _ _ _ _ _ (E.out.arr 2 rfl)).mono ?_
  rintro e w3 ⟨rfl, hb⟩
  replace E := hid (E.out.up hb)
  clear hb
  go_upto_if 31 with (fail)
  go_cut [] (fun wc => ∃ fa fc fn fnc fi fic, Env w S wc [.obj w.heap.size (.cells #[.int .i64 F.kind, .slice fa F.shape.length fc, .slice fn F.nums.length fnc, .slice fi F.items.length fic] 26 (0, 0)), .obj (w.heap.size + 1) (.cells #[.int .i64 0, .slice none 0 0, .slice none 0 0, .slice none 0 0] 26 (0, 0)), .ints s so, .arr F fa fn fi])
  case first =>
    by_cases z : y.nums.length + y.items.length = 0
    case pos =>
      have zb : (((szN y.kind y.nums.length y.items.length : Nat) : Int) == 0) = true := by rw [hzb.out]; simpa using z
      have hFF : F = fillS y := by rw [hF]; exact if_pos z
      replace hF := hid hF
      replace hFF := hid hFF
      replace z := hid z
      obtain ⟨q00, q01, q02, q03⟩ := (E.out.hdr 0 rfl).all
      go_wp2_with fail
      clear q00 q01 q02 q03
      refine (fill_array_Fill y _ _ _ _ _ _ w3).mono ?_
      rintro e w5 ⟨fa, fc, fn, fnc, fi, fic, rfl, aF, hb⟩
      rw [← hFF.out] at aF
      rw [← hFF.out]
      replace E := hid ((E.out.up hb).addArr aF (fun b _ hq => E.out.fresh (Ext.refl _) hq))
      go_wp2_with (refine wpl_store4 rfl (.tmp 3) (.tmp 33) rfl _ rfl rfl (E.out.hdr 0 rfl) ?_; intro V1 HV1 C1; replace E := hid (E.out.chg 0 rfl C1 HV1))
      go_meet
      case rel => exact ⟨fa, fc, fn, fnc, fi, fic, E.out.sub (by simp [List.Sublist.refl])⟩
    case neg =>
      have zb : (((szN y.kind y.nums.length y.items.length : Nat) : Int) == 0) = false := by rw [hzb.out]; simpa using z
      have hFF : F = y := by rw [hF]; exact if_neg z
      replace hF := hid hF
      replace z := hid z
      go_wp2_with fail
      go_meet
      case rel =>
        subst hFF
        exact ⟨sy, cy, ny, my, iy, jy, (E.out.addArr (E.out.arr 2 rfl) (fun _ _ h => h)).sub (by simp [List.Sublist.refl])⟩
  case rest =>
  clear E
  obtain ⟨fa, fc, fn, fnc, fi, fic, E⟩ := hcut
  replace hF := hid hF
  replace E := hid E
  go_upto_region 11 with (fail)
  obtain ⟨q00, q01, q02, q03⟩ := (E.out.hdr 0 rfl).all
  refine wp_region_mono_tail 6 (Sees wc [(⟨w.heap.size, 0, none⟩, .int .i64 F.kind)]) [3, 5] (fun k v u u' => match k with | 3 => ∃ ao cap, v = .slice ao s.length cap ∧ OwnI u' u.heap.size ao cap s | 5 => v = .pointer (some ⟨u.heap.size, 0, none⟩) ∧ u' = u.alloc (.cells #[.int .i64 0, .slice none 0 0, .slice none 0 0, .slice none 0 0] 26) | _ => False) (fun _ _ h e => h.up e) (Sees.start (all_cons (q00) (all_nil))) (by kernel_rfl) (by kernel_rfl) ?_
  simp only [List.take_succ_cons, List.take_zero, List.drop_succ_cons, List.drop_zero]
  repeat (first | (refine m_plain (v := ?_) (by rfl) (by rfl) ?_ ?_; rotate_left; (intro wz hSw; obtain ⟨-, hSc⟩ := hSw; (try simp only [List.forall_mem_cons, List.forall_mem_nil, and_true] at hSc); go_simp; (first | done | with_reducible rfl)); (intro K hK; (try simp only [Act.put, List.setIfInBounds_toArray, List.set_cons_zero, List.set_cons_succ]); refine hK _ _ ?_; clear hK K)) | (refine m_skip (by rfl) (by rfl) ?_; (intro K hK; (try simp only [Act.put, List.setIfInBounds_toArray, List.set_cons_zero, List.set_cons_succ]); refine hK _ _ ?_; clear hK K)))
  refine m_make (by rfl) (by rfl) ?_ ?_
  · intro wz hSw hdep R hRz
    obtain ⟨hSe, hSc⟩ := hSw
    (try simp only [List.forall_mem_cons, List.forall_mem_nil, and_true] at hSc)
    unfold does
    (go_simp; refine Calls.mono (slices_Clone s _ _ _ wz ((E.out.ints 2 rfl).up hSe)) ?_; rintro e wq ⟨ta, tc, rfl, hq, hqb⟩; exact ⟨_, rfl, hRz.out _ _ ⟨hqb, ta, tc, rfl, hq⟩⟩)
  intro v3 u3 x3 hG3 K hK
  have hF3 := hG3.fact
  (try dsimp only at hF3)
  obtain ⟨ta, tc, rfl, ht⟩ := hF3
  (try simp only [Act.put, List.setIfInBounds_toArray, List.set_cons_zero, List.set_cons_succ]); refine hK _ _ ?_; clear hK K
  repeat (first | (refine m_plain (v := ?_) (by rfl) (by rfl) ?_ ?_; rotate_left; (intro wz hSw; obtain ⟨-, hSc⟩ := hSw; (try simp only [List.forall_mem_cons, List.forall_mem_nil, and_true] at hSc); go_simp; (first | done | with_reducible rfl)); (intro K hK; (try simp only [Act.put, List.setIfInBounds_toArray, List.set_cons_zero, List.set_cons_succ]); refine hK _ _ ?_; clear hK K)) | (refine m_skip (by rfl) (by rfl) ?_; (intro K hK; (try simp only [Act.put, List.setIfInBounds_toArray, List.set_cons_zero, List.set_cons_succ]); refine hK _ _ ?_; clear hK K)))
  refine m_make (by rfl) (by rfl) ?_ ?_
  · intro wz hSw hdep R hRz
    obtain ⟨hSe, hSc⟩ := hSw
    (try simp only [List.forall_mem_cons, List.forall_mem_nil, and_true] at hSc)
    unfold does
    (go_simp; exact hRz.out _ _ ⟨ext_alloc _ _, rfl, rfl⟩)
  intro v5 u5 x5 hG5 K hK
  have hF5 := hG5.fact
  (try dsimp only at hF5)
  obtain ⟨rfl, rfl⟩ := hF5
  (try simp only [Act.put, List.setIfInBounds_toArray, List.set_cons_zero, List.set_cons_succ]); refine hK _ _ ?_; clear hK K
  repeat (first | (refine m_plain (v := ?_) (by rfl) (by rfl) ?_ ?_; rotate_left; (intro wz hSw; obtain ⟨-, hSc⟩ := hSw; (try simp only [List.forall_mem_cons, List.forall_mem_nil, and_true] at hSc); go_simp; (first | done | with_reducible rfl)); (intro K hK; (try simp only [Act.put, List.setIfInBounds_toArray, List.set_cons_zero, List.set_cons_succ]); refine hK _ _ ?_; clear hK K)) | (refine m_skip (by rfl) (by rfl) ?_; (intro K hK; (try simp only [Act.put, List.setIfInBounds_toArray, List.set_cons_zero, List.set_cons_succ]); refine hK _ _ ?_; clear hK K)))
  refine m_nil ?_
  intro wf hSf hAf
  have hcap := hid ht.cap
  replace E := hid (E.out.madeI ((ht.ints hsl).mono fun b _ hb => hb.1) (hAf 3 _ rfl) (hG5.order 3 _ rfl) hG3.s.1 hG5.s.1 (hAf 5 _ rfl) hSf.1)
  clear hSf hAf hG3 hG5 ht
  clear q00 q01 q02 q03
  (try simp only [List.cons_append, List.nil_append, List.set_cons_zero, List.set_cons_succ] at E)
  generalize u5.heap.size = bo at E ⊢
  refine wpl_store4 rfl (.tmp 6) (.tmp 38) rfl _ rfl rfl (E.out.hdr 4 rfl) ?_
  intro V1 HV CV
  replace E := hid (E.out.chg 4 rfl CV HV)
  clear HV CV
  (try simp only [List.cons_append, List.nil_append, List.set_cons_zero, List.set_cons_succ] at E)
  go_wp2_with fail
  refine (shape_Size s _ _ _ _ (E.out.ints 2 rfl)).mono ?_
  rintro e w6 ⟨rfl, rfl⟩
  rw [hcn.out]
  by_cases k3 : F.kind = 3
  case pos =>
    have ky : y.kind = 3 := by rw [← hfk.out]; exact k3
    obtain rfl : H = F.items.length := hHk.out.1 ky
    have hw2 := hid (hw.out ky)
    have h02 := hid (fun q => h00.out (fun _ => q))
    have hI0 : ofI F F.items.length 0 = [] := by unfold ofI; rw [if_pos k3]; simp [pickA]
    have hIs := hid (fun m => show ofI F F.items.length (m + 1) = ofI F F.items.length m ++ [F.items.getD (m % F.items.length) .zero] by
      have hix : (modF F.items.length m).toNat = m % F.items.length := by unfold modF; omega
      unfold ofI; rw [if_pos k3, if_pos k3, pickA_succ, hix])
    have hN3 : Hid (∀ m, ofN F F.items.length m = []) := hid (fun m => by unfold ofN; rw [if_pos k3])
    have kb : (F.kind != 3) = false := by simp [k3]
    have hFi : F.items.length ≤ 1759218604441 := (E.out.arr 3 rfl).len
    have hv2 := hv.out
    replace k3 := hid k3
    replace ky := hid ky
    replace E := hid E.out.row0A
    (try simp only [List.cons_append, List.nil_append, List.set_cons_zero, List.set_cons_succ] at E)
    replace hI0 := hid hI0
    go_wp2_with fail
    go_loopw [7, 41] (fun g i wr => ∃ (m : Nat) (ia : Option Addr) (ic : Nat), m ≤ n ∧ i = .int .i64 m ∧ g = .int .i64 (rwS F.items F.items.length m) ∧ rwS F.items F.items.length m ≤ 262144 ∧ Env w S wr [.obj w.heap.size (.cells #[.int .i64 F.kind, .slice fa F.shape.length fc, .slice fn F.nums.length fnc, .slice fi F.items.length fic] 26 (0, 0)), .obj (w.heap.size + 1) (.cells #[.int .i64 0, .slice none 0 0, .slice none 0 0, .slice none 0 0] 26 (0, 0)), .ints s so, .arr F fa fn fi, .obj bo (.cells #[.int .i64 F.kind, .slice ta s.length tc, .slice none 0 0, .slice ia (ofI F F.items.length m).length ic] 26 (0, 0)), .ints s ta, .rowA ia ic (ofI F F.items.length m)]) (fun _ i _ => n - (intOf i).toNat)
    case atStart => exact ⟨0, none, 0, Nat.zero_le _, rfl, by simp [rwS], by simp [rwS], by rw [hI0.out]; exact E.out⟩
    case round =>
      clear E
      obtain ⟨m, ia, ic, hm, rfl, rfl, hwt, E⟩ := hrel
      replace E := hid E
      by_cases hlt : m < n
      case pos =>
        have hml : m % F.items.length < F.items.length := Nat.mod_lt _ hv2
        have hmod : ((m : Nat) : Int).tmod (F.items.length : Int) = ((m % F.items.length : Nat) : Int) := rfl
        have hH0 : ((F.items.length : Int) == 0) = false := beq_eq_false_iff_ne.2 (by omega)
        have hH1 : ¬ (F.items.length : Int) = 0 := by omega
        have hH2 : ¬ F.items.length = 0 := by omega
        obtain ⟨b', off', sz, cz, nz, mz, iz, jz, hna, hSb', hbl', e0, e1, e2, e3, hz⟩ := (E.out.arr 3 rfl).items.at hml
        have hgd : F.items.getD (m % F.items.length) .zero = F.items[m % F.items.length] := by simp [hml]
        have hI1 := hIs.out m
        have hrs : rwS F.items F.items.length (m + 1) = rwS F.items F.items.length m + (1 + wtS F.items[m % F.items.length]) := by rw [← hgd]; rfl
        have hmo := rwS_mono F.items F.items.length (show m + 1 ≤ n by omega)
        have hw0 := rwS_bd F.items F.items.length m
        have hlI := ofI_len F F.items.length m
        rw [hgd] at hI1
        clear hgd
        generalize F.items[m % F.items.length] = z at hI1 hrs e0 e1 e2 e3 hz
        generalize m % F.items.length = t at hml hmod e0 e1 e2 e3
        have hz0 := wtS_bd z
        have hov : Hid (262144 < rwS F.items F.items.length m + (1 + wtS z) → ofE s y = 21) := hid (fun q => hw2.out (by omega))
        replace hrs := hid hrs
        clear hmo
        have tt0 : (0 : Int) ≤ (t : Int) := by omega
        have tt1 : (t : Int) < (F.items.length : Int) := by omega
        obtain ⟨cur, hcur⟩ : ∃ c, c = ofI F F.items.length m := ⟨_, rfl⟩
        rw [← hcur] at E hI1 hlI
        replace hcur := hid hcur
        replace hI1 := hid hI1
        have hll : cur.length + [z].length ≤ 1759218604441 := by simp only [List.length_cons, List.length_nil]; omega
        replace E := hid (E.out.addArr hz (fun _ _ h => h))
        clear hz
        (try simp only [List.cons_append, List.nil_append, List.set_cons_zero, List.set_cons_succ] at E)
        replace hna := hid hna
        obtain ⟨q00, q01, q02, q03⟩ := (E.out.hdr 0 rfl).all
        rw [hna.out] at q03
        go_upto_region 18 with (fail)
        refine wp_region_mono_tail 10 (Sees wr [(⟨w.heap.size, 3, none⟩, .slice (some ⟨b', off', none⟩) F.items.length fic), (⟨b', off' + t * 4, none⟩, .int .i64 z.kind), (⟨b', off' + t * 4 + 1, none⟩, .slice sz z.shape.length cz), (⟨b', off' + t * 4 + 2, none⟩, .slice nz z.nums.length mz), (⟨b', off' + t * 4 + 3, none⟩, .slice iz z.items.length jz)]) [9] (fun k v u u' => match k with | 9 => v = .pointer (some ⟨u.heap.size, 0, none⟩) ∧ u' = u.alloc (.cells #[.int .i64 0, .slice none 0 0, .slice none 0 0, .slice none 0 0] 26) | _ => False) (fun _ _ h e => h.up e) (Sees.start (all_cons (q03) (all_cons (e0) (all_cons (e1) (all_cons (e2) (all_cons (e3) (all_nil))))))) (by kernel_rfl) (by kernel_rfl) ?_
        simp only [List.take_succ_cons, List.take_zero, List.drop_succ_cons, List.drop_zero]
        repeat (first | (refine m_plain (v := ?_) (by rfl) (by rfl) ?_ ?_; rotate_left; (intro wz hSw; obtain ⟨-, hSc⟩ := hSw; (try simp only [List.forall_mem_cons, List.forall_mem_nil, and_true] at hSc); go_simp; (first | done | with_reducible rfl)); (intro K hK; (try simp only [Act.put, List.setIfInBounds_toArray, List.set_cons_zero, List.set_cons_succ]); refine hK _ _ ?_; clear hK K)) | (refine m_skip (by rfl) (by rfl) ?_; (intro K hK; (try simp only [Act.put, List.setIfInBounds_toArray, List.set_cons_zero, List.set_cons_succ]); refine hK _ _ ?_; clear hK K)))
        refine m_make (by rfl) (by rfl) ?_ ?_
        · intro wz hSw hdep R hRz
          obtain ⟨hSe, hSc⟩ := hSw
          (try simp only [List.forall_mem_cons, List.forall_mem_nil, and_true] at hSc)
          unfold does
          (go_simp; exact hRz.out _ _ ⟨ext_alloc _ _, rfl, rfl⟩)
        intro v9 u9 x9 hG9 K hK
        have hF9 := hG9.fact
        (try dsimp only at hF9)
        obtain ⟨rfl, rfl⟩ := hF9
        (try simp only [Act.put, List.setIfInBounds_toArray, List.set_cons_zero, List.set_cons_succ]); refine hK _ _ ?_; clear hK K
        repeat (first | (refine m_plain (v := ?_) (by rfl) (by rfl) ?_ ?_; rotate_left; (intro wz hSw; obtain ⟨-, hSc⟩ := hSw; (try simp only [List.forall_mem_cons, List.forall_mem_nil, and_true] at hSc); go_simp; (first | done | with_reducible rfl)); (intro K hK; (try simp only [Act.put, List.setIfInBounds_toArray, List.set_cons_zero, List.set_cons_succ]); refine hK _ _ ?_; clear hK K)) | (refine m_skip (by rfl) (by rfl) ?_; (intro K hK; (try simp only [Act.put, List.setIfInBounds_toArray, List.set_cons_zero, List.set_cons_succ]); refine hK _ _ ?_; clear hK K)))
        refine m_nil ?_
        intro wf hSf hAf
        replace E := hid (E.out.made hG9.s.1 (hAf 9 _ rfl) hSf.1)
        clear hSf hAf hG9 e0 e1 e2 e3 tt0 tt1
        clear q00 q01 q02 q03
        (try simp only [List.cons_append, List.nil_append, List.set_cons_zero, List.set_cons_succ] at E)
        generalize u9.heap.size = bz at E ⊢
        refine wpl_store4 rfl (.tmp 9) (.tmp 69) rfl _ rfl rfl (E.out.hdr 8 rfl) ?_
        intro V2 H1 C1
        replace E := hid (E.out.chg 8 rfl C1 H1)
        clear H1 C1
        (try simp only [List.cons_append, List.nil_append, List.set_cons_zero, List.set_cons_succ] at E)
        obtain ⟨q80, q81, q82, q83⟩ := (E.out.hdr 8 rfl).all
        go_wp2_with fail
        clear q80 q81 q82 q83
        refine (array_Weight z _ _ _ _ _ _ _ V2 (E.out.arr 7 rfl)).mono ?_
        rintro e w7 ⟨rfl, hb⟩
        replace E := hid (E.out.up hb)
        clear hb
        by_cases hov2 : 262144 < rwS F.items F.items.length m + (1 + wtS z)
        case pos =>
          have hE := hid (hov.out hov2)
          have hS := hid (ofS_no (s := s) (y := y) (by rw [hE.out]; decide))
          go_wp2_with (refine wpl_store4 rfl (.tmp 4) (.tmp 77) rfl _ rfl rfl (E.out.hdr 1 rfl) ?_; intro V HV CV; replace E := hid (E.out.chg 1 rfl CV HV))
          exact bodyPost_ret (end_arr2 rfl HV rfl rfl) rfl (hR.out _ _ (RetAEC.zero hS.out hE.out E.out.ext))
        case neg =>
          obtain ⟨q40, q41, q42, q43⟩ := (E.out.hdr 4 rfl).all
          obtain ⟨q80, q81, q82, q83⟩ := (E.out.hdr 8 rfl).all
          go_upto_region 22 with (fail)
          refine wp_region_mono_tail 5 (Sees w7 [(⟨bo, 3, none⟩, .slice ia cur.length ic), (⟨bz, 0, none⟩, .int .i64 z.kind), (⟨bz, 1, none⟩, .slice sz z.shape.length cz), (⟨bz, 2, none⟩, .slice nz z.nums.length mz), (⟨bz, 3, none⟩, .slice iz z.items.length jz)]) [3, 4] (fun k v u u' => match k with | 3 => RetA u (fun b => w7.heap.size ≤ b) z (.returned v) u' | 4 => ∃ sa sc na nc ia ic, v = .slice (some ⟨u.heap.size, 0, none⟩) 1 1 ∧ u' = u.alloc (.cells #[.int .i64 z.kind, .slice sa z.shape.length sc, .slice na z.nums.length nc, .slice ia z.items.length ic] 26) ∧ ArrAt u (fun b => w7.heap.size ≤ b) z sa na ia | _ => False) (fun _ _ h e => h.up e) (Sees.start (all_cons (q43) (all_cons (q80) (all_cons (q81) (all_cons (q82) (all_cons (q83) (all_nil))))))) (by kernel_rfl) (by kernel_rfl) ?_
          simp only [List.take_succ_cons, List.take_zero, List.drop_succ_cons, List.drop_zero]
          repeat (first | (refine m_plain (v := ?_) (by rfl) (by rfl) ?_ ?_; rotate_left; (intro wz hSw; obtain ⟨-, hSc⟩ := hSw; (try simp only [List.forall_mem_cons, List.forall_mem_nil, and_true] at hSc); go_simp; (first | done | with_reducible rfl)); (intro K hK; (try simp only [Act.put, List.setIfInBounds_toArray, List.set_cons_zero, List.set_cons_succ]); refine hK _ _ ?_; clear hK K)) | (refine m_skip (by rfl) (by rfl) ?_; (intro K hK; (try simp only [Act.put, List.setIfInBounds_toArray, List.set_cons_zero, List.set_cons_succ]); refine hK _ _ ?_; clear hK K)))
          refine m_make (by rfl) (by rfl) ?_ ?_
          · intro wz hSw hdep R hRz
            obtain ⟨hSe, hSc⟩ := hSw
            (try simp only [List.forall_mem_cons, List.forall_mem_nil, and_true] at hSc)
            unfold does
            (go_simp; refine Calls.mono (array_Clone z _ _ _ _ _ _ _ wz ((E.out.arr 7 rfl).up hSe)) ?_; rintro e wq ⟨ta, tc, tn, tnc, ti, tic, rfl, hq, hqb⟩; exact ⟨_, rfl, hRz.out _ _ ⟨hqb, ta, tc, tn, tnc, ti, tic, rfl, ArrAt.mono (fun b _ hb => Nat.le_trans (Below.size hSe) hb) z hq, hqb⟩⟩)
          intro v3 u3 x3 hG3 K hK
          have hF3 := hG3.fact
          (try dsimp only at hF3)
          obtain ⟨s3, c3, n3, m3, i3, j3, he, hA3, hb3⟩ := hF3
          injection he with he
          subst he
          (try simp only [Act.put, List.setIfInBounds_toArray, List.set_cons_zero, List.set_cons_succ]); refine hK _ _ ?_; clear hK K
          repeat (first | (refine m_plain (v := ?_) (by rfl) (by rfl) ?_ ?_; rotate_left; (intro wz hSw; obtain ⟨-, hSc⟩ := hSw; (try simp only [List.forall_mem_cons, List.forall_mem_nil, and_true] at hSc); go_simp; (first | done | with_reducible rfl)); (intro K hK; (try simp only [Act.put, List.setIfInBounds_toArray, List.set_cons_zero, List.set_cons_succ]); refine hK _ _ ?_; clear hK K)) | (refine m_skip (by rfl) (by rfl) ?_; (intro K hK; (try simp only [Act.put, List.setIfInBounds_toArray, List.set_cons_zero, List.set_cons_succ]); refine hK _ _ ?_; clear hK K)))
          refine m_make (by rfl) (by rfl) ?_ ?_
          · intro wz hSw hdep R hRz
            obtain ⟨hSe, hSc⟩ := hSw
            (try simp only [List.forall_mem_cons, List.forall_mem_nil, and_true] at hSc)
            unfold does
            (go_simp; exact hRz.out _ _ ⟨ext_alloc _ _, s3, c3, n3, m3, i3, j3, rfl, rfl, hA3.up (hdep 3 _ rfl (depB_sound (f := 60) (by kernel_rfl)))⟩)
          intro v4 u4 x4 hG4 K hK
          have hF4 := hG4.fact
          (try dsimp only at hF4)
          obtain ⟨s4, c4, n4, m4, i4, j4, rfl, rfl, hA4⟩ := hF4
          (try simp only [Act.put, List.setIfInBounds_toArray, List.set_cons_zero, List.set_cons_succ]); refine hK _ _ ?_; clear hK K
          repeat (first | (refine m_plain (v := ?_) (by rfl) (by rfl) ?_ ?_; rotate_left; (intro wz hSw; obtain ⟨-, hSc⟩ := hSw; (try simp only [List.forall_mem_cons, List.forall_mem_nil, and_true] at hSc); go_simp; (first | done | with_reducible rfl)); (intro K hK; (try simp only [Act.put, List.setIfInBounds_toArray, List.set_cons_zero, List.set_cons_succ]); refine hK _ _ ?_; clear hK K)) | (refine m_skip (by rfl) (by rfl) ?_; (intro K hK; (try simp only [Act.put, List.setIfInBounds_toArray, List.set_cons_zero, List.set_cons_succ]); refine hK _ _ ?_; clear hK K)))
          refine m_nil ?_
          intro wf2 hSf hAf
          have oF := hid (box_items (hAf 4 _ rfl) (Below.size hG4.s.1) hA4)
          have hfr : Hid (∀ b, b < wf2.heap.size → w7.heap.size ≤ b → Tst w S _ b) := hid (fun b _ hb => E.out.fresh (Ext.refl _) hb)
          replace E := hid (E.out.up hSf.1)
          clear hSf hAf hG3 hG4 hA3 hA4 hb3
          clear q40 q41 q42 q43 q80 q81 q82 q83
          refine wplE_addA E.out 4 6 rfl rfl (by decide) rfl rfl rfl (.tmp 79) (.tmp 82) (.tmp 6) (.tmp 84) (.tmp 83) rfl rfl rfl _ _ 1 [z] rfl rfl oF.out hfr.out hll (fun _ => rfl) (fun _ _ => rfl) (fun _ _ => rfl) ?_
          intro V na' nc' E'
          clear E oF hfr
          have E := hid E'
          clear E'
          (try simp only [List.cons_append, List.nil_append, List.set_cons_zero, List.set_cons_succ] at E)
          go_wp2_with fail
          go_roundw
          case rel => exact ⟨m + 1, na', nc', by omega, by go_num, by rw [hrs.out], by rw [hrs.out]; omega, by rw [hI1.out]; exact E.out.sub (List.Sublist.cons_cons _ (List.Sublist.cons_cons _ (List.Sublist.cons_cons _ (List.Sublist.cons_cons _ (List.Sublist.cons_cons _ (List.Sublist.cons_cons _ (List.Sublist.cons_cons _ (List.nil_sublist _))))))))⟩
          case measure => simp [intOf]; omega
      case neg =>
        have hmn : m = n := by omega
        have hE : Hid (ofE s y = 0) := hid (h02.out (by rw [← hmn]; exact hwt))
        have hS : Hid (ofS s y = .mk F.kind s [] (ofI F F.items.length m)) := hid (by rw [hsy.out hE.out, of_gath, hN3.out, ← hmn])
        have hlI := ofI_len F F.items.length m
        have t2 : ¬ (m : Int) < (n : Int) := by omega
        replace hmn := hid hmn
        obtain ⟨cur, hcur⟩ : ∃ c, c = ofI F F.items.length m := ⟨_, rfl⟩
        rw [← hcur] at E hlI hS
        replace hcur := hid hcur
        obtain ⟨q40, q41, q42, q43⟩ := (E.out.hdr 4 rfl).all
        go_wp2_with (refine wpl_store4 rfl (.tmp 4) (.tmp 86) rfl _ rfl rfl (E.out.hdr 1 rfl) ?_; intro V2 HV CV; replace E := hid (E.out.chg 1 rfl CV HV); (try simp only [List.cons_append, List.nil_append, List.set_cons_zero, List.set_cons_succ] at E))
        have c3 := OwnA.cap (E.out.rowA 6 rfl)
        replace E := hid (E.out.doneA 6 rfl)
        (try simp only [List.cons_append, List.nil_append, List.set_cons_zero, List.set_cons_succ] at E)
        refine bodyPost_ret (end_arr2 rfl HV rfl rfl) rfl (hR.out _ _ ?_)
        exact RetAEC.of hS.out hE.out rfl ((E.out.ints 5 rfl).mono fun b _ h => h.1) (IntsAt.nil _ _ none) (by omega) ((E.out.items 6 rfl).mono fun b _ h => h.1) E.out.ext hcap.out (Nat.zero_le _) c3
  case neg =>
    have ky : y.kind ≠ 3 := by rw [← hfk.out]; exact k3
    obtain rfl : H = F.nums.length := hHk.out.2 ky
    have hE := hid (h00.out (fun q => absurd q ky))
    have hN0 : ofN F F.nums.length 0 = [] := by unfold ofN; rw [if_neg k3]; simp [pickN]
    have hNs := hid (fun m => show ofN F F.nums.length (m + 1) = ofN F F.nums.length m ++ [F.nums.getD (m % F.nums.length) 0] by
      have hix : (modF F.nums.length m).toNat = m % F.nums.length := by unfold modF; omega
      unfold ofN; rw [if_neg k3, if_neg k3, pickN_succ, hix])
    have hI3 : Hid (∀ m, ofI F F.nums.length m = []) := hid (fun m => by unfold ofI; rw [if_neg k3])
    have kb : (F.kind != 3) = true := by simp [k3]
    have hFn : F.nums.length ≤ 17592186044416 := (E.out.arr 3 rfl).nums.1
    have hv2 := hv.out
    replace k3 := hid k3
    replace ky := hid ky
    replace E := hid E.out.row0I
    (try simp only [List.cons_append, List.nil_append, List.set_cons_zero, List.set_cons_succ] at E)
    replace hN0 := hid hN0
    go_wp2_with fail
    go_loopw [41] (fun i wr => ∃ (m : Nat) (na : Option Addr) (nc : Nat), m ≤ n ∧ i = .int .i64 m ∧ Env w S wr [.obj w.heap.size (.cells #[.int .i64 F.kind, .slice fa F.shape.length fc, .slice fn F.nums.length fnc, .slice fi F.items.length fic] 26 (0, 0)), .obj (w.heap.size + 1) (.cells #[.int .i64 0, .slice none 0 0, .slice none 0 0, .slice none 0 0] 26 (0, 0)), .ints s so, .arr F fa fn fi, .obj bo (.cells #[.int .i64 F.kind, .slice ta s.length tc, .slice na (ofN F F.nums.length m).length nc, .slice none 0 0] 26 (0, 0)), .ints s ta, .rowI na nc (ofN F F.nums.length m)]) (fun i _ => n - (intOf i).toNat)
    case atStart => exact ⟨0, none, 0, Nat.zero_le _, rfl, by rw [hN0.out]; exact E.out⟩
    case round =>
      clear E
      obtain ⟨m, na, nc, hm, rfl, E⟩ := hrel
      replace E := hid E
      by_cases hlt : m < n
      case pos =>
        have hml : m % F.nums.length < F.nums.length := Nat.mod_lt _ hv2
        have hmod : ((m : Nat) : Int).tmod (F.nums.length : Int) = ((m % F.nums.length : Nat) : Int) := rfl
        have hH0 : ((F.nums.length : Int) == 0) = false := beq_eq_false_iff_ne.2 (by omega)
        have hH1 : ¬ (F.nums.length : Int) = 0 := by omega
        have hH2 : ¬ F.nums.length = 0 := by omega
        obtain ⟨b', off', hna, hbl', hSb', hc'⟩ := (E.out.arr 3 rfl).nums.at hml
        have hN1 := hNs.out m
        have hlN := ofN_len F F.nums.length m
        generalize F.nums.getD (m % F.nums.length) 0 = dd at hN1 hc'
        generalize m % F.nums.length = t at hml hc' hmod
        have tt0 : (0 : Int) ≤ (t : Int) := by omega
        have tt1 : (t : Int) < (F.nums.length : Int) := by omega
        obtain ⟨cur, hcur⟩ : ∃ c, c = ofN F F.nums.length m := ⟨_, rfl⟩
        rw [← hcur] at E hN1 hlN
        replace hcur := hid hcur
        replace hN1 := hid hN1
        replace hna := hid hna
        obtain ⟨q00, q01, q02, q03⟩ := (E.out.hdr 0 rfl).all
        obtain ⟨q40, q41, q42, q43⟩ := (E.out.hdr 4 rfl).all
        rw [hna.out] at q02
        go_upto_region 17 with (fail)
        refine wp_region_mono_tail 12 (Sees wr [(⟨bo, 2, none⟩, .slice na cur.length nc), (⟨w.heap.size, 2, none⟩, .slice (some ⟨b', off', none⟩) F.nums.length fnc), (⟨b', off' + t, none⟩, .int .i64 dd)]) [11] (fun k v u u' => match k with | 11 => v = .slice (some ⟨u.heap.size, 0, none⟩) 1 1 ∧ u' = u.alloc (.cells (([dd] : List Int).map (Value.int .i64)).toArray 3) | _ => False) (fun _ _ h e => h.up e) (Sees.start (all_cons (q42) (all_cons (q02) (all_cons (hc') (all_nil))))) (by kernel_rfl) (by kernel_rfl) ?_
        simp only [List.take_succ_cons, List.take_zero, List.drop_succ_cons, List.drop_zero]
        repeat (first | (refine m_plain (v := ?_) (by rfl) (by rfl) ?_ ?_; rotate_left; (intro wz hSw; obtain ⟨-, hSc⟩ := hSw; (try simp only [List.forall_mem_cons, List.forall_mem_nil, and_true] at hSc); go_simp; (first | done | with_reducible rfl)); (intro K hK; (try simp only [Act.put, List.setIfInBounds_toArray, List.set_cons_zero, List.set_cons_succ]); refine hK _ _ ?_; clear hK K)) | (refine m_skip (by rfl) (by rfl) ?_; (intro K hK; (try simp only [Act.put, List.setIfInBounds_toArray, List.set_cons_zero, List.set_cons_succ]); refine hK _ _ ?_; clear hK K)))
        refine m_make (by rfl) (by rfl) ?_ ?_
        · intro wz hSw hdep R hRz
          obtain ⟨hSe, hSc⟩ := hSw
          (try simp only [List.forall_mem_cons, List.forall_mem_nil, and_true] at hSc)
          unfold does
          (go_simp; exact hRz.out _ _ ⟨ext_alloc _ _, rfl, rfl⟩)
        intro v11 u11 x11 hG11 K hK
        have hF11 := hG11.fact
        (try dsimp only at hF11)
        obtain ⟨rfl, rfl⟩ := hF11
        (try simp only [Act.put, List.setIfInBounds_toArray, List.set_cons_zero, List.set_cons_succ]); refine hK _ _ ?_; clear hK K
        repeat (first | (refine m_plain (v := ?_) (by rfl) (by rfl) ?_ ?_; rotate_left; (intro wz hSw; obtain ⟨-, hSc⟩ := hSw; (try simp only [List.forall_mem_cons, List.forall_mem_nil, and_true] at hSc); go_simp; (first | done | with_reducible rfl)); (intro K hK; (try simp only [Act.put, List.setIfInBounds_toArray, List.set_cons_zero, List.set_cons_succ]); refine hK _ _ ?_; clear hK K)) | (refine m_skip (by rfl) (by rfl) ?_; (intro K hK; (try simp only [Act.put, List.setIfInBounds_toArray, List.set_cons_zero, List.set_cons_succ]); refine hK _ _ ?_; clear hK K)))
        refine m_nil ?_
        intro wf hSf hAf
        have oF : Hid (IntsAt wf (fun b => u11.heap.size ≤ b) (some ⟨u11.heap.size, 0, none⟩) [dd]) := hid (lit_at (l := [dd]) (hAf 11 _ rfl) (by simp))
        replace E := hid (E.out.up hSf.1)
        clear hSf hAf hG11 hc' tt0 tt1
        clear q00 q01 q02 q03 q40 q41 q42 q43
        refine wplE_addN E.out 4 6 rfl rfl (by decide) rfl rfl rfl (.tmp 48) (.tmp 58) (.tmp 6) (.tmp 60) (.tmp 59) rfl rfl rfl _ _ 1 [dd] rfl rfl oF.out (by simp only [List.length_cons, List.length_nil]; omega) (fun _ => rfl) (fun _ _ => rfl) (fun _ _ => rfl) ?_
        intro V na' nc' E'
        clear E oF
        have E := hid E'
        clear E'
        (try simp only [List.cons_append, List.nil_append, List.set_cons_zero, List.set_cons_succ] at E)
        go_wp2_with fail
        go_roundw
        case rel => exact ⟨m + 1, na', nc', by omega, by go_num, by rw [hN1.out]; exact E.out⟩
        case measure => simp [intOf]; omega
      case neg =>
        have hmn : m = n := by omega
        have hS : Hid (ofS s y = .mk F.kind s (ofN F F.nums.length m) []) := hid (by rw [hsy.out hE.out, of_gath, hI3.out, ← hmn])
        have hlN := ofN_len F F.nums.length m
        have t2 : ¬ (m : Int) < (n : Int) := by omega
        replace hmn := hid hmn
        obtain ⟨cur, hcur⟩ : ∃ c, c = ofN F F.nums.length m := ⟨_, rfl⟩
        rw [← hcur] at E hlN hS
        replace hcur := hid hcur
        obtain ⟨q40, q41, q42, q43⟩ := (E.out.hdr 4 rfl).all
        go_wp2_with (refine wpl_store4 rfl (.tmp 4) (.tmp 86) rfl _ rfl rfl (E.out.hdr 1 rfl) ?_; intro V2 HV CV; replace E := hid (E.out.chg 1 rfl CV HV); (try simp only [List.cons_append, List.nil_append, List.set_cons_zero, List.set_cons_succ] at E))
        have c2 := OwnI.cap (E.out.rowI 6 rfl)
        replace E := hid (E.out.doneI 6 rfl (by omega))
        (try simp only [List.cons_append, List.nil_append, List.set_cons_zero, List.set_cons_succ] at E)
        refine bodyPost_ret (end_arr2 rfl HV rfl rfl) rfl (hR.out _ _ ?_)
        exact RetAEC.of hS.out hE.out rfl ((E.out.ints 5 rfl).mono fun b _ h => h.1) ((E.out.ints 6 rfl).mono fun b _ h => h.1) (Nat.zero_le _) (by simp only [ItemsAt]) E.out.ext hcap.out c2 (Nat.zero_le _)
end Go.Proofs.YtdobnkbmjkcpoaaDoor
