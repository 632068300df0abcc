/- ref03.Of: contract. Conditions: the shape and the array are read. -/
import Derived.Test.YtdobnkbmjkcpoaaDoorGK
import Derived.Test.YtdobnkbmjkcpoaaDoorPUT
import Derived.Test.YtdobnkbmjkcpoaaDoorGI
import Derived.Test.YtdobnkbmjkcpoaaDoorA17
set_option linter.unusedVariables false
set_option linter.unusedSimpArgs false
namespace Go.Proofs.YtdobnkbmjkcpoaaDoor
open Go.RowKit Go.Sort
attribute [local go_sem ↓] run_max2 run_min2
attribute [local go_sem] eql_ints_nil eql_arrs_nil
theorem szN_of {y : Arr} (h : rightS y = 0) : szN (fromS y).kind (fromS y).nums.length (fromS y).items.length = haveN y := by
  have hk := fromS_kind h
  obtain ⟨kk, _, _⟩ := right_ok h
  unfold szN haveN
  rw [hk]
  split
  · rw [if_neg (by omega)]
  · rename_i q
    rw [if_pos (by omega), if_pos (by omega)]
theorem szN_no {y : Arr} (h : rightS y = 0) : (((szN y.kind y.nums.length y.items.length : Nat) : Int) == 0) = decide (y.nums.length + y.items.length = 0) := by
  obtain ⟨kk, _, hh⟩ := right_ok h
  unfold szN
  rcases hh with ⟨k, _, q⟩ | ⟨k, _, q⟩
  · rw [if_neg (by omega), if_pos k, Bool.eq_iff_iff, beq_iff_eq, decide_eq_true_iff]; omega
  · rw [if_pos (by omega), Bool.eq_iff_iff, beq_iff_eq, decide_eq_true_iff]; omega
/-- what Put adds for the element of an array -/
theorem putN_at {y : Arr} {k : Int} {nums : List Int} {i : Nat} (hk : k = y.kind) (h : i < szA y) : putN k nums (atS y i) = if y.kind = 3 then nums else nums ++ [y.nums.getD i 0] := by
  by_cases k3 : y.kind = 3
  · rw [putN_A (by omega), if_pos k3]
  · rw [putN_N (by omega), if_neg k3, atS_N (by omega) k3, Int.toNat_natCast]; rfl
theorem putI_at {y : Arr} {k : Int} {items : List Arr} {i : Nat} (hk : k = y.kind) (h : i < szA y) : putI k items (atS y i) = if y.kind = 3 then items ++ [y.items.getD i .zero] else items := by
  by_cases k3 : y.kind = 3
  · rw [putI_A (by omega), if_pos k3, atS_A (by omega) k3, Int.toNat_natCast]; rfl
  · rw [putI_N (by omega), if_neg k3]
theorem at_len (y : Arr) (i : Int) : (atS y i).nums.length ≤ 1 ∧ (atS y i).items.length ≤ 1 := by
  unfold atS
  split
  · simp [Arr.zero, Arr.nums, Arr.items]
  · split <;> simp [Arr.nums, Arr.items]
/-- the numbers, and the items, of the first m elements that Of picks -/
def ofN (F : Arr) (H m : Nat) : List Int := if F.kind = 3 then [] else pickN F.nums (modF H) m
def ofI (F : Arr) (H m : Nat) : List Arr := if F.kind = 3 then pickA F.items (modF H) m else []
theorem of_gath (F : Arr) (s : List Int) (H m : Nat) : gathS F s (modF H) m = .mk F.kind s (ofN F H m) (ofI F H m) := rfl
theorem ofN_succ {F : Arr} {H m : Nat} (hH : szA F = H) (h0 : 0 < H) : putN F.kind (ofN F H m) (atS F ((m % H : Nat) : Int)) = ofN F H (m + 1) := by
  have hix : (modF H m).toNat = m % H := by unfold modF; omega
  rw [putN_at rfl (by rw [hH]; exact Nat.mod_lt _ h0)]
  unfold ofN
  split
  · rfl
  · rw [pickN_succ, hix]
theorem ofI_succ {F : Arr} {H m : Nat} (hH : szA F = H) (h0 : 0 < H) : putI F.kind (ofI F H m) (atS F ((m % H : Nat) : Int)) = ofI F H (m + 1) := by
  have hix : (modF H m).toNat = m % H := by unfold modF; omega
  rw [putI_at rfl (by rw [hH]; exact Nat.mod_lt _ h0)]
  unfold ofI
  split
  · rw [pickA_succ, hix]
  · rfl
theorem ofN_len (F : Arr) (H m : Nat) : (ofN F H m).length ≤ m := by unfold ofN; split <;> simp [pickN_len]
theorem ofI_len (F : Arr) (H m : Nat) : (ofI F H m).length ≤ m := by unfold ofI; split <;> simp [pickA_len]
/-- the weight that Of has counted -/
def ofW (F : Arr) (H n m : Nat) : Int := if F.kind = 3 then rwS F.items H m + ((n : Int) - m) else n
theorem ofW_3 {F : Arr} (k : F.kind = 3) (H n m : Nat) : ofW F H n (m + 1) = ofW F H n m + wtS (F.items.getD (m % H) .zero) := by
  unfold ofW; rw [if_pos k, if_pos k, rwS]; omega
theorem ofW_N {F : Arr} (k : F.kind ≠ 3) (H n m : Nat) : ofW F H n m = n := if_neg k
theorem ofW_le {F : Arr} {H n m : Nat} (hm : m ≤ n) (h : 262144 < ofW F H n m) (hn : n ≤ 65536) : F.kind = 3 ∧ 262144 < rwS F.items H n := by
  unfold ofW at h
  split at h
  · rename_i k
    have := rwS_mono F.items H hm
    exact ⟨k, by omega⟩
  · omega
theorem ofW_n {F : Arr} {H n : Nat} (h : ofW F H n n ≤ 262144) (k : F.kind = 3) : rwS F.items H n ≤ 262144 := by
  unfold ofW at h; rw [if_pos k] at h; omega
set_option maxRecDepth 100000 in
set_option maxHeartbeats 8000000 in
theorem ref03_Of (s : List Int) (so : Option Addr) (sc : Nat) (y : Arr) (sy : Option Addr) (cy : Nat) (ny : Option Addr) (my : Nat) (iy : Option Addr) (jy : Nat) (S : Nat → Prop) (w : World) (h : ArrAt w S y sy ny iy) (g : IntsAt w S so s) :
    Calls Tryd.prog 42 #[.slice so s.length sc, .agg #[.int .i64 y.kind, .slice sy y.shape.length cy, .slice ny y.nums.length my, .slice iy y.items.length jy]] w (RetAEC w (fun b => S b ∨ w.heap.size ≤ b) (ofS s y) (ofE s y)) := by
  refine calls_post fun R' hR => ?_
  have h0 := hid h
  have g0 := hid g
  have hsl := g.1
  have hnl := h.nums.1
  have hil := h.len
  clear h g
  go_enter Tryd.func42, Tryd.ntmps42
  go_upto_region 1 with (fail)
  generalize hEW : ((w).alloc (.cells #[.int .i64 y.kind, .slice sy y.shape.length cy, .slice ny y.nums.length my, .slice iy y.items.length jy] 26)).alloc (.cells #[.int .i64 0, .slice none 0 0, .slice none 0 0, .slice none 0 0] 26) = W
  have E := hid (env2 w S hEW)
  clear hEW
  replace E := hid ((E.out.arg h0.out).argI g0.out)
  (try simp only [List.cons_append, List.nil_append, List.set_cons_zero, List.set_cons_succ] at E)
  obtain ⟨q00, q01, q02, q03⟩ := (E.out.hdr 0 rfl).all
  go_wp2_with fail
  clear q00 q01 q02 q03
  refine (ref03_Right y _ _ _ _ _ _ _ _ (E.out.arr 2 rfl)).mono ?_
  rintro e w1 ⟨rfl, hb⟩
  replace E := hid (E.out.up hb)
  clear hb
  by_cases c : rightS y = 0
  case neg =>
    have cb : (rightS y != 0) = true := by simpa using c
    have hn := hid (ofE_y (s := s) c)
    have hv := hid (ofS_no (s := s) (y := y) (by rw [hn.out]; decide))
    replace c := hid c
    go_wp2_with (refine wpl_store4 rfl (.tmp 4) (.tmp 15) rfl _ rfl rfl (E.out.hdr 1 rfl) ?_; intro V HV CV; replace E := hid (E.out.chg 1 rfl CV HV))
    exact bodyPost_ret (end_arr2 rfl HV rfl rfl) rfl (hR.out _ _ (RetAEC.zero hv.out hn.out E.out.ext))
  have cb : (rightS y != 0) = false := by simpa using c
  go_wp2_with fail
  refine (ref03_Dims s _ _ _ _ (E.out.ints 3 rfl)).mono ?_
  rintro e w2 ⟨rfl, rfl⟩
  by_cases d : dimsE s = 0
  case neg =>
    have db : (dimsE s != 0) = true := by simpa using d
    have hn := hid (ofE_d (s := s) c d)
    have hv := hid (ofS_no (s := s) (y := y) (by rw [hn.out]; exact d))
    replace c := hid c
    replace d := hid d
    go_wp2_with (refine wpl_store4 rfl (.tmp 4) (.tmp 20) rfl _ rfl rfl (E.out.hdr 1 rfl) ?_; intro V HV CV; replace E := hid (E.out.chg 1 rfl CV HV))
    exact bodyPost_ret (end_arr2 rfl HV rfl rfl) rfl (hR.out _ _ (RetAEC.zero hv.out hn.out E.out.ext))
  have db : (dimsE s != 0) = false := by simpa using d
  have hs : Hid (shapeB s = true) := hid (dimsE_zero.1 d)
  have hsF := hid (szN_of c)
  have hsA : Hid (szA (fromS y) = haveN y) := hid hsF.out
  have hv := hid (haveN_pos c)
  have hfk := hid (fromS_kind c)
  have hzb := hid (szN_no c)
  have hw := hid (fun q => ofE_w (s := s) c d q)
  have h00 := hid (fun q => ofE_0 (s := s) c d q)
  have hsy := hid (fun q => ofS_yes (s := s) (y := y) q)
  obtain ⟨F, hF⟩ : ∃ F, F = fromS y := ⟨_, rfl⟩
  obtain ⟨H, hH⟩ : ∃ H, H = haveN y := ⟨_, rfl⟩
  obtain ⟨n, hnn⟩ : ∃ n, n = (cnt s).toNat := ⟨_, rfl⟩
  have hcs := cnt_le hs.out
  have hn6 : n ≤ 65536 := by omega
  have hcn : Hid (cntC s = (n : Int)) := hid (by rw [cntC_eq hs.out]; omega)
  rw [← hF] at hsF hsA hfk hw h00 hsy
  rw [← hH] at hsF hsA hv hw h00 hsy
  rw [← hnn] at hw h00 hsy
  clear hcs
  replace hnn := hid hnn
  replace hH := hid hH
  replace c := hid c
  replace d := hid d
  obtain ⟨q00, q01, q02, q03⟩ := (E.out.hdr 0 rfl).all
  go_wp2_with fail
  clear q00 q01 q02 q03
  refine (size_ref03_Size y _ _ _ _ _ _ _ _ (E.out.arr 2 rfl)).mono ?_
  rintro e w3 ⟨rfl, hb⟩
  replace E := hid (E.out.up hb)
  clear hb
  go_upto_if 24 with (fail)
  go_cut [] (fun wc => ∃ fa fc fn fnc fi fic, Env w S wc [.obj w.heap.size (.cells #[.int .i64 F.kind, .slice fa F.shape.length fc, .slice fn F.nums.length fnc, .slice fi F.items.length fic] 26 (0, 0)), .obj (w.heap.size + 1) (.cells #[.int .i64 0, .slice none 0 0, .slice none 0 0, .slice none 0 0] 26 (0, 0)), .ints s so, .arr F fa fn fi])
  case first =>
    by_cases z : y.nums.length + y.items.length = 0
    case pos =>
      have zb : (((szN y.kind y.nums.length y.items.length : Nat) : Int) == 0) = true := by rw [hzb.out]; simpa using z
      have hFF : F = fillS y := by rw [hF]; exact if_pos z
      replace hF := hid hF
      replace hFF := hid hFF
      replace z := hid z
      obtain ⟨q00, q01, q02, q03⟩ := (E.out.hdr 0 rfl).all
      go_wp2_with fail
      clear q00 q01 q02 q03
      refine (fill_ref03_Fill y _ _ _ _ _ _ w3).mono ?_
      rintro e w5 ⟨fa, fc, fn, fnc, fi, fic, rfl, aF, hb⟩
      rw [← hFF.out] at aF
      rw [← hFF.out]
      replace E := hid ((E.out.up hb).addArr aF (fun b _ hq => E.out.fresh (Ext.refl _) hq))
      go_wp2_with (refine wpl_store4 rfl (.tmp 3) (.tmp 26) rfl _ rfl rfl (E.out.hdr 0 rfl) ?_; intro V1 HV1 C1; replace E := hid (E.out.chg 0 rfl C1 HV1))
      go_meet
      case rel => exact ⟨fa, fc, fn, fnc, fi, fic, E.out.sub (by simp [List.Sublist.refl])⟩
    case neg =>
      have zb : (((szN y.kind y.nums.length y.items.length : Nat) : Int) == 0) = false := by rw [hzb.out]; simpa using z
      have hFF : F = y := by rw [hF]; exact if_neg z
      replace hF := hid hF
      replace z := hid z
      go_wp2_with fail
      go_meet
      case rel =>
        subst hFF
        exact ⟨sy, cy, ny, my, iy, jy, (E.out.addArr (E.out.arr 2 rfl) (fun _ _ h => h)).sub (by simp [List.Sublist.refl])⟩
  case rest =>
  clear E
  obtain ⟨fa, fc, fn, fnc, fi, fic, E⟩ := hcut
  replace hF := hid hF
  replace E := hid E
  go_upto_region 8 with (fail)
  obtain ⟨q00, q01, q02, q03⟩ := (E.out.hdr 0 rfl).all
  refine wp_region_mono_tail 6 (Sees wc [(⟨w.heap.size, 0, none⟩, .int .i64 F.kind)]) [3, 5] (fun k v u u' => match k with | 3 => ∃ ao cap, v = .slice ao s.length cap ∧ OwnI u' u.heap.size ao cap s | 5 => v = .pointer (some ⟨u.heap.size, 0, none⟩) ∧ u' = u.alloc (.cells #[.int .i64 0, .slice none 0 0, .slice none 0 0, .slice none 0 0] 26) | _ => False) (fun _ _ h e => h.up e) (Sees.start (all_cons (q00) (all_nil))) (by kernel_rfl) (by kernel_rfl) ?_
  simp only [List.take_succ_cons, List.take_zero, List.drop_succ_cons, List.drop_zero]
  repeat (first | (refine m_plain (v := ?_) (by rfl) (by rfl) ?_ ?_; rotate_left; (intro wz hSw; obtain ⟨-, hSc⟩ := hSw; (try simp only [List.forall_mem_cons, List.forall_mem_nil, and_true] at hSc); go_simp; (first | done | with_reducible rfl)); (intro K hK; (try simp only [Act.put, List.setIfInBounds_toArray, List.set_cons_zero, List.set_cons_succ]); refine hK _ _ ?_; clear hK K)) | (refine m_skip (by rfl) (by rfl) ?_; (intro K hK; (try simp only [Act.put, List.setIfInBounds_toArray, List.set_cons_zero, List.set_cons_succ]); refine hK _ _ ?_; clear hK K)))
  refine m_make (by rfl) (by rfl) ?_ ?_
  · intro wz hSw hdep R hRz
    obtain ⟨hSe, hSc⟩ := hSw
    (try simp only [List.forall_mem_cons, List.forall_mem_nil, and_true] at hSc)
    (refine does_appE (.const (.slice none 0 0)) (.tmp 29) (by rfl) wz.heap.size none (by rfl) (OwnI.nil _ _) _ so sc s (by rfl) ((E.out.ints 2 rfl).up hSe) (Nat.le_refl _) ?_; intro ao' cap' w' g1 g2; exact hRz.out _ _ ⟨g2, ao', cap', rfl, g1⟩)
  intro v3 u3 x3 hG3 K hK
  have hF3 := hG3.fact
  (try dsimp only at hF3)
  obtain ⟨ta, tc, rfl, ht⟩ := hF3
  (try simp only [Act.put, List.setIfInBounds_toArray, List.set_cons_zero, List.set_cons_succ]); refine hK _ _ ?_; clear hK K
  repeat (first | (refine m_plain (v := ?_) (by rfl) (by rfl) ?_ ?_; rotate_left; (intro wz hSw; obtain ⟨-, hSc⟩ := hSw; (try simp only [List.forall_mem_cons, List.forall_mem_nil, and_true] at hSc); go_simp; (first | done | with_reducible rfl)); (intro K hK; (try simp only [Act.put, List.setIfInBounds_toArray, List.set_cons_zero, List.set_cons_succ]); refine hK _ _ ?_; clear hK K)) | (refine m_skip (by rfl) (by rfl) ?_; (intro K hK; (try simp only [Act.put, List.setIfInBounds_toArray, List.set_cons_zero, List.set_cons_succ]); refine hK _ _ ?_; clear hK K)))
  refine m_make (by rfl) (by rfl) ?_ ?_
  · intro wz hSw hdep R hRz
    obtain ⟨hSe, hSc⟩ := hSw
    (try simp only [List.forall_mem_cons, List.forall_mem_nil, and_true] at hSc)
    unfold does
    (go_simp; exact hRz.out _ _ ⟨ext_alloc _ _, rfl, rfl⟩)
  intro v5 u5 x5 hG5 K hK
  have hF5 := hG5.fact
  (try dsimp only at hF5)
  obtain ⟨rfl, rfl⟩ := hF5
  (try simp only [Act.put, List.setIfInBounds_toArray, List.set_cons_zero, List.set_cons_succ]); refine hK _ _ ?_; clear hK K
  repeat (first | (refine m_plain (v := ?_) (by rfl) (by rfl) ?_ ?_; rotate_left; (intro wz hSw; obtain ⟨-, hSc⟩ := hSw; (try simp only [List.forall_mem_cons, List.forall_mem_nil, and_true] at hSc); go_simp; (first | done | with_reducible rfl)); (intro K hK; (try simp only [Act.put, List.setIfInBounds_toArray, List.set_cons_zero, List.set_cons_succ]); refine hK _ _ ?_; clear hK K)) | (refine m_skip (by rfl) (by rfl) ?_; (intro K hK; (try simp only [Act.put, List.setIfInBounds_toArray, List.set_cons_zero, List.set_cons_succ]); refine hK _ _ ?_; clear hK K)))
  refine m_nil ?_
  intro wf hSf hAf
  have hcap := hid ht.cap
  replace E := hid (E.out.madeI ((ht.ints hsl).mono fun b _ hb => hb.1) (hAf 3 _ rfl) (hG5.order 3 _ rfl) hG3.s.1 hG5.s.1 (hAf 5 _ rfl) hSf.1)
  clear hSf hAf hG3 hG5 ht
  clear q00 q01 q02 q03
  (try simp only [List.cons_append, List.nil_append, List.set_cons_zero, List.set_cons_succ] at E)
  generalize u5.heap.size = bo at E ⊢
  refine wpl_store4 rfl (.tmp 7) (.tmp 31) rfl _ rfl rfl (E.out.hdr 4 rfl) ?_
  intro V1 HV CV
  replace E := hid (E.out.chg 4 rfl CV HV)
  clear HV CV
  (try simp only [List.cons_append, List.nil_append, List.set_cons_zero, List.set_cons_succ] at E)
  go_wp2_with fail
  refine (ref03_Count s _ _ _ _ (E.out.ints 2 rfl)).mono ?_
  rintro e w6 ⟨rfl, rfl⟩
  rw [hcn.out]
  replace E := hid (((E.out.row0I).row0A))
  (try simp only [List.cons_append, List.nil_append, List.set_cons_zero, List.set_cons_succ] at E)
  replace E := hid (E.out.pick 7 rfl)
  simp only [List.eraseIdx_cons_succ, List.eraseIdx_cons_zero] at E
  replace E := hid (E.out.pick 7 rfl)
  simp only [List.eraseIdx_cons_succ, List.eraseIdx_cons_zero] at E
  go_upto_region 12 with (fail)
  have e0N : ofN F H 0 = [] := by unfold ofN; split <;> simp [pickN]
  have e0I : ofI F H 0 = [] := by unfold ofI; split <;> simp [pickA]
  have e0W : ofW F H n 0 = n := by unfold ofW; split <;> simp [rwS]
  replace e0N := hid e0N
  replace e0I := hid e0I
  replace e0W := hid e0W
  go_loopw [9, 10] (fun g i wr => ∃ (m : Nat) (na : Option Addr) (nc : Nat) (ia : Option Addr) (ic : Nat), m ≤ n ∧ i = .int .i64 m ∧ g = .int .i64 (ofW F H n m) ∧ ofW F H n m ≤ 262144 ∧ Env w S wr [.rowI na nc (ofN F H m), .rowA ia ic (ofI F H m), .obj w.heap.size (.cells #[.int .i64 F.kind, .slice fa F.shape.length fc, .slice fn F.nums.length fnc, .slice fi F.items.length fic] 26 (0, 0)), .obj (w.heap.size + 1) (.cells #[.int .i64 0, .slice none 0 0, .slice none 0 0, .slice none 0 0] 26 (0, 0)), .ints s so, .arr F fa fn fi, .obj bo (.cells #[.int .i64 F.kind, .slice ta s.length tc, .slice na (ofN F H m).length nc, .slice ia (ofI F H m).length ic] 26 (0, 0)), .ints s ta]) (fun _ i _ => n - (intOf i).toNat)
  case atStart => exact ⟨0, none, 0, none, 0, Nat.zero_le _, rfl, by rw [e0W.out], by rw [e0W.out]; omega, by rw [e0N.out, e0I.out]; exact E.out⟩
  case round =>
    clear E
    obtain ⟨m, na, nc, ia, ic, hm, rfl, rfl, hwt, E⟩ := hrel
    replace E := hid E
    by_cases hlt : m < n
    · have hp := hv.out
      have hmod : ((m : Nat) : Int).tmod (H : Int) = ((m % H : Nat) : Int) := rfl
      have hH0 : ((H : Int) == 0) = false := by simp; omega
      have hH1 : ¬ (H : Int) = 0 := by omega
      have hH2 : ¬ H = 0 := by omega
      have hN := hid (ofN_succ (F := F) (m := m) hsA.out hv.out)
      have hI := hid (ofI_succ (F := F) (m := m) hsA.out hv.out)
      have hlN := ofN_len F H m
      have hlI := ofI_len F H m
      have hw3 := hid (fun k => ofW_3 (F := F) k H n m)
      have hwN := hid (fun k => ofW_N (F := F) k H n)
      have hml : m % H < H := Nat.mod_lt _ hp
      have hit := hid (fun k3 : F.kind = 3 => szA_3 k3)
      generalize m % H = t at hmod hN hI hw3 hml
      obtain ⟨q20, q21, q22, q23⟩ := (E.out.hdr 2 rfl).all
      go_wp2_with fail
      clear q20 q21 q22 q23
      refine (size_ref03_Size F _ _ _ _ _ _ _ _ (E.out.arr 5 rfl)).mono ?_
      rintro e w7 ⟨rfl, hb⟩
      replace E := hid (E.out.up hb)
      clear hb
      rw [hsF.out]
      obtain ⟨q20, q21, q22, q23⟩ := (E.out.hdr 2 rfl).all
      go_upto_if 46 with (fail)
      clear q20 q21 q22 q23
      obtain ⟨wo, rfl⟩ : ∃ wo : World, wo = wc := ⟨_, rfl⟩
      go_cut [9] (fun v wc2 => v = .int .i64 (ofW F H n (m + 1)) ∧ Env w S wc2 [.rowI na nc (ofN F H m), .rowA ia ic (ofI F H m), .obj w.heap.size (.cells #[.int .i64 F.kind, .slice fa F.shape.length fc, .slice fn F.nums.length fnc, .slice fi F.items.length fic] 26 (0, 0)), .obj (w.heap.size + 1) (.cells #[.int .i64 0, .slice none 0 0, .slice none 0 0, .slice none 0 0] 26 (0, 0)), .ints s so, .arr F fa fn fi, .obj bo (.cells #[.int .i64 F.kind, .slice ta s.length tc, .slice na (ofN F H m).length nc, .slice ia (ofI F H m).length ic] 26 (0, 0)), .ints s ta])
      case first =>
        by_cases k3 : F.kind = 3
        case pos =>
          have kb : (F.kind == 3) = true := by simp [k3]
          have hfl : F.items.length = H := by rw [← hit.out k3]; exact hsA.out
          have htl : t < F.items.length := by omega
          obtain ⟨b', off', sz, cz, nz, mz, iz, jz, hna, hSb', hbl', e0, e1, e2, e3, hz⟩ := (E.out.arr 5 rfl).items.at htl
          have hgd : F.items.getD t .zero = F.items[t] := by simp [htl]
          have hw4 := hw3.out k3
          rw [hgd] at hw4
          clear hgd
          generalize F.items[t] = z at hw4 e0 e1 e2 e3 hz
          subst hna
          have hz0 := wtS_bd z
          have tt0 : (0 : Int) ≤ (t : Int) := by omega
          have tt1 : (t : Int) < (F.items.length : Int) := by omega
          have ow0 : (0 : Int) ≤ ofW F H n m := by unfold ofW; have := rwS_bd F.items H m; split <;> omega
          replace hw4 := hid hw4
          replace k3 := hid k3
          replace hz := hid hz
          generalize ofW F H n m = W0 at hw4 hwt ow0
          obtain ⟨q20, q21, q22, q23⟩ := (E.out.hdr 2 rfl).all
          go_wp2_with fail
          refine (ref03_Weight z _ _ _ _ _ _ _ w7 hz.out).mono ?_
          rintro e w8 ⟨rfl, hb⟩
          clear q20 q21 q22 q23
          clear e0 e1 e2 e3
          replace E := hid (E.out.up hb)
          go_wp2_with fail
          go_meet
          case rel => exact ⟨by rw [hw4.out], E.out⟩
        case neg =>
          have kb : (F.kind == 3) = false := by simp [k3]
          have hw4 : ofW F H n m = ofW F H n (m + 1) := by rw [hwN.out k3, hwN.out k3]
          rw [hw4]
          replace hw4 := hid hw4
          replace k3 := hid k3
          obtain ⟨q20, q21, q22, q23⟩ := (E.out.hdr 2 rfl).all
          go_wp2_with fail
          go_meet
          case rel => exact ⟨rfl, E.out⟩
      case rest =>
      clear E
      obtain ⟨rfl, E⟩ := hcut
      replace E := hid E
      by_cases ov : 262144 < ofW F H n (m + 1)
      case pos =>
        have hE : Hid (ofE s y = 21) := hid (by
          obtain ⟨k3, q⟩ := ofW_le (show m + 1 ≤ n by omega) ov hn6
          exact hw.out (by rw [← hfk.out]; exact k3) q)
        have hS := hid (ofS_no (s := s) (y := y) (by rw [hE.out]; decide))
        go_wp2_with (refine wpl_store4 rfl (.tmp 4) (.tmp 57) rfl _ rfl rfl (E.out.hdr 3 rfl) ?_; intro V HV CV; replace E := hid (E.out.chg 3 rfl CV HV))
        exact bodyPost_ret (end_arr2 rfl HV rfl rfl) rfl (hR.out _ _ (RetAEC.zero hS.out hE.out E.out.ext))
      case neg =>
      go_upto_region 19 with (fail)
      obtain ⟨q20, q21, q22, q23⟩ := (E.out.hdr 2 rfl).all
      obtain ⟨q60, q61, q62, q63⟩ := (E.out.hdr 6 rfl).all
      obtain ⟨T, hT1, hT2, hT3⟩ := E.out.tw
      refine wp_region_mono_tail 4 (Sees wc [(⟨bo, 0, none⟩, .int .i64 F.kind), (⟨bo, 1, none⟩, .slice ta s.length tc), (⟨bo, 2, none⟩, .slice na (ofN F H m).length nc), (⟨bo, 3, none⟩, .slice ia (ofI F H m).length ic), (⟨w.heap.size, 0, none⟩, .int .i64 F.kind), (⟨w.heap.size, 1, none⟩, .slice fa F.shape.length fc), (⟨w.heap.size, 2, none⟩, .slice fn F.nums.length fnc), (⟨w.heap.size, 3, none⟩, .slice fi F.items.length fic)]) [3] (fun k v u u' => match k with | 3 => RetA u T (atS F t) (.returned v) u' | _ => False) (fun _ _ h e => h.up e) (Sees.start (all_cons (q60) (all_cons (q61) (all_cons (q62) (all_cons (q63) (all_cons (q20) (all_cons (q21) (all_cons (q22) (all_cons (q23) (all_nil)))))))))) (by kernel_rfl) (by kernel_rfl) ?_
      simp only [List.take_succ_cons, List.take_zero, List.drop_succ_cons, List.drop_zero]
      repeat (first | (refine m_plain (v := ?_) (by rfl) (by rfl) ?_ ?_; rotate_left; (intro wz hSw; obtain ⟨-, hSc⟩ := hSw; (try simp only [List.forall_mem_cons, List.forall_mem_nil, and_true] at hSc); go_simp; (first | done | with_reducible rfl)); (intro K hK; (try simp only [Act.put, List.setIfInBounds_toArray, List.set_cons_zero, List.set_cons_succ]); refine hK _ _ ?_; clear hK K)) | (refine m_skip (by rfl) (by rfl) ?_; (intro K hK; (try simp only [Act.put, List.setIfInBounds_toArray, List.set_cons_zero, List.set_cons_succ]); refine hK _ _ ?_; clear hK K)))
      refine m_make (by rfl) (by rfl) ?_ ?_
      · intro wz hSw hdep R hRz
        obtain ⟨hSe, hSc⟩ := hSw
        (try simp only [List.forall_mem_cons, List.forall_mem_nil, and_true] at hSc)
        unfold does
        (go_simp; refine Calls.mono (ref03_At F _ _ _ _ _ _ (t : Int) _ wz (ArrAt.up (ArrAt.mono (fun b _ h => hT1 b h) _ (E.out.arr 5 rfl)) hSe)) ?_; intro e wq h; obtain ⟨v, rfl, h1⟩ := retA_arm hT2 hSe (h.eq rfl); exact ⟨_, rfl, hRz.out _ _ h1⟩)
      intro v3 u3 x3 hG3 K hK
      have hF3 := hG3.fact
      (try dsimp only at hF3)
      obtain ⟨s3, c3, n3, m3, i3, j3, he, hA3, hb3⟩ := hF3
      injection he with he
      subst he
      (try simp only [Act.put, List.setIfInBounds_toArray, List.set_cons_zero, List.set_cons_succ]); refine hK _ _ ?_; clear hK K
      repeat (first | (refine m_plain (v := ?_) (by rfl) (by rfl) ?_ ?_; rotate_left; (intro wz hSw; obtain ⟨-, hSc⟩ := hSw; (try simp only [List.forall_mem_cons, List.forall_mem_nil, and_true] at hSc); go_simp; (first | done | with_reducible rfl)); (intro K hK; (try simp only [Act.put, List.setIfInBounds_toArray, List.set_cons_zero, List.set_cons_succ]); refine hK _ _ ?_; clear hK K)) | (refine m_skip (by rfl) (by rfl) ?_; (intro K hK; (try simp only [Act.put, List.setIfInBounds_toArray, List.set_cons_zero, List.set_cons_succ]); refine hK _ _ ?_; clear hK K)))
      refine m_nil ?_
      intro wf hSf hAf
      have hAt := hid (ArrAt.mono (fun b _ q => hT3 b q) _ (hA3.up (hAf 3 _ rfl)))
      replace E := hid (E.out.up hSf.1)
      clear hSf hAf hG3 hA3 hb3 hT1 hT2 hT3
      clear q20 q21 q22 q23 q60 q61 q62 q63
      have hl := at_len F (t : Int)
      go_wp2_with fail
      refine (ref03_Put F.kind ta s.length tc _ _ _ _ _ _ (atS F (t : Int)) _ _ _ _ _ _ w S wf _ E.out hAt.out (by omega) (by omega)).mono ?_
      rintro e w9 ⟨na2, nc2, ia2, ic2, rfl, E1⟩
      rw [hN.out, hI.out] at E1
      rw [hN.out, hI.out]
      clear E
      have E := hid E1
      clear E1
      go_wp2_with (refine wpl_store4 rfl (.tmp 7) (.tmp 62) rfl _ rfl rfl (E.out.hdr 6 rfl) ?_; intro V2 HV CV; replace E := hid (E.out.chg 6 rfl CV HV); (try simp only [List.cons_append, List.nil_append, List.set_cons_zero, List.set_cons_succ] at E))
      go_roundw
      case rel => exact ⟨m + 1, na2, nc2, ia2, ic2, by omega, by go_num, rfl, by omega, E.out⟩
      case measure => simp [intOf]; omega
    · obtain rfl : m = n := by omega
      have hE : Hid (ofE s y = 0) := hid (h00.out (fun k => ofW_n hwt (by rw [hfk.out]; exact k)))
      have hS : Hid (ofS s y = .mk F.kind s (ofN F H m) (ofI F H m)) := hid (by rw [hsy.out hE.out, of_gath])
      obtain ⟨q60, q61, q62, q63⟩ := (E.out.hdr 6 rfl).all
      go_wp2_with (refine wpl_store4 rfl (.tmp 4) (.tmp 63) rfl _ rfl rfl (E.out.hdr 3 rfl) ?_; intro V2 HV CV; replace E := hid (E.out.chg 3 rfl CV HV); (try simp only [List.cons_append, List.nil_append, List.set_cons_zero, List.set_cons_succ] at E))
      have c2 := OwnI.cap (E.out.rowI 0 rfl)
      have c3 := OwnA.cap (E.out.rowA 1 rfl)
      have hlN := ofN_len F H m
      have hlI := ofI_len F H m
      replace E := hid (E.out.doneI 0 rfl (by omega))
      (try simp only [List.cons_append, List.nil_append, List.set_cons_zero, List.set_cons_succ] at E)
      replace E := hid (E.out.doneA 1 rfl)
      (try simp only [List.cons_append, List.nil_append, List.set_cons_zero, List.set_cons_succ] at E)
      refine bodyPost_ret (end_arr2 rfl HV rfl rfl) rfl (hR.out _ _ ?_)
      exact RetAEC.of hS.out hE.out rfl ((E.out.ints 7 rfl).mono fun b _ h => h.1) ((E.out.ints 0 rfl).mono fun b _ h => h.1) (by omega) ((E.out.items 1 rfl).mono fun b _ h => h.1) E.out.ext hcap.out c2 c3
end Go.Proofs.YtdobnkbmjkcpoaaDoor
