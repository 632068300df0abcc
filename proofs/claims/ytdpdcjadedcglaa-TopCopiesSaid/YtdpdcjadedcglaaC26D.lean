/- copying.Copy: contract. Conditions: the arrays are read; a slice's capacity is at least its length. -/
import Derived.Test.YtdpdcjadedcglaaC26C
import Derived.Deep.CutRange
import Derived.Deep.DeepCutAuto
set_option linter.unusedVariables false
set_option maxRecDepth 20000
set_option linter.unusedSimpArgs false
namespace Go.Proofs.Ytdpdcjadedcglaa
open Go.RowKit Go.Sort
attribute [local go_sem ↓] run_max2 run_min2
attribute [local go_sem] eql_ints_nil eql_arrs_nil
theorem coll_add (kk : Int) (oa : Option Addr) (ol oc : Nat) (na : Option Addr) (nc : Nat) (nums : List Int) (ia : Option Addr) (ic : Nat) (items : List Arr) (y : Arr) (sy : Option Addr) (cy : Nat) (ny : Option Addr) (my : Nat) (iy : Option Addr) (jy : Nat) (bo pn py pp pf i n : Nat) (w0 : World) (S : Nat → Prop) (w : World) (M : List Fact)
    (E : Env w0 S w (.obj bo (.cells #[.int .i64 kk, .slice oa ol oc, .slice na (nums).length nc, .slice ia (items).length ic] 27 (0, 0)) :: .rowI na nc (nums) :: .rowA ia ic (items) :: .obj pn (.cells #[.int .i64 n] 3 (0, 0)) :: .obj py (.cells #[.int .i64 y.kind, .slice sy y.shape.length cy, .slice ny y.nums.length my, .slice iy y.items.length jy] 27 (0, 0)) :: .obj pp (.cells #[.pointer (some ⟨bo, 0, none⟩)] 53 (0, 0)) :: .arr y sy ny iy :: M)) (hr : rightS y = 0) (hn : n = celN y) (hi : i < talM y) (hl1 : nums.length ≤ 65536) (hl2 : items.length ≤ 65536) (hcn : y.nums.length ≤ my) :
    Calls Try.prog 60 #[.int .i64 i, .pointer (some ⟨pn, 0, none⟩), .pointer (some ⟨py, 0, none⟩), .pointer (some ⟨pp, 0, none⟩), .pointer (some ⟨pf, 0, none⟩)] w fun en w' => ∃ na' nc' ia' ic', en = .returned (.tuple #[]) ∧ Env w0 S w' (.obj bo (.cells #[.int .i64 kk, .slice oa ol oc, .slice na' (nums ++ blkL y.nums i n).length nc', .slice ia' (items ++ blkL y.items i n).length ic'] 27 (0, 0)) :: .rowI na' nc' (nums ++ blkL y.nums i n) :: .rowA ia' ic' (items ++ blkL y.items i n) :: .obj pn (.cells #[.int .i64 n] 3 (0, 0)) :: .obj py (.cells #[.int .i64 y.kind, .slice sy y.shape.length cy, .slice ny y.nums.length my, .slice iy y.items.length jy] 27 (0, 0)) :: .obj pp (.cells #[.pointer (some ⟨bo, 0, none⟩)] 53 (0, 0)) :: .arr y sy ny iy :: M) := by
  have hs := (right_ok hr).2.1
  have hn6 := celN_le hs
  have ht6 := tal_le hs
  have hz := sz_tal hr
  have F := flat_of hr
  have hk := F.k
  have h5 : i * n + n ≤ szA y := by
    have := Nat.mul_le_mul_right n (show i + 1 ≤ talM y from hi)
    rw [Nat.succ_mul] at this
    rw [hz, ← hn]; omega
  have h6 := szA_le hr
  subst hn
  unfold szA szN at h5 h6
  by_cases k3 : y.kind = 3
  · rw [if_neg (by omega), if_pos k3] at h5 h6
    have e : blkL y.nums i (celN y) = [] := by rw [F.n k3]; exact blkL_nil _ _
    refine (coll_box kk oa ol oc na nc nums ia ic items y _ _ _ _ _ _ bo pn py pp pf i (celN y) w0 S w M E hn6 (by omega) k3 h5 (by omega) h6).mono ?_
    rintro en w' ⟨ia', ic', rfl, E'⟩
    exact ⟨na, nc, ia', ic', rfl, by rw [e, List.append_nil]; exact E'⟩
  · rw [if_pos (by omega)] at h5 h6
    have e : blkL y.items i (celN y) = [] := by rw [F.i k3]; exact blkL_nil _ _
    refine (coll_num kk oa ol oc na nc nums ia ic items y _ _ _ _ _ _ bo pn py pp pf i (celN y) w0 S w M E hn6 (by omega) k3 h5 (by omega) h6 hcn).mono ?_
    rintro en w' ⟨na', nc', rfl, E'⟩
    exact ⟨na', nc', ia, ic, rfl, by rw [e, List.append_nil]; exact E'⟩
theorem cp_idx {x y : Arr} (h : Chk26 x y) (l : ¬ (x.shape.length = 1 ∧ x.nums.length ≠ talM y)) {k : Nat} (hk : k < talM y) : (if x.shape.length = 0 then 0 else k) < x.nums.length := by
  have hc := formE_zero (right_form h.rx)
  have hr := h.r
  split
  · rename_i q
    have : cnt x.shape = 1 := by rw [List.eq_nil_of_length_eq_zero q]; exact cnt_nil
    have := hc.2.2
    have := h.k
    omega
  · omega
theorem min_step (s c m : Int) (h : 0 ≤ c) : min (min s m + min c m) m = min (s + c) m ∨ s < 0 ∨ m < 0 := by omega
theorem min_step2 (s c m : Int) (h : 0 ≤ c) (g : 0 ≤ s) (k : 0 ≤ m) : min (min s m + c) m = min (s + c) m := by omega
set_option maxRecDepth 100000 in
set_option maxHeartbeats 8000000 in
theorem copying_Copy (x : Arr) (sx : Option Addr) (cx : Nat) (nx : Option Addr) (mx : Nat) (ix : Option Addr) (jx : Nat) (y : Arr) (sy : Option Addr) (cy : Nat) (ny : Option Addr) (my : Nat) (iy : Option Addr) (jy : Nat) (S : Nat → Prop) (w : World) (h : ArrAt w S x sx nx ix) (g : ArrAt w S y sy ny iy) (hcx : x.shape.length ≤ cx ∧ x.nums.length ≤ mx ∧ x.items.length ≤ jx) (hcy : y.shape.length ≤ cy ∧ y.nums.length ≤ my ∧ y.items.length ≤ jy) :
    Calls Try.prog 9 #[.agg #[.int .i64 x.kind, .slice sx x.shape.length cx, .slice nx x.nums.length mx, .slice ix x.items.length jx], .agg #[.int .i64 y.kind, .slice sy y.shape.length cy, .slice ny y.nums.length my, .slice iy y.items.length jy]] w (RetAEC w (fun b => S b ∨ w.heap.size ≤ b) (copyS x y) (copyE x y)) := by
  refine calls_post fun R' hR => ?_
  have h0 := hid h
  have g0 := hid g
  replace hcx := hid hcx
  replace hcy := hid hcy
  clear h g
  go_enter Try.func9, Try.ntmps9
  go_upto_region 1 with (fail)
  generalize hEW : (((w).alloc (.cells #[.int .i64 x.kind, .slice sx x.shape.length cx, .slice nx x.nums.length mx, .slice ix x.items.length jx] 27)).alloc (.cells #[.int .i64 y.kind, .slice sy y.shape.length cy, .slice ny y.nums.length my, .slice iy y.items.length jy] 27)).alloc (.cells #[.int .i64 0, .slice none 0 0, .slice none 0 0, .slice none 0 0] 27) = W
  have E := hid (env3 w S hEW)
  clear hEW
  replace E := hid ((E.out.arg h0.out).arg g0.out)
  (try simp only [List.cons_append, List.nil_append, List.set_cons_zero, List.set_cons_succ] at E)
  obtain ⟨q00, q01, q02, q03⟩ := (E.out.hdr 0 rfl).all
  obtain ⟨q10, q11, q12, q13⟩ := (E.out.hdr 1 rfl).all
  go_wp2_with fail
  clear q00 q01 q02 q03 q10 q11 q12 q13
  refine (copying_check x _ _ _ _ _ _ y _ _ _ _ _ _ _ _ (E.out.arr 3 rfl) (E.out.arr 4 rfl)).mono ?_
  rintro e w1 ⟨rfl, hb⟩
  replace E := hid (E.out.up hb)
  clear hb
  by_cases c : chkE26 x y = 0
  case neg =>
    have cb : (chkE26 x y != 0) = true := by simpa using c
    have hn := hid (copyE_c c)
    have hv := hid (copyS_no (x := x) (y := y) (by rw [hn.out]; exact c))
    replace c := hid c
    go_wp2_with (refine wpl_store4 rfl (.tmp 4) (.tmp 23) rfl _ rfl rfl (E.out.hdr 2 rfl) ?_; intro V HV CV; replace E := hid (E.out.chg 2 rfl CV HV))
    exact bodyPost_ret (end_arr2 rfl HV rfl rfl) rfl (hR.out _ _ (RetAEC.zero hv.out hn.out E.out.ext))
  have cb : (chkE26 x y != 0) = false := by simpa using c
  have K := chk26_ok c
  have hs := (right_ok K.ry).2.1
  have ht := tal_nn hs
  have ht6 := tal_le hs
  have xl := K.r
  have hx6 := (right_l3 K.rx)
  replace K := hid K
  replace c := hid c
  obtain ⟨q10, q11, q12, q13⟩ := (E.out.hdr 1 rfl).all
  go_wp2_with fail
  clear q10 q11 q12 q13
  refine (copying_split y _ _ _ _ _ _ _ _ (E.out.arr 4 rfl) hs hcy.out.1).mono ?_
  rintro e w2 ⟨so, sc, rfl, hI, hb⟩
  replace E := hid ((E.out.up hb).addInts hI (fun _ _ h => h))
  clear hI hb
  (try simp only [List.cons_append, List.nil_append, List.set_cons_zero, List.set_cons_succ] at E)
  rw [← ht]
  replace ht := hid ht
  obtain ⟨t, htt⟩ : ∃ t, t = talM y := ⟨_, rfl⟩
  rw [← htt] at ht6 ⊢
  by_cases l : x.shape.length = 1 ∧ x.nums.length ≠ t
  case pos =>
    have l1 : ((x.shape.length : Int) == 1) = true := by simp; omega
    have l2 : ((x.nums.length : Int) != (t : Int)) = true := by simp; omega
    have hn := hid (copyE_l c.out (by rw [← htt]; exact l))
    have hv := hid (copyS_no (x := x) (y := y) (by rw [hn.out]; decide))
    replace l := hid l
    obtain ⟨q00, q01, q02, q03⟩ := (E.out.hdr 0 rfl).all
    go_wp2_with (refine wpl_store4 rfl (.tmp 4) (.tmp 43) rfl _ rfl rfl (E.out.hdr 2 rfl) ?_; intro V HV CV; replace E := hid (E.out.chg 2 rfl CV HV))
    exact bodyPost_ret (end_arr2 rfl HV rfl rfl) rfl (hR.out _ _ (RetAEC.zero hv.out hn.out E.out.ext))
  replace htt := hid htt
  go_upto_region 5 with (fail)
  go_cut [31] (fun v wc => v = .bool false ∧ Env w S wc [.obj w.heap.size (.cells #[.int .i64 x.kind, .slice sx x.shape.length cx, .slice nx x.nums.length mx, .slice ix x.items.length jx] 27 (0, 0)), .obj (w.heap.size + 1) (.cells #[.int .i64 y.kind, .slice sy y.shape.length cy, .slice ny y.nums.length my, .slice iy y.items.length jy] 27 (0, 0)), .obj (w.heap.size + 1 + 1) (.cells #[.int .i64 0, .slice none 0 0, .slice none 0 0, .slice none 0 0] 27 (0, 0)), .arr x sx nx ix, .arr y sy ny iy, .ints (celL y) so])
  case first =>
    by_cases l1 : x.shape.length = 1
    · have b1 : ((x.shape.length : Int) == 1) = true := by simp; omega
      have b2 : ((x.nums.length : Int) != (t : Int)) = false := by simp; omega
      replace l1 := hid l1
      replace l := hid l
      obtain ⟨q00, q01, q02, q03⟩ := (E.out.hdr 0 rfl).all
      go_wp2_with fail
      go_meet
      case rel => exact ⟨rfl, E.out⟩
    · have b1 : ((x.shape.length : Int) == 1) = false := by simp; omega
      replace l1 := hid l1
      replace l := hid l
      obtain ⟨q00, q01, q02, q03⟩ := (E.out.hdr 0 rfl).all
      go_wp2_with fail
      go_meet
      case rel => exact ⟨rfl, E.out⟩
  case rest =>
  clear E
  obtain ⟨rfl, E⟩ := hcut
  replace E := hid E
  have LL : Hid (¬ (x.shape.length = 1 ∧ x.nums.length ≠ talM y)) := hid (by rw [← htt.out]; exact l)
  replace l := hid l
  obtain ⟨q00, q01, q02, q03⟩ := (E.out.hdr 0 rfl).all
  go_wp2_with fail
  clear q00 q01 q02 q03
  refine (slices_ContainsFunc_copying_Copy_1 negB x.nums _ _ _ _ (E.out.arr 3 rfl).nums (fun n => copy_1 n _)).mono ?_
  rintro e w3 ⟨rfl, rfl⟩
  by_cases d : x.nums.any negB = true
  case pos =>
    rw [d]
    have hn := hid (copyE_d c.out LL.out d)
    have hv := hid (copyS_no (x := x) (y := y) (by rw [hn.out]; decide))
    replace d := hid d
    go_wp2_with (refine wpl_store4 rfl (.tmp 4) (.tmp 48) rfl _ rfl rfl (E.out.hdr 2 rfl) ?_; intro V HV CV; replace E := hid (E.out.chg 2 rfl CV HV))
    exact bodyPost_ret (end_arr2 rfl HV rfl rfl) rfl (hR.out _ _ (RetAEC.zero hv.out hn.out E.out.ext))
  have d' : x.nums.any negB = false := by simpa using d
  rw [d']
  have hcn := hid (fun i => cpK_nn d' i)
  have hix := hid (fun k (hk : k < t) => cp_idx K.out LL.out (k := k) (by rw [← htt.out]; exact hk))
  have hcw := hid (fun k (hk : k < t) => celW_bd K.out.ry (i := k) (by rw [← htt.out]; exact hk))
  have hww := hid (fun k (hk : k < t) (T : Nat → Prop) wz (hz : ArrAt wz T y sy ny iy) => copying_weight y sy cy ny my iy jy k T wz hz K.out.ry hcy.out.1 hcy.out.2.2 (by rw [← htt.out]; exact hk))
  have SS := fun q => copyE_s c.out LL.out d' q
  have S0 := fun q1 q2 => copyE_0 c.out LL.out d' q1 q2
  have CK := fun q => (CpOk.mk c.out LL.out d' q : CpOk x y)
  replace SS := hid SS
  replace S0 := hid S0
  replace CK := hid CK
  replace d := hid d
  clear d'
  go_upto_region 12 with (fail)
  go_loopw [11, 12, 13, 51] (fun s hv i v wr => ∃ k : Nat, k ≤ t ∧ v = .int .i64 k ∧ s = .int .i64 (min (sumF (cpK x) k) 65537) ∧ hv = .int .i64 (min (sumF (fun i => min (cpK x i) 65537 * celW y i) k) 262145) ∧ Env w S wr [.obj w.heap.size (.cells #[.int .i64 x.kind, .slice sx x.shape.length cx, .slice nx x.nums.length mx, .slice ix x.items.length jx] 27 (0, 0)), .obj (w.heap.size + 1) (.cells #[.int .i64 y.kind, .slice sy y.shape.length cy, .slice ny y.nums.length my, .slice iy y.items.length jy] 27 (0, 0)), .obj (w.heap.size + 1 + 1) (.cells #[.int .i64 0, .slice none 0 0, .slice none 0 0, .slice none 0 0] 27 (0, 0)), .arr x sx nx ix, .arr y sy ny iy, .ints (celL y) so]) (fun _ _ _ v _ => t - (intOf v).toNat)
  case atStart => exact ⟨0, Nat.zero_le _, rfl, by simp [sumF]; decide, by simp [sumF]; decide, E.out⟩
  case round =>
    clear E
    obtain ⟨k, hk, rfl, rfl, rfl, E⟩ := hrel
    replace E := hid E
    by_cases hlt : k < t
    · have hc0 := hcn.out k
      have hw0 := hcw.out k hlt
      have hs0 := sumF_nn (f := cpK x) (n := k) (fun i _ => hcn.out i)
      have hh0 := sumF_nn (f := fun i => min (cpK x i) 65537 * celW y i) (n := k) (fun i hi => Int.mul_nonneg (by have := hcn.out i; omega) (hcw.out i (by omega)).1)
      have hS1 : sumF (cpK x) (k + 1) = sumF (cpK x) k + cpK x k := rfl
      have hH1 : sumF (fun i => min (cpK x i) 65537 * celW y i) (k + 1) = sumF (fun i => min (cpK x i) 65537 * celW y i) k + min (cpK x k) 65537 * celW y k := rfl
      obtain ⟨cv, hcv⟩ : ∃ cv, cv = min (cpK x k) 65537 := ⟨_, rfl⟩
      obtain ⟨wv, hwv⟩ : ∃ cv, cv = celW y k := ⟨_, rfl⟩
      obtain ⟨pv, hpv⟩ : ∃ p, p = cv * wv := ⟨_, rfl⟩
      rw [← hcv, ← hwv, ← hpv] at hH1
      rw [← hwv] at hw0
      have hcb : 0 ≤ cv ∧ cv ≤ 65537 := by omega
      have hpb : 0 ≤ pv ∧ pv ≤ 17180131328 := by
        rw [hpv]
        refine ⟨Int.mul_nonneg hcb.1 hw0.1, ?_⟩
        have := Int.mul_le_mul hcb.2 hw0.2 hw0.1 (by omega)
        omega
      obtain ⟨s0, hs0'⟩ : ∃ s, s = sumF (cpK x) k := ⟨_, rfl⟩
      obtain ⟨h0', hh0'⟩ : ∃ s, s = sumF (fun i => min (cpK x i) 65537 * celW y i) k := ⟨_, rfl⟩
      rw [← hs0'] at hs0 hS1 ⊢
      rw [← hh0'] at hh0 hH1 ⊢
      have hS2 : min (min s0 65537 + cv) 65537 = min (sumF (cpK x) (k + 1)) 65537 := by rw [hS1]; omega
      have hH2 : min (min h0' 262145 + pv) 262145 = min (sumF (fun i => min (cpK x i) 65537 * celW y i) (k + 1)) 262145 := by rw [hH1]; omega
      obtain ⟨sa, hsa⟩ : ∃ s, s = min s0 65537 := ⟨_, rfl⟩
      obtain ⟨ha, hha⟩ : ∃ s, s = min h0' 262145 := ⟨_, rfl⟩
      have hsb : 0 ≤ sa ∧ sa ≤ 65537 := by omega
      have hhb : 0 ≤ ha ∧ ha ≤ 262145 := by omega
      rw [← hsa] at hS2 ⊢
      rw [← hha] at hH2 ⊢
      clear hs0 hh0 hc0
      replace hS1 := hid hS1
      replace hH1 := hid hH1
      replace hS2 := hid hS2
      replace hH2 := hid hH2
      replace hcv := hid hcv
      replace hwv := hid hwv
      replace hsa := hid hsa
      replace hha := hid hha
      replace hs0' := hid hs0'
      replace hh0' := hid hh0'
      go_wp2_with fail
      refine (copy_2 x sx cx nx mx ix jx w.heap.size k _ _ (E.out.arr 3 rfl) (E.out.hdr 0 rfl).c1 (E.out.hdr 0 rfl).c2 (hix.out k hlt)).mono ?_
      rintro e w4 ⟨rfl, rfl⟩
      rw [← hcv.out]
      go_upto_region 15 with (fail)
      have hw3 : Hid (IntKind.i64.wrap (ha + cv * wv) = ha + pv) := hid (by rw [← hpv]; exact IntWalk.i64_in _ (by omega))
      have hw1 : IntKind.i64.wrap (cv * wv) = pv := by rw [← hpv]; exact IntWalk.i64_in _ (by omega)
      have hw2 : IntKind.i64.wrap (ha + pv) = ha + pv := IntWalk.i64_in _ (by omega)
      obtain ⟨q00, q01, q02, q03⟩ := (E.out.hdr 0 rfl).all
      obtain ⟨q10, q11, q12, q13⟩ := (E.out.hdr 1 rfl).all
      obtain ⟨T, hT1, hT2, hT3⟩ := E.out.tw
      refine wp_region_mono (Sees wr [(⟨(w.heap.size+1), 0, none⟩, .int .i64 y.kind), (⟨(w.heap.size+1), 1, none⟩, .slice sy y.shape.length cy), (⟨(w.heap.size+1), 2, none⟩, .slice ny y.nums.length my), (⟨(w.heap.size+1), 3, none⟩, .slice iy y.items.length jy)]) [3, 6] (fun k v u u' => match k with | 3 => v = .int .i64 cv | 6 => v = .int .i64 wv | _ => False) (fun _ _ h e => h.up e) (Sees.start (all_cons ((E.out.hdr 1 rfl).c0) (all_cons ((E.out.hdr 1 rfl).c1) (all_cons ((E.out.hdr 1 rfl).c2) (all_cons ((E.out.hdr 1 rfl).c3) (all_nil)))))) (by kernel_rfl) (by kernel_rfl) ?_
      repeat (first | (refine m_plain (v := ?_) (by rfl) (by rfl) ?_ ?_; rotate_left; (intro wz hSw; obtain ⟨-, hSc⟩ := hSw; (try simp only [List.forall_mem_cons, List.forall_mem_nil, and_true] at hSc); go_simp; (first | done | with_reducible rfl)); (intro K hK; (try simp only [Act.put, List.setIfInBounds_toArray, List.set_cons_zero, List.set_cons_succ]); refine hK _ _ ?_; clear hK K)) | (refine m_skip (by rfl) (by rfl) ?_; (intro K hK; (try simp only [Act.put, List.setIfInBounds_toArray, List.set_cons_zero, List.set_cons_succ]); refine hK _ _ ?_; clear hK K)))
      refine m_make (by rfl) (by rfl) ?_ ?_
      · intro wz hSw hdep R hRz
        obtain ⟨hSe, hSc⟩ := hSw
        (try simp only [List.forall_mem_cons, List.forall_mem_nil, and_true] at hSc)
        unfold does
        (go_simp; refine Calls.mono (copy_2 x sx cx nx mx ix jx w.heap.size k _ wz (ArrAt.up (ArrAt.mono (fun b _ h => hT1 b h) _ (E.out.arr 3 rfl)) hSe) (up_cell (E.out.hdr 0 rfl).c1 hSe) (up_cell (E.out.hdr 0 rfl).c2 hSe) (hix.out k hlt)) ?_; rintro e wq ⟨rfl, rfl⟩; rw [hcv.out.symm]; exact ⟨_, rfl, hRz.out _ _ ⟨Ext.refl _, rfl⟩⟩)
      intro v3 u3 x3 hG3 K hK
      have hF3 := hG3.fact
      (try dsimp only at hF3)
      subst hF3
      (try simp only [Act.put, List.setIfInBounds_toArray, List.set_cons_zero, List.set_cons_succ]); refine hK _ _ ?_; clear hK K
      repeat (first | (refine m_plain (v := ?_) (by rfl) (by rfl) ?_ ?_; rotate_left; (intro wz hSw; obtain ⟨-, hSc⟩ := hSw; (try simp only [List.forall_mem_cons, List.forall_mem_nil, and_true] at hSc); go_simp; (first | done | with_reducible rfl)); (intro K hK; (try simp only [Act.put, List.setIfInBounds_toArray, List.set_cons_zero, List.set_cons_succ]); refine hK _ _ ?_; clear hK K)) | (refine m_skip (by rfl) (by rfl) ?_; (intro K hK; (try simp only [Act.put, List.setIfInBounds_toArray, List.set_cons_zero, List.set_cons_succ]); refine hK _ _ ?_; clear hK K)))
      refine m_make (by rfl) (by rfl) ?_ ?_
      · intro wz hSw hdep R hRz
        obtain ⟨hSe, hSc⟩ := hSw
        (try simp only [List.forall_mem_cons, List.forall_mem_nil, and_true] at hSc)
        unfold does
        (go_simp; refine Calls.mono (hww.out k hlt _ wz (ArrAt.up (ArrAt.mono (fun b _ h => hT1 b h) _ (E.out.arr 4 rfl)) hSe)) ?_; rintro e wq ⟨rfl, hqb⟩; rw [hwv.out.symm]; exact ⟨_, rfl, hRz.out _ _ ⟨hqb, rfl⟩⟩)
      intro v6 u6 x6 hG6 K hK
      have hF6 := hG6.fact
      (try dsimp only at hF6)
      subst hF6
      (try simp only [Act.put, List.setIfInBounds_toArray, List.set_cons_zero, List.set_cons_succ]); refine hK _ _ ?_; clear hK K
      repeat (first | (refine m_plain (v := ?_) (by rfl) (by rfl) ?_ ?_; rotate_left; (intro wz hSw; obtain ⟨-, hSc⟩ := hSw; (try simp only [List.forall_mem_cons, List.forall_mem_nil, and_true] at hSc); go_simp; (first | done | with_reducible rfl)); (intro K hK; (try simp only [Act.put, List.setIfInBounds_toArray, List.set_cons_zero, List.set_cons_succ]); refine hK _ _ ?_; clear hK K)) | (refine m_skip (by rfl) (by rfl) ?_; (intro K hK; (try simp only [Act.put, List.setIfInBounds_toArray, List.set_cons_zero, List.set_cons_succ]); refine hK _ _ ?_; clear hK K)))
      refine m_nil ?_
      intro wf hSf hAf
      replace E := hid (E.out.up hSf.1)
      clear hSf hAf hG3 hG6 hT1 hT2 hT3 hw1 hw2
      clear q00 q01 q02 q03 q10 q11 q12 q13
      go_wp2_with fail
      go_roundw
      case rel => exact ⟨k + 1, by omega, by go_num, by rw [hS2.out], by rw [hw3.out, hH2.out], E.out⟩
      case measure => simp [intOf]; omega
    · obtain rfl : t = k := by omega
      have eS : sumF (cpK x) t = cpSum x y := by rw [htt.out]; rfl
      have eH : sumF (fun i => min (cpK x i) 65537 * celW y i) t = cpHvy x y := by rw [htt.out]; rfl
      rw [eS, eH]
      have hS0 : 0 ≤ cpSum x y := sumF_nn (f := cpK x) (n := talM y) (fun i _ => hcn.out i)
      obtain ⟨sm, hsm⟩ : ∃ s, s = min (cpSum x y) 65537 := ⟨_, rfl⟩
      obtain ⟨hm, hhm⟩ : ∃ s, s = min (cpHvy x y) 262145 := ⟨_, rfl⟩
      have hsh : cpShape x y = [sm] ++ celL y := by rw [hsm]; rfl
      have hhv : ¬ 262144 < hm ↔ ¬ 262144 < cpHvy x y := by omega
      have hcl : (celL y).length ≤ 8 := by have := (shapeB_iff.1 (celL_ok hs)).1; exact this
      rw [← hsm, ← hhm]
      replace hsm := hid hsm
      replace hhm := hid hhm
      replace eS := hid eS
      replace eH := hid eH
      have hS0' := hid hS0
      clear hS0
      go_wp2_with (refine wpl_buildV rfl sm (.tmp 71) rfl rfl ?_; have E1 : Env w S (wr.alloc (.cells #[.int .i64 sm] 3)) _ := E.out.lit [sm] (show (1 : Nat) ≤ 17592186044416 by decide); clear E; have E := hid E1; clear E1; generalize World.alloc _ (.cells #[.int .i64 sm] 3) = V1 at E ⊢; generalize wr.heap.size = p1 at E ⊢; (try simp only [List.cons_append, List.nil_append, List.set_cons_zero, List.set_cons_succ] at E))
      replace E := hid (E.out.alloc (.cells #[.slice (some ⟨p1, 0, none⟩) 1 1, .slice so (celL y).length sc] 24))
      generalize World.alloc _ _ = V2 at E ⊢
      generalize V1.heap.size = p2 at E ⊢
      (try simp only [List.cons_append, List.nil_append, List.set_cons_zero, List.set_cons_succ] at E)
      obtain ⟨r0, r1⟩ := row2 (E.out.obj 7 rfl)
      refine (slices_Concat2 [sm] (celL y) _ _ _ _ p2 _ V2 (E.out.ints 6 rfl) (E.out.ints 5 rfl) r0 r1 (by simp only [List.length_cons, List.length_nil]; omega)).mono ?_
      rintro e w5 ⟨oa, oc, rfl, hO, hb⟩
      clear r0 r1
      obtain ⟨s, hss⟩ : ∃ s, s = cpShape x y := ⟨_, rfl⟩
      rw [← hss] at hsh
      rw [← hsh] at hO ⊢
      replace E := hid (E.out.addRowI hO hb)
      clear hO hb
      (try simp only [List.cons_append, List.nil_append, List.set_cons_zero, List.set_cons_succ] at E)
      have sl9 : s.length ≤ 9 := by rw [hsh, List.length_append]; simp only [List.length_cons, List.length_nil]; omega
      have hcap := hid (OwnI.cap (E.out.rowI 8 rfl))
      replace E := hid (E.out.doneI 8 rfl (by omega))
      (try simp only [List.cons_append, List.nil_append, List.set_cons_zero, List.set_cons_succ] at E)
      replace hsh := hid hsh
      replace hss := hid hss
      go_wp2_with fail
      refine (shape_Right s _ _ _ _ (E.out.ints 8 rfl)).mono ?_
      rintro e w6 ⟨rfl, rfl⟩
      cases hsS : shapeB s with
      | false =>
        have hn := hid (SS.out (Or.inl (by rw [← hss.out]; exact hsS)))
        have hv := hid (copyS_no (x := x) (y := y) (by rw [hn.out]; decide))
        replace hsS := hid hsS
        go_wp2_with (refine wpl_store4 rfl (.tmp 4) (.tmp 83) rfl _ rfl rfl (E.out.hdr 2 rfl) ?_; intro V HV CV; replace E := hid (E.out.chg 2 rfl CV HV))
        exact bodyPost_ret (end_arr2 rfl HV rfl rfl) rfl (hR.out _ _ (RetAEC.zero hv.out hn.out E.out.ext))
      | true =>
      by_cases hw : 262144 < hm
      case pos =>
        have hn := hid (SS.out (Or.inr (by have := hhm.out; omega)))
        have hv := hid (copyS_no (x := x) (y := y) (by rw [hn.out]; decide))
        replace hsS := hid hsS
        go_wp2_with (refine wpl_store4 rfl (.tmp 4) (.tmp 83) rfl _ rfl rfl (E.out.hdr 2 rfl) ?_; intro V HV CV; replace E := hid (E.out.chg 2 rfl CV HV))
        exact bodyPost_ret (end_arr2 rfl HV rfl rfl) rfl (hR.out _ _ (RetAEC.zero hv.out hn.out E.out.ext))
      have OK := hid (CK.out (by rw [← hss.out]; exact hsS))
      have hn := hid (S0.out (by rw [← hss.out]; exact hsS) (by have := hhm.out; omega))
      have hv : Hid (copyS x y = .mk y.kind s (cpN x y t 0) (cpI x y t 0)) := hid (by rw [copyS_yes hn.out, copyA_eq, ← hss.out, ← htt.out])
      replace hsS := hid hsS
      clear hhv
      obtain ⟨q10, q11, q12, q13⟩ := (E.out.hdr 1 rfl).all
      go_upto_region 21 with (refine wpl_store4 rfl (.tmp 15) (.tmp 87) rfl _ rfl rfl ((E.out.alloc _).hdr 9 rfl) ?_; intro V3 HV CV; replace E := hid ((E.out.alloc _).chg 9 rfl CV HV); clear CV HV; (try simp only [List.cons_append, List.nil_append, List.set_cons_zero, List.set_cons_succ] at E))
      clear q10 q11 q12 q13
      generalize w5.heap.size = bo at E ⊢
      obtain ⟨q10, q11, q12, q13⟩ := (E.out.hdr 1 rfl).all
      go_wp2_with fail
      clear q10 q11 q12 q13
      refine (copying_collector bo y _ _ _ _ _ _ w S _ _ E.out (E.out.arr 4 rfl) hs hcy.out.1).mono ?_
      rintro e w7 ⟨pn, py, pp, pf, sf, cf, nf, mf, jf, kf, rfl, E1⟩
      clear E
      have E := hid ((E1.row0I).row0A)
      clear E1
      (try simp only [List.cons_append, List.nil_append, List.set_cons_zero, List.set_cons_succ] at E)
      replace E := hid (E.out.pick 9 rfl)
      simp only [List.eraseIdx_cons_succ, List.eraseIdx_cons_zero] at E
      replace E := hid (E.out.pick 3 rfl)
      simp only [List.eraseIdx_cons_succ, List.eraseIdx_cons_zero] at E
      replace E := hid (E.out.pick 3 rfl)
      simp only [List.eraseIdx_cons_succ, List.eraseIdx_cons_zero] at E
      replace E := hid (E.out.pick 3 rfl)
      simp only [List.eraseIdx_cons_succ, List.eraseIdx_cons_zero] at E
      replace E := hid (E.out.pick 16 rfl)
      simp only [List.eraseIdx_cons_succ, List.eraseIdx_cons_zero] at E
      replace E := hid (E.out.pick 16 rfl)
      simp only [List.eraseIdx_cons_succ, List.eraseIdx_cons_zero] at E
      replace E := hid (E.out.pick 16 rfl)
      simp only [List.eraseIdx_cons_succ, List.eraseIdx_cons_zero] at E
      go_upto_region 23 with (fail)
      go_loopw [17, 91] (fun u v wr => ∃ (k : Nat) (na : Option Addr) (nc : Nat) (ia : Option Addr) (ic : Nat), k ≤ t ∧ v = .int .i64 k ∧ Env w S wr [.obj bo (.cells #[.int .i64 y.kind, .slice oa s.length oc, .slice na (cpN x y k 0).length nc, .slice ia (cpI x y k 0).length ic] 27 (0, 0)), .rowI na nc (cpN x y k 0), .rowA ia ic (cpI x y k 0), .obj pn (.cells #[.int .i64 (celN y : Nat)] 3 (0, 0)), .obj py (.cells #[.int .i64 y.kind, .slice sy y.shape.length cy, .slice ny y.nums.length my, .slice iy y.items.length jy] 27 (0, 0)), .obj pp (.cells #[.pointer (some ⟨bo, 0, none⟩)] 53 (0, 0)), .arr y sy ny iy, .obj pf (.cells #[.int .i64 (fillS y).kind, .slice sf (fillS y).shape.length cf, .slice nf (fillS y).nums.length mf, .slice jf (fillS y).items.length kf] 27 (0, 0)), .arr (fillS y) sf nf jf, .obj w.heap.size (.cells #[.int .i64 x.kind, .slice sx x.shape.length cx, .slice nx x.nums.length mx, .slice ix x.items.length jx] 27 (0, 0)), .obj (w.heap.size + 1) (.cells #[.int .i64 y.kind, .slice sy y.shape.length cy, .slice ny y.nums.length my, .slice iy y.items.length jy] 27 (0, 0)), .obj (w.heap.size + 1 + 1) (.cells #[.int .i64 0, .slice none 0 0, .slice none 0 0, .slice none 0 0] 27 (0, 0)), .arr x sx nx ix, .ints (celL y) so, .ints [sm] (some ⟨p1, 0, none⟩), .obj p2 (.cells #[.slice (some ⟨p1, 0, none⟩) 1 1, .slice so (celL y).length sc] 24 (0, 0)), .ints s oa]) (fun _ v _ => t - (intOf v).toNat)
      case atStart => exact ⟨0, none, 0, none, 0, Nat.zero_le _, rfl, by rw [cpN_0, cpI_0]; exact E.out⟩
      case round =>
        clear E
        obtain ⟨k, na, nc, ia, ic, hk2, rfl, E⟩ := hrel
        replace E := hid E
        by_cases hlt : k < t
        · have hkt : k < talM y := by rw [← htt.out]; exact hlt
          have hkle := OK.out.le hkt
          obtain ⟨kc, hkc⟩ : ∃ kc, kc = (cpK x k).toNat := ⟨_, rfl⟩
          have hkm : min (cpK x k) 65537 = (kc : Int) := by have := hcn.out k; omega
          have hlen := fun j (hj : j ≤ kc) => OK.out.len (i := k) (j := j) hkt (by rw [← hkc]; exact hj)
          have hkb : kc ≤ 65536 := by omega
          replace hlen := hid hlen
          replace hkm := hid hkm
          replace hkc := hid hkc
          clear hkle
          go_wp2_with fail
          refine (copy_2 x sx cx nx mx ix jx w.heap.size k _ _ (E.out.arr 12 rfl) (E.out.hdr 9 rfl).c1 (E.out.hdr 9 rfl).c2 (hix.out k hlt)).mono ?_
          rintro e w8 ⟨rfl, rfl⟩
          rw [hkm.out]
          go_upto_region 26 with (fail)
          go_loopw [97] (fun v wr => ∃ (j : Nat) (na : Option Addr) (nc : Nat) (ia : Option Addr) (ic : Nat), j ≤ kc ∧ v = .int .i64 j ∧ Env w S wr [.obj bo (.cells #[.int .i64 y.kind, .slice oa s.length oc, .slice na (cpN x y k j).length nc, .slice ia (cpI x y k j).length ic] 27 (0, 0)), .rowI na nc (cpN x y k j), .rowA ia ic (cpI x y k j), .obj pn (.cells #[.int .i64 (celN y : Nat)] 3 (0, 0)), .obj py (.cells #[.int .i64 y.kind, .slice sy y.shape.length cy, .slice ny y.nums.length my, .slice iy y.items.length jy] 27 (0, 0)), .obj pp (.cells #[.pointer (some ⟨bo, 0, none⟩)] 53 (0, 0)), .arr y sy ny iy, .obj pf (.cells #[.int .i64 (fillS y).kind, .slice sf (fillS y).shape.length cf, .slice nf (fillS y).nums.length mf, .slice jf (fillS y).items.length kf] 27 (0, 0)), .arr (fillS y) sf nf jf, .obj w.heap.size (.cells #[.int .i64 x.kind, .slice sx x.shape.length cx, .slice nx x.nums.length mx, .slice ix x.items.length jx] 27 (0, 0)), .obj (w.heap.size + 1) (.cells #[.int .i64 y.kind, .slice sy y.shape.length cy, .slice ny y.nums.length my, .slice iy y.items.length jy] 27 (0, 0)), .obj (w.heap.size + 1 + 1) (.cells #[.int .i64 0, .slice none 0 0, .slice none 0 0, .slice none 0 0] 27 (0, 0)), .arr x sx nx ix, .ints (celL y) so, .ints [sm] (some ⟨p1, 0, none⟩), .obj p2 (.cells #[.slice (some ⟨p1, 0, none⟩) 1 1, .slice so (celL y).length sc] 24 (0, 0)), .ints s oa]) (fun v _ => kc - (intOf v).toNat)
          case atStart => exact ⟨0, na, nc, ia, ic, Nat.zero_le _, rfl, E.out⟩
          case round =>
            clear E na nc ia ic
            obtain ⟨j, na, nc, ia, ic, hj, rfl, E⟩ := hrel
            replace E := hid E
            by_cases hl2 : j < kc
            · go_wp2_with fail
              refine (coll_add y.kind oa s.length oc na nc (cpN x y k j) ia ic (cpI x y k j) y sy cy ny my iy jy bo pn py pp pf k (celN y) w S _ _ E.out K.out.ry rfl hkt (hlen.out j hj).1 (hlen.out j hj).2 hcy.out.2.1).mono ?_
              rintro e w9 ⟨na2, nc2, ia2, ic2, rfl, E1⟩
              rw [← cpN_succ, ← cpI_succ] at E1
              clear E
              have E := hid E1
              clear E1
              go_wp2_with fail
              go_roundw
              case rel => exact ⟨j + 1, na2, nc2, ia2, ic2, by omega, by go_num, E.out⟩
              case measure => simp [intOf]; omega
            · obtain rfl : j = kc := by omega
              rw [hkc.out, cpN_next, cpI_next] at E
              go_wp2_with fail
              go_roundw
              case rel => exact ⟨k + 1, na, nc, ia, ic, by omega, by go_num, E.out⟩
              case measure => simp [intOf]; omega
        · obtain rfl : t = k := by omega
          obtain ⟨ln1, ln2⟩ := OK.out.lens (i := t) (by rw [← htt.out]; exact Nat.le_refl _)
          obtain ⟨q00, q01, q02, q03⟩ := (E.out.hdr 0 rfl).all
          go_wp2_with (refine wpl_store4 rfl (.tmp 4) (.tmp 104) rfl _ rfl rfl (E.out.hdr 11 rfl) ?_; intro V6 HV CV; replace E := hid (E.out.chg 11 rfl CV HV); clear CV; (try simp only [List.cons_append, List.nil_append, List.set_cons_zero, List.set_cons_succ] at E))
          have c2 := OwnI.cap (E.out.rowI 1 rfl)
          have c3 := OwnA.cap (E.out.rowA 2 rfl)
          replace E := hid (E.out.doneI 1 rfl (by omega))
          (try simp only [List.cons_append, List.nil_append, List.set_cons_zero, List.set_cons_succ] at E)
          replace E := hid (E.out.doneA 2 rfl)
          (try simp only [List.cons_append, List.nil_append, List.set_cons_zero, List.set_cons_succ] at E)
          refine bodyPost_ret (end_arr2 rfl HV rfl rfl) rfl (hR.out _ _ ?_)
          exact RetAEC.of hv.out hn.out rfl ((E.out.ints 16 rfl).mono fun b _ h => h.1) ((E.out.ints 1 rfl).mono fun b _ h => h.1) (by omega) ((E.out.items 2 rfl).mono fun b _ h => h.1) E.out.ext hcap.out c2 c3
end Go.Proofs.Ytdpdcjadedcglaa
