/- ref26.Copy: contract. Conditions: the arrays are read; a slice's capacity is at least its length. -/
import Derived.Test.YthhffneibcpbdaaREF26A
import Derived.Test.YthhffneibcpbdaaC26D
import Derived.Deep.CutRange
import Derived.Deep.DeepCutAuto
set_option linter.unusedVariables false
set_option linter.unusedSimpArgs false
namespace Go.Proofs.Ythhffneibcpbdaa
open Go.RowKit Go.Sort
attribute [local go_sem ↓] run_max2 run_min2
attribute [local go_sem] eql_ints_nil eql_arrs_nil
theorem any_neg_at {x y : Arr} (K : Chk26 x y) (l : ¬ (x.shape.length = 1 ∧ x.nums.length ≠ talM y)) {k : Nat} (hk : k < talM y) (h : cpK x k < 0) : x.nums.any negB = true :=
  List.any_eq_true.2 ⟨cpK x k, getD_mem (cp_idx K l hk), by simpa [negB] using h⟩
theorem any_neg_no {x y : Arr} (K : Chk26 x y) (l : ¬ (x.shape.length = 1 ∧ x.nums.length ≠ talM y)) (h : ∀ k, k < talM y → 0 ≤ cpK x k) (h0 : x.shape.length = 0 → 0 ≤ x.nums.getD 0 0) : x.nums.any negB = false := by
  refine any_negB.2 fun n hn => ?_
  obtain ⟨k, hk, rfl⟩ := List.mem_iff_getElem.1 hn
  have hr := K.r
  by_cases q : x.shape.length = 0
  · have hc := formE_zero (right_form K.rx)
    have : cnt x.shape = 1 := by rw [List.eq_nil_of_length_eq_zero q]; exact cnt_nil
    have h2 := hc.2.2
    have h3 := K.k
    have hk0 : k = 0 := by omega
    subst hk0
    have := h0 q
    simpa [hk] using this
  · have := h k (by omega)
    unfold cpK at this
    rw [if_neg q] at this
    simpa [hk] using this
theorem mod26 {x y : Arr} (K : Chk26 x y) (l : ¬ (x.shape.length = 1 ∧ x.nums.length ≠ talM y)) {k : Nat} (hk : k < talM y) : k % x.nums.length = (if x.shape.length = 0 then 0 else k) ∧ 0 < x.nums.length := by
  have h1 := cp_idx K l hk
  have hr := K.r
  have hc := formE_zero (right_form K.rx)
  have h2 := hc.2.2
  have h3 := K.k
  split
  · rename_i q
    have : cnt x.shape = 1 := by rw [List.eq_nil_of_length_eq_zero q]; exact cnt_nil
    have e : x.nums.length = 1 := by omega
    rw [e]; omega
  · rename_i q
    have e : x.nums.length = talM y := by omega
    rw [e]; exact ⟨Nat.mod_eq_of_lt hk, by omega⟩
theorem sc_len {x y : Arr} (K : Chk26 x y) (q : x.shape.length = 0) : x.nums.length = 1 := by
  have hc := formE_zero (right_form K.rx)
  have : cnt x.shape = 1 := by rw [List.eq_nil_of_length_eq_zero q]; exact cnt_nil
  have h2 := hc.2.2
  have h3 := K.k
  omega
theorem any_neg_0 {l : List Int} (h : 0 < l.length) (d : l.getD 0 0 < 0) : l.any negB = true := List.any_eq_true.2 ⟨_, getD_mem h, by simpa [negB] using d⟩
/-- an array that is right is not too heavy -/
theorem right_wt {a : Arr} (h : rightS a = 0) : wtS a ≤ 262144 := by
  have h4 := (right_iff.1 h).2.2.2
  obtain ⟨hk, _, hc⟩ := formE_zero (right_form h)
  by_cases k : a.kind = 3
  · rw [wtS_k3 k]; omega
  · have := sumW_nn a.items
    rw [wtS_nk3 k]; unfold szN; split <;> omega
/-- the state of the copying loop: i cells and j copies of the next, or too heavy already -/
def Cp26 (x y : Arr) (s : List Int) (i j : Nat) (ln : List Int) (li : List Arr) : Prop :=
  (ln = cpN x y i j ∧ li = cpI x y i j) ∨ (262144 < wtS (.mk y.kind s ln li) ∧ 262144 < cpHvy x y ∧ ln.length ≤ 65536 ∧ li.length ≤ 65536)
section
variable {x y : Arr} {s : List Int} {i j : Nat} {ln : List Int} {li : List Arr}
theorem Cp26.len (h : Cp26 x y s i j ln li) (O : CpOk x y) (hi : i < talM y) (hj : j ≤ (cpK x i).toNat) : ln.length ≤ 65536 ∧ li.length ≤ 65536 := by
  rcases h with ⟨rfl, rfl⟩ | h
  · exact O.len hi hj
  · exact h.2.2
theorem Cp26.lens (h : Cp26 x y s i 0 ln li) (O : CpOk x y) (hi : i ≤ talM y) : ln.length ≤ 65536 ∧ li.length ≤ 65536 := by
  rcases h with ⟨rfl, rfl⟩ | h
  · exact O.lens hi
  · exact h.2.2
theorem Cp26.all (h : Cp26 x y s i (cpK x i).toNat ln li) : Cp26 x y s (i + 1) 0 ln li := by
  rcases h with ⟨rfl, rfl⟩ | h
  · exact Or.inl ⟨cpN_next i, cpI_next i⟩
  · exact Or.inr h
theorem Cp26.empty (h : Cp26 x y s i j ln li) (O : CpOk x y) (h0 : cnt (cpShape x y) = 0) (hi : i < talM y) (hj : j ≤ (cpK x i).toNat) : Cp26 x y s (i + 1) 0 ln li := by
  rcases h with ⟨rfl, rfl⟩ | h
  · have h1 := O.nil h0 hi hj
    have h2 := O.nil h0 hi (Nat.le_refl (cpK x i).toNat)
    rw [cpN_next, cpI_next] at h2
    exact Or.inl ⟨by rw [h1.1, h2.1], by rw [h1.2, h2.2]⟩
  · exact Or.inr h
theorem Cp26.heavy (h : Cp26 x y s i j ln li) (O : CpOk x y) (hs : s = cpShape x y) (hw : 262144 < wtS (.mk y.kind s ln li)) (hi : i < talM y) (hj : j ≤ (cpK x i).toNat) : Cp26 x y s (i + 1) 0 ln li := by
  rcases h with ⟨rfl, rfl⟩ | h
  · have h1 := O.wt hi hj
    have h2 := O.len hi hj
    rw [← hs] at h1
    exact Or.inr ⟨hw, by omega, h2⟩
  · exact Or.inr h
theorem Cp26.step (h : Cp26 x y s i j ln li) (hw : ¬ 262144 < wtS (.mk y.kind s ln li)) : Cp26 x y s i (j + 1) (ln ++ blkL y.nums i (celN y)) (li ++ blkL y.items i (celN y)) := by
  rcases h with ⟨rfl, rfl⟩ | h
  · exact Or.inl ⟨(cpN_succ i j).symm, (cpI_succ i j).symm⟩
  · exact absurd h.1 hw
theorem Cp26.fin (h : Cp26 x y s (talM y) 0 ln li) (O : CpOk x y) (hs : s = cpShape x y) : bndS (.mk y.kind s ln li) = copyS x y ∧ bndE (.mk y.kind s ln li) = copyE x y := by
  unfold bndS bndE
  rcases h with ⟨rfl, rfl⟩ | h
  · rw [hs, ← copyA_eq]
    by_cases v : 262144 < cpHvy x y
    · have hn := copyE_s O.c O.l O.d (Or.inr v)
      have hr : ¬ rightS (copyA x y) = 0 := fun q => absurd v (O.right.1 q)
      rw [if_neg hr, if_neg hr, copyS_no (by rw [hn]; decide), hn]; exact ⟨rfl, rfl⟩
    · have hn := copyE_0 O.c O.l O.d O.s v
      have hr := O.right.2 v
      rw [if_pos hr, if_pos hr, copyS_yes hn, hn]; exact ⟨rfl, rfl⟩
  · have hn := copyE_s O.c O.l O.d (Or.inr h.2.1)
    have hr : ¬ rightS (.mk y.kind s ln li) = 0 := fun q => by have := right_wt q; have := h.1; omega
    rw [if_neg hr, if_neg hr, copyS_no (by rw [hn]; decide), hn]; exact ⟨rfl, rfl⟩
end
set_option maxRecDepth 100000 in
set_option maxHeartbeats 8000000 in
theorem ref26_Copy (x : Arr) (sx : Option Addr) (cx : Nat) (nx : Option Addr) (mx : Nat) (ix : Option Addr) (jx : Nat) (y : Arr) (sy : Option Addr) (cy : Nat) (ny : Option Addr) (my : Nat) (iy : Option Addr) (jy : Nat) (S : Nat → Prop) (w : World) (h : ArrAt w S x sx nx ix) (g : ArrAt w S y sy ny iy) (hcx : x.shape.length ≤ cx ∧ x.nums.length ≤ mx ∧ x.items.length ≤ jx) (hcy : y.shape.length ≤ cy ∧ y.nums.length ≤ my ∧ y.items.length ≤ jy) :
    Calls Try.prog 30 #[.agg #[.int .i64 x.kind, .slice sx x.shape.length cx, .slice nx x.nums.length mx, .slice ix x.items.length jx], .agg #[.int .i64 y.kind, .slice sy y.shape.length cy, .slice ny y.nums.length my, .slice iy y.items.length jy]] w (RetAEC w (fun b => S b ∨ w.heap.size ≤ b) (copyS x y) (copyE x y)) := by
  refine calls_post fun R' hR => ?_
  have h0 := hid h
  have g0 := hid g
  replace hcx := hid hcx
  replace hcy := hid hcy
  clear h g
  go_enter Try.func30, Try.ntmps30
  go_upto_region 1 with (fail)
  generalize hEW : (((w).alloc (.cells #[.int .i64 x.kind, .slice sx x.shape.length cx, .slice nx x.nums.length mx, .slice ix x.items.length jx] 26)).alloc (.cells #[.int .i64 y.kind, .slice sy y.shape.length cy, .slice ny y.nums.length my, .slice iy y.items.length jy] 26)).alloc (.cells #[.int .i64 0, .slice none 0 0, .slice none 0 0, .slice none 0 0] 26) = W
  have E := hid (env3 w S hEW)
  clear hEW
  replace E := hid ((E.out.arg h0.out).arg g0.out)
  (try simp only [List.cons_append, List.nil_append, List.set_cons_zero, List.set_cons_succ] at E)
  obtain ⟨q00, q01, q02, q03⟩ := (E.out.hdr 0 rfl).all
  obtain ⟨q10, q11, q12, q13⟩ := (E.out.hdr 1 rfl).all
  go_wp2_with fail
  clear q00 q01 q02 q03 q10 q11 q12 q13
  refine (ref26_checked x _ _ _ _ _ _ y _ _ _ _ _ _ _ _ (E.out.arr 3 rfl) (E.out.arr 4 rfl) hcx.out.2.1).mono ?_
  rintro e w1 ⟨so, sl, sc, rfl, hso, hb⟩
  by_cases c : chkE26 x y = 0
  case neg =>
    have cb : (chkE26 x y != 0) = true := by simpa using c
    have hn := hid (copyE_c c)
    have hv := hid (copyS_no (x := x) (y := y) (by rw [hn.out]; exact c))
    replace c := hid c
    replace E := hid (E.out.up hb)
    clear hso hb
    go_wp2_with (refine wpl_store4 rfl (.tmp 4) (.tmp 22) rfl _ rfl rfl (E.out.hdr 2 rfl) ?_; intro V HV CV; replace E := hid (E.out.chg 2 rfl CV HV))
    exact bodyPost_ret (end_arr2 rfl HV rfl rfl) rfl (hR.out _ _ (RetAEC.zero hv.out hn.out E.out.ext))
  have cb : (chkE26 x y != 0) = false := by simpa using c
  obtain ⟨rfl, hI, hsc⟩ := hso c
  replace E := hid ((E.out.up hb).addInts hI (fun _ _ h => h))
  clear hso hb hI
  (try simp only [List.cons_append, List.nil_append, List.set_cons_zero, List.set_cons_succ] at E)
  have K := chk26_ok c
  have hs := (right_ok K.ry).2.1
  have ht := tal_nn hs
  have ht6 := tal_le hs
  have xl := K.r
  have hx6 := (right_l3 K.rx)
  replace K := hid K
  replace c := hid c
  rw [c.out]
  obtain ⟨t, htt⟩ : ∃ t, t = talM y := ⟨_, rfl⟩
  rw [← htt] at ht ht6
  have cb2 : ((0 : Int) != 0) = false := rfl
  by_cases l : x.shape.length = 1 ∧ x.nums.length ≠ t
  case pos =>
    have l1 : ((x.shape.length : Int) == 1) = true := by simp; omega
    have l2 : ((x.nums.length : Int) != (talN y)) = true := by rw [← ht]; simp; omega
    have hn := hid (copyE_l c.out (by rw [← htt]; exact l))
    have hv := hid (copyS_no (x := x) (y := y) (by rw [hn.out]; decide))
    replace l := hid l
    replace ht := hid ht
    obtain ⟨q00, q01, q02, q03⟩ := (E.out.hdr 0 rfl).all
    obtain ⟨q10, q11, q12, q13⟩ := (E.out.hdr 1 rfl).all
    go_wp2_with fail
    refine (ref23_Tally y _ _ _ _ _ _ _ _ (E.out.arr 4 rfl)).mono ?_
    rintro e w2 ⟨rfl, hb⟩
    replace E := hid (E.out.up hb)
    clear hb
    obtain ⟨q00, q01, q02, q03⟩ := (E.out.hdr 0 rfl).all
    obtain ⟨q10, q11, q12, q13⟩ := (E.out.hdr 1 rfl).all
    go_wp2_with (refine wpl_store4 rfl (.tmp 4) (.tmp 35) rfl _ rfl rfl (E.out.hdr 2 rfl) ?_; intro V HV CV; replace E := hid (E.out.chg 2 rfl CV HV))
    exact bodyPost_ret (end_arr2 rfl HV rfl rfl) rfl (hR.out _ _ (RetAEC.zero hv.out hn.out E.out.ext))
  replace htt := hid htt
  obtain ⟨q00, q01, q02, q03⟩ := (E.out.hdr 0 rfl).all
  go_upto_region 4 with (fail)
  clear q00 q01 q02 q03
  go_cut [34] (fun v wc => v = .bool false ∧ Env w S wc [.obj w.heap.size (.cells #[.int .i64 x.kind, .slice sx x.shape.length cx, .slice nx x.nums.length mx, .slice ix x.items.length jx] 26 (0, 0)), .obj (w.heap.size + 1) (.cells #[.int .i64 y.kind, .slice sy y.shape.length cy, .slice ny y.nums.length my, .slice iy y.items.length jy] 26 (0, 0)), .obj (w.heap.size + 1 + 1) (.cells #[.int .i64 0, .slice none 0 0, .slice none 0 0, .slice none 0 0] 26 (0, 0)), .arr x sx nx ix, .arr y sy ny iy, .ints x.nums so])
  case first =>
    by_cases l1 : x.shape.length = 1
    · have b1 : ((x.shape.length : Int) == 1) = true := by simp; omega
      have b2 : ((x.nums.length : Int) != (talN y)) = false := by rw [← ht]; simp; omega
      replace l1 := hid l1
      replace l := hid l
      replace ht := hid ht
      obtain ⟨q00, q01, q02, q03⟩ := (E.out.hdr 0 rfl).all
      obtain ⟨q10, q11, q12, q13⟩ := (E.out.hdr 1 rfl).all
      go_wp2_with fail
      refine (ref23_Tally y _ _ _ _ _ _ _ _ (E.out.arr 4 rfl)).mono ?_
      rintro e w2 ⟨rfl, hb⟩
      replace E := hid (E.out.up hb)
      clear hb
      go_wp2_with fail
      go_meet
      case rel => exact ⟨rfl, E.out⟩
    · have b1 : ((x.shape.length : Int) == 1) = false := by simp; omega
      replace l1 := hid l1
      replace l := hid l
      replace ht := hid ht
      obtain ⟨q00, q01, q02, q03⟩ := (E.out.hdr 0 rfl).all
      obtain ⟨q10, q11, q12, q13⟩ := (E.out.hdr 1 rfl).all
      go_wp2_with fail
      go_meet
      case rel => exact ⟨rfl, E.out⟩
  case rest =>
  clear E
  obtain ⟨rfl, E⟩ := hcut
  replace E := hid E
  have LL : Hid (¬ (x.shape.length = 1 ∧ x.nums.length ≠ talM y)) := hid (by rw [← htt.out]; exact l)
  replace l := hid l
  have hmx := hid (fun k (hk : k < t) => mod26 K.out LL.out (k := k) (by rw [← htt.out]; exact hk))
  have hix := hid (fun k (hk : k < t) => cp_idx K.out LL.out (k := k) (by rw [← htt.out]; exact hk))
  have hng := hid (fun k (hk : k < t) (q : cpK x k < 0) => any_neg_at K.out LL.out (k := k) (by rw [← htt.out]; exact hk) q)
  replace ht := hid ht
  go_upto_region 8 with (fail)
  go_loopw [8, 9, 10] (fun s v u wr => ∃ k : Nat, k ≤ t ∧ v = .int .i64 k ∧ s = .int .i64 (min (sumF (cpK x) k) 65537) ∧ Hid (∀ j, j < k → 0 ≤ cpK x j) ∧ Env w S wr [.obj w.heap.size (.cells #[.int .i64 x.kind, .slice sx x.shape.length cx, .slice nx x.nums.length mx, .slice ix x.items.length jx] 26 (0, 0)), .obj (w.heap.size + 1) (.cells #[.int .i64 y.kind, .slice sy y.shape.length cy, .slice ny y.nums.length my, .slice iy y.items.length jy] 26 (0, 0)), .obj (w.heap.size + 1 + 1) (.cells #[.int .i64 0, .slice none 0 0, .slice none 0 0, .slice none 0 0] 26 (0, 0)), .arr x sx nx ix, .arr y sy ny iy, .ints x.nums so]) (fun _ v _ _ => t - (intOf v).toNat)
  case atStart => exact ⟨0, Nat.zero_le _, rfl, rfl, fun j hj => by omega, E.out⟩
  case round =>
    clear E
    obtain ⟨k, hk, rfl, rfl, hnn, E⟩ := hrel
    replace E := hid E
    by_cases hlt : k < t
    · have e1 : (k : Int) < talN y := by rw [← ht.out]; omega
      obtain ⟨hm1, hlp⟩ := hmx.out k hlt
      have hNG := hid (hng.out k hlt)
      have hml : k % x.nums.length < x.nums.length := Nat.mod_lt _ hlp
      have hmod : ((k : Nat) : Int).tmod (x.nums.length : Int) = ((k % x.nums.length : Nat) : Int) := rfl
      have hH0 : ((x.nums.length : Int) == 0) = false := beq_eq_false_iff_ne.2 (by omega)
      have hH1 : ¬ (x.nums.length : Int) = 0 := by omega
      have hH2 : ¬ x.nums.length = 0 := by omega
      have hcv : Hid (x.nums.getD (k % x.nums.length) 0 = cpK x k) := hid (by rw [hm1]; rfl)
      have hs0 := sumF_nn (f := cpK x) (n := k) (fun i q => hnn.out i q)
      have hS1 : sumF (cpK x) (k + 1) = sumF (cpK x) k + cpK x k := rfl
      clear hm1
      generalize k % x.nums.length = m at hmod hml hcv
      obtain ⟨s0, hs0'⟩ : ∃ s, s = sumF (cpK x) k := ⟨_, rfl⟩
      rw [← hs0'] at hs0 hS1 ⊢
      obtain ⟨sa, hsa⟩ : ∃ s, s = min s0 65537 := ⟨_, rfl⟩
      have hsb : 0 ≤ sa ∧ sa ≤ 65537 := by omega
      rw [← hsa]
      replace hs0' := hid hs0'
      replace hsa := hid hsa
      replace hS1 := hid hS1
      replace hs0 := hid hs0
      obtain ⟨q10, q11, q12, q13⟩ := (E.out.hdr 1 rfl).all
      go_wp2_with fail
      clear q10 q11 q12 q13
      refine (ref23_Tally y _ _ _ _ _ _ _ _ (E.out.arr 4 rfl)).mono ?_
      rintro e w2 ⟨rfl, hb⟩
      replace E := hid (E.out.up hb)
      clear hb
      obtain ⟨b1, o1, hs1, hbl1, hS1', hc1⟩ := (E.out.ints 5 rfl).at hml
      rw [hcv.out] at hc1
      subst hs1
      by_cases d : cpK x k < 0
      case pos =>
        have hn := hid (copyE_d c.out LL.out (hNG.out d))
        have hv := hid (copyS_no (x := x) (y := y) (by rw [hn.out]; decide))
        generalize cpK x k = cv at hc1 d
        go_wp2_with (refine wpl_store4 rfl (.tmp 4) (.tmp 51) rfl _ rfl rfl (E.out.hdr 2 rfl) ?_; intro V HV CV; replace E := hid (E.out.chg 2 rfl CV HV))
        exact bodyPost_ret (end_arr2 rfl HV rfl rfl) rfl (hR.out _ _ (RetAEC.zero hv.out hn.out E.out.ext))
      case neg =>
        have hnn2 : Hid (∀ j, j < k + 1 → 0 ≤ cpK x j) := hid (fun j hj => by
          rcases Nat.lt_succ_iff_lt_or_eq.1 hj with q | q
          · exact hnn.out j q
          · rw [q]; omega)
        have hS2 : Hid (min (sa + min (cpK x k) 65537) 65537 = min (sumF (cpK x) (k + 1)) 65537) := hid (by rw [hS1.out, hsa.out]; have := hs0.out; omega)
        generalize cpK x k = cv at hc1 d hS2
        have hcb : 0 ≤ min cv 65537 ∧ min cv 65537 ≤ 65537 := by omega
        go_wp2_with fail
        go_roundw
        case rel => exact ⟨k + 1, by omega, by go_num, by rw [hS2.out], hnn2, E.out⟩
        case measure => simp [intOf]; omega
    · obtain rfl : t = k := by omega
      have e1 : ¬ (t : Int) < talN y := by rw [← ht.out]; omega
      replace hnn := hid (fun j (hj : j < talM y) => hnn.out j (by rw [htt.out]; exact hj))
      have eS : sumF (cpK x) t = cpSum x y := by rw [htt.out]; rfl
      rw [eS]
      have hS0 : 0 ≤ cpSum x y := sumF_nn (f := cpK x) (n := talM y) (fun i q => hnn.out i q)
      obtain ⟨sm, hsm⟩ : ∃ s, s = min (cpSum x y) 65537 := ⟨_, rfl⟩
      have hsmb : 0 ≤ sm ∧ sm ≤ 65537 := by omega
      have hsh : cpShape x y = sm :: celL y := by rw [hsm]; rfl
      rw [← hsm]
      replace hsm := hid hsm
      replace eS := hid eS
      replace hS0 := hid hS0
      have hnl := hid (fun q : x.shape.length = 0 => sc_len K.out q)
      obtain ⟨q10, q11, q12, q13⟩ := (E.out.hdr 1 rfl).all
      go_wp2_with fail
      clear q10 q11 q12 q13
      refine (ref23_Tally y _ _ _ _ _ _ _ _ (E.out.arr 4 rfl)).mono ?_
      rintro e w2 ⟨rfl, hb⟩
      replace E := hid (E.out.up hb)
      clear hb
      by_cases d0 : x.shape.length = 0 ∧ x.nums.getD 0 0 < 0
      case pos =>
        have l1 : ((x.shape.length : Int) == 0) = true := beq_iff_eq.2 (by omega)
        have hl1 : 0 < x.nums.length := by have := hnl.out d0.1; omega
        obtain ⟨b1, o1, hs1, hbl1, hS1', hc1⟩ := (E.out.ints 5 rfl).at hl1
        rw [Nat.add_zero] at hc1
        have hd := hid (any_neg_0 hl1 d0.2)
        have hn := hid (copyE_d c.out LL.out hd.out)
        have hv := hid (copyS_no (x := x) (y := y) (by rw [hn.out]; decide))
        have d1 := d0.2
        subst hs1
        generalize x.nums.getD 0 0 = cv at hc1 d1
        replace d0 := hid d0
        obtain ⟨q00, q01, q02, q03⟩ := (E.out.hdr 0 rfl).all
        go_wp2_with (refine wpl_store4 rfl (.tmp 4) (.tmp 67) rfl _ rfl rfl (E.out.hdr 2 rfl) ?_; intro V HV CV; replace E := hid (E.out.chg 2 rfl CV HV))
        exact bodyPost_ret (end_arr2 rfl HV rfl rfl) rfl (hR.out _ _ (RetAEC.zero hv.out hn.out E.out.ext))
      have hd := hid (any_neg_no K.out LL.out (fun k q => hnn.out k q) (fun q => by omega))
      go_upto_region 14 with (fail)
      obtain ⟨wo, rfl⟩ : ∃ wo : World, wo = w2 := ⟨_, rfl⟩
      go_cut [66] (fun v wc => v = .bool false ∧ Env w S wc [.obj w.heap.size (.cells #[.int .i64 x.kind, .slice sx x.shape.length cx, .slice nx x.nums.length mx, .slice ix x.items.length jx] 26 (0, 0)), .obj (w.heap.size + 1) (.cells #[.int .i64 y.kind, .slice sy y.shape.length cy, .slice ny y.nums.length my, .slice iy y.items.length jy] 26 (0, 0)), .obj (w.heap.size + 1 + 1) (.cells #[.int .i64 0, .slice none 0 0, .slice none 0 0, .slice none 0 0] 26 (0, 0)), .arr x sx nx ix, .arr y sy ny iy, .ints x.nums so])
      case first =>
        by_cases l1 : x.shape.length = 0
        · have b1 : ((x.shape.length : Int) == 0) = true := beq_iff_eq.2 (by omega)
          have hl1 : 0 < x.nums.length := by have := hnl.out l1; omega
          obtain ⟨b1, o1, hs1, hbl1, hS1', hc1⟩ := (E.out.ints 5 rfl).at hl1
          rw [Nat.add_zero] at hc1
          have d1 : ¬ x.nums.getD 0 0 < 0 := fun q => d0 ⟨l1, q⟩
          subst hs1
          replace d0 := hid d0
          replace l1 := hid l1
          generalize x.nums.getD 0 0 = cv at hc1 d1
          obtain ⟨q00, q01, q02, q03⟩ := (E.out.hdr 0 rfl).all
          go_wp2_with fail
          go_meet
          case rel => exact ⟨rfl, E.out⟩
        · have b1 : ((x.shape.length : Int) == 0) = false := beq_eq_false_iff_ne.2 (by omega)
          replace d0 := hid d0
          replace l1 := hid l1
          obtain ⟨q00, q01, q02, q03⟩ := (E.out.hdr 0 rfl).all
          go_wp2_with fail
          go_meet
          case rel => exact ⟨rfl, E.out⟩
      case rest =>
      clear E
      obtain ⟨rfl, E⟩ := hcut
      replace E := hid E
      replace d0 := hid d0
      have hsl8 : y.shape.length ≤ 1000 := by have := (shapeB_iff.1 hs).1; omega
      go_upto_region 16 with (fail)
      cases hsS : shapeB (sm :: celL y) with
      | false =>
        have hD : Hid (¬ dimsE (sm :: celL y) = 0) := hid (fun q => by rw [dimsE_zero.1 q] at hsS; cases hsS)
        have hn := hid (copyE_s c.out LL.out hd.out (Or.inl (by rw [hsh]; exact hsS)))
        have hv := hid (copyS_no (x := x) (y := y) (by rw [hn.out]; decide))
        obtain ⟨T, hT1, hT2, hT3⟩ := E.out.tw
        obtain ⟨q10, q11, q12, q13⟩ := (E.out.hdr 1 rfl).all
        refine wp_region_seq_tail 7 (Sees wc [(⟨(w.heap.size+1), 0, none⟩, .int .i64 y.kind), (⟨(w.heap.size+1), 1, none⟩, .slice sy y.shape.length cy), (⟨(w.heap.size+1), 2, none⟩, .slice ny y.nums.length my), (⟨(w.heap.size+1), 3, none⟩, .slice iy y.items.length jy)]) [2, 6] (fun k v u u' => match k with | 2 => v = .tuple #[.agg #[.int .i64 0, .slice none 0 0, .slice none 0 0, .slice none 0 0], .int .i64 21] | 6 => v = .pointer (some ⟨u.heap.size, 0, none⟩) ∧ u' = u.alloc (.cells #[.int .i64 0, .slice none 0 0, .slice none 0 0, .slice none 0 0] 26) | _ => False) (fun _ _ h e => h.up e) (Sees.start (all_cons ((E.out.hdr 1 rfl).c0) (all_cons ((E.out.hdr 1 rfl).c1) (all_cons ((E.out.hdr 1 rfl).c2) (all_cons ((E.out.hdr 1 rfl).c3) (all_nil)))))) ?_
        simp only [List.take_succ_cons, List.take_zero, List.drop_succ_cons, List.drop_zero]
        repeat (first | (refine m_plain (v := ?_) (by rfl) (by rfl) ?_ ?_; rotate_left; (intro wz hSw; obtain ⟨-, hSc⟩ := hSw; (try simp only [List.forall_mem_cons, List.forall_mem_nil, and_true] at hSc); go_simp; (first | done | with_reducible rfl)); (intro K hK; (try simp only [Act.put, List.setIfInBounds_toArray, List.set_cons_zero, List.set_cons_succ]); refine hK _ _ ?_; clear hK K)) | (refine m_skip (by rfl) (by rfl) ?_; (intro K hK; (try simp only [Act.put, List.setIfInBounds_toArray, List.set_cons_zero, List.set_cons_succ]); refine hK _ _ ?_; clear hK K)))
        clear q10 q11 q12 q13
        refine m_make (by rfl) (by rfl) ?_ ?_
        · intro wz hSw hdep R hRz
          obtain ⟨hSe, hSc⟩ := hSw
          (try simp only [List.forall_mem_cons, List.forall_mem_nil, and_true] at hSc)
          unfold does
          (go_simp; refine Calls.mono (ref26_shaped y _ _ _ _ _ _ sm T wz (ArrAt.up (ArrAt.mono (fun b _ h => hT1 b h) _ (E.out.arr 4 rfl)) hSe) hcy.out.1 hsl8) ?_; rintro e' wq ⟨⟨hd1, rfl⟩ | ⟨hd1, h1⟩, hb⟩ <;> first | exact absurd hd1 hD.out | exact ⟨_, rfl, hRz.out _ _ ⟨hb, rfl⟩⟩)
        intro v2 u2 x2 hG2 K hK
        have hF2 := hG2.fact
        (try dsimp only at hF2)
        subst hF2
        (try simp only [Act.put, List.setIfInBounds_toArray, List.set_cons_zero, List.set_cons_succ]); refine hK _ _ ?_; clear hK K
        repeat (first | (refine m_plain (v := ?_) (by rfl) (by rfl) ?_ ?_; rotate_left; (intro wz hSw; obtain ⟨-, hSc⟩ := hSw; (try simp only [List.forall_mem_cons, List.forall_mem_nil, and_true] at hSc); go_simp; (first | done | with_reducible rfl)); (intro K hK; (try simp only [Act.put, List.setIfInBounds_toArray, List.set_cons_zero, List.set_cons_succ]); refine hK _ _ ?_; clear hK K)) | (refine m_skip (by rfl) (by rfl) ?_; (intro K hK; (try simp only [Act.put, List.setIfInBounds_toArray, List.set_cons_zero, List.set_cons_succ]); refine hK _ _ ?_; clear hK K)))
        refine m_make (by rfl) (by rfl) ?_ ?_
        · intro wz hSw hdep R hRz
          obtain ⟨hSe, hSc⟩ := hSw
          (try simp only [List.forall_mem_cons, List.forall_mem_nil, and_true] at hSc)
          unfold does
          (go_simp; exact hRz.out _ _ ⟨ext_alloc _ _, rfl, rfl⟩)
        intro v6 u6 x6 hG6 K hK
        have hF6 := hG6.fact
        (try dsimp only at hF6)
        obtain ⟨rfl, rfl⟩ := hF6
        (try simp only [Act.put, List.setIfInBounds_toArray, List.set_cons_zero, List.set_cons_succ]); refine hK _ _ ?_; clear hK K
        repeat (first | (refine m_plain (v := ?_) (by rfl) (by rfl) ?_ ?_; rotate_left; (intro wz hSw; obtain ⟨-, hSc⟩ := hSw; (try simp only [List.forall_mem_cons, List.forall_mem_nil, and_true] at hSc); go_simp; (first | done | with_reducible rfl)); (intro K hK; (try simp only [Act.put, List.setIfInBounds_toArray, List.set_cons_zero, List.set_cons_succ]); refine hK _ _ ?_; clear hK K)) | (refine m_skip (by rfl) (by rfl) ?_; (intro K hK; (try simp only [Act.put, List.setIfInBounds_toArray, List.set_cons_zero, List.set_cons_succ]); refine hK _ _ ?_; clear hK K)))
        refine m_nil ?_
        intro wf hSf hAf
        replace E := hid (E.out.made hG6.s.1 (hAf 6 _ rfl) hSf.1)
        clear hSf hAf hG2 hG6 hT1 hT2 hT3
        (try simp only [List.cons_append, List.nil_append, List.set_cons_zero, List.set_cons_succ] at E)
        generalize u6.heap.size = bo at E ⊢
        refine wpl_store4 rfl (.tmp 11) (.tmp 72) rfl _ rfl rfl (E.out.hdr 6 rfl) ?_
        intro V1 HV CV
        replace E := hid (E.out.chg 6 rfl CV HV)
        clear HV CV
        (try simp only [List.cons_append, List.nil_append, List.set_cons_zero, List.set_cons_succ] at E)
        go_wp2_with (refine wpl_store4 rfl (.tmp 4) (.tmp 76) rfl _ rfl rfl (E.out.hdr 2 rfl) ?_; intro V HV CV; replace E := hid (E.out.chg 2 rfl CV HV))
        exact bodyPost_ret (end_arr2 rfl HV rfl rfl) rfl (hR.out _ _ (RetAEC.zero hv.out hn.out E.out.ext))
      | true =>
        have OK : Hid (CpOk x y) := hid ⟨c.out, LL.out, hd.out, by rw [hsh]; exact hsS⟩
        have hsD := dimsE_zero.2 hsS
        have hcS := cntC_eq hsS
        obtain ⟨s, hss⟩ : ∃ s, s = sm :: celL y := ⟨_, rfl⟩
        rw [← hss] at hsh hsS hsD hcS
        replace hss := hid hss
        replace hsh := hid hsh
        replace hsD := hid hsD
        replace hsS := hid hsS
        obtain ⟨T, hT1, hT2, hT3⟩ := E.out.tw
        obtain ⟨q10, q11, q12, q13⟩ := (E.out.hdr 1 rfl).all
        refine wp_region_seq_tail 7 (Sees wc [(⟨(w.heap.size+1), 0, none⟩, .int .i64 y.kind), (⟨(w.heap.size+1), 1, none⟩, .slice sy y.shape.length cy), (⟨(w.heap.size+1), 2, none⟩, .slice ny y.nums.length my), (⟨(w.heap.size+1), 3, none⟩, .slice iy y.items.length jy)]) [2, 6] (fun k v u u' => match k with | 2 => ∃ so sc, v = .tuple #[.agg #[.int .i64 y.kind, .slice so s.length sc, .slice none 0 0, .slice none 0 0], .int .i64 0] ∧ OwnI u' u.heap.size so sc s | 6 => v = .pointer (some ⟨u.heap.size, 0, none⟩) ∧ u' = u.alloc (.cells #[.int .i64 0, .slice none 0 0, .slice none 0 0, .slice none 0 0] 26) | _ => False) (fun _ _ h e => h.up e) (Sees.start (all_cons ((E.out.hdr 1 rfl).c0) (all_cons ((E.out.hdr 1 rfl).c1) (all_cons ((E.out.hdr 1 rfl).c2) (all_cons ((E.out.hdr 1 rfl).c3) (all_nil)))))) ?_
        simp only [List.take_succ_cons, List.take_zero, List.drop_succ_cons, List.drop_zero]
        repeat (first | (refine m_plain (v := ?_) (by rfl) (by rfl) ?_ ?_; rotate_left; (intro wz hSw; obtain ⟨-, hSc⟩ := hSw; (try simp only [List.forall_mem_cons, List.forall_mem_nil, and_true] at hSc); go_simp; (first | done | with_reducible rfl)); (intro K hK; (try simp only [Act.put, List.setIfInBounds_toArray, List.set_cons_zero, List.set_cons_succ]); refine hK _ _ ?_; clear hK K)) | (refine m_skip (by rfl) (by rfl) ?_; (intro K hK; (try simp only [Act.put, List.setIfInBounds_toArray, List.set_cons_zero, List.set_cons_succ]); refine hK _ _ ?_; clear hK K)))
        refine m_make (by rfl) (by rfl) ?_ ?_
        · intro wz hSw hdep R hRz
          obtain ⟨hSe, hSc⟩ := hSw
          (try simp only [List.forall_mem_cons, List.forall_mem_nil, and_true] at hSc)
          unfold does
          (go_simp; refine Calls.mono (ref26_shaped y _ _ _ _ _ _ sm T wz (ArrAt.up (ArrAt.mono (fun b _ h => hT1 b h) _ (E.out.arr 4 rfl)) hSe) hcy.out.1 hsl8) ?_; rw [← hss.out]; rintro e' wq ⟨⟨hd1, rfl⟩ | ⟨hd1, so, sc, rfl, hO⟩, hb⟩ <;> first | exact absurd hsD.out hd1 | exact ⟨_, rfl, hRz.out _ _ ⟨hb, so, sc, rfl, hO⟩⟩)
        intro v2 u2 x2 hG2 K hK
        have hF2 := hG2.fact
        (try dsimp only at hF2)
        obtain ⟨oa, oc, rfl, hO⟩ := hF2
        (try simp only [Act.put, List.setIfInBounds_toArray, List.set_cons_zero, List.set_cons_succ]); refine hK _ _ ?_; clear hK K
        repeat (first | (refine m_plain (v := ?_) (by rfl) (by rfl) ?_ ?_; rotate_left; (intro wz hSw; obtain ⟨-, hSc⟩ := hSw; (try simp only [List.forall_mem_cons, List.forall_mem_nil, and_true] at hSc); go_simp; (first | done | with_reducible rfl)); (intro K hK; (try simp only [Act.put, List.setIfInBounds_toArray, List.set_cons_zero, List.set_cons_succ]); refine hK _ _ ?_; clear hK K)) | (refine m_skip (by rfl) (by rfl) ?_; (intro K hK; (try simp only [Act.put, List.setIfInBounds_toArray, List.set_cons_zero, List.set_cons_succ]); refine hK _ _ ?_; clear hK K)))
        refine m_make (by rfl) (by rfl) ?_ ?_
        · intro wz hSw hdep R hRz
          obtain ⟨hSe, hSc⟩ := hSw
          (try simp only [List.forall_mem_cons, List.forall_mem_nil, and_true] at hSc)
          unfold does
          (go_simp; exact hRz.out _ _ ⟨ext_alloc _ _, rfl, rfl⟩)
        intro v6 u6 x6 hG6 K hK
        have hF6 := hG6.fact
        (try dsimp only at hF6)
        obtain ⟨rfl, rfl⟩ := hF6
        (try simp only [Act.put, List.setIfInBounds_toArray, List.set_cons_zero, List.set_cons_succ]); refine hK _ _ ?_; clear hK K
        repeat (first | (refine m_plain (v := ?_) (by rfl) (by rfl) ?_ ?_; rotate_left; (intro wz hSw; obtain ⟨-, hSc⟩ := hSw; (try simp only [List.forall_mem_cons, List.forall_mem_nil, and_true] at hSc); go_simp; (first | done | with_reducible rfl)); (intro K hK; (try simp only [Act.put, List.setIfInBounds_toArray, List.set_cons_zero, List.set_cons_succ]); refine hK _ _ ?_; clear hK K)) | (refine m_skip (by rfl) (by rfl) ?_; (intro K hK; (try simp only [Act.put, List.setIfInBounds_toArray, List.set_cons_zero, List.set_cons_succ]); refine hK _ _ ?_; clear hK K)))
        refine m_nil ?_
        intro wf hSf hAf
        have hcap := hid hO.cap
        have hs8 : s.length ≤ 9 := by rw [hss.out]; have := (shapeB_iff.1 (celL_ok hs)).1; simp only [List.length_cons]; omega
        replace E := hid (E.out.madeI ((hO.ints (by omega)).mono fun b _ hb => hb.1) (hAf 2 _ rfl) (hG6.order 2 _ rfl) hG2.s.1 hG6.s.1 (hAf 6 _ rfl) hSf.1)
        clear hSf hAf hG2 hG6 hO hT1 hT2 hT3
        clear q10 q11 q12 q13
        (try simp only [List.cons_append, List.nil_append, List.set_cons_zero, List.set_cons_succ] at E)
        generalize u6.heap.size = bo at E ⊢
        refine wpl_store4 rfl (.tmp 11) (.tmp 72) rfl _ rfl rfl (E.out.hdr 6 rfl) ?_
        intro V1 HV CV
        replace E := hid (E.out.chg 6 rfl CV HV)
        clear HV CV
        (try simp only [List.cons_append, List.nil_append, List.set_cons_zero, List.set_cons_succ] at E)
        go_wp2_with fail
        replace E := hid ((E.out.row0I).row0A)
        (try simp only [List.cons_append, List.nil_append, List.set_cons_zero, List.set_cons_succ] at E)
        replace E := hid (E.out.pick 9 rfl)
        simp only [List.eraseIdx_cons_succ, List.eraseIdx_cons_zero] at E
        replace E := hid (E.out.pick 9 rfl)
        simp only [List.eraseIdx_cons_succ, List.eraseIdx_cons_zero] at E
        go_upto_region 20 with (fail)
        go_loopw [12, 13] (fun i u wr => ∃ (k : Nat) (ln : List Int) (li : List Arr) (na : Option Addr) (nc : Nat) (ia : Option Addr) (ic : Nat), k ≤ t ∧ i = .int .i64 k ∧ Hid (Cp26 x y s k 0 ln li) ∧ Env w S wr [.rowI na nc (ln), .rowA ia ic (li), .obj w.heap.size (.cells #[.int .i64 x.kind, .slice sx x.shape.length cx, .slice nx x.nums.length mx, .slice ix x.items.length jx] 26 (0, 0)), .obj (w.heap.size + 1) (.cells #[.int .i64 y.kind, .slice sy y.shape.length cy, .slice ny y.nums.length my, .slice iy y.items.length jy] 26 (0, 0)), .obj (w.heap.size + 1 + 1) (.cells #[.int .i64 0, .slice none 0 0, .slice none 0 0, .slice none 0 0] 26 (0, 0)), .arr x sx nx ix, .arr y sy ny iy, .ints x.nums so, .obj bo (.cells #[.int .i64 y.kind, .slice oa s.length oc, .slice na ln.length nc, .slice ia li.length ic] 26 (0, 0)), .ints s oa]) (fun i _ _ => t - (intOf i).toNat)
        case atStart => exact ⟨0, [], [], none, 0, none, 0, Nat.zero_le _, rfl, hid (Or.inl ⟨cpN_0.symm, cpI_0.symm⟩), E.out⟩
        case round =>
          clear E
          obtain ⟨k, ln, li, na, nc, ia, ic, hk2, rfl, hC, E⟩ := hrel
          replace E := hid E
          by_cases hlt : k < t
          case pos =>
            have e1 : (k : Int) < talN y := by rw [← ht.out]; omega
            obtain ⟨q30, q31, q32, q33⟩ := (E.out.hdr 3 rfl).all
            go_wp2_with fail
            clear q30 q31 q32 q33
            refine (ref23_Tally y _ _ _ _ _ _ _ _ (E.out.arr 6 rfl)).mono ?_
            rintro e w4 ⟨rfl, hb⟩
            replace E := hid (E.out.up hb)
            clear hb
            obtain ⟨hm1, hlp⟩ := hmx.out k hlt
            have hkt : k < talM y := by rw [← htt.out]; exact hlt
            have hml : k % x.nums.length < x.nums.length := Nat.mod_lt _ hlp
            have hmod : ((k : Nat) : Int).tmod (x.nums.length : Int) = ((k % x.nums.length : Nat) : Int) := rfl
            have hH0 : ((x.nums.length : Int) == 0) = false := beq_eq_false_iff_ne.2 (by omega)
            have hH1 : ¬ (x.nums.length : Int) = 0 := by omega
            have hH2 : ¬ x.nums.length = 0 := by omega
            obtain ⟨kc, hkc⟩ : ∃ kc, kc = (cpK x k).toNat := ⟨_, rfl⟩
            have hkm : cpK x k = (kc : Int) := by have := hnn.out k hkt; omega
            have hcv : Hid (x.nums.getD (k % x.nums.length) 0 = (kc : Int)) := hid (by rw [hm1, ← hkm]; rfl)
            have hkb : kc ≤ 65536 := by have := OK.out.le hkt; omega
            clear hm1
            generalize k % x.nums.length = m at hmod hml hcv
            replace hkm := hid hkm
            replace hkc := hid hkc
            go_upto_region 23 with (fail)
            clear e1
            go_loopw [13] (fun v wr => ∃ (j : Nat) (ln : List Int) (li : List Arr) (na : Option Addr) (nc : Nat) (ia : Option Addr) (ic : Nat), j ≤ kc ∧ v = .int .i64 j ∧ Hid (Cp26 x y s k j ln li) ∧ Env w S wr [.rowI na nc (ln), .rowA ia ic (li), .obj w.heap.size (.cells #[.int .i64 x.kind, .slice sx x.shape.length cx, .slice nx x.nums.length mx, .slice ix x.items.length jx] 26 (0, 0)), .obj (w.heap.size + 1) (.cells #[.int .i64 y.kind, .slice sy y.shape.length cy, .slice ny y.nums.length my, .slice iy y.items.length jy] 26 (0, 0)), .obj (w.heap.size + 1 + 1) (.cells #[.int .i64 0, .slice none 0 0, .slice none 0 0, .slice none 0 0] 26 (0, 0)), .arr x sx nx ix, .arr y sy ny iy, .ints x.nums so, .obj bo (.cells #[.int .i64 y.kind, .slice oa s.length oc, .slice na ln.length nc, .slice ia li.length ic] 26 (0, 0)), .ints s oa]) (fun v _ => kc - (intOf v).toNat)
            case atStart => exact ⟨0, ln, li, na, nc, ia, ic, Nat.zero_le _, rfl, hC, E.out⟩
            case round =>
              clear E hC na nc ia ic ln li
              obtain ⟨j, ln, li, na, nc, ia, ic, hj, rfl, hC, E⟩ := hrel
              replace E := hid E
              have hll := hC.out.len OK.out hkt (by rw [← hkc.out]; exact hj)
              obtain ⟨b1, o1, hs1, hbl1, hS1', hc1⟩ := (E.out.ints 7 rfl).at hml
              rw [hcv.out] at hc1
              subst hs1
              by_cases hj2 : j < kc
              case neg =>
                obtain rfl : j = kc := by omega
                have hC2 := hid (Cp26.all (by rw [← hkc.out]; exact hC.out))
                go_wp2_with fail
                go_roundw
                case rel => exact ⟨k + 1, ln, li, na, nc, ia, ic, by omega, by go_num, hC2, E.out⟩
                case measure => simp [intOf]; omega
              obtain ⟨q80, q81, q82, q83⟩ := (E.out.hdr 8 rfl).all
              go_wp2_with fail
              clear q80 q81 q82 q83
              refine (ref03_Count s _ _ _ _ (E.out.ints 9 rfl)).mono ?_
              rintro e w5 ⟨rfl, rfl⟩
              rw [hcS]
              by_cases z : 0 < cnt s
              case neg =>
                have hC2 := hid (hC.out.empty OK.out (by rw [hsh.out]; have := (cnt_le hsS.out).1; omega) hkt (by rw [← hkc.out]; exact hj))
                go_wp2_with fail
                go_roundw
                case rel => exact ⟨k + 1, ln, li, na, nc, ia, ic, by omega, by go_num, hC2, E.out⟩
                case measure => simp [intOf]; omega
              obtain ⟨q80, q81, q82, q83⟩ := (E.out.hdr 8 rfl).all
              go_wp2_with fail
              clear q80 q81 q82 q83
              refine (ref03_Weight (.mk y.kind s ln li) _ _ _ _ _ _ _ _ (ArrAt.iff.2 ⟨(E.out.ints 9 rfl).mono fun _ _ _ => trivial, E.out.rowIr 0 rfl (Nat.le_trans hll.1 (by decide)), by show li.length ≤ _; omega, E.out.rowAr 1 rfl⟩)).mono ?_
              rintro e w6 ⟨rfl, hb⟩
              replace E := hid (E.out.up hb)
              clear hb
              by_cases hw : 262144 < wtS (.mk y.kind s ln li)
              case pos =>
                have hC2 := hid (hC.out.heavy OK.out hsh.out.symm hw hkt (by rw [← hkc.out]; exact hj))
                have hw2 : ¬ wtS (.mk y.kind s ln li) ≤ 262144 := by omega
                go_wp2_with fail
                go_roundw
                case rel => exact ⟨k + 1, ln, li, na, nc, ia, ic, by omega, by go_num, hC2, E.out⟩
                case measure => simp [intOf]; omega
              have hC2 := hid (hC.out.step hw)
              have hw2 : wtS (.mk y.kind s ln li) ≤ 262144 := by omega
              generalize wtS (.mk y.kind s ln li) = wt at hw2 ⊢
              clear hw
              obtain ⟨q80, q81, q82, q83⟩ := (E.out.hdr 8 rfl).all
              obtain ⟨q30, q31, q32, q33⟩ := (E.out.hdr 3 rfl).all
              go_wp2_with fail
              clear q80 q81 q82 q83 q30 q31 q32 q33
              refine (ref26_cell y.kind oa s.length oc na nc ln ia ic li y _ _ _ _ _ _ k w S _ _ E.out (E.out.arr 6 rfl) rfl (flat_of K.out.ry) hs hcy.out.1 hkt (sz_tal K.out.ry) (by omega) (by omega)).mono ?_
              rintro e w7 ⟨na2, nc2, ia2, ic2, rfl, E1⟩
              clear E
              have E := hid E1
              clear E1
              generalize ln ++ blkL y.nums k (celN y) = ln2 at E hC2 ⊢
              generalize li ++ blkL y.items k (celN y) = li2 at E hC2 ⊢
              go_wp2_with (refine wpl_store4 rfl (.tmp 11) (.tmp 109) rfl _ rfl rfl (E.out.hdr 8 rfl) ?_; intro V HV CV; replace E := hid (E.out.chg 8 rfl CV HV); clear HV CV; (try simp only [List.cons_append, List.nil_append, List.set_cons_zero, List.set_cons_succ] at E))
              go_roundw
              case rel => exact ⟨j + 1, ln2, li2, na2, nc2, ia2, ic2, by omega, by go_num, hC2, E.out⟩
              case measure => simp [intOf]; omega
          case neg =>
            obtain rfl : t = k := by omega
            have e1 : ¬ (t : Int) < talN y := by rw [← ht.out]; omega
            have hll := hC.out.lens OK.out (Nat.le_of_eq htt.out)
            obtain ⟨fin1, fin2⟩ := Cp26.fin (by rw [← htt.out]; exact hC.out) OK.out hsh.out.symm
            replace fin1 := hid fin1
            replace fin2 := hid fin2
            have c2 := hid (OwnI.cap (E.out.rowI 0 rfl))
            have c3 := hid (OwnA.cap (E.out.rowA 1 rfl))
            replace E := hid (E.out.doneI 0 rfl (by omega))
            (try simp only [List.cons_append, List.nil_append, List.set_cons_zero, List.set_cons_succ] at E)
            replace E := hid (E.out.doneA 1 rfl)
            (try simp only [List.cons_append, List.nil_append, List.set_cons_zero, List.set_cons_succ] at E)
            obtain ⟨q30, q31, q32, q33⟩ := (E.out.hdr 3 rfl).all
            go_wp2_with fail
            clear q30 q31 q32 q33
            refine (ref23_Tally y _ _ _ _ _ _ _ _ (E.out.arr 6 rfl)).mono ?_
            rintro e w4 ⟨rfl, hb⟩
            replace E := hid (E.out.up hb)
            clear hb
            obtain ⟨q80, q81, q82, q83⟩ := (E.out.hdr 8 rfl).all
            go_wp2_with fail
            clear q80 q81 q82 q83
            refine (ref26_bounded (.mk y.kind s ln li) _ _ _ _ _ _ _ _ (ArrAt.iff.2 ⟨E.out.ints 9 rfl, E.out.ints 0 rfl, by show li.length ≤ _; omega, E.out.items 1 rfl⟩) ⟨hcap.out, c2.out, c3.out⟩).mono ?_
            intro e w5 h
            obtain ⟨s7, c7, n7, m7, i7, j7, rfl, hA, hb, hC7⟩ := h.eq fin1.out.symm fin2.out
            replace E := hid ((E.out.up hb).addArr hA (fun b _ hq => hq))
            replace hC7 := hid hC7
            clear hA hb h
            (try simp only [List.cons_append, List.nil_append, List.set_cons_zero, List.set_cons_succ] at E)
            go_wp2_with (refine wpl_store4 rfl (.tmp 4) (.tmp 112) rfl _ rfl rfl (E.out.hdr 4 rfl) ?_; intro V HV CV; replace E := hid (E.out.chg 4 rfl CV HV); clear CV; (try simp only [List.cons_append, List.nil_append, List.set_cons_zero, List.set_cons_succ] at E))
            refine bodyPost_ret (end_arr2 rfl HV rfl rfl) rfl (hR.out _ _ ?_)
            exact RetAEC.at rfl rfl (ArrAt.mono (fun b _ h => h.1) _ (E.out.arr 10 rfl)) E.out.ext hC7.out
end Go.Proofs.Ythhffneibcpbdaa
