/- copying.Expand: contract. Conditions: the arrays are read; a slice's capacity is at least its length. -/
import Derived.Test.YthhffneibcpbdaaC26D
import Derived.Test.YthhffneibcpbdaaC26F
import Derived.Test.YthhffneibcpbdaaP26E
set_option linter.unusedVariables false
set_option linter.unusedSimpArgs false
namespace Go.Proofs.Ythhffneibcpbdaa
open Go.RowKit Go.Sort
attribute [local go_sem ↓] run_max2 run_min2
attribute [local go_sem] eql_ints_nil eql_arrs_nil
theorem fill_parts {y : Arr} (hk : y.kind = 1 ∨ y.kind = 2 ∨ y.kind = 3) : (y.kind ≠ 3 → (∃ d, (fillS y).nums = [d]) ∧ (fillS y).items = []) ∧ (y.kind = 3 → (∃ z, (fillS y).items = [z]) ∧ (fillS y).nums = []) := by
  refine ⟨fun k => ?_, fun k => ?_⟩
  · rcases hk with h | h | h
    · unfold fillS; rw [if_pos h]; exact ⟨⟨_, rfl⟩, rfl⟩
    · unfold fillS; rw [if_neg (by omega), if_pos h]; exact ⟨⟨_, rfl⟩, rfl⟩
    · exact absurd h k
  · unfold fillS; rw [if_neg (by omega), if_neg (by omega), if_pos k]; exact ⟨⟨_, rfl⟩, rfl⟩
theorem coll_fill (kk : Int) (oa : Option Addr) (ol oc : Nat) (na : Option Addr) (nc : Nat) (nums : List Int) (ia : Option Addr) (ic : Nat) (items : List Arr) (y : Arr) (sy : Option Addr) (cy : Nat) (ny : Option Addr) (my : Nat) (iy : Option Addr) (jy : Nat) (sf : Option Addr) (cf : Nat) (nf : Option Addr) (mf : Nat) (jf : Option Addr) (kf : Nat) (bo pn py pp pf n : Nat) (w0 : World) (S : Nat → Prop) (w : World) (M : List Fact)
    (E : Env w0 S w (.obj bo (.cells #[.int .i64 kk, .slice oa ol oc, .slice na (nums).length nc, .slice ia (items).length ic] 26 (0, 0)) :: .rowI na nc (nums) :: .rowA ia ic (items) :: .obj pn (.cells #[.int .i64 n] 3 (0, 0)) :: .obj py (.cells #[.int .i64 y.kind, .slice sy y.shape.length cy, .slice ny y.nums.length my, .slice iy y.items.length jy] 26 (0, 0)) :: .obj pp (.cells #[.pointer (some ⟨bo, 0, none⟩)] 58 (0, 0)) :: .arr y sy ny iy :: .obj pf (.cells #[.int .i64 (fillS y).kind, .slice sf (fillS y).shape.length cf, .slice nf (fillS y).nums.length mf, .slice jf (fillS y).items.length kf] 26 (0, 0)) :: .arr (fillS y) sf nf jf :: M)) (hk : y.kind = 1 ∨ y.kind = 2 ∨ y.kind = 3) (hn : n ≤ 65536) (hl1 : nums.length ≤ 65536) (hl2 : items.length ≤ 65536) :
    Calls Try.prog 79 #[.int .i64 (-1), .pointer (some ⟨pn, 0, none⟩), .pointer (some ⟨py, 0, none⟩), .pointer (some ⟨pp, 0, none⟩), .pointer (some ⟨pf, 0, none⟩)] w fun en w' => ∃ na' nc' ia' ic', en = .returned (.tuple #[]) ∧ Env w0 S w' (.obj bo (.cells #[.int .i64 kk, .slice oa ol oc, .slice na' (nums ++ repL (fillS y).nums n).length nc', .slice ia' (items ++ repL (fillS y).items n).length ic'] 26 (0, 0)) :: .rowI na' nc' (nums ++ repL (fillS y).nums n) :: .rowA ia' ic' (items ++ repL (fillS y).items n) :: .obj pn (.cells #[.int .i64 n] 3 (0, 0)) :: .obj py (.cells #[.int .i64 y.kind, .slice sy y.shape.length cy, .slice ny y.nums.length my, .slice iy y.items.length jy] 26 (0, 0)) :: .obj pp (.cells #[.pointer (some ⟨bo, 0, none⟩)] 58 (0, 0)) :: .arr y sy ny iy :: .obj pf (.cells #[.int .i64 (fillS y).kind, .slice sf (fillS y).shape.length cf, .slice nf (fillS y).nums.length mf, .slice jf (fillS y).items.length kf] 26 (0, 0)) :: .arr (fillS y) sf nf jf :: M) := by
  obtain ⟨p1, p2⟩ := fill_parts hk
  by_cases k3 : y.kind = 3
  · obtain ⟨⟨z, hz⟩, h0⟩ := p2 k3
    refine (coll_fillA kk oa ol oc na nc nums ia ic items y _ _ _ _ _ _ (fillS y) _ _ _ _ _ _ bo pn py pp pf n z w0 S w M E hn k3 hz (by omega)).mono ?_
    rintro en w' ⟨ia', ic', rfl, E'⟩
    exact ⟨na, nc, ia', ic', rfl, by rw [h0, repL_nil, List.append_nil, hz]; rw [h0, hz] at E'; exact E'⟩
  · obtain ⟨⟨d, hd⟩, h0⟩ := p1 k3
    refine (coll_fillN kk oa ol oc na nc nums ia ic items y _ _ _ _ _ _ (fillS y) _ _ _ _ _ _ bo pn py pp pf n d w0 S w M E hn k3 hd (by omega)).mono ?_
    rintro en w' ⟨na', nc', rfl, E'⟩
    exact ⟨na', nc', ia, ic, rfl, by rw [h0, repL_nil, List.append_nil, hd]; rw [h0, hd] at E'; exact E'⟩
set_option maxHeartbeats 4000000 in
theorem copying_weight_neg (y : Arr) (sy : Option Addr) (cy : Nat) (ny : Option Addr) (my : Nat) (iy : Option Addr) (jy : Nat) (S : Nat → Prop) (w : World) (h : ArrAt w S y sy ny iy) (hs : shapeB y.shape = true) (hc : y.shape.length ≤ cy) :
    Calls Try.prog 50 #[.agg #[.int .i64 y.kind, .slice sy y.shape.length cy, .slice ny y.nums.length my, .slice iy y.items.length jy], .int .i64 (-1)] w fun e w' => e = .returned (.int .i64 (celN y : Nat)) ∧ Below w.heap.size w w' := by
  refine calls_post fun R' hR => ?_
  have h0 := hid h
  clear h
  go_enter Try.func50, Try.ntmps50
  go_upto_region 1 with (fail)
  generalize hEW : (w).alloc (.cells #[.int .i64 y.kind, .slice sy y.shape.length cy, .slice ny y.nums.length my, .slice iy y.items.length jy] 26) = W
  have E := hid (env1 w S hEW)
  clear hEW
  replace E := hid (E.out.arg h0.out)
  (try simp only [List.cons_append, List.nil_append, List.set_cons_zero, List.set_cons_succ] at E)
  obtain ⟨q00, q01, q02, q03⟩ := (E.out.hdr 0 rfl).all
  go_wp2_with fail
  clear q00 q01 q02 q03
  refine (copying_split y _ _ _ _ _ _ _ _ (E.out.arr 1 rfl) hs hc).mono ?_
  rintro e w2 ⟨so, sc, rfl, hI, hb⟩
  replace E := hid (E.out.up hb)
  clear hI hb
  obtain ⟨q00, q01, q02, q03⟩ := (E.out.hdr 0 rfl).all
  by_cases k3 : y.kind = 3
  case neg =>
    have kb : (y.kind != 3) = true := by simpa using k3
    replace k3 := hid k3
    go_wp2_with fail
    exact hR.out _ _ ⟨rfl, E.out.ext⟩
  have kb : (y.kind != 3) = false := by simpa using k3
  replace k3 := hid k3
  go_wp2_with fail
  exact hR.out _ _ ⟨rfl, E.out.ext⟩
theorem onesM_le {l : List Int} (b : l.all bitB = true) {k : Nat} (hk : k ≤ l.length) : onesM l k ≤ k := by
  have h1 := bits_sum b hk
  have h2 := ones_cast b hk
  omega
set_option maxRecDepth 100000 in
set_option maxHeartbeats 8000000 in
theorem copying_Expand (x : Arr) (sx : Option Addr) (cx : Nat) (nx : Option Addr) (mx : Nat) (ix : Option Addr) (jx : Nat) (y : Arr) (sy : Option Addr) (cy : Nat) (ny : Option Addr) (my : Nat) (iy : Option Addr) (jy : Nat) (S : Nat → Prop) (w : World) (h : ArrAt w S x sx nx ix) (g : ArrAt w S y sy ny iy) (hcx : x.shape.length ≤ cx ∧ x.nums.length ≤ mx ∧ x.items.length ≤ jx) (hcy : y.shape.length ≤ cy ∧ y.nums.length ≤ my ∧ y.items.length ≤ jy) :
    Calls Try.prog 31 #[.agg #[.int .i64 x.kind, .slice sx x.shape.length cx, .slice nx x.nums.length mx, .slice ix x.items.length jx], .agg #[.int .i64 y.kind, .slice sy y.shape.length cy, .slice ny y.nums.length my, .slice iy y.items.length jy]] w (RetAEC w (fun b => S b ∨ w.heap.size ≤ b) (expS x y) (expE x y)) := by
  refine calls_post fun R' hR => ?_
  have h0 := hid h
  have g0 := hid g
  replace hcx := hid hcx
  replace hcy := hid hcy
  clear h g
  go_enter Try.func31, Try.ntmps31
  go_upto_region 1 with (fail)
  generalize hEW : (((w).alloc (.cells #[.int .i64 x.kind, .slice sx x.shape.length cx, .slice nx x.nums.length mx, .slice ix x.items.length jx] 26)).alloc (.cells #[.int .i64 y.kind, .slice sy y.shape.length cy, .slice ny y.nums.length my, .slice iy y.items.length jy] 26)).alloc (.cells #[.int .i64 0, .slice none 0 0, .slice none 0 0, .slice none 0 0] 26) = W
  have E := hid (env3 w S hEW)
  clear hEW
  replace E := hid ((E.out.arg h0.out).arg g0.out)
  (try simp only [List.cons_append, List.nil_append, List.set_cons_zero, List.set_cons_succ] at E)
  obtain ⟨q00, q01, q02, q03⟩ := (E.out.hdr 0 rfl).all
  obtain ⟨q10, q11, q12, q13⟩ := (E.out.hdr 1 rfl).all
  go_wp2_with fail
  clear q00 q01 q02 q03 q10 q11 q12 q13
  refine (copying_check x _ _ _ _ _ _ y _ _ _ _ _ _ _ _ (E.out.arr 3 rfl) (E.out.arr 4 rfl)).mono ?_
  rintro e w1 ⟨rfl, hb⟩
  replace E := hid (E.out.up hb)
  clear hb
  by_cases c : chkE26 x y = 0
  case neg =>
    have cb : (chkE26 x y != 0) = true := by simpa using c
    have hn := hid (expE_c c)
    have hv := hid (expS_no (x := x) (y := y) (by rw [hn.out]; exact c))
    replace c := hid c
    go_wp2_with (refine wpl_store4 rfl (.tmp 4) (.tmp 26) rfl _ rfl rfl (E.out.hdr 2 rfl) ?_; intro V HV CV; replace E := hid (E.out.chg 2 rfl CV HV))
    exact bodyPost_ret (end_arr2 rfl HV rfl rfl) rfl (hR.out _ _ (RetAEC.zero hv.out hn.out E.out.ext))
  have cb : (chkE26 x y != 0) = false := by simpa using c
  have K := chk26_ok c
  have hs := (right_ok K.ry).2.1
  have ht := tal_nn hs
  have ht6 := tal_le hs
  have hx6 := (right_l3 K.rx)
  replace K := hid K
  replace c := hid c
  obtain ⟨q10, q11, q12, q13⟩ := (E.out.hdr 1 rfl).all
  go_wp2_with fail
  clear q10 q11 q12 q13
  refine (copying_split y _ _ _ _ _ _ _ _ (E.out.arr 4 rfl) hs hcy.out.1).mono ?_
  rintro e w2 ⟨so, sc, rfl, hI, hb⟩
  replace E := hid ((E.out.up hb).addInts hI (fun _ _ h => h))
  clear hI hb
  (try simp only [List.cons_append, List.nil_append, List.set_cons_zero, List.set_cons_succ] at E)
  rw [← ht]
  replace ht := hid ht
  obtain ⟨t, htt⟩ : ∃ t, t = talM y := ⟨_, rfl⟩
  rw [← htt] at ht6 ⊢
  replace htt := hid htt
  obtain ⟨q00, q01, q02, q03⟩ := (E.out.hdr 0 rfl).all
  go_upto_region 7 with (fail)
  clear q00 q01 q02 q03
  go_loopw [10, 13, 37] (fun s i v wr => ∃ k : Nat, k ≤ x.nums.length ∧ v = .int .i64 k ∧ s = .int .i64 (sumF (numF x.nums) k) ∧ Hid (∀ j, j < k → bitB (x.nums.getD j 0) = true) ∧ Env w S wr [.obj w.heap.size (.cells #[.int .i64 x.kind, .slice sx x.shape.length cx, .slice nx x.nums.length mx, .slice ix x.items.length jx] 26 (0, 0)), .obj (w.heap.size + 1) (.cells #[.int .i64 y.kind, .slice sy y.shape.length cy, .slice ny y.nums.length my, .slice iy y.items.length jy] 26 (0, 0)), .obj (w.heap.size + 1 + 1) (.cells #[.int .i64 0, .slice none 0 0, .slice none 0 0, .slice none 0 0] 26 (0, 0)), .arr x sx nx ix, .arr y sy ny iy, .ints (celL y) so]) (fun _ _ v _ => x.nums.length - (intOf v).toNat)
  case atStart => exact ⟨0, Nat.zero_le _, rfl, rfl, hid (fun j hj => by omega), E.out⟩
  case round =>
    clear E
    obtain ⟨k, hk, rfl, rfl, hb, E⟩ := hrel
    replace E := hid E
    by_cases hlt : k < x.nums.length
    · obtain ⟨b1, o1, hnx, hbl, hS1, hc1⟩ := (E.out.arr 3 rfl).nums.at hlt
      have hN : Hid (bitB (x.nums.getD k 0) = false → x.nums.all bitB = false) := hid (fun q => by
        cases q2 : x.nums.all bitB with
        | false => rfl
        | true => have := bit_at q2 hlt; rw [q] at this; cases this)
      have hsb := sumF_bits hb.out
      have hT : Hid (sumF (numF x.nums) (k + 1) = sumF (numF x.nums) k + x.nums.getD k 0) := hid rfl
      have hA : Hid (bitB (x.nums.getD k 0) = true → ∀ j, j < k + 1 → bitB (x.nums.getD j 0) = true) := hid (fun q j hj => by
        rcases Nat.lt_succ_iff_lt_or_eq.1 hj with h1 | h1
        · exact hb.out j h1
        · rw [h1]; exact q)
      have hsb2 : 0 ≤ sumF (numF x.nums) k ∧ sumF (numF x.nums) k ≤ k := hsb
      clear hsb
      generalize x.nums.getD k 0 = d at hc1 hN hT hA
      generalize sumF (numF x.nums) k = s at hsb2 hT ⊢
      subst hnx
      have t0 : (0 : Int) ≤ (k : Int) := by omega
      have t1 : (k : Int) < (x.nums.length : Int) := by omega
      go_wp2_with fail
      refine (copying_unbinary d _).mono ?_
      rintro e w3 ⟨rfl, rfl⟩
      clear hc1 t0 t1
      cases hd : bitB d with
      | false =>
        have hn := hid (expE_b c.out (hN.out hd))
        have hv := hid (expS_no (x := x) (y := y) (by rw [hn.out]; decide))
        replace hd := hid hd
        go_wp2_with (refine wpl_store4 rfl (.tmp 4) (.tmp 43) rfl _ rfl rfl (E.out.hdr 2 rfl) ?_; intro V HV CV; replace E := hid (E.out.chg 2 rfl CV HV))
        exact bodyPost_ret (end_arr2 rfl HV rfl rfl) rfl (hR.out _ _ (RetAEC.zero hv.out hn.out E.out.ext))
      | true =>
        have hA2 := hid (hA.out hd)
        have hd2 : d = 0 ∨ d = 1 := by simpa [bitB] using hd
        have hdb : 0 ≤ d ∧ d ≤ 1 := by omega
        replace hd2 := hid hd2
        replace hd := hid hd
        go_wp2_with fail
        go_roundw
        case rel => exact ⟨k + 1, by omega, by go_num, by rw [hT.out], hA2, E.out⟩
        case measure => simp [intOf]; omega
    · obtain rfl : k = x.nums.length := by omega
      have hbits : x.nums.all bitB = true := List.all_eq_true.2 fun e he => by
        obtain ⟨q, hq, rfl⟩ := List.mem_iff_getElem.1 he
        have := hb.out q hq
        simpa [hq] using this
      have hoc := ones_cast hbits (Nat.le_refl _)
      rw [← hoc]
      replace hoc := hid hoc
      obtain ⟨on, hon⟩ : ∃ on, on = onesM x.nums x.nums.length := ⟨_, rfl⟩
      rw [← hon]
      by_cases o : on = t
      case neg =>
        have ob : ((on : Int) != (t : Int)) = true := by simp; omega
        have hn := hid (expE_o c.out hbits (by rw [← hon, ← htt.out]; exact o))
        have hv := hid (expS_no (x := x) (y := y) (by rw [hn.out]; decide))
        replace hon := hid hon
        replace hbits := hid hbits
        replace o := hid o
        go_wp2_with (refine wpl_store4 rfl (.tmp 4) (.tmp 51) rfl _ rfl rfl (E.out.hdr 2 rfl) ?_; intro V HV CV; replace E := hid (E.out.chg 2 rfl CV HV))
        exact bodyPost_ret (end_arr2 rfl HV rfl rfl) rfl (hR.out _ _ (RetAEC.zero hv.out hn.out E.out.ext))
      have ob : ((on : Int) != (t : Int)) = false := by simp; omega
      have o' : onesM x.nums x.nums.length = talM y := by rw [← hon, ← htt.out]; exact o
      have SS := fun q => expE_s c.out hbits o' q
      have S0 := fun q1 q2 => expE_0 c.out hbits o' q1 q2
      have CK := fun q => (ExOk.mk c.out hbits o' q : ExOk x y)
      replace hon := hid hon
      replace o := hid o
      replace o' := hid o'
      replace SS := hid SS
      replace S0 := hid S0
      replace CK := hid CK
      replace hbits := hid hbits
      have hsh : exSh x y = [(x.nums.length : Int)] ++ celL y := rfl
      have hcl : (celL y).length ≤ 8 := by have := (shapeB_iff.1 (celL_ok hs)).1; exact this
      obtain ⟨q00, q01, q02, q03⟩ := (E.out.hdr 0 rfl).all
      go_wp2_with (refine wpl_buildV rfl (x.nums.length : Int) (.tmp 54) rfl rfl ?_; have E1 : Env w S (wr.alloc (.cells #[.int .i64 (x.nums.length : Int)] 3)) _ := E.out.lit [(x.nums.length : Int)] (show (1 : Nat) ≤ 17592186044416 by decide); clear E; have E := hid E1; clear E1; generalize World.alloc _ (.cells #[.int .i64 (x.nums.length : Int)] 3) = V1 at E ⊢; generalize wr.heap.size = p1 at E ⊢; (try simp only [List.cons_append, List.nil_append, List.set_cons_zero, List.set_cons_succ] at E))
      clear q00 q01 q02 q03
      replace E := hid (E.out.alloc (.cells #[.slice (some ⟨p1, 0, none⟩) 1 1, .slice so (celL y).length sc] 23))
      generalize World.alloc _ _ = V2 at E ⊢
      generalize V1.heap.size = p2 at E ⊢
      (try simp only [List.cons_append, List.nil_append, List.set_cons_zero, List.set_cons_succ] at E)
      obtain ⟨r0, r1⟩ := row2 (E.out.obj 7 rfl)
      refine (slices_Concat2 [(x.nums.length : Int)] (celL y) _ _ _ _ p2 _ V2 (E.out.ints 6 rfl) (E.out.ints 5 rfl) r0 r1 (by simp only [List.length_cons, List.length_nil]; omega)).mono ?_
      rintro e w5 ⟨oa, oc, rfl, hO, hb2⟩
      clear r0 r1
      obtain ⟨s, hss⟩ : ∃ s, s = exSh x y := ⟨_, rfl⟩
      rw [← hss] at hsh
      rw [← hsh] at hO ⊢
      replace E := hid (E.out.addRowI hO hb2)
      clear hO hb2
      (try simp only [List.cons_append, List.nil_append, List.set_cons_zero, List.set_cons_succ] at E)
      have sl9 : s.length ≤ 9 := by rw [hsh, List.length_append]; simp only [List.length_cons, List.length_nil]; omega
      have hcap := hid (OwnI.cap (E.out.rowI 8 rfl))
      replace E := hid (E.out.doneI 8 rfl (by omega))
      (try simp only [List.cons_append, List.nil_append, List.set_cons_zero, List.set_cons_succ] at E)
      replace hsh := hid hsh
      replace hss := hid hss
      go_wp2_with fail
      refine (shape_Right s _ _ _ _ (E.out.ints 8 rfl)).mono ?_
      rintro e w6 ⟨rfl, rfl⟩
      cases hsS : shapeB s with
      | false =>
        have hn := hid (SS.out (Or.inl (by rw [← hss.out]; exact hsS)))
        have hv := hid (expS_no (x := x) (y := y) (by rw [hn.out]; decide))
        replace hsS := hid hsS
        go_wp2_with (refine wpl_store4 rfl (.tmp 4) (.tmp 62) rfl _ rfl rfl (E.out.hdr 2 rfl) ?_; intro V HV CV; replace E := hid (E.out.chg 2 rfl CV HV))
        exact bodyPost_ret (end_arr2 rfl HV rfl rfl) rfl (hR.out _ _ (RetAEC.zero hv.out hn.out E.out.ext))
      | true =>
      have OK := hid (CK.out (by rw [← hss.out]; exact hsS))
      have SH := hid (fun q => SS.out (Or.inr q))
      have S1 := hid (fun q => S0.out (by rw [← hss.out]; exact hsS) q)
      replace hsS := hid hsS
      obtain ⟨q10, q11, q12, q13⟩ := (E.out.hdr 1 rfl).all
      go_upto_region 19 with (refine wpl_store4 rfl (.tmp 15) (.tmp 66) rfl _ rfl rfl ((E.out.alloc _).hdr 9 rfl) ?_; intro V3 HV CV; replace E := hid ((E.out.alloc _).chg 9 rfl CV HV); clear CV HV; (try simp only [List.cons_append, List.nil_append, List.set_cons_zero, List.set_cons_succ] at E))
      clear q10 q11 q12 q13
      generalize w5.heap.size = bo at E ⊢
      obtain ⟨q10, q11, q12, q13⟩ := (E.out.hdr 1 rfl).all
      go_wp2_with fail
      clear q10 q11 q12 q13
      refine (copying_collector bo y _ _ _ _ _ _ w S _ _ E.out (E.out.arr 4 rfl) hs hcy.out.1).mono ?_
      rintro e w7 ⟨pn, py, pp, pf, sf, cf, nf, mf, jf, kf, rfl, E1⟩
      clear E
      have E := hid ((E1.row0I).row0A)
      clear E1
      (try simp only [List.cons_append, List.nil_append, List.set_cons_zero, List.set_cons_succ] at E)
      replace E := hid (E.out.pick 4 rfl)
      simp only [List.eraseIdx_cons_succ, List.eraseIdx_cons_zero] at E
      replace E := hid (E.out.pick 4 rfl)
      simp only [List.eraseIdx_cons_succ, List.eraseIdx_cons_zero] at E
      replace E := hid (E.out.pick 9 rfl)
      simp only [List.eraseIdx_cons_succ, List.eraseIdx_cons_zero] at E
      replace E := hid (E.out.pick 5 rfl)
      simp only [List.eraseIdx_cons_succ, List.eraseIdx_cons_zero] at E
      replace E := hid (E.out.pick 5 rfl)
      simp only [List.eraseIdx_cons_succ, List.eraseIdx_cons_zero] at E
      replace E := hid (E.out.pick 5 rfl)
      simp only [List.eraseIdx_cons_succ, List.eraseIdx_cons_zero] at E
      replace E := hid (E.out.pick 16 rfl)
      simp only [List.eraseIdx_cons_succ, List.eraseIdx_cons_zero] at E
      replace E := hid (E.out.pick 16 rfl)
      simp only [List.eraseIdx_cons_succ, List.eraseIdx_cons_zero] at E
      replace E := hid (E.out.pick 16 rfl)
      simp only [List.eraseIdx_cons_succ, List.eraseIdx_cons_zero] at E
      obtain ⟨q90, q91, q92, q93⟩ := (E.out.hdr 9 rfl).all
      go_upto_region 22 with (fail)
      clear q90 q91 q92 q93
      have hl6 := OK.out.cn.2.2
      go_loopw [11, 17, 19, 20, 72] (fun hv nx' u1 u2 v wr => ∃ (k : Nat) (na : Option Addr) (nc : Nat) (ia : Option Addr) (ic : Nat), k ≤ x.nums.length ∧ v = .int .i64 k ∧ hv = .int .i64 (exH x.nums y k) ∧ 0 ≤ exH x.nums y k ∧ exH x.nums y k ≤ 262144 ∧ nx' = .int .i64 ((onesM x.nums k : Nat) : Int) ∧ Env w S wr [.obj bo (.cells #[.int .i64 y.kind, .slice oa s.length oc, .slice na (exN x.nums y k).length nc, .slice ia (exI x.nums y k).length ic] 26 (0, 0)), .rowI na nc (exN x.nums y k), .rowA ia ic (exI x.nums y k), .obj pn (.cells #[.int .i64 (celN y : Nat)] 3 (0, 0)), .obj py (.cells #[.int .i64 y.kind, .slice sy y.shape.length cy, .slice ny y.nums.length my, .slice iy y.items.length jy] 26 (0, 0)), .obj pp (.cells #[.pointer (some ⟨bo, 0, none⟩)] 58 (0, 0)), .arr y sy ny iy, .obj pf (.cells #[.int .i64 (fillS y).kind, .slice sf (fillS y).shape.length cf, .slice nf (fillS y).nums.length mf, .slice jf (fillS y).items.length kf] 26 (0, 0)), .arr (fillS y) sf nf jf, .obj w.heap.size (.cells #[.int .i64 x.kind, .slice sx x.shape.length cx, .slice nx x.nums.length mx, .slice ix x.items.length jx] 26 (0, 0)), .obj (w.heap.size + 1) (.cells #[.int .i64 y.kind, .slice sy y.shape.length cy, .slice ny y.nums.length my, .slice iy y.items.length jy] 26 (0, 0)), .obj (w.heap.size + 1 + 1) (.cells #[.int .i64 0, .slice none 0 0, .slice none 0 0, .slice none 0 0] 26 (0, 0)), .arr x sx nx ix, .ints (celL y) so, .ints [(x.nums.length : Int)] (some ⟨p1, 0, none⟩), .obj p2 (.cells #[.slice (some ⟨p1, 0, none⟩) 1 1, .slice so (celL y).length sc] 23 (0, 0)), .ints s oa]) (fun _ _ _ _ v _ => x.nums.length - (intOf v).toNat)
      case atStart => exact ⟨0, none, 0, none, 0, Nat.zero_le _, rfl, rfl, Int.le_refl _, by show (0 : Int) ≤ 262144; decide, by rw [show onesM x.nums 0 = 0 from rfl]; rfl, by rw [show exN x.nums y 0 = [] from rfl, show exI x.nums y 0 = [] from rfl]; exact E.out⟩
      case round =>
        clear E
        obtain ⟨k, na, nc, ia, ic, hk2, rfl, rfl, hH0, hH1, rfl, E⟩ := hrel
        replace E := hid E
        by_cases hlt : k < x.nums.length
        · obtain ⟨b1, o1, hnx, hbl, hS1, hc1⟩ := (E.out.arr 12 rfl).nums.at hlt
          obtain ⟨len1, len2⟩ := OK.out.len (Nat.le_of_lt hlt)
          have hok6 := onesM_le hbits.out (Nat.le_of_lt hlt)
          have t0 : (0 : Int) ≤ (k : Int) := by omega
          have t1 : (k : Int) < (x.nums.length : Int) := by omega
          have hmo := hid (exH_mono (y := y) hbits.out K.out.ry o'.out (show k + 1 ≤ x.nums.length from hlt) (Nat.le_refl _))
          by_cases d1 : numF x.nums k = 1
          case pos =>
            have hcd : x.nums.getD k 0 = 1 := d1
            rw [hcd] at hc1
            have hot : onesM x.nums k < talM y := by rw [← o'.out]; exact ones_lt hbits.out hlt d1
            have hW := celW_bd K.out.ry hot
            have e1 : Hid (exN x.nums y (k + 1) = exN x.nums y k ++ blkL y.nums (onesM x.nums k) (celN y)) := hid (by rw [exN, if_pos d1])
            have e2 : Hid (exI x.nums y (k + 1) = exI x.nums y k ++ blkL y.items (onesM x.nums k) (celN y)) := hid (by rw [exI, if_pos d1])
            have e3 : Hid (exH x.nums y (k + 1) = exH x.nums y k + celW y (onesM x.nums k)) := hid (by rw [exH, if_pos d1])
            have e4 : Hid (onesM x.nums (k + 1) = onesM x.nums k + 1) := hid (ones_1 hbits.out hlt d1)
            have hH2 : exH x.nums y (k + 1) = exH x.nums y k + celW y (onesM x.nums k) := e3.out
            replace d1 := hid d1
            replace hcd := hid hcd
            obtain ⟨oo, hoo⟩ : ∃ o, o = onesM x.nums k := ⟨_, rfl⟩
            rw [← hoo] at hW e1 e2 e3 e4 hot hok6 hH2 ⊢
            obtain ⟨wv, hwv⟩ : ∃ v, v = celW y oo := ⟨_, rfl⟩
            rw [← hwv] at hW e3 hH2
            obtain ⟨ha, hha⟩ : ∃ v, v = exH x.nums y k := ⟨_, rfl⟩
            rw [← hha] at hH0 hH1 e3 hH2 ⊢
            obtain ⟨h2, hh2⟩ : ∃ v, v = exH x.nums y (k + 1) := ⟨_, rfl⟩
            rw [← hh2] at hmo e3 hH2
            subst hnx
            replace hoo := hid hoo
            replace hwv := hid hwv
            replace hha := hid hha
            replace hh2 := hid hh2
            obtain ⟨q100, q101, q102, q103⟩ := (E.out.hdr 10 rfl).all
            go_wp2_with fail
            clear q100 q101 q102 q103
            clear hc1 t0 t1
            refine (copying_weight y sy cy ny my iy jy oo _ wr (E.out.arr 6 rfl) K.out.ry hcy.out.1 hcy.out.2.2 hot).mono ?_
            rintro e w8 ⟨rfl, hb3⟩
            replace E := hid (E.out.up hb3)
            clear hb3
            rw [← hwv.out]
            have hsum : ha + wv = h2 := by omega
            by_cases ov : 262144 < h2
            case pos =>
              have ov2 : (262144 : Int) < ha + wv := by omega
              have hn := hid (SH.out (by have := hmo.out; omega))
              have hv := hid (expS_no (x := x) (y := y) (by rw [hn.out]; decide))
              clear hsum hH2
              go_wp2_with (refine wpl_store4 rfl (.tmp 4) (.tmp 88) rfl _ rfl rfl (E.out.hdr 11 rfl) ?_; intro V HV CV; replace E := hid (E.out.chg 11 rfl CV HV))
              exact bodyPost_ret (end_arr2 rfl HV rfl rfl) rfl (hR.out _ _ (RetAEC.zero hv.out hn.out E.out.ext))
            case neg =>
            have ov2 : ¬ (262144 : Int) < ha + wv := by omega
            replace hsum := hid hsum
            clear hH2
            go_wp2_with fail
            refine (coll_add y.kind oa s.length oc na nc (exN x.nums y k) ia ic (exI x.nums y k) y sy cy ny my iy jy bo pn py pp pf oo (celN y) w S _ _ E.out K.out.ry rfl hot len1 len2 hcy.out.2.1).mono ?_
            rintro e w9 ⟨na2, nc2, ia2, ic2, rfl, E1⟩
            rw [← e1.out, ← e2.out] at E1
            clear E
            have E := hid E1
            clear E1
            go_wp2_with fail
            go_roundw
            case rel => exact ⟨k + 1, na2, nc2, ia2, ic2, by omega, by go_num, by rw [hsum.out, hh2.out], by rw [← hh2.out]; have := hsum.out; omega, by rw [← hh2.out]; omega, by rw [e4.out, Int.natCast_add]; rfl, E.out⟩
            case measure => simp [intOf]; omega
          case neg =>
            have hcd : x.nums.getD k 0 ≠ 1 := d1
            have e1 : Hid (exN x.nums y (k + 1) = exN x.nums y k ++ repL (fillS y).nums (celN y)) := hid (by rw [exN, if_neg d1])
            have e2 : Hid (exI x.nums y (k + 1) = exI x.nums y k ++ repL (fillS y).items (celN y)) := hid (by rw [exI, if_neg d1])
            have e3 : Hid (exH x.nums y (k + 1) = exH x.nums y k + (celN y : Nat)) := hid (by rw [exH, if_neg d1])
            have e4 : Hid (onesM x.nums (k + 1) = onesM x.nums k) := hid (ones_0 hbits.out hlt d1)
            have hH2 : exH x.nums y (k + 1) = exH x.nums y k + (celN y : Nat) := e3.out
            have hn6 := celN_le hs
            generalize x.nums.getD k 0 = d at hc1 hcd
            have db : (d == 1) = false := by simpa using hcd
            replace d1 := hid d1
            replace hcd := hid hcd
            obtain ⟨oo, hoo⟩ : ∃ o, o = onesM x.nums k := ⟨_, rfl⟩
            rw [← hoo] at e4 hok6 ⊢
            obtain ⟨ha, hha⟩ : ∃ v, v = exH x.nums y k := ⟨_, rfl⟩
            rw [← hha] at hH0 hH1 e3 hH2 ⊢
            obtain ⟨h2, hh2⟩ : ∃ v, v = exH x.nums y (k + 1) := ⟨_, rfl⟩
            rw [← hh2] at hmo e3 hH2
            subst hnx
            replace hoo := hid hoo
            replace hha := hid hha
            replace hh2 := hid hh2
            obtain ⟨q100, q101, q102, q103⟩ := (E.out.hdr 10 rfl).all
            go_wp2_with fail
            clear q100 q101 q102 q103
            clear hc1 t0 t1
            refine (copying_weight_neg y sy cy ny my iy jy _ wr (E.out.arr 6 rfl) hs hcy.out.1).mono ?_
            rintro e w8 ⟨rfl, hb3⟩
            replace E := hid (E.out.up hb3)
            clear hb3
            have hsum : ha + (celN y : Nat) = h2 := by omega
            by_cases ov : 262144 < h2
            case pos =>
              have ov2 : (262144 : Int) < ha + (celN y : Nat) := by omega
              have hn := hid (SH.out (by have := hmo.out; omega))
              have hv := hid (expS_no (x := x) (y := y) (by rw [hn.out]; decide))
              clear hsum hH2
              go_wp2_with (refine wpl_store4 rfl (.tmp 4) (.tmp 88) rfl _ rfl rfl (E.out.hdr 11 rfl) ?_; intro V HV CV; replace E := hid (E.out.chg 11 rfl CV HV))
              exact bodyPost_ret (end_arr2 rfl HV rfl rfl) rfl (hR.out _ _ (RetAEC.zero hv.out hn.out E.out.ext))
            case neg =>
            have ov2 : ¬ (262144 : Int) < ha + (celN y : Nat) := by omega
            replace hsum := hid hsum
            clear hH2
            go_wp2_with fail
            refine (coll_fill y.kind oa s.length oc na nc (exN x.nums y k) ia ic (exI x.nums y k) y sy cy ny my iy jy sf cf nf mf jf kf bo pn py pp pf (celN y) w S _ _ E.out (flat_of K.out.ry).k hn6 len1 len2).mono ?_
            rintro e w9 ⟨na2, nc2, ia2, ic2, rfl, E1⟩
            rw [← e1.out, ← e2.out] at E1
            clear E
            have E := hid E1
            clear E1
            go_wp2_with fail
            go_roundw
            case rel => exact ⟨k + 1, na2, nc2, ia2, ic2, by omega, by go_num, by rw [hsum.out, hh2.out], by rw [← hh2.out]; have := hsum.out; omega, by rw [← hh2.out]; omega, by rw [e4.out], E.out⟩
            case measure => simp [intOf]; omega
        · have hke : k = x.nums.length := by omega
          have hn := hid (S1.out (by rw [← hke]; omega))
          have hv : Hid (expS x y = .mk y.kind s (exN x.nums y k) (exI x.nums y k)) := hid (by rw [expS_yes hn.out, expA, ← hss.out, ← hke])
          obtain ⟨ln1, ln2⟩ := OK.out.len (k := k) hk2
          replace hke := hid hke
          obtain ⟨q00, q01, q02, q03⟩ := (E.out.hdr 0 rfl).all
          go_wp2_with (refine wpl_store4 rfl (.tmp 4) (.tmp 93) rfl _ rfl rfl (E.out.hdr 11 rfl) ?_; intro V6 HV CV; replace E := hid (E.out.chg 11 rfl CV HV); clear CV; (try simp only [List.cons_append, List.nil_append, List.set_cons_zero, List.set_cons_succ] at E))
          have c2 := OwnI.cap (E.out.rowI 1 rfl)
          have c3 := OwnA.cap (E.out.rowA 2 rfl)
          replace E := hid (E.out.doneI 1 rfl (by omega))
          (try simp only [List.cons_append, List.nil_append, List.set_cons_zero, List.set_cons_succ] at E)
          replace E := hid (E.out.doneA 2 rfl)
          (try simp only [List.cons_append, List.nil_append, List.set_cons_zero, List.set_cons_succ] at E)
          refine bodyPost_ret (end_arr2 rfl HV rfl rfl) rfl (hR.out _ _ ?_)
          exact RetAEC.of hv.out hn.out rfl ((E.out.ints 16 rfl).mono fun b _ h => h.1) ((E.out.ints 1 rfl).mono fun b _ h => h.1) (by omega) ((E.out.items 2 rfl).mono fun b _ h => h.1) E.out.ext hcap.out c2 c3
end Go.Proofs.Ythhffneibcpbdaa
