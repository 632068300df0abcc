/- copying.check, weight, collector and the closures of Copy: contracts. Conditions: the arrays are read; a slice's capacity is at least its length. -/
import Derived.Test.YtdpdcjadedcglaaC26B
set_option linter.unusedVariables false
set_option maxRecDepth 20000
set_option linter.unusedSimpArgs false
namespace Go.Proofs.Ytdpdcjadedcglaa
open Go.RowKit Go.Sort
attribute [local go_sem ↓] run_max2 run_min2
attribute [local go_sem] eql_ints_nil eql_arrs_nil
section
variable {ops : Array Oper} {rest : List Oper} {o : Oper} {a : Act} {Q : Exit → Act → World → Prop} {w : World}
theorem wpl_storeI1 (hgd : o.guard = none) (p x : Operand) (ho : o.op = .store 3 p x) (b : Nat) (old v : Int) (hp : a.eval p = .pointer (some ⟨b, 0, none⟩)) (hx : a.eval x = .int .i64 v) (hg : w.heap[b]? = some (.cells #[.int .i64 old] 3 (0, 0)))
    (h : ∀ V, V.heap[b]? = some (.cells #[.int .i64 v] 3 (0, 0)) → Chg w V b → wpList Try.prog ops Q rest (a.put o.dst undef) V) : wpList Try.prog ops Q (o :: rest) a w := by
  refine wpList_plain hgd fun K hK => ?_
  have h1 := heap_setCell_same w b 0 _ _ (.int .i64 v) hg
  have := hK _ _ (h _ (by simpa using h1) (chg_setCell w b _ _))
  unfold Oper.wp execOp
  simp only [ho, hp, hx]
  have d2 := row1 hg
  have d3 := frozen_of_row w b 0 _ _ hg
  simp [go_sem, d2, d3]
  exact this
end
set_option maxHeartbeats 4000000 in
theorem copying_check (x : Arr) (sx : Option Addr) (cx : Nat) (nx : Option Addr) (mx : Nat) (ix : Option Addr) (jx : Nat) (y : Arr) (sy : Option Addr) (cy : Nat) (ny : Option Addr) (my : Nat) (iy : Option Addr) (jy : Nat) (S : Nat → Prop) (w : World) (h : ArrAt w S x sx nx ix) (g : ArrAt w S y sy ny iy) :
    Calls Try.prog 23 #[.agg #[.int .i64 x.kind, .slice sx x.shape.length cx, .slice nx x.nums.length mx, .slice ix x.items.length jx], .agg #[.int .i64 y.kind, .slice sy y.shape.length cy, .slice ny y.nums.length my, .slice iy y.items.length jy]] w fun e w' => e = .returned (.int .i64 (chkE26 x y)) ∧ Below w.heap.size w w' := by
  refine calls_post fun R' hR => ?_
  have h0 := hid h
  have g0 := hid g
  have hsx := h.shape.1
  clear h g
  go_enter Try.func23, Try.ntmps23
  go_upto_region 1 with (fail)
  generalize hEW : ((w).alloc (.cells #[.int .i64 x.kind, .slice sx x.shape.length cx, .slice nx x.nums.length mx, .slice ix x.items.length jx] 27)).alloc (.cells #[.int .i64 y.kind, .slice sy y.shape.length cy, .slice ny y.nums.length my, .slice iy y.items.length jy] 27) = W
  have E := hid (env2 w S hEW)
  clear hEW
  replace E := hid ((E.out.arg h0.out).arg g0.out)
  (try simp only [List.cons_append, List.nil_append, List.set_cons_zero, List.set_cons_succ] at E)
  obtain ⟨q00, q01, q02, q03⟩ := (E.out.hdr 0 rfl).all
  go_wp2_with fail
  clear q00 q01 q02 q03
  refine (array_Right x _ _ _ _ _ _ _ _ (E.out.arr 2 rfl)).mono ?_
  rintro e w1 ⟨rfl, hb⟩
  replace E := hid (E.out.up hb)
  clear hb
  by_cases c : rightS x = 0
  case neg =>
    have cb : (rightS x != 0) = true := by simpa using c
    have hn := hid (chkE_x (y := y) c)
    replace c := hid c
    go_wp2_with fail
    exact hR.out _ _ ⟨by rw [hn.out] <;> rfl, E.out.ext⟩
  have cb : (rightS x != 0) = false := by simpa using c
  obtain ⟨q10, q11, q12, q13⟩ := (E.out.hdr 1 rfl).all
  go_wp2_with fail
  clear q10 q11 q12 q13
  refine (array_Right y _ _ _ _ _ _ _ _ (E.out.arr 3 rfl)).mono ?_
  rintro e w2 ⟨rfl, hb⟩
  replace E := hid (E.out.up hb)
  clear hb
  by_cases d : rightS y = 0
  case neg =>
    have db : (rightS y != 0) = true := by simpa using d
    have hn := hid (chkE_y (x := x) d)
    replace c := hid c
    replace d := hid d
    go_wp2_with fail
    exact hR.out _ _ ⟨by rw [hn.out] <;> rfl, E.out.ext⟩
  have db : (rightS y != 0) = false := by simpa using d
  by_cases k : x.kind = 1
  case neg =>
    have kb : (x.kind != 1) = true := by simpa using k
    have hn := hid (chkE_k c d k)
    replace c := hid c
    replace d := hid d
    replace k := hid k
    obtain ⟨q00, q01, q02, q03⟩ := (E.out.hdr 0 rfl).all
    go_wp2_with fail
    exact hR.out _ _ ⟨by rw [hn.out] <;> rfl, E.out.ext⟩
  have kb : (x.kind != 1) = false := by simpa using k
  by_cases r : 1 < x.shape.length
  case pos =>
    have rb : (1 : Int) < (x.shape.length : Int) := by omega
    have hn := hid (chkE_r c d k r)
    replace c := hid c
    replace d := hid d
    replace k := hid k
    obtain ⟨q00, q01, q02, q03⟩ := (E.out.hdr 0 rfl).all
    go_wp2_with fail
    exact hR.out _ _ ⟨by rw [hn.out] <;> rfl, E.out.ext⟩
  have rb : ¬ (1 : Int) < (x.shape.length : Int) := by omega
  have hn := hid (chk26_of ⟨c, d, k, by omega⟩)
  replace c := hid c
  replace d := hid d
  replace k := hid k
  obtain ⟨q00, q01, q02, q03⟩ := (E.out.hdr 0 rfl).all
  go_wp2_with fail
  exact hR.out _ _ ⟨by rw [hn.out] <;> rfl, E.out.ext⟩
theorem copy_1 (d : Int) (w : World) : Calls Try.prog 26 #[.int .i64 d] w fun e w' => e = .returned (.bool (negB d)) ∧ w = w' := by
  refine calls_post fun R' hR => ?_
  go_enter Try.func26, Try.ntmps26
  go_wp2
  exact hR.out _ _ ⟨rfl, rfl⟩
set_option maxHeartbeats 2000000 in
theorem copy_2 (x : Arr) (sx : Option Addr) (cx : Nat) (nx : Option Addr) (mx : Nat) (ix : Option Addr) (jx : Nat) (px i : Nat) (S : Nat → Prop) (w : World) (h : ArrAt w S x sx nx ix) (q1 : w.cell? ⟨px, 1, none⟩ = some (.slice sx x.shape.length cx)) (q2 : w.cell? ⟨px, 2, none⟩ = some (.slice nx x.nums.length mx)) (hi : (if x.shape.length = 0 then 0 else i) < x.nums.length) :
    Calls Try.prog 27 #[.int .i64 i, .pointer (some ⟨px, 0, none⟩)] w fun e w' => e = .returned (.int .i64 (min (cpK x i) 65537)) ∧ w = w' := by
  refine calls_post fun R' hR => ?_
  have hsx := h.shape.1
  have hnx := h.nums.1
  obtain ⟨b1, o1, hs1, hbl1, hS1, hc1⟩ := h.nums.at hi
  have hk : Hid (cpK x i = x.nums.getD (if x.shape.length = 0 then 0 else i) 0) := hid rfl
  clear h
  subst hs1
  by_cases c : x.shape.length = 0
  · have cb : ((x.shape.length : Int) == 0) = true := by simpa using c
    rw [if_pos c] at hi hc1 hk
    generalize x.nums.getD 0 0 = d at hc1 hk
    rw [Nat.add_zero] at hc1
    have t1 : (0 : Int) < (x.nums.length : Int) := by omega
    replace c := hid c
    go_enter Try.func27, Try.ntmps27
    go_wp2_with fail
    refine hR.out _ _ ⟨?_, rfl⟩
    rw [hk.out]
    congr 2
  · have cb : ((x.shape.length : Int) == 0) = false := by simpa using c
    rw [if_neg c] at hi hc1 hk
    generalize x.nums.getD i 0 = d at hc1 hk
    have t0 : (0 : Int) ≤ (i : Int) := by omega
    have t1 : (i : Int) < (x.nums.length : Int) := by omega
    replace c := hid c
    go_enter Try.func27, Try.ntmps27
    go_wp2_with fail
    refine hR.out _ _ ⟨?_, rfl⟩
    rw [hk.out]
    congr 2
theorem copying_unbinary (d : Int) (w : World) : Calls Try.prog 46 #[.int .i64 d] w fun e w' => e = .returned (.bool (!bitB d)) ∧ w = w' := by
  refine calls_post fun R' hR => ?_
  by_cases c0 : d = 0
  · have e0 : (d != 0) = false := by simp [c0]
    have hb : Hid (bitB d = true) := hid (by simp [bitB, c0])
    replace c0 := hid c0
    go_enter Try.func46, Try.ntmps46
    go_wp2
    exact hR.out _ _ ⟨by rw [hb.out] <;> rfl, rfl⟩
  · have e0 : (d != 0) = true := by simp [c0]
    by_cases c1 : d = 1
    · have e1 : (d != 1) = false := by simp [c1]
      have hb : Hid (bitB d = true) := hid (by simp [bitB, c1])
      replace c0 := hid c0
      replace c1 := hid c1
      go_enter Try.func46, Try.ntmps46
      go_wp2
      exact hR.out _ _ ⟨by rw [hb.out] <;> rfl, rfl⟩
    · have e1 : (d != 1) = true := by simp [c1]
      have hb : Hid (bitB d = false) := hid (by simp [bitB, c0, c1])
      replace c0 := hid c0
      replace c1 := hid c1
      go_enter Try.func46, Try.ntmps46
      go_wp2
      exact hR.out _ _ ⟨by rw [hb.out] <;> rfl, rfl⟩
/-- what the collector leaves behind: its variables -/
def CollPost (w0 : World) (S : Nat → Prop) (bo n : Nat) (y : Arr) (sy : Option Addr) (cy : Nat) (ny : Option Addr) (my : Nat) (iy : Option Addr) (jy : Nat) (L : List Fact) (en : Ending) (w' : World) : Prop :=
  ∃ pn py pp pf sf cf nf mf jf kf, en = .returned (.func (.func 60) #[] #[.pointer (some ⟨pn, 0, none⟩), .pointer (some ⟨py, 0, none⟩), .pointer (some ⟨pp, 0, none⟩), .pointer (some ⟨pf, 0, none⟩)]) ∧
    Env w0 S w' (.obj pn (.cells #[.int .i64 n] 3 (0, 0)) :: .obj py (.cells #[.int .i64 y.kind, .slice sy y.shape.length cy, .slice ny y.nums.length my, .slice iy y.items.length jy] 27 (0, 0)) :: .obj pp (.cells #[.pointer (some ⟨bo, 0, none⟩)] 53 (0, 0)) ::
      .obj pf (.cells #[.int .i64 (fillS y).kind, .slice sf (fillS y).shape.length cf, .slice nf (fillS y).nums.length mf, .slice jf (fillS y).items.length kf] 27 (0, 0)) :: .arr (fillS y) sf nf jf :: L)
set_option maxHeartbeats 4000000 in
theorem copying_collector (bo : Nat) (y : Arr) (sy : Option Addr) (cy : Nat) (ny : Option Addr) (my : Nat) (iy : Option Addr) (jy : Nat) (w0 : World) (S : Nat → Prop) (w : World) (L : List Fact) (E : Env w0 S w L) (h : ArrAt w (Tst w0 S L) y sy ny iy) (hs : shapeB y.shape = true) (hc : y.shape.length ≤ cy) :
    Calls Try.prog 31 #[.pointer (some ⟨bo, 0, none⟩), .agg #[.int .i64 y.kind, .slice sy y.shape.length cy, .slice ny y.nums.length my, .slice iy y.items.length jy]] w (CollPost w0 S bo (celN y) y sy cy ny my iy jy L) := by
  refine calls_post fun R' hR => ?_
  replace E := hid (E.addArr h (fun _ _ q => q)).front
  clear h
  go_enter Try.func31, Try.ntmps31
  go_upto_region 1 with (fail)
  generalize hEW : ((w).alloc (.cells #[.pointer (some ⟨bo, 0, none⟩)] 53)).alloc (.cells #[.int .i64 y.kind, .slice sy y.shape.length cy, .slice ny y.nums.length my, .slice iy y.items.length jy] 27) = W
  replace E := hid (envF2 E.out hEW)
  clear hEW
  (try simp only [List.cons_append, List.nil_append, List.set_cons_zero, List.set_cons_succ] at E)
  obtain ⟨q10, q11, q12, q13⟩ := (E.out.hdr 1 rfl).all
  go_wp2_with fail
  clear q10 q11 q12 q13
  refine (copying_split y _ _ _ _ _ _ _ _ (E.out.arr 2 rfl) hs hc).mono ?_
  rintro e w2 ⟨so, sc, rfl, hI, hb⟩
  replace E := hid (E.out.up hb)
  clear hI hb
  generalize w.heap.size + 1 = py at E ⊢
  generalize w.heap.size = pp at E ⊢
  go_upto_region 2 with (refine wpl_storeI1 rfl (.tmp 7) (.tmp 14) rfl _ _ _ rfl rfl ((E.out.alloc _).front.obj 0 rfl) ?_; intro V1 HV CV; replace E := hid ((E.out.alloc _).front.chg 0 rfl CV HV); clear CV HV; (try simp only [List.cons_append, List.nil_append, List.set_cons_zero, List.set_cons_succ] at E))
  generalize w2.heap.size = pn at E ⊢
  obtain ⟨q20, q21, q22, q23⟩ := (E.out.hdr 2 rfl).all
  go_wp2_with fail
  clear q20 q21 q22 q23
  refine (fill_array_Fill y _ _ _ _ _ _ V1).mono ?_
  rintro e w3 ⟨sf, cf, nf, mf, jf, kf, rfl, aF, hb⟩
  replace E := hid ((E.out.up hb).addArr aF (fun b _ hq => E.out.fresh (Ext.refl _) hq)).front
  clear aF hb
  go_upto_region 3 with (refine wpl_store4 rfl (.tmp 8) (.tmp 16) rfl _ rfl rfl ((E.out.alloc _).front.hdr 0 rfl) ?_; intro V2 HV CV; replace E := hid ((E.out.alloc _).front.chg 0 rfl CV HV); clear CV HV; (try simp only [List.cons_append, List.nil_append, List.set_cons_zero, List.set_cons_succ] at E))
  generalize w3.heap.size = pf at E ⊢
  go_wp2_with fail
  replace E := hid (E.out.pick 1 rfl)
  simp only [List.eraseIdx_cons_succ, List.eraseIdx_cons_zero] at E
  replace E := hid (E.out.pick 1 rfl)
  simp only [List.eraseIdx_cons_succ, List.eraseIdx_cons_zero] at E
  replace E := hid (E.out.pick 3 rfl)
  simp only [List.eraseIdx_cons_succ, List.eraseIdx_cons_zero] at E
  replace E := hid (E.out.pick 4 rfl)
  simp only [List.eraseIdx_cons_succ, List.eraseIdx_cons_zero] at E
  replace E := hid (E.out.pick 4 rfl)
  simp only [List.eraseIdx_cons_succ, List.eraseIdx_cons_zero] at E
  exact hR.out _ _ ⟨pn, py, pp, pf, sf, cf, nf, mf, jf, kf, rfl, E.out.sub ((((((List.Sublist.refl _).cons _).cons_cons _).cons_cons _).cons_cons _).cons_cons _ |>.cons_cons _)⟩
theorem celW_3 {y : Arr} (k : y.kind = 3) (i : Nat) : celW y i = (celN y : Int) + sumW (blkL y.items i (celN y)) := if_pos k
theorem celW_n {y : Arr} (k : y.kind ≠ 3) (i : Nat) : celW y i = celN y := if_neg k
theorem sumW_take_le (l : List Arr) (k : Nat) : sumW (l.take k) ≤ sumW l := by
  have h : sumW l = sumW (l.take k) + sumW (l.drop k) := by rw [← sumW_append, List.take_append_drop]
  have := sumW_nn (l.drop k)
  omega
theorem sumW_snoc (l : List Arr) (z : Arr) : sumW (l ++ [z]) = sumW l + wtS z := by rw [sumW_append]; simp [sumW]
set_option maxRecDepth 100000 in
set_option maxHeartbeats 8000000 in
theorem copying_weight (y : Arr) (sy : Option Addr) (cy : Nat) (ny : Option Addr) (my : Nat) (iy : Option Addr) (jy : Nat) (i : Nat) (S : Nat → Prop) (w : World) (h : ArrAt w S y sy ny iy) (hr : rightS y = 0) (hc : y.shape.length ≤ cy) (hci : y.items.length ≤ jy) (hi : i < talM y) :
    Calls Try.prog 28 #[.agg #[.int .i64 y.kind, .slice sy y.shape.length cy, .slice ny y.nums.length my, .slice iy y.items.length jy], .int .i64 i] w fun e w' => e = .returned (.int .i64 (celW y i)) ∧ Below w.heap.size w w' := by
  refine calls_post fun R' hR => ?_
  have h0 := hid h
  clear h
  have hs := (right_ok hr).2.1
  have hn6 := celN_le hs
  have ht6 := tal_le hs
  go_enter Try.func28, Try.ntmps28
  go_upto_region 1 with (fail)
  generalize hEW : (w).alloc (.cells #[.int .i64 y.kind, .slice sy y.shape.length cy, .slice ny y.nums.length my, .slice iy y.items.length jy] 27) = W
  have E := hid (env1 w S hEW)
  clear hEW
  replace E := hid (E.out.arg h0.out)
  (try simp only [List.cons_append, List.nil_append, List.set_cons_zero, List.set_cons_succ] at E)
  obtain ⟨q00, q01, q02, q03⟩ := (E.out.hdr 0 rfl).all
  go_wp2_with fail
  clear q00 q01 q02 q03
  refine (copying_split y _ _ _ _ _ _ _ _ (E.out.arr 1 rfl) hs hc).mono ?_
  rintro e w2 ⟨so, sc, rfl, hI, hb⟩
  replace E := hid (E.out.up hb)
  clear hI hb
  by_cases k3 : y.kind = 3
  case neg =>
    have kb : (y.kind != 3) = true := by simpa using k3
    have hw := hid (celW_n k3 i)
    replace k3 := hid k3
    obtain ⟨q00, q01, q02, q03⟩ := (E.out.hdr 0 rfl).all
    go_wp2_with fail
    exact hR.out _ _ ⟨by rw [hw.out] <;> rfl, E.out.ext⟩
  have kb : (y.kind != 3) = false := by simpa using k3
  have hw := hid (celW_3 k3 i)
  have hbd := celW_bd hr hi
  rw [hw.out] at hbd
  have hlen := sz_tal hr
  unfold szA szN at hlen
  rw [if_neg (by omega), if_pos k3] at hlen
  obtain ⟨n, hn⟩ : ∃ n, n = celN y := ⟨_, rfl⟩
  rw [← hn] at hw hbd hlen hn6 ⊢
  have hsz' : i * n + n ≤ y.items.length := by
    have := Nat.mul_le_mul_right n (show i + 1 ≤ talM y from hi)
    rw [Nat.succ_mul] at this; omega
  have hl6 : y.items.length ≤ 65536 := by have := cnt_tal hs; have := cnt_le hs; rw [← hn] at *; omega
  have ib : ¬ (i : Int) < 0 := by omega
  have hmul : ((i : Int) * (n : Int)) = ((i * n : Nat) : Int) := by simp
  have hib : i * n ≤ 65536 := by omega
  obtain ⟨m, hm⟩ : ∃ m, m = i * n := ⟨_, rfl⟩
  have hbl : Hid (blkL y.items i n = (y.items.drop m).take n) := hid (by unfold blkL; rw [hm])
  rw [← hm] at hmul hib hsz'
  rw [hbl.out] at hw hbd
  have hwr : IntKind.i64.wrap ((i : Int) * (n : Int)) = (m : Int) := by rw [hmul]; exact IntWalk.i64_in _ (by omega)
  have hwr2 : IntKind.i64.wrap ((m : Int) + (n : Int)) = ((m + n : Nat) : Int) := by rw [show (m : Int) + (n : Int) = ((m + n : Nat) : Int) by simp]; exact IntWalk.i64_in _ (by omega)
  have c2 : (m : Int) ≤ ((m + n : Nat) : Int) := by omega
  have c3 : (0 : Int) ≤ (m : Int) := by omega
  have c4 : (m : Int).toNat = m := by omega
  have c5 : (0 : Int) ≤ ((m + n : Nat) : Int) := by omega
  have c6 : ((m + n : Nat) : Int) ≤ (jy : Int) := by omega
  have c7 : ((m + n : Nat) : Int).toNat = m + n := by omega
  have c8 : m + n - m = n := by omega
  replace k3 := hid k3
  replace hm := hid hm
  replace hn := hid hn
  replace hlen := hid hlen
  obtain ⟨q00, q01, q02, q03⟩ := (E.out.hdr 0 rfl).all
  by_cases hnz : n = 0
  case pos =>
    have c9 : ¬ (0 : Int) < (n : Int) := by omega
    have hz : Hid (celW y i = 0) := hid (by rw [hw.out, hnz]; simp [sumW])
    replace hnz := hid hnz
    by_cases c1 : jy = m
    · go_upto_region 8 with (fail)
      go_loopw [8, 36] (fun u v wr => u = .int .i64 0 ∧ v = .int .i64 0 ∧ wr = w2) (fun _ _ _ => 0)
      case atStart => exact ⟨rfl, rfl, rfl⟩
      case round =>
        obtain ⟨rfl, rfl, rfl⟩ := hrel
        go_wp2_with fail
        exact hR.out _ _ ⟨by rw [hz.out] <;> rfl, E.out.ext⟩
    · go_upto_region 8 with (fail)
      go_loopw [8, 36] (fun u v wr => u = .int .i64 0 ∧ v = .int .i64 0 ∧ wr = w2) (fun _ _ _ => 0)
      case atStart => exact ⟨rfl, rfl, rfl⟩
      case round =>
        obtain ⟨rfl, rfl, rfl⟩ := hrel
        go_wp2_with fail
        exact hR.out _ _ ⟨by rw [hz.out] <;> rfl, E.out.ext⟩
  case neg =>
    have c1 : ¬ jy = m := by omega
    obtain ⟨b1, o1, _, _, _, _, _, _, hia, -⟩ := (E.out.arr 1 rfl).items.at (k := 0) (by omega)
    subst hia
    go_upto_region 8 with (fail)
    (try rw [c8])
    clear hwr hwr2 c2 c3 c4 c5 c6 c7 c8
    clear q00 q01 q02 q03
    obtain ⟨bl, hbl2⟩ : ∃ bl, bl = (y.items.drop m).take n := ⟨_, rfl⟩
    have hbln : bl.length = n := by rw [hbl2]; simp; omega
    have hbg : ∀ k (hk : k < n), bl[k]'(by omega) = y.items[m + k]'(by omega) := fun k hk => by simp [hbl2]
    rw [← hbl2] at hw hbd
    replace hbl2 := hid hbl2
    go_loopw [8, 36] (fun u v wr => ∃ (k : Nat) (s : Int), k ≤ n ∧ v = .int .i64 k ∧ u = .int .i64 s ∧ Hid (s = (k : Int) + sumW (bl.take k)) ∧ 0 ≤ s ∧ s ≤ 262144 ∧ Env w S wr [.obj w.heap.size (.cells #[.int .i64 y.kind, .slice sy y.shape.length cy, .slice ny y.nums.length my, .slice (some ⟨b1, o1, none⟩) y.items.length jy] 27 (0, 0)), .arr y sy ny (some ⟨b1, o1, none⟩)]) (fun _ v _ => n - (intOf v).toNat)
    case atStart => exact ⟨0, 0, Nat.zero_le _, rfl, rfl, hid (by simp [sumW]), Int.le_refl _, by decide, E.out⟩
    case round =>
      clear E
      obtain ⟨k, s, hk, rfl, rfl, hsk, hs0, hs1, E⟩ := hrel
      replace E := hid E
      by_cases hlt : k < n
      · obtain ⟨b2, o2, sz, cz, nz, mz, iz, jz, hia, hS1, hbl1, e0, e1, e2, e3, hz⟩ := (E.out.arr 1 rfl).items.at (k := m + k) (by omega)
        injection hia with hia
        injection hia with hia1 hia2
        subst hia1
        subst hia2
        have hstep : Hid (sumW (bl.take (k + 1)) = sumW (bl.take k) + wtS (y.items[m + k]'(by omega))) := hid (by rw [List.take_succ_eq_append_getElem (by omega), sumW_snoc, hbg k hlt])
        have hsl2 := sumW_take_le bl (k + 1)
        have hsn2 := hsk.out
        rw [hstep.out] at hsl2
        generalize y.items[m + k]'(by omega) = z at e0 e1 e2 e3 hz hstep hsl2
        have hnx : s + (1 + wtS z) = ((k + 1 : Nat) : Int) + (sumW (bl.take k) + wtS z) := by omega
        have hbx : s + (1 + wtS z) ≤ 262144 := by omega
        rw [← hstep.out] at hnx
        replace hnx := hid hnx
        clear hsn2 hsl2
        rw [show o1 + (m + k) * 4 = o1 + m * 4 + k * 4 by omega] at e0 e1 e2 e3
        replace E := hid (E.out.addArr hz (fun _ _ h => h))
        (try simp only [List.cons_append, List.nil_append, List.set_cons_zero, List.set_cons_succ] at E)
        clear hz
        have hz0 := wtS_bd z
        have k1 : (0 : Int) ≤ (k : Int) := by omega
        have k2 : (k : Int) < (n : Int) := by omega
        go_upto_region 10 with (refine wpl_store4 rfl (.tmp 10) (.tmp 39) rfl _ rfl rfl ((E.out.alloc _).hdr 3 rfl) ?_; intro V1 HV CV; replace E := hid ((E.out.alloc _).chg 3 rfl CV HV); clear CV HV; (try simp only [List.cons_append, List.nil_append, List.set_cons_zero, List.set_cons_succ] at E))
        generalize wr.heap.size = by1 at E ⊢
        clear e0 e1 e2 e3
        obtain ⟨q30, q31, q32, q33⟩ := (E.out.hdr 3 rfl).all
        go_wp2_with fail
        clear q30 q31 q32 q33
        refine (array_Weight z _ _ _ _ _ _ _ _ (E.out.arr 2 rfl)).mono ?_
        rintro e w9 ⟨rfl, hb⟩
        replace E := hid (E.out.up hb)
        clear hb
        go_wp2_with fail
        go_roundw
        case rel => exact ⟨k + 1, _, by omega, by go_num, rfl, hnx, by omega, hbx, E.out.sub (by simp [List.Sublist.refl])⟩
        case measure => simp [intOf]; omega
      · obtain rfl : k = n := by omega
        have hta : bl.take k = bl := List.take_of_length_le (by omega)
        have hfin := hsk.out
        rw [hta] at hfin
        replace hfin := hid hfin
        replace hta := hid hta
        go_wp2_with fail
        exact hR.out _ _ ⟨by rw [hw.out, ← hfin.out] <;> rfl, E.out.ext⟩
end Go.Proofs.Ytdpdcjadedcglaa
