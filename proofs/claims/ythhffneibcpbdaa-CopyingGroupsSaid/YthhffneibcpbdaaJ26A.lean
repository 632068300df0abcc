/- Small functions of the law of copying: contracts. Conditions: the arrays are read; a slice's capacity is at least its length. -/
import Derived.Test.YthhffneibcpbdaaJ20A
import Derived.Test.YthhffneibcpbdaaREF26A
set_option linter.unusedVariables false
set_option linter.unusedSimpArgs false
namespace Go.Proofs.Ythhffneibcpbdaa
open Go.RowKit Go.Sort
attribute [local go_sem ↓] run_max2 run_min2
attribute [local go_sem] eql_ints_nil eql_arrs_nil
set_option maxHeartbeats 2000000 in
theorem law26_ints (s l : List Int) (so : Option Addr) (sc : Nat) (lo : Option Addr) (lc : Nat) (S : Nat → Prop) (w : World) (h : IntsAt w S so s) (g : IntsAt w S lo l) (hs : s.length ≤ sc) (hl : l.length ≤ lc) : Calls Try.prog 35 #[.slice so s.length sc, .slice lo l.length lc] w (RetAC w (fun b => S b ∨ w.heap.size ≤ b) (.mk 1 s l [])) := by
  refine calls_post fun R' hR => ?_
  have h0 := hid h
  have g0 := hid g
  replace hs := hid hs
  replace hl := hid hl
  clear h g
  go_enter Try.func35, Try.ntmps35
  go_upto_region 1 with (fail)
  generalize hEW : (w).alloc (.cells #[.int .i64 0, .slice none 0 0, .slice none 0 0, .slice none 0 0] 26) = W
  have E := hid (env1 w S hEW)
  clear hEW
  replace E := hid ((E.out.argI h0.out).argI g0.out)
  (try simp only [List.cons_append, List.nil_append, List.set_cons_zero, List.set_cons_succ] at E)
  go_wp2_with (refine wpl_store4 rfl (.tmp 4) (.tmp 7) rfl _ rfl rfl (E.out.hdr 0 rfl) ?_; intro V HV CV; replace E := hid (E.out.chg 0 rfl CV HV))
  exact bodyPost_ret (end_arr rfl HV rfl) rfl (hR.out _ _ ⟨so, sc, lo, lc, none, 0, rfl, ArrAt.mono (fun b _ h => h.1) _ (vec_at (E.out.ints 1 rfl) (E.out.ints 2 rfl)), E.out.ext, hs.out, hl.out, Nat.zero_le _⟩)
set_option maxHeartbeats 2000000 in
theorem law26_intsX (so : Option Addr) (sl sc : Nat) (lo : Option Addr) (ll lc : Nat) (w : World) : Calls Try.prog 35 #[.slice so sl sc, .slice lo ll lc] w fun e w' => e = .returned (.agg #[.int .i64 1, .slice so sl sc, .slice lo ll lc, .slice none 0 0]) ∧ Ext w w' := by
  refine calls_post fun R' hR => ?_
  obtain ⟨S, hS⟩ : ∃ S : Nat → Prop, S = fun _ => False := ⟨_, rfl⟩
  go_enter Try.func35, Try.ntmps35
  go_upto_region 1 with (fail)
  generalize hEW : (w).alloc (.cells #[.int .i64 0, .slice none 0 0, .slice none 0 0, .slice none 0 0] 26) = W
  have E := hid (env1 w S hEW)
  clear hEW
  (try simp only [List.cons_append, List.nil_append, List.set_cons_zero, List.set_cons_succ] at E)
  go_wp2_with (refine wpl_store4 rfl (.tmp 4) (.tmp 7) rfl _ rfl rfl (E.out.hdr 0 rfl) ?_; intro V HV CV; replace E := hid (E.out.chg 0 rfl CV HV))
  exact bodyPost_ret (end_arr rfl HV rfl) rfl (hR.out _ _ ⟨rfl, E.out.ext⟩)
set_option maxHeartbeats 2000000 in
theorem law26_small (x : Arr) (sx : Option Addr) (cx : Nat) (nx : Option Addr) (mx : Nat) (ix : Option Addr) (jx : Nat) (y : Arr) (sy : Option Addr) (cy : Nat) (ny : Option Addr) (my : Nat) (iy : Option Addr) (jy : Nat) (S : Nat → Prop) (w : World) (h : ArrAt w S x sx nx ix) (g : ArrAt w S y sy ny iy) : Calls Try.prog 26 #[.agg #[.int .i64 x.kind, .slice sx x.shape.length cx, .slice nx x.nums.length mx, .slice ix x.items.length jx], .agg #[.int .i64 y.kind, .slice sy y.shape.length cy, .slice ny y.nums.length my, .slice iy y.items.length jy]] w fun e w' => ∃ r : Bool, e = .returned (.bool r) ∧ Below w.heap.size w w' := by
  refine calls_post fun R' hR => ?_
  have h0 := hid h
  have g0 := hid g
  clear h g
  go_enter Try.func26, Try.ntmps26
  go_upto_region 1 with (fail)
  generalize hEW : ((w).alloc (.cells #[.int .i64 x.kind, .slice sx x.shape.length cx, .slice nx x.nums.length mx, .slice ix x.items.length jx] 26)).alloc (.cells #[.int .i64 y.kind, .slice sy y.shape.length cy, .slice ny y.nums.length my, .slice iy y.items.length jy] 26) = W
  have E := hid (env2 w S hEW)
  clear hEW
  replace E := hid ((E.out.arg h0.out).arg g0.out)
  (try simp only [List.cons_append, List.nil_append, List.set_cons_zero, List.set_cons_succ] at E)
  obtain ⟨q00, q01, q02, q03⟩ := (E.out.hdr 0 rfl).all
  obtain ⟨q10, q11, q12, q13⟩ := (E.out.hdr 1 rfl).all
  go_wp2_with fail
  clear q00 q01 q02 q03 q10 q11 q12 q13
  refine (ref03_Small x _ _ _ _ _ _ _ _ (E.out.arr 2 rfl)).mono ?_
  rintro e w1 ⟨b1, rfl, hb⟩
  replace E := hid (E.out.up hb)
  clear hb
  cases b1 with
  | false =>
    go_wp2_with fail
    exact hR.out _ _ ⟨false, rfl, E.out.ext⟩
  | true =>
    obtain ⟨q10, q11, q12, q13⟩ := (E.out.hdr 1 rfl).all
    go_wp2_with fail
    clear q10 q11 q12 q13
    refine (ref03_Small y _ _ _ _ _ _ _ _ (E.out.arr 3 rfl)).mono ?_
    rintro e w2 ⟨b2, rfl, hb⟩
    replace E := hid (E.out.up hb)
    clear hb
    go_wp2_with fail
    exact hR.out _ _ ⟨b2, rfl, E.out.ext⟩
set_option maxRecDepth 100000 in
set_option maxHeartbeats 4000000 in
theorem law26_many (x : Arr) (sx : Option Addr) (cx : Nat) (nx : Option Addr) (mx : Nat) (ix : Option Addr) (jx : Nat) (y : Arr) (sy : Option Addr) (cy : Nat) (ny : Option Addr) (my : Nat) (iy : Option Addr) (jy : Nat) (S : Nat → Prop) (w : World) (h : ArrAt w S x sx nx ix) (g : ArrAt w S y sy ny iy) : Calls Try.prog 27 #[.agg #[.int .i64 x.kind, .slice sx x.shape.length cx, .slice nx x.nums.length mx, .slice ix x.items.length jx], .agg #[.int .i64 y.kind, .slice sy y.shape.length cy, .slice ny y.nums.length my, .slice iy y.items.length jy]] w fun e w' => ∃ r : Bool, e = .returned (.bool r) ∧ Below w.heap.size w w' := by
  refine calls_post fun R' hR => ?_
  have hsx := h.shape.1
  have hnx := h.nums.1
  have h0 := hid h
  have g0 := hid g
  clear h g
  go_enter Try.func27, Try.ntmps27
  go_upto_region 1 with (fail)
  generalize hEW : ((w).alloc (.cells #[.int .i64 x.kind, .slice sx x.shape.length cx, .slice nx x.nums.length mx, .slice ix x.items.length jx] 26)).alloc (.cells #[.int .i64 y.kind, .slice sy y.shape.length cy, .slice ny y.nums.length my, .slice iy y.items.length jy] 26) = W
  have E := hid (env2 w S hEW)
  clear hEW
  replace E := hid ((E.out.arg h0.out).arg g0.out)
  (try simp only [List.cons_append, List.nil_append, List.set_cons_zero, List.set_cons_succ] at E)
  obtain ⟨q00, q01, q02, q03⟩ := (E.out.hdr 0 rfl).all
  go_upto_region 3 with fail
  clear q00 q01 q02 q03
  go_loopw [5, 6] (fun nv i wr => ∃ (n : Int) (k : Nat), 0 ≤ n ∧ n ≤ 65537 ∧ k ≤ x.nums.length ∧ nv = .int .i64 n ∧ i = .int .i64 k ∧ Env w S wr [.obj w.heap.size (.cells #[.int .i64 x.kind, .slice sx x.shape.length cx, .slice nx x.nums.length mx, .slice ix x.items.length jx] 26 (0, 0)), .obj (w.heap.size + 1) (.cells #[.int .i64 y.kind, .slice sy y.shape.length cy, .slice ny y.nums.length my, .slice iy y.items.length jy] 26 (0, 0)), .arr x sx nx ix, .arr y sy ny iy]) (fun _ i _ => x.nums.length - (intOf i).toNat)
  case atStart => exact ⟨0, 0, by omega, by omega, Nat.zero_le _, rfl, rfl, E.out⟩
  case round =>
    clear E
    obtain ⟨n, k, hn0, hn1, hk, rfl, rfl, E⟩ := hrel
    replace E := hid E
    by_cases hlt : k < x.nums.length
    case pos =>
      obtain ⟨b1, o1, hnx, hbl, hS1, hc1⟩ := (E.out.arr 2 rfl).nums.at hlt
      generalize x.nums.getD k 0 = d at hc1
      subst hnx
      have t0 : (0 : Int) ≤ (k : Int) := by omega
      have t1 : (k : Int) < (x.nums.length : Int) := by omega
      have m1 : 0 ≤ min (max d 0) 65537 ∧ min (max d 0) 65537 ≤ 65537 := by omega
      obtain ⟨q00, q01, q02, q03⟩ := (E.out.hdr 0 rfl).all
      go_wp2_with fail
      clear q00 q01 q02 q03
      go_roundw
      case rel => exact ⟨min (n + min (max d 0) 65537) 65537, k + 1, by omega, by omega, by omega, rfl, by go_num, E.out⟩
      case measure => simp [intOf]; omega
    case neg =>
      obtain ⟨q00, q01, q02, q03⟩ := (E.out.hdr 0 rfl).all
      obtain ⟨q10, q11, q12, q13⟩ := (E.out.hdr 1 rfl).all
      go_wp2_with fail
      clear q00 q01 q02 q03 q10 q11 q12 q13
      refine (ref23_Tally y _ _ _ _ _ _ _ _ (E.out.arr 3 rfl)).mono ?_
      rintro e w3 ⟨rfl, hb⟩
      replace E := hid (E.out.up hb)
      clear hb
      obtain ⟨t, ht⟩ : ∃ t, t = min (max (talN y) 1) 65536 := ⟨_, rfl⟩
      have ht0 : 0 < t := by omega
      have ht1 : t ≤ 65536 := by omega
      generalize talN y = ty at ht ⊢
      have ht2 : (t == 0) = false := beq_eq_false_iff_ne.2 (by omega)
      have ht3 : ¬ t = 0 := by omega
      go_upto_region 7 with fail
      rw [← ht]
      replace ht := hid ht
      by_cases c0 : x.shape.length = 0
      case pos =>
        have cb : ((x.shape.length : Int) == 0) = true := by simpa using c0
        replace c0 := hid c0
        obtain ⟨q00, q01, q02, q03⟩ := (E.out.hdr 0 rfl).all
        go_upto_region 9 with fail
        clear q00 q01 q02 q03
        clear cb
        obtain ⟨q10, q11, q12, q13⟩ := (E.out.hdr 1 rfl).all
        go_wp2_with fail
        clear q10 q11 q12 q13
        refine (size_ref03_Size y _ _ _ _ _ _ _ _ (E.out.arr 3 rfl)).mono ?_
        rintro e w4 ⟨rfl, hb⟩
        replace E := hid (E.out.up hb)
        clear hb
        go_upto_region 10 with fail
        generalize (min (wrap64 (n * t)) 65537) = n2
        generalize (wrap64 (((szN y.kind y.nums.length y.items.length : Nat) : Int) / t)) = z
        by_cases c1 : n2 ≤ 65536
        · by_cases c2 : 20000 < wrap64 (n2 * z)
          · by_cases c3 : wrap64 (n2 * z) ≤ 65536
            · go_wp2_with fail
              exact hR.out _ _ ⟨_, rfl, E.out.ext⟩
            · go_wp2_with fail
              exact hR.out _ _ ⟨_, rfl, E.out.ext⟩
          · go_wp2_with fail
            exact hR.out _ _ ⟨_, rfl, E.out.ext⟩
        · go_wp2_with fail
          exact hR.out _ _ ⟨_, rfl, E.out.ext⟩
      case neg =>
        have cb : ((x.shape.length : Int) == 0) = false := by simpa using c0
        replace c0 := hid c0
        obtain ⟨q00, q01, q02, q03⟩ := (E.out.hdr 0 rfl).all
        go_upto_region 9 with fail
        clear q00 q01 q02 q03
        clear cb
        obtain ⟨q10, q11, q12, q13⟩ := (E.out.hdr 1 rfl).all
        go_wp2_with fail
        clear q10 q11 q12 q13
        refine (size_ref03_Size y _ _ _ _ _ _ _ _ (E.out.arr 3 rfl)).mono ?_
        rintro e w4 ⟨rfl, hb⟩
        replace E := hid (E.out.up hb)
        clear hb
        go_upto_region 10 with fail
        generalize (n) = n2
        generalize (wrap64 (((szN y.kind y.nums.length y.items.length : Nat) : Int) / t)) = z
        by_cases c1 : n2 ≤ 65536
        · by_cases c2 : 20000 < wrap64 (n2 * z)
          · by_cases c3 : wrap64 (n2 * z) ≤ 65536
            · go_wp2_with fail
              exact hR.out _ _ ⟨_, rfl, E.out.ext⟩
            · go_wp2_with fail
              exact hR.out _ _ ⟨_, rfl, E.out.ext⟩
          · go_wp2_with fail
            exact hR.out _ _ ⟨_, rfl, E.out.ext⟩
        · go_wp2_with fail
          exact hR.out _ _ ⟨_, rfl, E.out.ext⟩
end Go.Proofs.Ythhffneibcpbdaa
