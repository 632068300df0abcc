/- The law ArrayLimits: true. Conditions: the number is of its kind; the tables of unicode/utf8 lie as their initialisers lay them. -/
import Derived.Test.YtdobnkbmjkcpoaaDoorLAW03A
import Derived.Test.YtdobnkbmjkcpoaaDoorP03L
set_option linter.unusedVariables false
set_option linter.unusedSimpArgs false
namespace Go.Proofs.YtdobnkbmjkcpoaaDoor
open Go.RowKit Go.Sort
attribute [local go_sem ↓] run_max2 run_min2
attribute [local go_sem] eql_ints_nil eql_arrs_nil
theorem madeI_zs (n : Nat) : madeI n = ((List.replicate n (0 : Int)).map (Value.int .i64)).toArray := by
  apply Array.ext'
  rw [show madeI n = madeCells #[.int .i64 0] n by unfold madeI; rw [Nat.mul_one], toList_madeCells_one]
  simp
theorem vec_zeros (n : Nat) (lo : Option Addr) (lc : Nat) (S : Nat → Prop) (w : World) (h : IntsAt w S lo (List.replicate n 0)) : Calls Tryd.prog 29 #[.slice lo n lc] w (RetA w (fun b => S b ∨ w.heap.size ≤ b) (validS (repA n))) := by
  have := array_Vector (List.replicate n 0) lo lc S w h
  rw [List.length_replicate] at this
  exact this
set_option maxRecDepth 100000 in
set_option maxHeartbeats 8000000 in
theorem law03_ArrayLimits (m : Int) (hm : 0 ≤ m ∧ m ≤ 255) (w : World) (hT : Tabs w) :
    Calls Tryd.prog 10 #[.int .u8 m] w fun e w' => e = .returned (.bool true) ∧ Below w.heap.size w w' := by
  refine calls_post fun R' hR => ?_
  obtain ⟨S, hSF⟩ : ∃ S : Nat → Prop, S = fun _ => False := ⟨_, rfl⟩
  have E := hid (Env.start w S)
  obtain ⟨s7, hs7⟩ : ∃ a, a = s7A := ⟨_, rfl⟩
  have v7 : Hid (s7 = validS (numA 7)) := hid (by rw [hs7]; kernel_rfl)
  go_enter Tryd.func10, Tryd.ntmps10
  go_upto_region 2 with fail
  obtain ⟨k, hk⟩ : ∃ k : Int, k = 65534 + m % 5 := ⟨_, rfl⟩
  rw [← hk]
  obtain ⟨n, rfl⟩ : ∃ n : Nat, k = n := ⟨k.toNat, by omega⟩
  have hn : n ≤ 65538 := by omega
  clear hk hm
  have mk1 := fun w => run_makeI w n (by omega)
  obtain ⟨r, hr⟩ : ∃ a, a = ofS [(n : Int)] s7 := ⟨_, rfl⟩
  obtain ⟨e1, he1⟩ : ∃ a, ofE [(n : Int)] s7 = a := ⟨_, rfl⟩
  obtain ⟨v, hv⟩ : ∃ a, a = validS (repA n) := ⟨_, rfl⟩
  have BG := hid (fun h : ¬ n ≤ 65536 => (⟨he1.symm.trans (hs7 ▸ (of_big h).1), hr.trans (hs7 ▸ (of_big h).2), hv.trans (rep_big h), zer_big h⟩ : e1 = 21 ∧ r = .zero ∧ v = .zero ∧ rightS (zerA n) = 21))
  have SM := hid (fun h : n ≤ 65536 => by
    have q := of_ok h
    rw [← hs7] at q
    rw [← hr, he1] at q
    have q2 := rep_ok h
    exact (⟨q.1, q.2.1, q.2.2, by rw [hv, q2.1]; exact q2.2, zer_ok h⟩ : e1 = 0 ∧ szN r.kind r.nums.length r.items.length = n ∧ rightS r = 0 ∧ szN v.kind v.nums.length v.items.length = n ∧ rightS (zerA n) = 0))
  replace hs7 := hid hs7
  replace hr := hid hr
  replace he1 := hid he1
  replace hv := hid hv
  go_wp2_with fail
  replace E := hid (E.out.lit [(n : Int)] (show (1 : Nat) ≤ 17592186044416 by decide))
  (try simp only [List.cons_append, List.nil_append, List.set_cons_zero, List.set_cons_succ] at E)
  refine (array_Scalar 7 _).mono ?_
  intro e w1 h
  obtain ⟨s101, c101, n101, m101, i101, j101, rfl, hA, hb⟩ := h.eq v7.out
  replace E := hid ((E.out.up hb).addArr hA (fun b _ hq => E.out.fresh (Ext.refl _) hq))
  clear hA hb h
  (try simp only [List.cons_append, List.nil_append, List.set_cons_zero, List.set_cons_succ] at E)
  go_wp2_with fail
  refine (array_Of [(n : Int)] _ _ s7 _ _ _ _ _ _ _ _ (E.out.arr 1 rfl) (E.out.ints 0 rfl)).mono ?_
  intro e w2 h
  obtain ⟨s102, c102, n102, m102, i102, j102, rfl, hA, hb, hC102⟩ := h.eq hr.out he1.out
  replace E := hid ((E.out.up hb).addArr hA (fun b _ hq => E.out.res (Ext.refl _) hq))
  replace hC102 := hid hC102
  clear hA hb h
  (try simp only [List.cons_append, List.nil_append, List.set_cons_zero, List.set_cons_succ] at E)
  go_upto_region 3 with (refine wpl_store4 rfl (.tmp 4) (.tmp 16) rfl _ rfl rfl ((E.out.alloc _).hdr 3 rfl) ?_; intro V1 HV CV; replace E := hid ((E.out.alloc _).chg 3 rfl CV HV); clear CV HV; (try simp only [List.cons_append, List.nil_append, List.set_cons_zero, List.set_cons_succ] at E))
  generalize w2.heap.size = p1 at E ⊢
  clear hC102
  go_wp2_with fail
  rw [madeI_zs]
  replace E := hid (E.out.lit (List.replicate n 0) (by rw [List.length_replicate]; omega))
  (try simp only [List.cons_append, List.nil_append, List.set_cons_zero, List.set_cons_succ] at E)
  refine (vec_zeros n _ _ _ _ (E.out.ints 4 rfl)).mono ?_
  intro e w3 h
  obtain ⟨s103, c103, n103, m103, i103, j103, rfl, hA, hb⟩ := h.eq hv.out
  replace E := hid ((E.out.up hb).addArr hA (fun b _ hq => E.out.res (Ext.refl _) hq))
  clear hA hb h
  (try simp only [List.cons_append, List.nil_append, List.set_cons_zero, List.set_cons_succ] at E)
  clear mk1
  go_upto_region 4 with (refine wpl_store4 rfl (.tmp 6) (.tmp 20) rfl _ rfl rfl ((E.out.alloc _).hdr 6 rfl) ?_; intro V2 HV CV; replace E := hid ((E.out.alloc _).chg 6 rfl CV HV); clear CV HV; (try simp only [List.cons_append, List.nil_append, List.set_cons_zero, List.set_cons_succ] at E))
  generalize w3.heap.size = p2 at E ⊢
  by_cases c : n ≤ 65536
  case pos =>
    obtain ⟨q1, q2, q3, q4, q5⟩ := SM.out c
    have lb : ¬ (65536 : Int) < (n : Int) := by omega
    have cb9 : ((n : Int) == (n : Int)) = true := by simp
    clear BG SM
    subst q1
    replace q2 := hid q2
    replace q3 := hid q3
    replace q4 := hid q4
    replace q5 := hid q5
    replace c := hid c
    obtain ⟨q30, q31, q32, q33⟩ := (E.out.hdr 3 rfl).all
    go_wp2_with fail
    clear q30 q31 q32 q33
    refine (size_array_Size r _ _ _ _ _ _ _ _ (E.out.arr 2 rfl)).mono ?_
    rintro e w4 ⟨rfl, hb⟩
    replace E := hid (E.out.up hb)
    clear hb
    rw [q2.out]
    obtain ⟨q60, q61, q62, q63⟩ := (E.out.hdr 6 rfl).all
    go_wp2_with fail
    clear q60 q61 q62 q63
    refine (size_array_Size v _ _ _ _ _ _ _ _ (E.out.arr 5 rfl)).mono ?_
    rintro e w5 ⟨rfl, hb⟩
    replace E := hid (E.out.up hb)
    clear hb
    rw [q4.out]
    obtain ⟨q30, q31, q32, q33⟩ := (E.out.hdr 3 rfl).all
    go_wp2_with fail
    clear q30 q31 q32 q33
    refine (array_Right r _ _ _ _ _ _ _ _ (E.out.arr 2 rfl)).mono ?_
    rintro e w6 ⟨rfl, hb⟩
    replace E := hid (E.out.up hb)
    clear hb
    rw [q3.out]
    go_wp2_with fail
    replace E := hid (E.out.lit [0, (n : Int)] (show (2 : Nat) ≤ 17592186044416 by decide))
    (try simp only [List.cons_append, List.nil_append, List.set_cons_zero, List.set_cons_succ] at E)
    refine (array_Right (zerA n) _ 2 none 0 none 0 _ _ (vec_at (E.out.ints 7 rfl) (IntsAt.nil _ _ none))).mono ?_
    rintro e w7 ⟨rfl, hb⟩
    replace E := hid (E.out.up hb)
    clear hb
    rw [q5.out]
    go_wp2_with (go_at_call 12; refine (law03_example _ (Utf8Tabs_below hT E.out.ext)).mono ?_; rintro e w9 ⟨rfl, hb9⟩)
    exact hR.out _ _ ⟨rfl, (E.out.up hb9).ext⟩
  case neg =>
    obtain ⟨q1, q2, q3, q4⟩ := BG.out c
    have lb : (65536 : Int) < (n : Int) := by omega
    clear BG SM
    subst q1
    have u2 : Hid (sameB r .zero = true) := hid (by rw [q2]; exact sameB_self _)
    have u3 : Hid (sameB v .zero = true) := hid (by rw [q3]; exact sameB_self _)
    replace q2 := hid q2
    replace q3 := hid q3
    replace q4 := hid q4
    replace c := hid c
    obtain ⟨q30, q31, q32, q33⟩ := (E.out.hdr 3 rfl).all
    go_wp2_with fail
    clear q30 q31 q32 q33
    refine (ref03_Same r .zero _ _ _ _ _ _ none 0 none 0 none 0 _ (fun _ => True) _ (E.out.arr 2 rfl) (zero_at _ _ _ _ _)).mono ?_
    rintro e w4 ⟨rfl, hb⟩
    replace E := hid (E.out.up hb)
    clear hb
    rw [u2.out]
    obtain ⟨q60, q61, q62, q63⟩ := (E.out.hdr 6 rfl).all
    go_wp2_with fail
    clear q60 q61 q62 q63
    refine (ref03_Same v .zero _ _ _ _ _ _ none 0 none 0 none 0 _ (fun _ => True) _ (E.out.arr 5 rfl) (zero_at _ _ _ _ _)).mono ?_
    rintro e w5 ⟨rfl, hb⟩
    replace E := hid (E.out.up hb)
    clear hb
    rw [u3.out]
    go_wp2_with fail
    replace E := hid (E.out.lit [0, (n : Int)] (show (2 : Nat) ≤ 17592186044416 by decide))
    (try simp only [List.cons_append, List.nil_append, List.set_cons_zero, List.set_cons_succ] at E)
    refine (array_Right (zerA n) _ 2 none 0 none 0 _ _ (vec_at (E.out.ints 7 rfl) (IntsAt.nil _ _ none))).mono ?_
    rintro e w7 ⟨rfl, hb⟩
    replace E := hid (E.out.up hb)
    clear hb
    rw [q4.out]
    go_wp2_with (go_at_call 12; refine (law03_example _ (Utf8Tabs_below hT E.out.ext)).mono ?_; rintro e w9 ⟨rfl, hb9⟩)
    exact hR.out _ _ ⟨rfl, (E.out.up hb9).ext⟩
end Go.Proofs.YtdobnkbmjkcpoaaDoor
