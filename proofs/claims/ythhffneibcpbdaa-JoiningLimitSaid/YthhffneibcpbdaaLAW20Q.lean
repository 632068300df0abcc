/- The law JoiningLimit: true. Conditions: the numbers are of their kinds. -/
import Derived.Test.YthhffneibcpbdaaLAW20X
import Derived.Test.YthhffneibcpbdaaGJ
set_option linter.unusedVariables false
set_option linter.unusedSimpArgs false
namespace Go.Proofs.Ythhffneibcpbdaa
open Go.RowKit Go.Sort
attribute [local go_sem ↓] run_max2 run_min2
attribute [local go_sem] eql_ints_nil eql_arrs_nil
theorem madeI_eq (n : Nat) : madeI n = ((List.replicate n (0 : Int)).map (Value.int .i64)).toArray := by
  apply Array.ext'
  rw [show madeI n = madeCells #[.int .i64 0] n by unfold madeI; rw [Nat.mul_one], toList_madeCells_one]
  simp
theorem u16_bd {n : Int} (h : (Lit.int .u16 n).wf = true) : 0 ≤ n ∧ n ≤ 65535 := by
  simp [Lit.wf, IntKind.min, IntKind.max, IntKind.bits, IntKind.signed] at h
  omega
theorem ints_zeros (n : Nat) (so : Option Addr) (sc : Nat) (lo : Option Addr) (lc : Nat) (S : Nat → Prop) (w : World) (h : IntsAt w S so [(n : Int)]) (g : IntsAt w S lo (List.replicate n 0)) (hs : 1 ≤ sc) (hl : n ≤ lc) : Calls Try.prog 25 #[.slice so 1 sc, .slice lo n lc] w (RetAC w (fun b => S b ∨ w.heap.size ≤ b) (nilV n)) := by
  have := law20_ints [(n : Int)] (List.replicate n 0) so sc lo lc S w h g hs (by rw [List.length_replicate]; exact hl)
  rw [List.length_replicate] at this
  exact this
set_option maxRecDepth 100000 in
set_option maxHeartbeats 8000000 in
theorem law20_JoiningLimit (n : Int) (hn : 0 ≤ n ∧ n ≤ 65535) (m : Int) (hm : 0 ≤ m ∧ m ≤ 255) (w : World) :
    Calls Try.prog 8 #[.int .u16 n, .int .u8 m] w fun e w' => e = .returned (.bool true) ∧ Below w.heap.size w w' := by
  refine calls_post fun R' hR => ?_
  obtain ⟨n, rfl⟩ : ∃ q : Nat, n = q := ⟨n.toNat, by omega⟩
  have hn2 : n ≤ 65535 := by omega
  have cv1 : IntKind.i64.wrap (n : Int) = (n : Int) := IntWalk.i64_in _ (by omega)
  have mk1 := fun w => run_makeI w n (by omega)
  have E := hid (Env.start w (fun _ => False))
  go_enter Try.func8, Try.ntmps8
  go_wp2_with fail
  obtain ⟨a1, ha1⟩ : ∃ a, a = nilV n := ⟨_, rfl⟩
  replace ha1 := hid ha1
  rw [madeI_eq]
  replace E := hid (E.out.lit2 [(n : Int)] (List.replicate n 0) (show (1 : Nat) ≤ 17592186044416 by decide) (by rw [List.length_replicate]; omega))
  (try simp only [List.cons_append, List.nil_append, List.set_cons_zero, List.set_cons_succ] at E)
  refine (ints_zeros n _ _ _ _ _ _ (E.out.ints 0 rfl) (E.out.ints 1 rfl) (Nat.le_refl _) (Nat.le_refl _)).mono ?_
  intro e w1 h
  obtain ⟨s101, c101, n101, m101, i101, j101, rfl, hA, hb, hC101⟩ := h.eq ha1.out
  replace E := hid ((E.out.up hb).addArr hA (fun b _ hq => E.out.res (Ext.refl _) hq))
  replace hC101 := hid hC101
  clear hA hb h
  (try simp only [List.cons_append, List.nil_append, List.set_cons_zero, List.set_cons_succ] at E)
  go_upto_region 2 with (refine wpl_store4 rfl (.tmp 5) (.tmp 16) rfl _ rfl rfl ((E.out.alloc _).hdr 3 rfl) ?_; intro V1 HV CV; replace E := hid ((E.out.alloc _).chg 3 rfl CV HV); clear CV HV; (try simp only [List.cons_append, List.nil_append, List.set_cons_zero, List.set_cons_succ] at E))
  generalize w1.heap.size = p1 at E ⊢
  clear mk1
  go_upto_region 3 with fail
  obtain ⟨k, hk⟩ : ∃ k : Int, k = 65536 - (n : Int) - 2 + m % 5 := ⟨_, rfl⟩
  rw [← hk]
  have hk2 : k ≤ 65538 := by omega
  replace hk := hid hk
  clear hm
  by_cases c : k < 0
  case pos =>
    go_wp2_with (go_at_call 16; refine (law20_example _).mono ?_; rintro e w9 ⟨rfl, hb9⟩)
    exact hR.out _ _ ⟨rfl, (E.out.up hb9).ext⟩
  obtain ⟨k, rfl⟩ : ∃ q : Nat, k = q := ⟨k.toNat, by omega⟩
  have mk2 := fun w => run_makeI w k (by omega)
  go_wp2_with fail
  obtain ⟨a2, ha2⟩ : ∃ a, a = nilV k := ⟨_, rfl⟩
  replace ha2 := hid ha2
  rw [madeI_eq]
  replace E := hid (E.out.lit2 [(k : Int)] (List.replicate k 0) (show (1 : Nat) ≤ 17592186044416 by decide) (by rw [List.length_replicate]; omega))
  (try simp only [List.cons_append, List.nil_append, List.set_cons_zero, List.set_cons_succ] at E)
  refine (ints_zeros k _ _ _ _ _ _ (E.out.ints 4 rfl) (E.out.ints 5 rfl) (Nat.le_refl _) (Nat.le_refl _)).mono ?_
  intro e w2 h
  obtain ⟨s102, c102, n102, m102, i102, j102, rfl, hA, hb, hC102⟩ := h.eq ha2.out
  replace E := hid ((E.out.up hb).addArr hA (fun b _ hq => E.out.res (Ext.refl _) hq))
  replace hC102 := hid hC102
  clear hA hb h
  (try simp only [List.cons_append, List.nil_append, List.set_cons_zero, List.set_cons_succ] at E)
  go_upto_region 6 with (refine wpl_store4 rfl (.tmp 7) (.tmp 32) rfl _ rfl rfl ((E.out.alloc _).hdr 7 rfl) ?_; intro V2 HV CV; replace E := hid ((E.out.alloc _).chg 7 rfl CV HV); clear CV HV; (try simp only [List.cons_append, List.nil_append, List.set_cons_zero, List.set_cons_succ] at E))
  generalize w2.heap.size = p2 at E ⊢
  clear mk2
  obtain ⟨q70, q71, q72, q73⟩ := (E.out.hdr 7 rfl).all
  go_wp2_with fail
  clear q70 q71 q72 q73
  refine (ref03_Right a2 _ _ _ _ _ _ _ _ (E.out.arr 6 rfl)).mono ?_
  rintro e w3 ⟨rfl, hb⟩
  replace E := hid (E.out.up hb)
  clear hb
  by_cases r : rightS a2 = 0
  case neg =>
    have cb : (rightS a2 != 0) = true := by simpa using r
    replace r := hid r
    go_wp2_with (go_at_call 16; refine (law20_example _).mono ?_; rintro e w9 ⟨rfl, hb9⟩)
    exact hR.out _ _ ⟨rfl, (E.out.up hb9).ext⟩
  have cb : (rightS a2 != 0) = false := by simpa using r
  have hk6 : k ≤ 65536 := nilV_right.1 (by rw [← ha2.out]; exact r)
  have he : Hid (joinE true a1 a2 = if 65536 < n + k then 21 else 0) := hid (by rw [ha1.out, ha2.out]; exact nilV_join (by omega) hk6)
  have hsz := hid (fun q => nilV_joinS (n := n) (k := k) (by omega) hk6 q)
  rw [← ha1.out, ← ha2.out] at hsz
  have hno := hid (fun q => joinS_no (last := true) (x := a1) (y := a2) q)
  replace r := hid r
  go_upto_region 8 with fail
  obtain ⟨q30, q31, q32, q33⟩ := (E.out.hdr 3 rfl).all
  obtain ⟨q70, q71, q72, q73⟩ := (E.out.hdr 7 rfl).all
  go_wp2_with fail
  clear q30 q31 q32 q33 q70 q71 q72 q73
  clear cb
  refine (joining_Last a1 _ _ _ _ _ _ a2 _ _ _ _ _ _ _ _ (E.out.arr 2 rfl) (E.out.arr 6 rfl) hC101.out hC102.out).mono ?_
  intro e w4 h
  obtain ⟨s103, c103, n103, m103, i103, j103, rfl, hA, hb, hC103⟩ := h.eq rfl rfl
  replace E := hid ((E.out.up hb).addArr hA (fun b _ hq => E.out.res (Ext.refl _) hq))
  replace hC103 := hid hC103
  clear hA hb h
  (try simp only [List.cons_append, List.nil_append, List.set_cons_zero, List.set_cons_succ] at E)
  obtain ⟨r, hr⟩ : ∃ r, r = joinS true a1 a2 := ⟨_, rfl⟩
  rw [← hr] at E hC103 hsz hno ⊢
  replace hr := hid hr
  by_cases c2 : 65536 < n + k
  case pos =>
    have he1 : joinE true a1 a2 = 21 := by rw [he.out, if_pos c2]
    have hz : Hid (r = .zero) := hid (hno.out (by rw [he1]; decide))
    rw [he1]
    clear he hsz hno
    replace he1 := hid he1
    have c3 : (65536 : Int) < (n : Int) + (k : Int) := by omega
    go_upto_region 9 with (refine wpl_store4 rfl (.tmp 8) (.tmp 41) rfl _ rfl rfl ((E.out.alloc _).hdr 9 rfl) ?_; intro V3 HV CV; replace E := hid ((E.out.alloc _).chg 9 rfl CV HV); clear CV HV; (try simp only [List.cons_append, List.nil_append, List.set_cons_zero, List.set_cons_succ] at E))
    generalize w4.heap.size = p3 at E ⊢
    obtain ⟨q90, q91, q92, q93⟩ := (E.out.hdr 9 rfl).all
    go_wp2_with fail
    clear q90 q91 q92 q93
    refine (ref03_Same r .zero _ _ _ _ _ _ none 0 none 0 none 0 _ (fun _ => True) _ (E.out.arr 8 rfl) (zero_at _ _ _ _ _)).mono ?_
    rintro e w5 ⟨rfl, hb⟩
    replace E := hid (E.out.up hb)
    clear hb
    rw [show sameB r .zero = true by rw [hz.out]; exact sameB_self _]
    go_wp2_with (go_at_call 16; refine (law20_example _).mono ?_; rintro e w9 ⟨rfl, hb9⟩)
    exact hR.out _ _ ⟨rfl, (E.out.up hb9).ext⟩
  case neg =>
    have he1 : joinE true a1 a2 = 0 := by rw [he.out, if_neg c2]
    have hs : Hid (((szN r.kind r.nums.length r.items.length : Nat) : Int) = (n : Int) + (k : Int)) := hid (by rw [hsz.out c2, Int.natCast_add])
    rw [he1]
    clear he hsz hno
    replace he1 := hid he1
    have c3 : ¬ (65536 : Int) < (n : Int) + (k : Int) := by omega
    go_upto_region 9 with (refine wpl_store4 rfl (.tmp 8) (.tmp 41) rfl _ rfl rfl ((E.out.alloc _).hdr 9 rfl) ?_; intro V3 HV CV; replace E := hid ((E.out.alloc _).chg 9 rfl CV HV); clear CV HV; (try simp only [List.cons_append, List.nil_append, List.set_cons_zero, List.set_cons_succ] at E))
    generalize w4.heap.size = p3 at E ⊢
    obtain ⟨q90, q91, q92, q93⟩ := (E.out.hdr 9 rfl).all
    go_wp2_with fail
    clear q90 q91 q92 q93
    refine (size_ref03_Size r _ _ _ _ _ _ _ _ (E.out.arr 8 rfl)).mono ?_
    rintro e w5 ⟨rfl, hb⟩
    replace E := hid (E.out.up hb)
    clear hb
    rw [hs.out]
    have cz : ((n : Int) + (k : Int) == (n : Int) + (k : Int)) = true := by simp
    go_wp2_with (go_at_call 16; refine (law20_example _).mono ?_; rintro e w9 ⟨rfl, hb9⟩)
    exact hR.out _ _ ⟨rfl, (E.out.up hb9).ext⟩
end Go.Proofs.Ythhffneibcpbdaa
