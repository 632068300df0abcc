/- Products, quotients and powers: each returns what its arguments determine. Conditions: those of each lemma. -/
import Derived.Test.YtolnbmmkpmajdaaBIN1
set_option linter.unusedVariables false
set_option maxRecDepth 20000
set_option linter.unusedSimpArgs false
namespace Go.Proofs.Ytolnbmmkpmajdaa
open Go.RowKit Go.Sort
attribute [local go_sem ↓] run_max2 run_min2
attribute [local go_sem] eql_ints_nil eql_arrs_nil
set_option maxHeartbeats 4000000 in
theorem num_mul (a b : Int) (hb : numB b = true) : ∃ r s : Int, Ret2 90 #[.int .i64 a, .int .i64 b] r s := by
  obtain ⟨v, hv⟩ : ∃ v, IntKind.i64.wrap (a * b) = v := ⟨_, rfl⟩
  by_cases c : b = 0
  · have cb : (b != 0) = false := by simp [c]
    refine ⟨v, 0, fun w => calls_post fun R' hR => ?_⟩
    replace c := hid c
    replace hb := hid hb
    go_enter Try.func90, Try.ntmps90
    go_wp2_with fail
    exact hR.out _ _ ⟨rfl, Ext.refl _⟩
  have cb : (b != 0) = true := by simp [c]
  obtain ⟨r1, _, h1⟩ := num_abs a
  obtain ⟨r2, hr2, h2⟩ := num_abs b
  have hn2 := hr2 c hb
  clear hr2
  obtain ⟨q, hq⟩ : ∃ q, IntKind.i64.wrap (Int.tdiv 4611686018427387903 r2) = q := ⟨_, rfl⟩
  have z1 : (r2 == 0) = false := by simpa using hn2
  by_cases d : q < r1
  · refine ⟨0, 19, fun w => calls_post fun R' hR => ?_⟩
    replace c := hid c
    replace hb := hid hb
    replace h1 := hid h1
    replace h2 := hid h2
    go_enter Try.func90, Try.ntmps90
    go_wp2_with fail
    refine (h1.out w).mono ?_
    rintro e w1 ⟨rfl, e1⟩
    replace e1 := hid e1
    go_wp2_with fail
    refine (h2.out w1).mono ?_
    rintro e w2 ⟨rfl, e2⟩
    replace e2 := hid (e1.out.trans e2)
    go_wp2_with fail
    exact hR.out _ _ ⟨rfl, e2.out⟩
  · refine ⟨v, 0, fun w => calls_post fun R' hR => ?_⟩
    replace c := hid c
    replace hb := hid hb
    replace h1 := hid h1
    replace h2 := hid h2
    go_enter Try.func90, Try.ntmps90
    go_wp2_with fail
    refine (h1.out w).mono ?_
    rintro e w1 ⟨rfl, e1⟩
    replace e1 := hid e1
    go_wp2_with fail
    refine (h2.out w1).mono ?_
    rintro e w2 ⟨rfl, e2⟩
    replace e2 := hid (e1.out.trans e2)
    go_wp2_with fail
    exact hR.out _ _ ⟨rfl, e2.out⟩
set_option maxHeartbeats 2000000 in
theorem num_Mul (a b : Int) (ha : numB a = true) (hb : numB b = true) : ∃ r s : Int, Ret2 60 #[.int .i64 a, .int .i64 b] r s := by
  obtain ⟨r, s, hrs⟩ := num_mul a b hb
  refine ⟨r, s, fun w => calls_post fun R' hR => ?_⟩
  replace ha := hid ha
  replace hb := hid hb
  replace hrs := hid hrs
  go_enter Try.func60, Try.ntmps60
  go_wp2_with fail
  refine (num_checked a b ha.out hb.out w).mono ?_
  rintro e w1 ⟨rfl, e1⟩
  replace e1 := hid e1
  go_wp2_with fail
  refine (hrs.out w1).mono ?_
  rintro e w2 ⟨rfl, e2⟩
  replace e2 := hid (e1.out.trans e2)
  go_wp2_with fail
  exact hR.out _ _ ⟨rfl, e2.out⟩
def Ret3 (K : FuncId) (args : Array Value) (q r s : Int) : Prop := ∀ w : World, Calls Try.prog K args w fun e w' => e = .returned (.tuple #[.int .i64 q, .int .i64 r, .int .i64 s]) ∧ Ext w w'
set_option maxHeartbeats 4000000 in
theorem num_divide (a b : Int) (ha : numB a = true) (hb : numB b = true) : ∃ q r s : Int, Ret3 91 #[.int .i64 a, .int .i64 b] q r s := by
  replace ha := hid ha
  replace hb := hid hb
  by_cases c : b = 0
  · have cb : (b == 0) = true := by simp [c]
    refine ⟨0, 0, 20, fun w => calls_post fun R' hR => ?_⟩
    replace c := hid c
    go_enter Try.func91, Try.ntmps91
    go_wp2_with fail
    refine (num_checked a b ha.out hb.out w).mono ?_
    rintro e w1 ⟨rfl, e1⟩
    replace e1 := hid e1
    go_wp2_with fail
    exact bodyPost_ret (v := .tuple #[.int .i64 0, .int .i64 0, .int .i64 20]) (by simp [results, Try.results91, go_sem]) rfl (hR.out _ _ ⟨rfl, e1.out⟩)
  have cb : (b == 0) = false := by simp [c]
  obtain ⟨q, hq⟩ : ∃ q, IntKind.i64.wrap (Int.tdiv a b) = q := ⟨_, rfl⟩
  obtain ⟨r, hr⟩ : ∃ r, Int.tmod a b = r := ⟨_, rfl⟩
  obtain ⟨q1, hq1⟩ : ∃ q1, IntKind.i64.wrap (q - 1) = q1 := ⟨_, rfl⟩
  obtain ⟨r1, hr1⟩ : ∃ r1, IntKind.i64.wrap (r + b) = r1 := ⟨_, rfl⟩
  by_cases d : r = 0
  · have db : (r != 0) = false := by simp [d]
    replace d := hid d
    refine ⟨q, r, 0, fun w => calls_post fun R' hR => ?_⟩
    go_enter Try.func91, Try.ntmps91
    go_wp2_with fail
    refine (num_checked a b ha.out hb.out w).mono ?_
    rintro e w1 ⟨rfl, e1⟩
    replace e1 := hid e1
    go_upto_region 6 with fail
    refine wp_region_mono (Sees w1 []) [] (fun k v u u' => match k with  | _ => False) (fun _ _ h e => h.up e) (Sees.start (all_nil)) (by kernel_rfl) (by kernel_rfl) ?_
    repeat (first | (refine m_plain (v := ?_) (by rfl) (by rfl) ?_ ?_; rotate_left; (intro wz hSw; obtain ⟨-, hSc⟩ := hSw; (try simp only [List.forall_mem_cons, List.forall_mem_nil, and_true] at hSc); go_simp; (first | done | with_reducible rfl)); (intro K hK; (try simp only [Act.put, List.setIfInBounds_toArray, List.set_cons_zero, List.set_cons_succ]); refine hK _ _ ?_; clear hK K)) | (refine m_skip (by rfl) (by rfl) ?_; (intro K hK; (try simp only [Act.put, List.setIfInBounds_toArray, List.set_cons_zero, List.set_cons_succ]); refine hK _ _ ?_; clear hK K)))
    refine m_nil ?_
    intro wf hSf hAf
    have ef := hid (e1.out.trans hSf.1)
    clear hSf hAf
    go_wp2_with fail
    exact bodyPost_ret (v := .tuple #[.int .i64 q, .int .i64 r, .int .i64 0]) (by simp [results, Try.results91, go_sem]) rfl (hR.out _ _ ⟨rfl, ef.out⟩)
  have db : (r != 0) = true := by simp [d]
  replace d := hid d
  by_cases g1 : r < 0
  · have d1 : decide (r < 0) = true := decide_eq_true g1
    by_cases g2 : b < 0
    · have d2 : decide (b < 0) = true := decide_eq_true g2
      refine ⟨q, r, 0, fun w => calls_post fun R' hR => ?_⟩
      go_enter Try.func91, Try.ntmps91
      go_wp2_with fail
      refine (num_checked a b ha.out hb.out w).mono ?_
      rintro e w1 ⟨rfl, e1⟩
      replace e1 := hid e1
      go_upto_region 6 with fail
      refine wp_region_mono (Sees w1 []) [] (fun k v u u' => match k with  | _ => False) (fun _ _ h e => h.up e) (Sees.start (all_nil)) (by kernel_rfl) (by kernel_rfl) ?_
      repeat (first | (refine m_plain (v := ?_) (by rfl) (by rfl) ?_ ?_; rotate_left; (intro wz hSw; obtain ⟨-, hSc⟩ := hSw; (try simp only [List.forall_mem_cons, List.forall_mem_nil, and_true] at hSc); go_simp; (first | done | with_reducible rfl)); (intro K hK; (try simp only [Act.put, List.setIfInBounds_toArray, List.set_cons_zero, List.set_cons_succ]); refine hK _ _ ?_; clear hK K)) | (refine m_skip (by rfl) (by rfl) ?_; (intro K hK; (try simp only [Act.put, List.setIfInBounds_toArray, List.set_cons_zero, List.set_cons_succ]); refine hK _ _ ?_; clear hK K)))
      refine m_nil ?_
      intro wf hSf hAf
      have ef := hid (e1.out.trans hSf.1)
      clear hSf hAf
      go_wp2_with fail
      exact bodyPost_ret (v := .tuple #[.int .i64 q, .int .i64 r, .int .i64 0]) (by simp [results, Try.results91, go_sem]) rfl (hR.out _ _ ⟨rfl, ef.out⟩)
    · have d2 : decide (b < 0) = false := decide_eq_false g2
      refine ⟨q1, r1, 0, fun w => calls_post fun R' hR => ?_⟩
      go_enter Try.func91, Try.ntmps91
      go_wp2_with fail
      refine (num_checked a b ha.out hb.out w).mono ?_
      rintro e w1 ⟨rfl, e1⟩
      replace e1 := hid e1
      go_upto_region 6 with fail
      refine wp_region_mono (Sees w1 []) [] (fun k v u u' => match k with  | _ => False) (fun _ _ h e => h.up e) (Sees.start (all_nil)) (by kernel_rfl) (by kernel_rfl) ?_
      repeat (first | (refine m_plain (v := ?_) (by rfl) (by rfl) ?_ ?_; rotate_left; (intro wz hSw; obtain ⟨-, hSc⟩ := hSw; (try simp only [List.forall_mem_cons, List.forall_mem_nil, and_true] at hSc); go_simp; (first | done | with_reducible rfl)); (intro K hK; (try simp only [Act.put, List.setIfInBounds_toArray, List.set_cons_zero, List.set_cons_succ]); refine hK _ _ ?_; clear hK K)) | (refine m_skip (by rfl) (by rfl) ?_; (intro K hK; (try simp only [Act.put, List.setIfInBounds_toArray, List.set_cons_zero, List.set_cons_succ]); refine hK _ _ ?_; clear hK K)))
      refine m_nil ?_
      intro wf hSf hAf
      have ef := hid (e1.out.trans hSf.1)
      clear hSf hAf
      go_wp2_with fail
      exact bodyPost_ret (v := .tuple #[.int .i64 q1, .int .i64 r1, .int .i64 0]) (by simp [results, Try.results91, go_sem]) rfl (hR.out _ _ ⟨rfl, ef.out⟩)
  · have d1 : decide (r < 0) = false := decide_eq_false g1
    by_cases g2 : b < 0
    · have d2 : decide (b < 0) = true := decide_eq_true g2
      refine ⟨q1, r1, 0, fun w => calls_post fun R' hR => ?_⟩
      go_enter Try.func91, Try.ntmps91
      go_wp2_with fail
      refine (num_checked a b ha.out hb.out w).mono ?_
      rintro e w1 ⟨rfl, e1⟩
      replace e1 := hid e1
      go_upto_region 6 with fail
      refine wp_region_mono (Sees w1 []) [] (fun k v u u' => match k with  | _ => False) (fun _ _ h e => h.up e) (Sees.start (all_nil)) (by kernel_rfl) (by kernel_rfl) ?_
      repeat (first | (refine m_plain (v := ?_) (by rfl) (by rfl) ?_ ?_; rotate_left; (intro wz hSw; obtain ⟨-, hSc⟩ := hSw; (try simp only [List.forall_mem_cons, List.forall_mem_nil, and_true] at hSc); go_simp; (first | done | with_reducible rfl)); (intro K hK; (try simp only [Act.put, List.setIfInBounds_toArray, List.set_cons_zero, List.set_cons_succ]); refine hK _ _ ?_; clear hK K)) | (refine m_skip (by rfl) (by rfl) ?_; (intro K hK; (try simp only [Act.put, List.setIfInBounds_toArray, List.set_cons_zero, List.set_cons_succ]); refine hK _ _ ?_; clear hK K)))
      refine m_nil ?_
      intro wf hSf hAf
      have ef := hid (e1.out.trans hSf.1)
      clear hSf hAf
      go_wp2_with fail
      exact bodyPost_ret (v := .tuple #[.int .i64 q1, .int .i64 r1, .int .i64 0]) (by simp [results, Try.results91, go_sem]) rfl (hR.out _ _ ⟨rfl, ef.out⟩)
    · have d2 : decide (b < 0) = false := decide_eq_false g2
      refine ⟨q, r, 0, fun w => calls_post fun R' hR => ?_⟩
      go_enter Try.func91, Try.ntmps91
      go_wp2_with fail
      refine (num_checked a b ha.out hb.out w).mono ?_
      rintro e w1 ⟨rfl, e1⟩
      replace e1 := hid e1
      go_upto_region 6 with fail
      refine wp_region_mono (Sees w1 []) [] (fun k v u u' => match k with  | _ => False) (fun _ _ h e => h.up e) (Sees.start (all_nil)) (by kernel_rfl) (by kernel_rfl) ?_
      repeat (first | (refine m_plain (v := ?_) (by rfl) (by rfl) ?_ ?_; rotate_left; (intro wz hSw; obtain ⟨-, hSc⟩ := hSw; (try simp only [List.forall_mem_cons, List.forall_mem_nil, and_true] at hSc); go_simp; (first | done | with_reducible rfl)); (intro K hK; (try simp only [Act.put, List.setIfInBounds_toArray, List.set_cons_zero, List.set_cons_succ]); refine hK _ _ ?_; clear hK K)) | (refine m_skip (by rfl) (by rfl) ?_; (intro K hK; (try simp only [Act.put, List.setIfInBounds_toArray, List.set_cons_zero, List.set_cons_succ]); refine hK _ _ ?_; clear hK K)))
      refine m_nil ?_
      intro wf hSf hAf
      have ef := hid (e1.out.trans hSf.1)
      clear hSf hAf
      go_wp2_with fail
      exact bodyPost_ret (v := .tuple #[.int .i64 q, .int .i64 r, .int .i64 0]) (by simp [results, Try.results91, go_sem]) rfl (hR.out _ _ ⟨rfl, ef.out⟩)
set_option maxHeartbeats 2000000 in
theorem num_Div (a b : Int) (ha : numB a = true) (hb : numB b = true) : ∃ r s : Int, Ret2 61 #[.int .i64 a, .int .i64 b] r s := by
  obtain ⟨q, r, s, hrs⟩ := num_divide a b ha hb
  refine ⟨q, s, fun w => calls_post fun R' hR => ?_⟩
  replace ha := hid ha
  replace hb := hid hb
  replace hrs := hid hrs
  go_enter Try.func61, Try.ntmps61
  go_wp2_with fail
  refine (hrs.out w).mono ?_
  rintro e w1 ⟨rfl, e1⟩
  replace e1 := hid e1
  go_wp2_with fail
  exact hR.out _ _ ⟨rfl, e1.out⟩
set_option maxHeartbeats 2000000 in
theorem num_Mod (a b : Int) (ha : numB a = true) (hb : numB b = true) : ∃ r s : Int, Ret2 62 #[.int .i64 a, .int .i64 b] r s := by
  obtain ⟨q, r, s, hrs⟩ := num_divide a b ha hb
  refine ⟨r, s, fun w => calls_post fun R' hR => ?_⟩
  replace ha := hid ha
  replace hb := hid hb
  replace hrs := hid hrs
  go_enter Try.func62, Try.ntmps62
  go_wp2_with fail
  refine (hrs.out w).mono ?_
  rintro e w1 ⟨rfl, e1⟩
  replace e1 := hid e1
  go_wp2_with fail
  exact hR.out _ _ ⟨rfl, e1.out⟩
/-- what is left of a power -/
def powL (F : Int → Int → Int × Int) (a : Int) : Nat → Int → Int × Int
  | 0, out => (out, 0)
  | n + 1, out => if (F out a).2 = 0 then powL F a n (F out a).1 else (0, (F out a).2)
theorem mul_pick : ∃ F : Int → Int → Int × Int, ∀ a b, numB b = true → Ret2 90 #[.int .i64 a, .int .i64 b] (F a b).1 (F a b).2 := by
  have h1 : ∀ a b : Int, ∃ rs : Int × Int, numB b = true → Ret2 90 #[.int .i64 a, .int .i64 b] rs.1 rs.2 := fun a b => by
    by_cases c : numB b = true
    · obtain ⟨r, s, q⟩ := num_mul a b c; exact ⟨(r, s), fun _ => q⟩
    · exact ⟨(0, 0), fun x => absurd x c⟩
  exact ⟨fun a b => Classical.choose (h1 a b), fun a b => Classical.choose_spec (h1 a b)⟩
set_option maxHeartbeats 4000000 in
theorem num_Pow (a b : Int) (ha : numB a = true) (hb : numB b = true) : ∃ r s : Int, Ret2 63 #[.int .i64 a, .int .i64 b] r s := by
  replace ha := hid ha
  replace hb := hid hb
  by_cases c1 : b < 0
  case pos =>
    refine ⟨0, 17, fun w => calls_post fun R' hR => ?_⟩
    go_enter Try.func63, Try.ntmps63
    go_wp2_with fail
    refine (num_checked a b ha.out hb.out w).mono ?_
    rintro e w1 ⟨rfl, e1⟩
    replace e1 := hid e1
    go_wp2_with fail
    exact hR.out _ _ ⟨rfl, e1.out⟩
  by_cases c2 : b = 0
  case pos =>
    have cb : (b == 0) = true := by simp [c2]
    replace c2 := hid c2
    refine ⟨1, 0, fun w => calls_post fun R' hR => ?_⟩
    go_enter Try.func63, Try.ntmps63
    go_wp2_with fail
    refine (num_checked a b ha.out hb.out w).mono ?_
    rintro e w1 ⟨rfl, e1⟩
    replace e1 := hid e1
    go_wp2_with fail
    exact hR.out _ _ ⟨rfl, e1.out⟩
  have cb2 : (b == 0) = false := by simp [c2]
  replace c2 := hid c2
  by_cases c3 : a = 1
  case pos =>
    have cb : (a == 1) = true := by simp [c3]
    replace c3 := hid c3
    refine ⟨1, 0, fun w => calls_post fun R' hR => ?_⟩
    go_enter Try.func63, Try.ntmps63
    go_wp2_with fail
    refine (num_checked a b ha.out hb.out w).mono ?_
    rintro e w1 ⟨rfl, e1⟩
    replace e1 := hid e1
    go_wp2_with fail
    exact hR.out _ _ ⟨rfl, e1.out⟩
  have cb3 : (a == 1) = false := by simp [c3]
  replace c3 := hid c3
  by_cases c4 : a = 0
  case pos =>
    have cb : (a == 0) = true := by simp [c4]
    replace c4 := hid c4
    refine ⟨0, 0, fun w => calls_post fun R' hR => ?_⟩
    go_enter Try.func63, Try.ntmps63
    go_wp2_with fail
    refine (num_checked a b ha.out hb.out w).mono ?_
    rintro e w1 ⟨rfl, e1⟩
    replace e1 := hid e1
    go_wp2_with fail
    exact hR.out _ _ ⟨rfl, e1.out⟩
  have cb4 : (a == 0) = false := by simp [c4]
  replace c4 := hid c4
  by_cases c5 : a = -1
  case pos =>
    have cb : (a == -1) = true := by simp [c5]
    replace c5 := hid c5
    refine ⟨1 - b % 2 * 2, 0, fun w => calls_post fun R' hR => ?_⟩
    go_enter Try.func63, Try.ntmps63
    go_wp2_with fail
    refine (num_checked a b ha.out hb.out w).mono ?_
    rintro e w1 ⟨rfl, e1⟩
    replace e1 := hid e1
    go_wp2_with fail
    exact hR.out _ _ ⟨rfl, e1.out⟩
  have cb5 : (a == -1) = false := by simp [c5]
  replace c5 := hid c5
  by_cases c6 : 62 < b
  case pos =>
    refine ⟨0, 19, fun w => calls_post fun R' hR => ?_⟩
    go_enter Try.func63, Try.ntmps63
    go_wp2_with fail
    refine (num_checked a b ha.out hb.out w).mono ?_
    rintro e w1 ⟨rfl, e1⟩
    replace e1 := hid e1
    go_wp2_with fail
    exact hR.out _ _ ⟨rfl, e1.out⟩
  obtain ⟨F, hF⟩ := mul_pick
  obtain ⟨m, hm⟩ : ∃ m : Nat, b = (m : Int) := ⟨b.toNat, by omega⟩
  refine ⟨(powL F a m 1).1, (powL F a m 1).2, fun w => calls_post fun R' hR => ?_⟩
  subst hm
  replace hF := hid hF
  go_enter Try.func63, Try.ntmps63
  go_wp2_with fail
  refine (num_checked a m ha.out hb.out w).mono ?_
  rintro e w1 ⟨rfl, e1⟩
  replace e1 := hid e1
  go_upto_region 16 with (fail)
  go_loopw [7, 40] (fun sv v wr => ∃ (k : Nat) (out : Int), k ≤ m ∧ sv = .int .i64 out ∧ v = .int .i64 k ∧ Hid (powL F a (m - k) out = powL F a m 1) ∧ Ext w wr) (fun _ v _ => m - (intOf v).toNat)
  case atStart => exact ⟨0, 1, Nat.zero_le _, rfl, rfl, hid rfl, e1.out⟩
  case round =>
    clear e1
    obtain ⟨k, out, hk, rfl, rfl, hp, e1⟩ := hrel
    replace e1 := hid e1
    by_cases hlt : k < m
    case pos =>
      have hst : Hid (powL F a (m - k) out = if (F out a).2 = 0 then powL F a (m - (k + 1)) (F out a).1 else (0, (F out a).2)) := hid (by
        obtain ⟨q, hq⟩ : ∃ q, m - k = q + 1 := ⟨m - k - 1, by omega⟩
        rw [hq, show m - (k + 1) = q by omega]; rfl)
      have hcl := hid (hF.out out a ha.out wr)
      obtain ⟨f1, hf1⟩ : ∃ f, f = (F out a).1 := ⟨_, rfl⟩
      obtain ⟨f2, hf2⟩ : ∃ f, f = (F out a).2 := ⟨_, rfl⟩
      rw [← hf1, ← hf2] at hcl hst
      replace hf1 := hid hf1
      replace hf2 := hid hf2
      go_wp2_with fail
      refine hcl.out.mono ?_
      rintro e w3 ⟨rfl, e2⟩
      replace e1 := hid (e1.out.trans e2)
      clear e2
      by_cases d : f2 = 0
      · have db : (f2 != 0) = false := by simp [d]
        have hst2 : Hid (powL F a (m - (k + 1)) f1 = powL F a m 1) := hid (by rw [← hp.out, hst.out, if_pos d])
        replace d := hid d
        go_wp2_with fail
        go_roundw
        case rel => exact ⟨k + 1, f1, by omega, rfl, by go_num, hst2, e1.out⟩
        case measure => simp [intOf]; omega
      · have db : (f2 != 0) = true := by simp [d]
        have hst2 : Hid (powL F a m 1 = (0, f2)) := hid (by rw [← hp.out, hst.out, if_neg d])
        replace d := hid d
        go_wp2_with fail
        exact hR.out _ _ ⟨by rw [hst2.out] <;> rfl, e1.out⟩
    case neg =>
      obtain rfl : k = m := by omega
      have hst2 : Hid (powL F a k 1 = (out, 0)) := hid (by rw [← hp.out, Nat.sub_self]; rfl)
      go_wp2_with fail
      exact hR.out _ _ ⟨by rw [hst2.out] <;> rfl, e1.out⟩
end Go.Proofs.Ytolnbmmkpmajdaa
