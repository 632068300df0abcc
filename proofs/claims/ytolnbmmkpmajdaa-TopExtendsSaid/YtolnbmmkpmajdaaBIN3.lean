/- The dyadic scalar functions as function values: what binary.function returns. Conditions: those of each lemma. -/
import Derived.Test.YtolnbmmkpmajdaaBIN2
import Derived.Test.YtolnbmmkpmajdaaCELL1
set_option linter.unusedVariables false
set_option maxRecDepth 20000
set_option linter.unusedSimpArgs false
namespace Go.Proofs.Ytolnbmmkpmajdaa
open Go.RowKit Go.Sort
attribute [local go_sem ↓] run_max2 run_min2
attribute [local go_sem] eql_ints_nil eql_arrs_nil
set_option maxHeartbeats 2000000 in
theorem binary_Is (p : Nat) (hp : p < 256) (w : World) : Calls Try.prog 13 #[.int .i64 (p : Int)] w fun e w' => e = .returned (.bool (decide (1 ≤ p ∧ p ≤ 16))) ∧ Ext w w' := by
  refine calls_post fun R' hR => ?_
  go_enter Try.func13, Try.ntmps13
  by_cases c1 : 1 ≤ p
  · have d1 : (1 : Int) ≤ (p : Int) := by omega
    by_cases c2 : p ≤ 16
    · have d2 : (p : Int) ≤ 16 := by omega
      have hv : Hid (decide (1 ≤ p ∧ p ≤ 16) = true) := hid (decide_eq_true ⟨c1, c2⟩)
      replace c1 := hid c1
      replace c2 := hid c2
      go_wp2_with fail
      exact hR.out _ _ ⟨by rw [hv.out] <;> rfl, Ext.refl _⟩
    · have d2 : ¬ (p : Int) ≤ 16 := by omega
      have hv : Hid (decide (1 ≤ p ∧ p ≤ 16) = false) := hid (decide_eq_false fun q => c2 q.2)
      replace c1 := hid c1
      replace c2 := hid c2
      go_wp2_with fail
      exact hR.out _ _ ⟨by rw [hv.out] <;> rfl, Ext.refl _⟩
  · have d1 : ¬ (1 : Int) ≤ (p : Int) := by omega
    have hv : Hid (decide (1 ≤ p ∧ p ≤ 16) = false) := hid (decide_eq_false fun q => c1 q.1)
    replace c1 := hid c1
    go_wp2_with fail
    exact hR.out _ _ ⟨by rw [hv.out] <;> rfl, Ext.refl _⟩
/-- a call that returns a Bool, whatever the world -/
def RetB (K : FuncId) (args : Array Value) (r : Bool) : Prop := ∀ w : World, Calls Try.prog K args w fun e w' => e = .returned (.bool r) ∧ Ext w w'
def RetN (K : FuncId) (args : Array Value) (r : Int) : Prop := ∀ w : World, Calls Try.prog K args w fun e w' => e = .returned (.int .i64 r) ∧ Ext w w'
set_option maxHeartbeats 2000000 in
theorem fun_1 (a b : Int) (ha : numB a = true) (hb : numB b = true) : ∃ r s : Int, Ret2 64 #[.int .i64 a, .int .i64 b] r s := by
  refine ⟨min a b, 0, fun w => calls_post fun R' hR => ?_⟩
  replace ha := hid ha
  replace hb := hid hb
  go_enter Try.func64, Try.ntmps64
  go_wp2_with fail
  exact hR.out _ _ ⟨rfl, Ext.refl _⟩
set_option maxHeartbeats 2000000 in
theorem fun_2 (a b : Int) (ha : numB a = true) (hb : numB b = true) : ∃ r s : Int, Ret2 65 #[.int .i64 a, .int .i64 b] r s := by
  refine ⟨max a b, 0, fun w => calls_post fun R' hR => ?_⟩
  replace ha := hid ha
  replace hb := hid hb
  go_enter Try.func65, Try.ntmps65
  go_wp2_with fail
  exact hR.out _ _ ⟨rfl, Ext.refl _⟩
set_option maxHeartbeats 2000000 in
theorem fun_3 (a b : Int) : RetB 66 #[.int .i64 a, .int .i64 b] (decide (a < b)) := by
  refine fun w => calls_post fun R' hR => ?_
  go_enter Try.func66, Try.ntmps66
  by_cases c : a < b
  · have hv : Hid (decide (a < b) = true) := hid (decide_eq_true c)
    have cb : (a == b) = decide (a = b) := by by_cases q : a = b <;> simp [q]
    go_wp2_with fail
    exact hR.out _ _ ⟨by first | (rw [hv.out]; done) | (rw [hv.out] <;> rfl) | (rw [hv.out]; simp_all), Ext.refl _⟩
  · have hv : Hid (decide (a < b) = false) := hid (decide_eq_false c)
    have cb : (a == b) = decide (a = b) := by by_cases q : a = b <;> simp [q]
    go_wp2_with fail
    exact hR.out _ _ ⟨by first | (rw [hv.out]; done) | (rw [hv.out] <;> rfl) | (rw [hv.out]; simp_all), Ext.refl _⟩
set_option maxHeartbeats 2000000 in
theorem fun_4 (a b : Int) : RetB 67 #[.int .i64 a, .int .i64 b] (decide (a ≤ b)) := by
  refine fun w => calls_post fun R' hR => ?_
  go_enter Try.func67, Try.ntmps67
  by_cases c : a ≤ b
  · have hv : Hid (decide (a ≤ b) = true) := hid (decide_eq_true c)
    have cb : (a == b) = decide (a = b) := by by_cases q : a = b <;> simp [q]
    go_wp2_with fail
    exact hR.out _ _ ⟨by first | (rw [hv.out]; done) | (rw [hv.out] <;> rfl) | (rw [hv.out]; simp_all), Ext.refl _⟩
  · have hv : Hid (decide (a ≤ b) = false) := hid (decide_eq_false c)
    have cb : (a == b) = decide (a = b) := by by_cases q : a = b <;> simp [q]
    go_wp2_with fail
    exact hR.out _ _ ⟨by first | (rw [hv.out]; done) | (rw [hv.out] <;> rfl) | (rw [hv.out]; simp_all), Ext.refl _⟩
set_option maxHeartbeats 2000000 in
theorem fun_7 (a b : Int) : RetB 70 #[.int .i64 a, .int .i64 b] (decide (b ≤ a)) := by
  refine fun w => calls_post fun R' hR => ?_
  go_enter Try.func70, Try.ntmps70
  by_cases c : b ≤ a
  · have hv : Hid (decide (b ≤ a) = true) := hid (decide_eq_true c)
    have cb : (a == b) = decide (a = b) := by by_cases q : a = b <;> simp [q]
    go_wp2_with fail
    exact hR.out _ _ ⟨by first | (rw [hv.out]; done) | (rw [hv.out] <;> rfl) | (rw [hv.out]; simp_all), Ext.refl _⟩
  · have hv : Hid (decide (b ≤ a) = false) := hid (decide_eq_false c)
    have cb : (a == b) = decide (a = b) := by by_cases q : a = b <;> simp [q]
    go_wp2_with fail
    exact hR.out _ _ ⟨by first | (rw [hv.out]; done) | (rw [hv.out] <;> rfl) | (rw [hv.out]; simp_all), Ext.refl _⟩
set_option maxHeartbeats 2000000 in
theorem fun_8 (a b : Int) : RetB 71 #[.int .i64 a, .int .i64 b] (decide (b < a)) := by
  refine fun w => calls_post fun R' hR => ?_
  go_enter Try.func71, Try.ntmps71
  by_cases c : b < a
  · have hv : Hid (decide (b < a) = true) := hid (decide_eq_true c)
    have cb : (a == b) = decide (a = b) := by by_cases q : a = b <;> simp [q]
    go_wp2_with fail
    exact hR.out _ _ ⟨by first | (rw [hv.out]; done) | (rw [hv.out] <;> rfl) | (rw [hv.out]; simp_all), Ext.refl _⟩
  · have hv : Hid (decide (b < a) = false) := hid (decide_eq_false c)
    have cb : (a == b) = decide (a = b) := by by_cases q : a = b <;> simp [q]
    go_wp2_with fail
    exact hR.out _ _ ⟨by first | (rw [hv.out]; done) | (rw [hv.out] <;> rfl) | (rw [hv.out]; simp_all), Ext.refl _⟩
set_option maxHeartbeats 2000000 in
theorem fun_5 (a b : Int) : RetB 68 #[.int .i64 a, .int .i64 b] (a == b) := by
  refine fun w => calls_post fun R' hR => ?_
  go_enter Try.func68, Try.ntmps68
  go_wp2_with fail
  exact hR.out _ _ ⟨rfl, Ext.refl _⟩
set_option maxHeartbeats 2000000 in
theorem fun_6 (a b : Int) : RetB 69 #[.int .i64 a, .int .i64 b] (a != b) := by
  refine fun w => calls_post fun R' hR => ?_
  go_enter Try.func69, Try.ntmps69
  go_wp2_with fail
  exact hR.out _ _ ⟨rfl, Ext.refl _⟩
set_option maxHeartbeats 2000000 in
theorem fun_9 (a b : Int) : ∃ r : Int, RetN 73 #[.int .i64 a, .int .i64 b] r := by
  obtain ⟨v, hv⟩ : ∃ v, IntKind.i64.wrap (a * b) = v := ⟨_, rfl⟩
  refine ⟨v, fun w => calls_post fun R' hR => ?_⟩
  go_enter Try.func73, Try.ntmps73
  go_wp2_with fail
  exact hR.out _ _ ⟨rfl, Ext.refl _⟩
set_option maxHeartbeats 2000000 in
theorem fun_10 (a b : Int) : RetN 74 #[.int .i64 a, .int .i64 b] (max a b) := by
  refine fun w => calls_post fun R' hR => ?_
  go_enter Try.func74, Try.ntmps74
  go_wp2_with fail
  exact hR.out _ _ ⟨rfl, Ext.refl _⟩
set_option maxHeartbeats 2000000 in
theorem binary_truth (b : Bool) (w : World) : Calls Try.prog 76 #[.bool b] w fun e w' => e = .returned (.int .i64 (if b then 1 else 0)) ∧ Ext w w' := by
  refine calls_post fun R' hR => ?_
  cases b with
  | true =>
    go_enter Try.func76, Try.ntmps76
    go_wp2_with fail
    exact hR.out _ _ ⟨rfl, Ext.refl _⟩
  | false =>
    go_enter Try.func76, Try.ntmps76
    go_wp2_with fail
    exact hR.out _ _ ⟨rfl, Ext.refl _⟩
set_option maxHeartbeats 2000000 in
theorem binary_test1 {K : FuncId} {caps : Array Value} {r : Bool} (hK : ∀ (args : Array Value) (wz : World), (callFunc K args).run Try.prog wz = .ok (.enter K args) wz) (a b : Int) (pc : Nat) (w : World) (hc : w.cell? ⟨pc, 0, none⟩ = some (.func (.func K) #[] caps)) (h : Calls Try.prog K (#[.int .i64 a, .int .i64 b] ++ caps) w fun e w' => e = .returned (.bool r) ∧ Ext w w') :
    Calls Try.prog 75 #[.int .i64 a, .int .i64 b, .pointer (some ⟨pc, 0, none⟩)] w fun e w' => e = .returned (.tuple #[.int .i64 (if r then 1 else 0), .int .i64 0]) ∧ Ext w w' := by
  refine calls_post fun R' hR => ?_
  replace h := hid h
  go_enter Try.func75, Try.ntmps75
  go_wp2_with fail
  refine h.out.mono ?_
  rintro e w1 ⟨rfl, e1⟩
  replace e1 := hid e1
  clear hc
  go_wp2_with fail
  refine (binary_truth r w1).mono ?_
  rintro e w2 ⟨rfl, e2⟩
  replace e1 := hid (e1.out.trans e2)
  clear e2
  generalize (if r then (1 : Int) else 0) = v at hR ⊢
  go_wp2_with fail
  exact hR.out _ _ ⟨rfl, e1.out⟩
set_option maxHeartbeats 2000000 in
theorem binary_logical1 {K : FuncId} (hK : ∀ (args : Array Value) (wz : World), (callFunc K args).run Try.prog wz = .ok (.enter K args) wz) (a b r : Int) (hr : RetN K #[.int .i64 a, .int .i64 b] r) : ∃ u v : Int, ∀ (pc : Nat) (w : World) (hc : w.cell? ⟨pc, 0, none⟩ = some (.func (.func K) #[] #[])),
    Calls Try.prog 92 #[.int .i64 a, .int .i64 b, .pointer (some ⟨pc, 0, none⟩)] w fun e w' => e = .returned (.tuple #[.int .i64 u, .int .i64 v]) ∧ Ext w w' := by
  by_cases c : 0 ≤ a ∧ a ≤ 1 ∧ 0 ≤ b ∧ b ≤ 1
  · obtain ⟨c1, c2, c3, c4⟩ := c
    refine ⟨r, 0, fun pc w hc => calls_post fun R' hR => ?_⟩
    have d1 : ¬ a < 0 := by omega
    have d2 : ¬ 1 < a := by omega
    have d3 : ¬ b < 0 := by omega
    have d4 : ¬ 1 < b := by omega
    replace c1 := hid c1
    replace c2 := hid c2
    replace c3 := hid c3
    replace c4 := hid c4
    replace hr := hid hr
    go_enter Try.func92, Try.ntmps92
    go_wp2_with fail
    refine (hr.out w).mono ?_
    rintro e w1 ⟨rfl, e1⟩
    replace e1 := hid e1
    clear hc
    go_wp2_with fail
    exact hR.out _ _ ⟨rfl, e1.out⟩
  · refine ⟨0, 17, fun pc w hc => calls_post fun R' hR => ?_⟩
    replace hr := hid hr
    have hq : a < 0 ∨ ¬ a < 0 ∧ 1 < a ∨ ¬ a < 0 ∧ ¬ 1 < a ∧ b < 0 ∨ ¬ a < 0 ∧ ¬ 1 < a ∧ ¬ b < 0 ∧ 1 < b := by omega
    clear c
    go_enter Try.func92, Try.ntmps92
    rcases hq with q1 | ⟨q1, q2⟩ | ⟨q1, q2, q3⟩ | ⟨q1, q2, q3, q4⟩
    all_goals
      go_wp2_with fail
      exact hR.out _ _ ⟨rfl, Ext.refl _⟩
end Go.Proofs.Ytolnbmmkpmajdaa
