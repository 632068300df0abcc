/- binary.accepts, shape.Agree and binary.Apply: contracts. Conditions: those of each lemma. -/
import Derived.Test.YtolnbmmkpmajdaaBIN4
import Derived.Test.YtolnbmmkpmajdaaSLEQ
import Derived.Test.YtolnbmmkpmajdaaP26
set_option linter.unusedVariables false
set_option maxRecDepth 20000
set_option linter.unusedSimpArgs false
namespace Go.Proofs.Ytolnbmmkpmajdaa
open Go.RowKit Go.Sort
attribute [local go_sem ↓] run_max2 run_min2
attribute [local go_sem] eql_ints_nil eql_arrs_nil
theorem acc_1_1 (w : World) : Calls Try.prog 36 #[.int .i64 1, .int .i64 1, .int .i64 1] w fun e w' => e = .returned (.bool true) ∧ Ext w w' := by
  refine calls_post fun R' hR => ?_
  go_enter Try.func36, Try.ntmps36
  go_wp2_with fail
  exact hR.out _ _ ⟨rfl, Ext.refl _⟩
theorem acc_1_2 (w : World) : Calls Try.prog 36 #[.int .i64 1, .int .i64 1, .int .i64 2] w fun e w' => e = .returned (.bool false) ∧ Ext w w' := by
  refine calls_post fun R' hR => ?_
  go_enter Try.func36, Try.ntmps36
  go_wp2_with fail
  exact hR.out _ _ ⟨rfl, Ext.refl _⟩
theorem acc_1_3 (w : World) : Calls Try.prog 36 #[.int .i64 1, .int .i64 1, .int .i64 3] w fun e w' => e = .returned (.bool false) ∧ Ext w w' := by
  refine calls_post fun R' hR => ?_
  go_enter Try.func36, Try.ntmps36
  go_wp2_with fail
  exact hR.out _ _ ⟨rfl, Ext.refl _⟩
theorem acc_2_1 (w : World) : Calls Try.prog 36 #[.int .i64 2, .int .i64 1, .int .i64 1] w fun e w' => e = .returned (.bool true) ∧ Ext w w' := by
  refine calls_post fun R' hR => ?_
  go_enter Try.func36, Try.ntmps36
  go_wp2_with fail
  exact hR.out _ _ ⟨rfl, Ext.refl _⟩
theorem acc_2_2 (w : World) : Calls Try.prog 36 #[.int .i64 2, .int .i64 1, .int .i64 2] w fun e w' => e = .returned (.bool false) ∧ Ext w w' := by
  refine calls_post fun R' hR => ?_
  go_enter Try.func36, Try.ntmps36
  go_wp2_with fail
  exact hR.out _ _ ⟨rfl, Ext.refl _⟩
theorem acc_2_3 (w : World) : Calls Try.prog 36 #[.int .i64 2, .int .i64 1, .int .i64 3] w fun e w' => e = .returned (.bool false) ∧ Ext w w' := by
  refine calls_post fun R' hR => ?_
  go_enter Try.func36, Try.ntmps36
  go_wp2_with fail
  exact hR.out _ _ ⟨rfl, Ext.refl _⟩
theorem acc_3_1 (w : World) : Calls Try.prog 36 #[.int .i64 3, .int .i64 1, .int .i64 1] w fun e w' => e = .returned (.bool true) ∧ Ext w w' := by
  refine calls_post fun R' hR => ?_
  go_enter Try.func36, Try.ntmps36
  go_wp2_with fail
  exact hR.out _ _ ⟨rfl, Ext.refl _⟩
theorem acc_3_2 (w : World) : Calls Try.prog 36 #[.int .i64 3, .int .i64 1, .int .i64 2] w fun e w' => e = .returned (.bool false) ∧ Ext w w' := by
  refine calls_post fun R' hR => ?_
  go_enter Try.func36, Try.ntmps36
  go_wp2_with fail
  exact hR.out _ _ ⟨rfl, Ext.refl _⟩
theorem acc_3_3 (w : World) : Calls Try.prog 36 #[.int .i64 3, .int .i64 1, .int .i64 3] w fun e w' => e = .returned (.bool false) ∧ Ext w w' := by
  refine calls_post fun R' hR => ?_
  go_enter Try.func36, Try.ntmps36
  go_wp2_with fail
  exact hR.out _ _ ⟨rfl, Ext.refl _⟩
theorem acc_4_1 (w : World) : Calls Try.prog 36 #[.int .i64 4, .int .i64 1, .int .i64 1] w fun e w' => e = .returned (.bool true) ∧ Ext w w' := by
  refine calls_post fun R' hR => ?_
  go_enter Try.func36, Try.ntmps36
  go_wp2_with fail
  exact hR.out _ _ ⟨rfl, Ext.refl _⟩
theorem acc_4_2 (w : World) : Calls Try.prog 36 #[.int .i64 4, .int .i64 1, .int .i64 2] w fun e w' => e = .returned (.bool false) ∧ Ext w w' := by
  refine calls_post fun R' hR => ?_
  go_enter Try.func36, Try.ntmps36
  go_wp2_with fail
  exact hR.out _ _ ⟨rfl, Ext.refl _⟩
theorem acc_4_3 (w : World) : Calls Try.prog 36 #[.int .i64 4, .int .i64 1, .int .i64 3] w fun e w' => e = .returned (.bool false) ∧ Ext w w' := by
  refine calls_post fun R' hR => ?_
  go_enter Try.func36, Try.ntmps36
  go_wp2_with fail
  exact hR.out _ _ ⟨rfl, Ext.refl _⟩
theorem acc_5_1 (w : World) : Calls Try.prog 36 #[.int .i64 5, .int .i64 1, .int .i64 1] w fun e w' => e = .returned (.bool true) ∧ Ext w w' := by
  refine calls_post fun R' hR => ?_
  go_enter Try.func36, Try.ntmps36
  go_wp2_with fail
  exact hR.out _ _ ⟨rfl, Ext.refl _⟩
theorem acc_5_2 (w : World) : Calls Try.prog 36 #[.int .i64 5, .int .i64 1, .int .i64 2] w fun e w' => e = .returned (.bool false) ∧ Ext w w' := by
  refine calls_post fun R' hR => ?_
  go_enter Try.func36, Try.ntmps36
  go_wp2_with fail
  exact hR.out _ _ ⟨rfl, Ext.refl _⟩
theorem acc_5_3 (w : World) : Calls Try.prog 36 #[.int .i64 5, .int .i64 1, .int .i64 3] w fun e w' => e = .returned (.bool false) ∧ Ext w w' := by
  refine calls_post fun R' hR => ?_
  go_enter Try.func36, Try.ntmps36
  go_wp2_with fail
  exact hR.out _ _ ⟨rfl, Ext.refl _⟩
theorem acc_6_1 (w : World) : Calls Try.prog 36 #[.int .i64 6, .int .i64 1, .int .i64 1] w fun e w' => e = .returned (.bool true) ∧ Ext w w' := by
  refine calls_post fun R' hR => ?_
  go_enter Try.func36, Try.ntmps36
  go_wp2_with fail
  exact hR.out _ _ ⟨rfl, Ext.refl _⟩
theorem acc_6_2 (w : World) : Calls Try.prog 36 #[.int .i64 6, .int .i64 1, .int .i64 2] w fun e w' => e = .returned (.bool false) ∧ Ext w w' := by
  refine calls_post fun R' hR => ?_
  go_enter Try.func36, Try.ntmps36
  go_wp2_with fail
  exact hR.out _ _ ⟨rfl, Ext.refl _⟩
theorem acc_6_3 (w : World) : Calls Try.prog 36 #[.int .i64 6, .int .i64 1, .int .i64 3] w fun e w' => e = .returned (.bool false) ∧ Ext w w' := by
  refine calls_post fun R' hR => ?_
  go_enter Try.func36, Try.ntmps36
  go_wp2_with fail
  exact hR.out _ _ ⟨rfl, Ext.refl _⟩
theorem acc_7_1 (w : World) : Calls Try.prog 36 #[.int .i64 7, .int .i64 1, .int .i64 1] w fun e w' => e = .returned (.bool true) ∧ Ext w w' := by
  refine calls_post fun R' hR => ?_
  go_enter Try.func36, Try.ntmps36
  go_wp2_with fail
  exact hR.out _ _ ⟨rfl, Ext.refl _⟩
theorem acc_7_2 (w : World) : Calls Try.prog 36 #[.int .i64 7, .int .i64 1, .int .i64 2] w fun e w' => e = .returned (.bool false) ∧ Ext w w' := by
  refine calls_post fun R' hR => ?_
  go_enter Try.func36, Try.ntmps36
  go_wp2_with fail
  exact hR.out _ _ ⟨rfl, Ext.refl _⟩
theorem acc_7_3 (w : World) : Calls Try.prog 36 #[.int .i64 7, .int .i64 1, .int .i64 3] w fun e w' => e = .returned (.bool false) ∧ Ext w w' := by
  refine calls_post fun R' hR => ?_
  go_enter Try.func36, Try.ntmps36
  go_wp2_with fail
  exact hR.out _ _ ⟨rfl, Ext.refl _⟩
theorem acc_8_1 (w : World) : Calls Try.prog 36 #[.int .i64 8, .int .i64 1, .int .i64 1] w fun e w' => e = .returned (.bool true) ∧ Ext w w' := by
  refine calls_post fun R' hR => ?_
  go_enter Try.func36, Try.ntmps36
  go_wp2_with fail
  exact hR.out _ _ ⟨rfl, Ext.refl _⟩
theorem acc_8_2 (w : World) : Calls Try.prog 36 #[.int .i64 8, .int .i64 1, .int .i64 2] w fun e w' => e = .returned (.bool false) ∧ Ext w w' := by
  refine calls_post fun R' hR => ?_
  go_enter Try.func36, Try.ntmps36
  go_wp2_with fail
  exact hR.out _ _ ⟨rfl, Ext.refl _⟩
theorem acc_8_3 (w : World) : Calls Try.prog 36 #[.int .i64 8, .int .i64 1, .int .i64 3] w fun e w' => e = .returned (.bool false) ∧ Ext w w' := by
  refine calls_post fun R' hR => ?_
  go_enter Try.func36, Try.ntmps36
  go_wp2_with fail
  exact hR.out _ _ ⟨rfl, Ext.refl _⟩
theorem acc_9_1 (w : World) : Calls Try.prog 36 #[.int .i64 9, .int .i64 1, .int .i64 1] w fun e w' => e = .returned (.bool true) ∧ Ext w w' := by
  refine calls_post fun R' hR => ?_
  go_enter Try.func36, Try.ntmps36
  go_wp2_with fail
  exact hR.out _ _ ⟨rfl, Ext.refl _⟩
theorem acc_9_2 (w : World) : Calls Try.prog 36 #[.int .i64 9, .int .i64 1, .int .i64 2] w fun e w' => e = .returned (.bool false) ∧ Ext w w' := by
  refine calls_post fun R' hR => ?_
  go_enter Try.func36, Try.ntmps36
  go_wp2_with fail
  exact hR.out _ _ ⟨rfl, Ext.refl _⟩
theorem acc_9_3 (w : World) : Calls Try.prog 36 #[.int .i64 9, .int .i64 1, .int .i64 3] w fun e w' => e = .returned (.bool false) ∧ Ext w w' := by
  refine calls_post fun R' hR => ?_
  go_enter Try.func36, Try.ntmps36
  go_wp2_with fail
  exact hR.out _ _ ⟨rfl, Ext.refl _⟩
theorem acc_10_1 (w : World) : Calls Try.prog 36 #[.int .i64 10, .int .i64 1, .int .i64 1] w fun e w' => e = .returned (.bool true) ∧ Ext w w' := by
  refine calls_post fun R' hR => ?_
  go_enter Try.func36, Try.ntmps36
  go_wp2_with fail
  exact hR.out _ _ ⟨rfl, Ext.refl _⟩
theorem acc_10_2 (w : World) : Calls Try.prog 36 #[.int .i64 10, .int .i64 1, .int .i64 2] w fun e w' => e = .returned (.bool false) ∧ Ext w w' := by
  refine calls_post fun R' hR => ?_
  go_enter Try.func36, Try.ntmps36
  go_wp2_with fail
  exact hR.out _ _ ⟨rfl, Ext.refl _⟩
theorem acc_10_3 (w : World) : Calls Try.prog 36 #[.int .i64 10, .int .i64 1, .int .i64 3] w fun e w' => e = .returned (.bool false) ∧ Ext w w' := by
  refine calls_post fun R' hR => ?_
  go_enter Try.func36, Try.ntmps36
  go_wp2_with fail
  exact hR.out _ _ ⟨rfl, Ext.refl _⟩
theorem acc_11_1 (w : World) : Calls Try.prog 36 #[.int .i64 11, .int .i64 1, .int .i64 1] w fun e w' => e = .returned (.bool true) ∧ Ext w w' := by
  refine calls_post fun R' hR => ?_
  go_enter Try.func36, Try.ntmps36
  go_wp2_with fail
  exact hR.out _ _ ⟨rfl, Ext.refl _⟩
theorem acc_11_2 (w : World) : Calls Try.prog 36 #[.int .i64 11, .int .i64 1, .int .i64 2] w fun e w' => e = .returned (.bool true) ∧ Ext w w' := by
  refine calls_post fun R' hR => ?_
  go_enter Try.func36, Try.ntmps36
  go_wp2_with fail
  exact hR.out _ _ ⟨rfl, Ext.refl _⟩
theorem acc_11_3 (w : World) : Calls Try.prog 36 #[.int .i64 11, .int .i64 1, .int .i64 3] w fun e w' => e = .returned (.bool false) ∧ Ext w w' := by
  refine calls_post fun R' hR => ?_
  go_enter Try.func36, Try.ntmps36
  go_wp2_with fail
  exact hR.out _ _ ⟨rfl, Ext.refl _⟩
theorem acc_12_1 (w : World) : Calls Try.prog 36 #[.int .i64 12, .int .i64 1, .int .i64 1] w fun e w' => e = .returned (.bool true) ∧ Ext w w' := by
  refine calls_post fun R' hR => ?_
  go_enter Try.func36, Try.ntmps36
  go_wp2_with fail
  exact hR.out _ _ ⟨rfl, Ext.refl _⟩
theorem acc_12_2 (w : World) : Calls Try.prog 36 #[.int .i64 12, .int .i64 1, .int .i64 2] w fun e w' => e = .returned (.bool true) ∧ Ext w w' := by
  refine calls_post fun R' hR => ?_
  go_enter Try.func36, Try.ntmps36
  go_wp2_with fail
  exact hR.out _ _ ⟨rfl, Ext.refl _⟩
theorem acc_12_3 (w : World) : Calls Try.prog 36 #[.int .i64 12, .int .i64 1, .int .i64 3] w fun e w' => e = .returned (.bool false) ∧ Ext w w' := by
  refine calls_post fun R' hR => ?_
  go_enter Try.func36, Try.ntmps36
  go_wp2_with fail
  exact hR.out _ _ ⟨rfl, Ext.refl _⟩
theorem acc_13_1 (w : World) : Calls Try.prog 36 #[.int .i64 13, .int .i64 1, .int .i64 1] w fun e w' => e = .returned (.bool true) ∧ Ext w w' := by
  refine calls_post fun R' hR => ?_
  go_enter Try.func36, Try.ntmps36
  go_wp2_with fail
  exact hR.out _ _ ⟨rfl, Ext.refl _⟩
theorem acc_13_2 (w : World) : Calls Try.prog 36 #[.int .i64 13, .int .i64 1, .int .i64 2] w fun e w' => e = .returned (.bool false) ∧ Ext w w' := by
  refine calls_post fun R' hR => ?_
  go_enter Try.func36, Try.ntmps36
  go_wp2_with fail
  exact hR.out _ _ ⟨rfl, Ext.refl _⟩
theorem acc_13_3 (w : World) : Calls Try.prog 36 #[.int .i64 13, .int .i64 1, .int .i64 3] w fun e w' => e = .returned (.bool false) ∧ Ext w w' := by
  refine calls_post fun R' hR => ?_
  go_enter Try.func36, Try.ntmps36
  go_wp2_with fail
  exact hR.out _ _ ⟨rfl, Ext.refl _⟩
theorem acc_14_1 (w : World) : Calls Try.prog 36 #[.int .i64 14, .int .i64 1, .int .i64 1] w fun e w' => e = .returned (.bool true) ∧ Ext w w' := by
  refine calls_post fun R' hR => ?_
  go_enter Try.func36, Try.ntmps36
  go_wp2_with fail
  exact hR.out _ _ ⟨rfl, Ext.refl _⟩
theorem acc_14_2 (w : World) : Calls Try.prog 36 #[.int .i64 14, .int .i64 1, .int .i64 2] w fun e w' => e = .returned (.bool false) ∧ Ext w w' := by
  refine calls_post fun R' hR => ?_
  go_enter Try.func36, Try.ntmps36
  go_wp2_with fail
  exact hR.out _ _ ⟨rfl, Ext.refl _⟩
theorem acc_14_3 (w : World) : Calls Try.prog 36 #[.int .i64 14, .int .i64 1, .int .i64 3] w fun e w' => e = .returned (.bool false) ∧ Ext w w' := by
  refine calls_post fun R' hR => ?_
  go_enter Try.func36, Try.ntmps36
  go_wp2_with fail
  exact hR.out _ _ ⟨rfl, Ext.refl _⟩
theorem acc_15_1 (w : World) : Calls Try.prog 36 #[.int .i64 15, .int .i64 1, .int .i64 1] w fun e w' => e = .returned (.bool true) ∧ Ext w w' := by
  refine calls_post fun R' hR => ?_
  go_enter Try.func36, Try.ntmps36
  go_wp2_with fail
  exact hR.out _ _ ⟨rfl, Ext.refl _⟩
theorem acc_15_2 (w : World) : Calls Try.prog 36 #[.int .i64 15, .int .i64 1, .int .i64 2] w fun e w' => e = .returned (.bool false) ∧ Ext w w' := by
  refine calls_post fun R' hR => ?_
  go_enter Try.func36, Try.ntmps36
  go_wp2_with fail
  exact hR.out _ _ ⟨rfl, Ext.refl _⟩
theorem acc_15_3 (w : World) : Calls Try.prog 36 #[.int .i64 15, .int .i64 1, .int .i64 3] w fun e w' => e = .returned (.bool false) ∧ Ext w w' := by
  refine calls_post fun R' hR => ?_
  go_enter Try.func36, Try.ntmps36
  go_wp2_with fail
  exact hR.out _ _ ⟨rfl, Ext.refl _⟩
theorem acc_16_1 (w : World) : Calls Try.prog 36 #[.int .i64 16, .int .i64 1, .int .i64 1] w fun e w' => e = .returned (.bool true) ∧ Ext w w' := by
  refine calls_post fun R' hR => ?_
  go_enter Try.func36, Try.ntmps36
  go_wp2_with fail
  exact hR.out _ _ ⟨rfl, Ext.refl _⟩
theorem acc_16_2 (w : World) : Calls Try.prog 36 #[.int .i64 16, .int .i64 1, .int .i64 2] w fun e w' => e = .returned (.bool false) ∧ Ext w w' := by
  refine calls_post fun R' hR => ?_
  go_enter Try.func36, Try.ntmps36
  go_wp2_with fail
  exact hR.out _ _ ⟨rfl, Ext.refl _⟩
theorem acc_16_3 (w : World) : Calls Try.prog 36 #[.int .i64 16, .int .i64 1, .int .i64 3] w fun e w' => e = .returned (.bool false) ∧ Ext w w' := by
  refine calls_post fun R' hR => ?_
  go_enter Try.func36, Try.ntmps36
  go_wp2_with fail
  exact hR.out _ _ ⟨rfl, Ext.refl _⟩
/-- whether p takes a number and an element of a kind -/
def accR (p : Nat) (k : Int) : Bool := if p = 11 ∨ p = 12 then decide (k ≠ 3) else decide (k = 1)
theorem binary_accepts {p : Nat} (h1 : 1 ≤ p) (h2 : p ≤ 16) {xk k : Int} (hx : xk = 1) (hk : k = 1 ∨ k = 2 ∨ k = 3) (w : World) : Calls Try.prog 36 #[.int .i64 (p : Int), .int .i64 xk, .int .i64 k] w fun e w' => e = .returned (.bool (accR p k)) ∧ Ext w w' := by
  subst hx
  match p, h1, h2 with
  | 1, _, _ =>
    rcases hk with rfl | rfl | rfl
    · exact acc_1_1 w
    · exact acc_1_2 w
    · exact acc_1_3 w
  | 2, _, _ =>
    rcases hk with rfl | rfl | rfl
    · exact acc_2_1 w
    · exact acc_2_2 w
    · exact acc_2_3 w
  | 3, _, _ =>
    rcases hk with rfl | rfl | rfl
    · exact acc_3_1 w
    · exact acc_3_2 w
    · exact acc_3_3 w
  | 4, _, _ =>
    rcases hk with rfl | rfl | rfl
    · exact acc_4_1 w
    · exact acc_4_2 w
    · exact acc_4_3 w
  | 5, _, _ =>
    rcases hk with rfl | rfl | rfl
    · exact acc_5_1 w
    · exact acc_5_2 w
    · exact acc_5_3 w
  | 6, _, _ =>
    rcases hk with rfl | rfl | rfl
    · exact acc_6_1 w
    · exact acc_6_2 w
    · exact acc_6_3 w
  | 7, _, _ =>
    rcases hk with rfl | rfl | rfl
    · exact acc_7_1 w
    · exact acc_7_2 w
    · exact acc_7_3 w
  | 8, _, _ =>
    rcases hk with rfl | rfl | rfl
    · exact acc_8_1 w
    · exact acc_8_2 w
    · exact acc_8_3 w
  | 9, _, _ =>
    rcases hk with rfl | rfl | rfl
    · exact acc_9_1 w
    · exact acc_9_2 w
    · exact acc_9_3 w
  | 10, _, _ =>
    rcases hk with rfl | rfl | rfl
    · exact acc_10_1 w
    · exact acc_10_2 w
    · exact acc_10_3 w
  | 11, _, _ =>
    rcases hk with rfl | rfl | rfl
    · exact acc_11_1 w
    · exact acc_11_2 w
    · exact acc_11_3 w
  | 12, _, _ =>
    rcases hk with rfl | rfl | rfl
    · exact acc_12_1 w
    · exact acc_12_2 w
    · exact acc_12_3 w
  | 13, _, _ =>
    rcases hk with rfl | rfl | rfl
    · exact acc_13_1 w
    · exact acc_13_2 w
    · exact acc_13_3 w
  | 14, _, _ =>
    rcases hk with rfl | rfl | rfl
    · exact acc_14_1 w
    · exact acc_14_2 w
    · exact acc_14_3 w
  | 15, _, _ =>
    rcases hk with rfl | rfl | rfl
    · exact acc_15_1 w
    · exact acc_15_2 w
    · exact acc_15_3 w
  | 16, _, _ =>
    rcases hk with rfl | rfl | rfl
    · exact acc_16_1 w
    · exact acc_16_2 w
    · exact acc_16_3 w
  | 0, h, _ => omega
  | n + 17, _, h => omega
/-- the error of a function at a list of elements -/
def errL (F : Int → Int → Int × Int) (n : Int) : List Int → Int
  | [] => 0
  | v :: l => if (F n v).2 = 0 then errL F n l else (F n v).2
theorem errL_all {F : Int → Int → Int × Int} {n : Int} : ∀ {l : List Int}, (∀ j, j < l.length → (F n (l.getD j 0)).2 = 0) → errL F n l = 0
  | [], _ => rfl
  | v :: l, h => by
    have h0 : (F n v).2 = 0 := h 0 (by simp)
    show (if (F n v).2 = 0 then errL F n l else (F n v).2) = 0
    rw [if_pos h0]
    exact errL_all fun j hj => h (j + 1) (by simpa using hj)
theorem errL_at {F : Int → Int → Int × Int} {n : Int} : ∀ {l : List Int} {i : Nat}, i < l.length → (∀ j, j < i → (F n (l.getD j 0)).2 = 0) → (F n (l.getD i 0)).2 ≠ 0 → errL F n l = (F n (l.getD i 0)).2
  | [], i, hi, _, _ => by simp at hi
  | v :: l, 0, _, _, hn => if_neg hn
  | v :: l, i + 1, hi, h, hn => by
    have h0 : (F n v).2 = 0 := h 0 (by omega)
    show (if (F n v).2 = 0 then errL F n l else (F n v).2) = _
    rw [if_pos h0]
    exact errL_at (by simpa using hi) (fun j hj => h (j + 1) (by omega)) hn
/-- a function of a number and the elements of an array -/
def appE (F : Int → Int → Int × Int) (n : Int) (y : Arr) (p : Nat) : Int := if accR p y.kind = false then 14 else errL F n y.nums
def appS (F : Int → Int → Int × Int) (n : Int) (y : Arr) (p : Nat) : Arr := if appE F n y p = 0 then .mk 1 y.shape (y.nums.map fun v => (F n v).1) [] else .zero
def RetAgr (w : World) (t : List Int) (e : Ending) (w' : World) : Prop := ∃ so sc, e = .returned (.tuple #[.slice so t.length sc, .bool true]) ∧ IntsAt w' (fun b => w.heap.size ≤ b) so t ∧ t.length ≤ sc ∧ Ext w w'
set_option maxHeartbeats 4000000 in
theorem shape_Agree (s t : List Int) (so : Option Addr) (sc : Nat) (ta : Option Addr) (tc : Nat) (S T : Nat → Prop) (w : World) (h : IntsAt w S so s) (g : IntsAt w T ta t) (hs : shapeB s = true) (ht : shapeB t = true) (hst : s = [] ∨ s = t) (hc : s.length ≤ sc) (hd : t.length ≤ tc) :
    Calls Try.prog 37 #[.slice so s.length sc, .slice ta t.length tc] w (RetAgr w t) := by
  refine calls_post fun R' hR => ?_
  have htl := g.1
  by_cases c : s.length < t.length
  case pos =>
    -- swapped
    have hs0 : s = [] := by rcases hst with q | q; exact q; rw [q] at c; omega
    have h0 := hid h
    have g0 := hid g
    have hc1 : (s.length : Int) < (t.length : Int) := by omega
    have hsl : s.length = 0 := by rw [hs0]; rfl
    have heq : Hid (∀ x : List Int, x.length = 0 → eqI x s = true) := hid fun x hx => by rw [hs0, List.eq_nil_of_length_eq_zero hx]; rfl
    have hsl1 : (s.length : Int) ≤ (tc : Int) := by omega
    have hsl2 : (0 : Int) ≤ (s.length : Int) := by omega
    have hs0' := hid hs0
    replace hsl := hid hsl
    replace hs := hid hs
    replace ht := hid ht
    clear h g hs0 hst
    go_enter Try.func37, Try.ntmps37
    go_wp2_with fail
    refine (shape_Right t _ _ _ _ g0.out).mono ?_
    rintro e w1 ⟨rfl, rfl⟩
    rw [ht.out]
    go_wp2_with fail
    refine (shape_Right s _ _ _ _ h0.out).mono ?_
    rintro e w1 ⟨rfl, rfl⟩
    rw [hs.out]
    go_wp2_with fail
    refine (slices_Equal s s _ _ _ _ _ _ _ (show IntsAt w T ta s by rw [hs0'.out]; exact IntsAt.nil _ _ _) h0.out).mono ?_
    rintro e w2 ⟨rfl, n2, rfl⟩
    rw [show eqI s s = true from decide_eq_true rfl]
    have e2 := hid (ext_drewN w n2)
    generalize w.drewN n2 = w2 at e2 ⊢
    go_wp2_with fail
    refine (slices_Clone t _ _ _ _ (g0.out.later e2.out)).mono ?_
    rintro e w3 ⟨ca, cc, rfl, hO, hb⟩
    have hO2 := hid ((hO.ints (by omega)).mono (T := fun b => w.heap.size ≤ b) fun b _ h => Nat.le_trans (Below.size e2.out) h.1)
    have hcc := hid (OwnI.cap hO)
    have e3 := hid (Ext.trans e2.out hb)
    clear hO hb
    go_wp2_with fail
    exact hR.out _ _ ⟨_, _, rfl, hO2.out, hcc.out, e3.out⟩
  case neg =>
    have hs0 : s = t := by
      rcases hst with q | q
      · have : t.length = 0 := by rw [q] at c; simp at c; rw [c]; rfl
        rw [q, List.eq_nil_of_length_eq_zero this]
      · exact q
    subst hs0
    have h0 := hid h
    have g0 := hid g
    have hc1 : ¬ (s.length : Int) < (s.length : Int) := by omega
    have hsl1 : (s.length : Int) ≤ (sc : Int) := by omega
    have hsl2 : (0 : Int) ≤ (s.length : Int) := by omega
    replace hs := hid hs
    replace ht := hid ht
    clear h g hst c
    go_enter Try.func37, Try.ntmps37
    go_wp2_with fail
    refine (shape_Right s _ _ _ _ h0.out).mono ?_
    rintro e w1 ⟨rfl, rfl⟩
    rw [hs.out]
    go_wp2_with fail
    refine (shape_Right s _ _ _ _ g0.out).mono ?_
    rintro e w1 ⟨rfl, rfl⟩
    rw [hs.out]
    go_wp2_with fail
    refine (slices_Equal s s _ _ _ _ _ _ _ h0.out g0.out).mono ?_
    rintro e w2 ⟨rfl, n2, rfl⟩
    rw [show eqI s s = true from decide_eq_true rfl]
    have e2 := hid (ext_drewN w n2)
    generalize w.drewN n2 = w2 at e2 ⊢
    go_wp2_with fail
    refine (slices_Clone s _ _ _ _ (h0.out.later e2.out)).mono ?_
    rintro e w3 ⟨ca, cc, rfl, hO, hb⟩
    have hO2 := hid ((hO.ints (by omega)).mono (T := fun b => w.heap.size ≤ b) fun b _ h => Nat.le_trans (Below.size e2.out) h.1)
    have hcc := hid (OwnI.cap hO)
    have e3 := hid (Ext.trans e2.out hb)
    clear hO hb
    go_wp2_with fail
    exact hR.out _ _ ⟨_, _, rfl, hO2.out, hcc.out, e3.out⟩
end Go.Proofs.Ytolnbmmkpmajdaa
