/- The arithmetic of numbers and the dyadic scalar functions: each returns what its arguments determine. Conditions: those of each lemma. -/
import Derived.Test.YtolnbmmkpmajdaaTOPA
set_option linter.unusedVariables false
set_option maxRecDepth 20000
set_option linter.unusedSimpArgs false
namespace Go.Proofs.Ytolnbmmkpmajdaa
open Go.RowKit Go.Sort
attribute [local go_sem ↓] run_max2 run_min2
attribute [local go_sem] eql_ints_nil eql_arrs_nil
/-- a call that returns two numbers, whatever the world -/
def Ret2 (K : FuncId) (args : Array Value) (r s : Int) : Prop := ∀ w : World, Calls Try.prog K args w fun e w' => e = .returned (.tuple #[.int .i64 r, .int .i64 s]) ∧ Ext w w'
/-- a function value whose results its two arguments determine; bl: the blocks that it captures -/
def FnBody (K : FuncId) (caps : Array Value) (bl : List Nat) (w : World) (F : Int → Int → Int × Int) : Prop :=
  ∀ (a b : Int) (wz : World), (∀ q ∈ bl, wz.heap[q]? = w.heap[q]?) → numB a = true → numB b = true → Calls Try.prog K (#[.int .i64 a, .int .i64 b] ++ caps) wz fun e w' => e = .returned (.tuple #[.int .i64 (F a b).1, .int .i64 (F a b).2]) ∧ Ext wz w'
def FnOk (bl0 : List Nat) (w0 w : World) (fv : Value) (F : Int → Int → Int × Int) : Prop :=
  ∃ K caps bl, fv = .func (.func K) #[] caps ∧ (∀ (args : Array Value) (wz : World), (callFunc K args).run Try.prog wz = .ok (.enter K args) wz) ∧ (∀ q ∈ bl, (q ∈ bl0 ∨ w0.heap.size ≤ q) ∧ q < w.heap.size) ∧ FnBody K caps bl w F
theorem fn_pick {K : FuncId} (h : ∀ a b : Int, numB a = true → numB b = true → ∃ r s : Int, Ret2 K #[.int .i64 a, .int .i64 b] r s) :
    ∃ F : Int → Int → Int × Int, ∀ a b, numB a = true → numB b = true → Ret2 K #[.int .i64 a, .int .i64 b] (F a b).1 (F a b).2 := by
  have h1 : ∀ a b : Int, ∃ rs : Int × Int, numB a = true → numB b = true → Ret2 K #[.int .i64 a, .int .i64 b] rs.1 rs.2 := fun a b => by
    by_cases c : numB a = true ∧ numB b = true
    · obtain ⟨r, s, q⟩ := h a b c.1 c.2; exact ⟨(r, s), fun _ _ => q⟩
    · exact ⟨(0, 0), fun x y => absurd ⟨x, y⟩ c⟩
  exact ⟨fun a b => Classical.choose (h1 a b), fun a b => Classical.choose_spec (h1 a b)⟩
theorem fn_ok {K : FuncId} {F : Int → Int → Int × Int} (hK : ∀ (args : Array Value) (wz : World), (callFunc K args).run Try.prog wz = .ok (.enter K args) wz) (h : ∀ a b, numB a = true → numB b = true → Ret2 K #[.int .i64 a, .int .i64 b] (F a b).1 (F a b).2) (bl0 : List Nat) (w0 w : World) : FnOk bl0 w0 w (.func (.func K) #[] #[]) F :=
  ⟨K, #[], [], rfl, hK, (fun q hq => by cases hq), fun a b wz _ ha hb => h a b ha hb wz⟩
theorem numB_iff {n : Int} : numB n = true ↔ -4611686018427387903 ≤ n ∧ n ≤ 4611686018427387903 := by simp [numB]
set_option maxHeartbeats 2000000 in
theorem num_Fits (n : Int) (w : World) : Calls Try.prog 99 #[.int .i64 n] w fun e w' => e = .returned (.bool (numB n)) ∧ Ext w w' := by
  refine calls_post fun R' hR => ?_
  go_enter Try.func99, Try.ntmps99
  by_cases c1 : -4611686018427387903 ≤ n
  · by_cases c2 : n ≤ 4611686018427387903
    · have hv : Hid (numB n = true) := hid (numB_iff.2 ⟨c1, c2⟩)
      go_wp2_with fail
      exact hR.out _ _ ⟨by rw [hv.out] <;> rfl, Ext.refl _⟩
    · have hv : Hid (numB n = false) := hid (by simp [numB]; omega)
      go_wp2_with fail
      exact hR.out _ _ ⟨by rw [hv.out] <;> rfl, Ext.refl _⟩
  · have hv : Hid (numB n = false) := hid (by simp [numB]; omega)
    go_wp2_with fail
    exact hR.out _ _ ⟨by rw [hv.out] <;> rfl, Ext.refl _⟩
set_option maxHeartbeats 2000000 in
theorem num_checked (a b : Int) (ha : numB a = true) (hb : numB b = true) (w : World) : Calls Try.prog 88 #[.int .i64 a, .int .i64 b] w fun e w' => e = .returned (.int .i64 0) ∧ Ext w w' := by
  refine calls_post fun R' hR => ?_
  replace ha := hid ha
  replace hb := hid hb
  go_enter Try.func88, Try.ntmps88
  go_wp2_with fail
  refine (num_Fits a w).mono ?_
  rintro e w1 ⟨rfl, e1⟩
  rw [ha.out]
  replace e1 := hid e1
  go_wp2_with fail
  refine (num_Fits b w1).mono ?_
  rintro e w2 ⟨rfl, e2⟩
  rw [hb.out]
  replace e2 := hid (e1.out.trans e2)
  go_wp2_with fail
  exact hR.out _ _ ⟨rfl, e2.out⟩
set_option maxHeartbeats 2000000 in
theorem num_fit (n : Int) : ∃ r s : Int, Ret2 89 #[.int .i64 n] r s := by
  cases hn : numB n with
  | true =>
    refine ⟨n, 0, fun w => calls_post fun R' hR => ?_⟩
    replace hn := hid hn
    go_enter Try.func89, Try.ntmps89
    go_wp2_with fail
    refine (num_Fits n w).mono ?_
    rintro e w1 ⟨rfl, e1⟩
    rw [hn.out]
    replace e1 := hid e1
    go_wp2_with fail
    exact hR.out _ _ ⟨rfl, e1.out⟩
  | false =>
    refine ⟨0, 19, fun w => calls_post fun R' hR => ?_⟩
    replace hn := hid hn
    go_enter Try.func89, Try.ntmps89
    go_wp2_with fail
    refine (num_Fits n w).mono ?_
    rintro e w1 ⟨rfl, e1⟩
    rw [hn.out]
    replace e1 := hid e1
    go_wp2_with fail
    exact hR.out _ _ ⟨rfl, e1.out⟩
set_option maxHeartbeats 2000000 in
theorem num_Add (a b : Int) (ha : numB a = true) (hb : numB b = true) : ∃ r s : Int, Ret2 58 #[.int .i64 a, .int .i64 b] r s := by
  obtain ⟨v, hv⟩ : ∃ v, IntKind.i64.wrap (a + b) = v := ⟨_, rfl⟩
  obtain ⟨r, s, hrs⟩ := num_fit v
  refine ⟨r, s, fun w => calls_post fun R' hR => ?_⟩
  replace ha := hid ha
  replace hb := hid hb
  replace hrs := hid hrs
  go_enter Try.func58, Try.ntmps58
  go_wp2_with fail
  refine (num_checked a b ha.out hb.out w).mono ?_
  rintro e w1 ⟨rfl, e1⟩
  replace e1 := hid e1
  go_wp2_with fail
  refine (hrs.out w1).mono ?_
  rintro e w2 ⟨rfl, e2⟩
  replace e2 := hid (e1.out.trans e2)
  replace hv := hid hv
  go_wp2_with fail
  exact hR.out _ _ ⟨rfl, e2.out⟩
set_option maxHeartbeats 2000000 in
theorem num_Sub (a b : Int) (ha : numB a = true) (hb : numB b = true) : ∃ r s : Int, Ret2 59 #[.int .i64 a, .int .i64 b] r s := by
  obtain ⟨v, hv⟩ : ∃ v, IntKind.i64.wrap (a - b) = v := ⟨_, rfl⟩
  obtain ⟨r, s, hrs⟩ := num_fit v
  refine ⟨r, s, fun w => calls_post fun R' hR => ?_⟩
  replace ha := hid ha
  replace hb := hid hb
  replace hrs := hid hrs
  go_enter Try.func59, Try.ntmps59
  go_wp2_with fail
  refine (num_checked a b ha.out hb.out w).mono ?_
  rintro e w1 ⟨rfl, e1⟩
  replace e1 := hid e1
  go_wp2_with fail
  refine (hrs.out w1).mono ?_
  rintro e w2 ⟨rfl, e2⟩
  replace e2 := hid (e1.out.trans e2)
  replace hv := hid hv
  go_wp2_with fail
  exact hR.out _ _ ⟨rfl, e2.out⟩
set_option maxHeartbeats 2000000 in
theorem num_abs (n : Int) : ∃ r : Int, (n ≠ 0 → numB n = true → r ≠ 0) ∧ ∀ w : World, Calls Try.prog 100 #[.int .i64 n] w fun e w' => e = .returned (.int .i64 r) ∧ Ext w w' := by
  obtain ⟨m, hm⟩ : ∃ m, IntKind.i64.wrap (-n) = m := ⟨_, rfl⟩
  refine ⟨max n m, fun h1 h2 => ?_, fun w => calls_post fun R' hR => ?_⟩
  · obtain ⟨q1, q2⟩ := numB_iff.1 h2
    have : m = -n := by rw [← hm]; exact IntWalk.i64_in _ (by omega)
    omega
  · go_enter Try.func100, Try.ntmps100
    go_wp2_with fail
    exact hR.out _ _ ⟨rfl, Ext.refl _⟩
end Go.Proofs.Ytolnbmmkpmajdaa
