/- Sizes and weights: the functions of package array and of its reference. Conditions: the arrays are read. -/
import Derived.Test.YtkbbdlibamcilaaA03
set_option linter.unusedVariables false
set_option linter.unusedSimpArgs false
namespace Go.Proofs.Ytkbbdlibamcilaa
open Go.RowKit
attribute [local go_sem ↓] run_max2 run_min2
attribute [local go_sem] eql_ints_nil eql_arrs_nil
set_option maxHeartbeats 1000000 in
theorem size_array_Size (a : Arr) (sa : Option Addr) (sc : Nat) (na : Option Addr) (nc : Nat) (ia : Option Addr) (ic : Nat) (S : Nat → Prop) (w : World) (h : ArrAt w S a sa na ia) :
    Calls Try.prog 55 #[.agg #[.int .i64 a.kind, .slice sa a.shape.length sc, .slice na a.nums.length nc, .slice ia a.items.length ic]] w fun e w' => e = .returned (.int .i64 (szN a.kind a.nums.length a.items.length : Nat)) ∧ Below w.heap.size w w' := by
  have hn := h.nums.1
  have hl := h.len
  clear h
  generalize a.kind = k
  generalize a.nums.length = nn at hn
  generalize a.items.length = ni at hl
  generalize a.shape.length = ns
  refine calls_post fun R' hR => ?_
  by_cases h1 : k = 1
  · have e1 : (k == 1) = true := by simp [h1]
    have E : Hid (szN k nn ni = nn) := by simp [Hid, szN, h1]
    clear h1
    go_enter Try.func55, Try.ntmps55
    go_wp2_with fail
    exact hR.out _ _ ⟨by rw [E.out] <;> rfl, (Below.refl _ _).alloc (Nat.le_refl _) _⟩
  by_cases h2 : k = 2
  · have e1 : (k == 1) = false := by simp [h1]
    have e2 : (k == 2) = true := by simp [h2]
    have E : Hid (szN k nn ni = nn) := by simp [Hid, szN, h2]
    clear h1 h2
    go_enter Try.func55, Try.ntmps55
    go_wp2_with fail
    exact hR.out _ _ ⟨by rw [E.out] <;> rfl, (Below.refl _ _).alloc (Nat.le_refl _) _⟩
  by_cases h3 : k = 3
  · have e1 : (k == 1) = false := by simp [h1]
    have e2 : (k == 2) = false := by simp [h2]
    have e3 : (k == 3) = true := by simp [h3]
    have E : Hid (szN k nn ni = ni) := by simp [Hid, szN, h3]
    clear h1 h2 h3
    go_enter Try.func55, Try.ntmps55
    go_wp2_with fail
    exact hR.out _ _ ⟨by rw [E.out] <;> rfl, (Below.refl _ _).alloc (Nat.le_refl _) _⟩
  · have e1 : (k == 1) = false := by simp [h1]
    have e2 : (k == 2) = false := by simp [h2]
    have e3 : (k == 3) = false := by simp [h3]
    have E : Hid (szN k nn ni = 0) := by simp [Hid, szN, h1, h2, h3]
    clear h1 h2 h3
    go_enter Try.func55, Try.ntmps55
    go_wp2_with fail
    exact hR.out _ _ ⟨by rw [E.out] <;> rfl, (Below.refl _ _).alloc (Nat.le_refl _) _⟩
set_option maxHeartbeats 1000000 in
theorem size_ref03_Size (a : Arr) (sa : Option Addr) (sc : Nat) (na : Option Addr) (nc : Nat) (ia : Option Addr) (ic : Nat) (S : Nat → Prop) (w : World) (h : ArrAt w S a sa na ia) :
    Calls Try.prog 56 #[.agg #[.int .i64 a.kind, .slice sa a.shape.length sc, .slice na a.nums.length nc, .slice ia a.items.length ic]] w fun e w' => e = .returned (.int .i64 (szN a.kind a.nums.length a.items.length : Nat)) ∧ Below w.heap.size w w' := by
  have hn := h.nums.1
  have hl := h.len
  clear h
  generalize a.kind = k
  generalize a.nums.length = nn at hn
  generalize a.items.length = ni at hl
  generalize a.shape.length = ns
  refine calls_post fun R' hR => ?_
  by_cases h1 : k = 1
  · have e1 : (k == 1) = true := by simp [h1]
    have E : Hid (szN k nn ni = nn) := by simp [Hid, szN, h1]
    clear h1
    go_enter Try.func56, Try.ntmps56
    go_wp2_with fail
    exact hR.out _ _ ⟨by rw [E.out] <;> rfl, (Below.refl _ _).alloc (Nat.le_refl _) _⟩
  by_cases h2 : k = 2
  · have e1 : (k == 1) = false := by simp [h1]
    have e2 : (k == 2) = true := by simp [h2]
    have E : Hid (szN k nn ni = nn) := by simp [Hid, szN, h2]
    clear h1 h2
    go_enter Try.func56, Try.ntmps56
    go_wp2_with fail
    exact hR.out _ _ ⟨by rw [E.out] <;> rfl, (Below.refl _ _).alloc (Nat.le_refl _) _⟩
  by_cases h3 : k = 3
  · have e1 : (k == 1) = false := by simp [h1]
    have e2 : (k == 2) = false := by simp [h2]
    have e3 : (k == 3) = true := by simp [h3]
    have E : Hid (szN k nn ni = ni) := by simp [Hid, szN, h3]
    clear h1 h2 h3
    go_enter Try.func56, Try.ntmps56
    go_wp2_with fail
    exact hR.out _ _ ⟨by rw [E.out] <;> rfl, (Below.refl _ _).alloc (Nat.le_refl _) _⟩
  · have e1 : (k == 1) = false := by simp [h1]
    have e2 : (k == 2) = false := by simp [h2]
    have e3 : (k == 3) = false := by simp [h3]
    have E : Hid (szN k nn ni = 0) := by simp [Hid, szN, h1, h2, h3]
    clear h1 h2 h3
    go_enter Try.func56, Try.ntmps56
    go_wp2_with fail
    exact hR.out _ _ ⟨by rw [E.out] <;> rfl, (Below.refl _ _).alloc (Nat.le_refl _) _⟩
theorem szN3 {k : Int} {nn ni : Nat} (h : k = 3) : szN k nn ni = ni := by simp [szN, h]
theorem szN_le {k : Int} {nn ni : Nat} (hn : nn ≤ 17592186044416) (hi : ni ≤ 1759218604441) : szN k nn ni ≤ 17592186044416 := by unfold szN; (repeat' split) <;> omega
end Go.Proofs.Ytkbbdlibamcilaa
