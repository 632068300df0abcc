/- The functions of package shape and of package slices over lists of int: contracts. Conditions: the lists are read. -/
import Derived.Test.YtkbbdlibamcilaaOpen
import Derived.Test.YtkbbdlibamcilaaSpec
import Derived.LoopTactic
import Derived.WalkMore
set_option linter.unusedVariables false
set_option linter.unusedSimpArgs false
namespace Go.Proofs.Ytkbbdlibamcilaa
open Go.RowKit
attribute [local go_sem ↓] run_max2 run_min2

set_option maxHeartbeats 1000000 in
theorem shape_Right (s : List Int) (ao : Option Addr) (cap : Nat) (S : Nat → Prop) (w : World) (h : IntsAt w S ao s) :
    Calls Try.prog 43 #[.slice ao s.length cap] w fun e w' => e = .returned (.bool (shapeB s)) ∧ w = w' := by
  refine calls_post fun R' hR => ?_
  have hl := h.1
  by_cases h8 : 8 < s.length
  · have e := shapeB_len h8
    have E := hid e; clear e
    go_enter Try.func43, Try.ntmps43
    go_wp2
    go_step3
    go_wp2
    exact hR.out _ _ ⟨by rw [E.out] <;> rfl, rfl⟩
  · go_enter Try.func43, Try.ntmps43
    go_wp2
    go_step3
    go_wp2
    go_step3
    go_wp2
    go_loop [3, 11] (fun p i => ∃ k : Nat, k ≤ s.length ∧ i = .int .i64 k ∧ p = .int .i64 (prodNZ (s.take k)) ∧ 1 ≤ prodNZ (s.take k) ∧ prodNZ (s.take k) ≤ 65536 ∧ Hid (∀ d ∈ s.take k, 0 ≤ d)) (fun _ i => s.length - (intOf i).toNat)
    case atStart => exact ⟨0, Nat.zero_le _, rfl, rfl, by simp [prodNZ], by simp [prodNZ], fun d hd => by simp at hd⟩
    case round =>
      obtain ⟨k, hk, rfl, rfl, hp1, hp2, hnn⟩ := hrel
      by_cases hlt : k < s.length
      · obtain ⟨b, off, rfl, hbl, hS, hc⟩ := h.at hlt
        have hsN := hid (shapeB_neg hlt)
        have hsB := hid (shapeB_big hlt)
        have hsO := hid (shapeB_over hlt)
        have hT := hid (prodNZ_take_succ hlt)
        have hNN := hid (nn_take_succ hlt hnn.out)
        generalize s.getD k 0 = d at hc hsN hsB hsO hT hNN
        generalize prodNZ (s.take k) = p at hp1 hp2 hsO hT ⊢
        by_cases c1 : d < 0
        · go_wp2
          exact hR.out _ _ ⟨by rw [hsN.out c1] <;> rfl, rfl⟩
        by_cases c2 : 65536 < d
        · go_wp2
          exact hR.out _ _ ⟨by rw [hsB.out c2] <;> rfl, rfl⟩
        by_cases c3 : d = 0
        · have c3' := hid c3
          have e3 : (d == 0) = true := by simp [c3]
          clear c3
          go_wp2
          go_round
          case rel => exact ⟨k + 1, by omega, by go_num, by rw [hT.out, if_pos c3'.out], by rw [hT.out, if_pos c3'.out]; omega, by rw [hT.out, if_pos c3'.out]; omega, hNN.out (by omega)⟩
          case measure => simp [intOf]; omega
        have e3 : (d == 0) = false := by simp [c3]
        have hm1 : 1 ≤ p * d := by
          have := Int.mul_le_mul hp1 (show 1 ≤ d by omega) (by omega) (by omega)
          omega
        have hm2 : p * d ≤ 4294967296 := by
          have := Int.mul_le_mul hp2 (show d ≤ 65536 by omega) (by omega) (by omega)
          omega
        by_cases c4 : 65536 < p * d
        · have c3' := hid c3
          clear c3
          go_wp2
          exact hR.out _ _ ⟨by rw [hsO.out c3'.out c4] <;> rfl, rfl⟩
        · have c3' := hid c3
          clear c3
          go_wp2
          go_round
          case rel => exact ⟨k + 1, by omega, by go_num, by rw [hT.out, if_neg c3'.out], by rw [hT.out, if_neg c3'.out]; omega, by rw [hT.out, if_neg c3'.out]; omega, hNN.out (by omega)⟩
          case measure => simp [intOf]; omega
      · have hke : k = s.length := by omega
        have e : shapeB s = true := by
          rw [shapeB_iff]
          have h1 := hnn.out
          rw [hke, List.take_length] at h1 hp2
          exact ⟨by omega, h1, hp2⟩
        have E := hid e; clear e hke
        go_wp2
        exact hR.out _ _ ⟨by rw [E.out] <;> rfl, rfl⟩

set_option maxHeartbeats 1000000 in
theorem slices_Index (s : List Int) (v : Int) (ao : Option Addr) (cap : Nat) (S : Nat → Prop) (w : World) (h : IntsAt w S ao s) :
    Calls Try.prog 80 #[.slice ao s.length cap, .int .i64 v] w fun e w' => e = .returned (.int .i64 (idxS s v)) ∧ w = w' := by
  refine calls_post fun R' hR => ?_
  have hl := h.1
  go_enter Try.func80, Try.ntmps80
  go_wp2
  go_loop [8] (fun i => ∃ k : Nat, k ≤ s.length ∧ i = .int .i64 k ∧ Hid (∀ j, j < k → s.getD j 0 ≠ v)) (fun i => s.length - (intOf i).toNat)
  case atStart => exact ⟨0, Nat.zero_le _, rfl, fun j hj => by omega⟩
  case round =>
    obtain ⟨k, hk, rfl, hb⟩ := hrel
    by_cases hlt : k < s.length
    · obtain ⟨b, off, rfl, hbl, hS, hc⟩ := h.at hlt
      have hI := hid (fun e => idxS_at hlt e hb.out)
      have hN : Hid (s.getD k 0 ≠ v → ∀ j, j < k + 1 → s.getD j 0 ≠ v) := fun e j hj => by
        rcases Nat.lt_succ_iff_lt_or_eq.1 hj with h1 | h1
        · exact hb.out j h1
        · rw [h1]; exact e
      generalize s.getD k 0 = d at hc hI hN
      by_cases c1 : d = v
      · have e1 : (v == d) = true := by simp [c1]
        have c1' := hid c1
        clear c1
        go_wp2
        exact hR.out _ _ ⟨by rw [hI.out c1'.out] <;> rfl, rfl⟩
      · have e1 : (v == d) = false := by simp [Ne.symm c1]
        have c1' := hid c1
        clear c1
        go_wp2
        go_round
        case rel => exact ⟨k + 1, by omega, by go_num, hN.out c1'.out⟩
        case measure => simp [intOf]; omega
    · have e := idxS_none (s := s) (v := v) (fun j hj => hb.out j (by omega))
      have E := hid e; clear e
      go_wp2
      exact hR.out _ _ ⟨by rw [E.out] <;> rfl, rfl⟩
set_option maxHeartbeats 1000000 in
theorem slices_Contains (s : List Int) (v : Int) (ao : Option Addr) (cap : Nat) (S : Nat → Prop) (w : World) (h : IntsAt w S ao s) :
    Calls Try.prog 78 #[.slice ao s.length cap, .int .i64 v] w fun e w' => e = .returned (.bool (decide (v ∈ s))) ∧ w = w' := by
  refine calls_post fun R' hR => ?_
  go_enter Try.func78, Try.ntmps78
  go_wp2_with (go_at_call 80; refine (slices_Index _ _ _ _ _ _ h).mono ?_; rintro e w' ⟨rfl, rfl⟩)
  exact hR.out _ _ ⟨by rw [← idxS_pos] <;> rfl, rfl⟩
set_option maxHeartbeats 1000000 in
theorem shape_product (s : List Int) (ao : Option Addr) (cap : Nat) (S : Nat → Prop) (w : World) (h : IntsAt w S ao s) (hs : shapeB s = true) :
    Calls Try.prog 68 #[.slice ao s.length cap] w fun e w' => e = .returned (.int .i64 (cnt s)) ∧ w = w' := by
  refine calls_post fun R' hR => ?_
  have hl := h.1
  have hs' := hid hs
  clear hs
  by_cases hz : (0 : Int) ∈ s
  · have hzd : decide ((0 : Int) ∈ s) = true := by simpa using hz
    have e := hid (cnt_zero hz)
    clear hz
    go_enter Try.func68, Try.ntmps68
    go_wp2_with (go_at_call 78; refine (slices_Contains _ _ _ _ _ _ h).mono ?_; rintro e w' ⟨rfl, rfl⟩; rw [hzd])
    exact hR.out _ _ ⟨by rw [e.out] <;> rfl, rfl⟩
  · have hzd : decide ((0 : Int) ∈ s) = false := by simpa using hz
    have e := hid (cnt_prod hz)
    have hz' := hid hz
    clear hz
    go_enter Try.func68, Try.ntmps68
    go_wp2_with (go_at_call 78; refine (slices_Contains _ _ _ _ _ _ h).mono ?_; rintro e w' ⟨rfl, rfl⟩; rw [hzd])
    go_loop [3, 10] (fun p i => ∃ k : Nat, k ≤ s.length ∧ i = .int .i64 k ∧ p = .int .i64 (prodNZ (s.take k))) (fun _ i => s.length - (intOf i).toNat)
    case atStart => exact ⟨0, Nat.zero_le _, rfl, rfl⟩
    case round =>
      obtain ⟨k, hk, rfl, rfl⟩ := hrel
      have hsB := shapeB_iff.1 hs'.out
      have hp1 := prodNZ_pos fun d hd => hsB.2.1 d (mem_take (k := k) hd)
      have hp2 := prodNZ_take_le hsB.2.1 k
      by_cases hlt : k < s.length
      · obtain ⟨b, off, rfl, hbl, hS, hc⟩ := h.at hlt
        have hT := hid (prodNZ_take_step hlt hz'.out)
        have hd0 := hsB.2.1 _ (getD_mem hlt)
        have hd1 := prodNZ_ge_mem hsB.2.1 (getD_mem hlt)
        have h65 := hsB.2.2
        clear hsB
        generalize s.getD k 0 = d at hc hT hd0 hd1
        generalize prodNZ (s.take k) = p at hp1 hp2 hT ⊢
        have hm1 : 0 ≤ p * d := Int.mul_nonneg (by omega) hd0
        have hm2 : p * d ≤ 4294967296 := by
          have := Int.mul_le_mul (show p ≤ 65536 by omega) (show d ≤ 65536 by omega) (by omega) (by omega)
          omega
        clear hd1 h65 hp2
        go_wp2
        go_round
        case rel => exact ⟨k + 1, by omega, by go_num, by rw [hT.out]⟩
        case measure => simp [intOf]; omega
      · have hke : s.take k = s := by rw [show k = s.length from by omega, List.take_length]
        rw [hke]
        clear hsB hp1 hp2 hke
        go_wp2
        exact hR.out _ _ ⟨by rw [e.out] <;> rfl, rfl⟩
set_option maxHeartbeats 1000000 in
theorem shape_Size (s : List Int) (ao : Option Addr) (cap : Nat) (S : Nat → Prop) (w : World) (h : IntsAt w S ao s) :
    Calls Try.prog 45 #[.slice ao s.length cap] w fun e w' => e = .returned (.int .i64 (sizeS s)) ∧ w = w' := by
  refine calls_post fun R' hR => ?_
  have hl := h.1
  cases hs : shapeB s with
  | true =>
    have E := hid (sizeS_true hs)
    have hs' := hid hs
    clear hs
    go_enter Try.func45, Try.ntmps45
    go_wp2_with (first | (go_at_call 43; refine (shape_Right _ _ _ _ _ h).mono ?_; rintro e w' ⟨rfl, rfl⟩; rw [hs'.out]) | (go_at_call 68; refine (shape_product _ _ _ _ _ h hs'.out).mono ?_; rintro e w' ⟨rfl, rfl⟩))
    exact hR.out _ _ ⟨by rw [E.out] <;> rfl, rfl⟩
  | false =>
    have E := hid (sizeS_false hs)
    have hs' := hid hs
    clear hs
    go_enter Try.func45, Try.ntmps45
    go_wp2_with (go_at_call 43; refine (shape_Right _ _ _ _ _ h).mono ?_; rintro e w' ⟨rfl, rfl⟩; rw [hs'.out])
    exact hR.out _ _ ⟨by rw [E.out] <;> rfl, rfl⟩
set_option maxHeartbeats 1000000 in
theorem slices_IndexFunc_array_form_1 (p : Int → Bool) (s : List Int) (ao : Option Addr) (cap : Nat) (S : Nat → Prop) (w : World) (h : IntsAt w S ao s)
    (hf : ∀ n : Int, Calls Try.prog 79 #[.int .i64 n] w fun e w' => e = .returned (.bool (p n)) ∧ w = w') :
    Calls Try.prog 67 #[.slice ao s.length cap, .func (.func 79) #[] #[]] w fun e w' => e = .returned (.int .i64 (idxF s p)) ∧ w = w' := by
  refine calls_post fun R' hR => ?_
  have hl := h.1
  have hf' := hid hf
  clear hf
  go_enter Try.func67, Try.ntmps67
  go_wp2
  go_loop [8] (fun i => ∃ k : Nat, k ≤ s.length ∧ i = .int .i64 k ∧ Hid (∀ j, j < k → p (s.getD j 0) = false)) (fun i => s.length - (intOf i).toNat)
  case atStart => exact ⟨0, Nat.zero_le _, rfl, fun j hj => by omega⟩
  case round =>
    obtain ⟨k, hk, rfl, hb⟩ := hrel
    by_cases hlt : k < s.length
    · obtain ⟨b, off, rfl, hbl, hS, hc⟩ := h.at hlt
      have hI := hid (fun e => idxF_at hlt e hb.out)
      have hN : Hid (p (s.getD k 0) = false → ∀ j, j < k + 1 → p (s.getD j 0) = false) := fun e j hj => by
        rcases Nat.lt_succ_iff_lt_or_eq.1 hj with h1 | h1
        · exact hb.out j h1
        · rw [h1]; exact e
      generalize s.getD k 0 = d at hc hI hN
      go_wp2_with fail
      refine (hf'.out _).mono ?_
      rintro e w' ⟨rfl, rfl⟩
      cases c1 : p d with
      | true =>
        have c1' := hid c1
        clear c1
        go_wp2_with fail
        exact hR.out _ _ ⟨by rw [hI.out c1'.out] <;> rfl, rfl⟩
      | false =>
        have c1' := hid c1
        clear c1
        go_wp2_with fail
        go_round
        case rel => exact ⟨k + 1, by omega, by go_num, hN.out c1'.out⟩
        case measure => simp [intOf]; omega
    · have e := idxF_none (s := s) (p := p) (fun j hj => hb.out j (by omega))
      have E := hid e; clear e
      go_wp2
      exact hR.out _ _ ⟨by rw [E.out] <;> rfl, rfl⟩
set_option maxHeartbeats 1000000 in
theorem slices_ContainsFunc_array_form_1 (p : Int → Bool) (s : List Int) (ao : Option Addr) (cap : Nat) (S : Nat → Prop) (w : World) (h : IntsAt w S ao s)
    (hf : ∀ n : Int, Calls Try.prog 79 #[.int .i64 n] w fun e w' => e = .returned (.bool (p n)) ∧ w = w') :
    Calls Try.prog 41 #[.slice ao s.length cap, .func (.func 79) #[] #[]] w fun e w' => e = .returned (.bool (s.any p)) ∧ w = w' := by
  refine calls_post fun R' hR => ?_
  have hf' := hid hf
  clear hf
  go_enter Try.func41, Try.ntmps41
  go_wp2_with fail
  refine (slices_IndexFunc_array_form_1 p _ _ _ _ _ h hf'.out).mono ?_
  rintro e w' ⟨rfl, rfl⟩
  go_wp2_with fail
  exact hR.out _ _ ⟨by rw [← idxF_pos] <;> rfl, rfl⟩
set_option maxHeartbeats 1000000 in
theorem slices_IndexFunc_structure_Iota_1 (p : Int → Bool) (s : List Int) (ao : Option Addr) (cap : Nat) (S : Nat → Prop) (w : World) (h : IntsAt w S ao s)
    (hf : ∀ n : Int, Calls Try.prog 42 #[.int .i64 n] w fun e w' => e = .returned (.bool (p n)) ∧ w = w') :
    Calls Try.prog 67 #[.slice ao s.length cap, .func (.func 42) #[] #[]] w fun e w' => e = .returned (.int .i64 (idxF s p)) ∧ w = w' := by
  refine calls_post fun R' hR => ?_
  have hl := h.1
  have hf' := hid hf
  clear hf
  go_enter Try.func67, Try.ntmps67
  go_wp2
  go_loop [8] (fun i => ∃ k : Nat, k ≤ s.length ∧ i = .int .i64 k ∧ Hid (∀ j, j < k → p (s.getD j 0) = false)) (fun i => s.length - (intOf i).toNat)
  case atStart => exact ⟨0, Nat.zero_le _, rfl, fun j hj => by omega⟩
  case round =>
    obtain ⟨k, hk, rfl, hb⟩ := hrel
    by_cases hlt : k < s.length
    · obtain ⟨b, off, rfl, hbl, hS, hc⟩ := h.at hlt
      have hI := hid (fun e => idxF_at hlt e hb.out)
      have hN : Hid (p (s.getD k 0) = false → ∀ j, j < k + 1 → p (s.getD j 0) = false) := fun e j hj => by
        rcases Nat.lt_succ_iff_lt_or_eq.1 hj with h1 | h1
        · exact hb.out j h1
        · rw [h1]; exact e
      generalize s.getD k 0 = d at hc hI hN
      go_wp2_with fail
      refine (hf'.out _).mono ?_
      rintro e w' ⟨rfl, rfl⟩
      cases c1 : p d with
      | true =>
        have c1' := hid c1
        clear c1
        go_wp2_with fail
        exact hR.out _ _ ⟨by rw [hI.out c1'.out] <;> rfl, rfl⟩
      | false =>
        have c1' := hid c1
        clear c1
        go_wp2_with fail
        go_round
        case rel => exact ⟨k + 1, by omega, by go_num, hN.out c1'.out⟩
        case measure => simp [intOf]; omega
    · have e := idxF_none (s := s) (p := p) (fun j hj => hb.out j (by omega))
      have E := hid e; clear e
      go_wp2
      exact hR.out _ _ ⟨by rw [E.out] <;> rfl, rfl⟩
set_option maxHeartbeats 1000000 in
theorem slices_ContainsFunc_structure_Iota_1 (p : Int → Bool) (s : List Int) (ao : Option Addr) (cap : Nat) (S : Nat → Prop) (w : World) (h : IntsAt w S ao s)
    (hf : ∀ n : Int, Calls Try.prog 42 #[.int .i64 n] w fun e w' => e = .returned (.bool (p n)) ∧ w = w') :
    Calls Try.prog 41 #[.slice ao s.length cap, .func (.func 42) #[] #[]] w fun e w' => e = .returned (.bool (s.any p)) ∧ w = w' := by
  refine calls_post fun R' hR => ?_
  have hf' := hid hf
  clear hf
  go_enter Try.func41, Try.ntmps41
  go_wp2_with fail
  refine (slices_IndexFunc_structure_Iota_1 p _ _ _ _ _ h hf'.out).mono ?_
  rintro e w' ⟨rfl, rfl⟩
  go_wp2_with fail
  exact hR.out _ _ ⟨by rw [← idxF_pos] <;> rfl, rfl⟩
end Go.Proofs.Ytkbbdlibamcilaa
