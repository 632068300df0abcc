/- slices.Grow of nothing, and slices.Concat of two lists: contracts, the first out of the shelf's. Conditions: the lists are read; they are short. -/
import Derived.Shelf.Spec.SlicesGrow
import Derived.Test.YtdpdcjadedcglaaGG
set_option linter.unusedVariables false
set_option maxRecDepth 20000
set_option linter.unusedSimpArgs false
namespace Go.Proofs.Ytdpdcjadedcglaa
open Go.RowKit
def growRen : Go.Shelf.Ren := ⟨fun k => if k = 4 then 58 else 0, fun k => if k = 0 then 0 else if k = 3 then 3 else if k = 4 then 4 else if k = 9 then 9 else if k = 20 then 20 else if k = 22 then 24 else if k = 25 then 3 else 0, fun k => k⟩
theorem growLays : Lays8.n4 Try.prog growRen := {
  mixed := by kernel_rfl
  f4 := ⟨Try.f58.name, by kernel_rfl, Try.func58.trans (by kernel_rfl)⟩
  t0 := Try.underlying0
  a0 := Try.isAgg0
  z0 := Try.sizeOf0
  v0 := Try.zeroValue0
  t3 := Try.underlying3
  a3 := Try.isAgg3
  z3 := Try.sizeOf3
  v3 := Try.zeroValue3
  t4 := Try.underlying4
  a4 := Try.isAgg4
  z4 := Try.sizeOf4
  v4 := Try.zeroValue4
  t9 := Try.underlying9
  a9 := Try.isAgg9
  z9 := Try.sizeOf9
  v9 := Try.zeroValue9
  t20 := Try.underlying20
  a20 := Try.isAgg20
  z20 := Try.sizeOf20
  v20 := Try.zeroValue20
  t22 := Try.underlying24
  a22 := Try.isAgg24
  z22 := Try.sizeOf24
  v22 := Try.zeroValue24 }
set_option maxHeartbeats 1000000 in
theorem slices_Grow0 (n : Nat) (w : World) (hn : n ≤ 1000000) :
    Calls Try.prog 58 #[.slice none 0 0, .int .i64 n] w fun e w' => ∃ ao cap, e = .returned (.slice ao 0 cap) ∧ OwnI w' w.heap.size ao cap [] ∧ Below w.heap.size w w' := by
  by_cases h0 : n = 0
  · subst h0
    refine (Any8.slices_Grow_room growLays none 0 0 0 w (by omega) (by omega) (by omega) (by omega)).mono ?_
    rintro e w' ⟨rfl, rfl⟩
    exact ⟨none, 0, rfl, OwnI.nil _ _, Below.refl _ _⟩
  · obtain ⟨i0, hi0, hz0, hzs, hzb⟩ := info_parts (P := Try.prog) (e := growRen.t 25) (z := .int .i64 0) (size := 1) (bytes := 8) (by kernel_rfl)
    refine (Any8.slices_Grow_grow growLays i0 (.int .i64 0) hi0 hz0 (by rw [hzs]; decide) none 0 0 n [] w (by omega) (by omega) (by rw [hzb]; omega) (by omega) (by simp) (fun _ => rfl) (fun a ha => by cases ha)).mono ?_
    rintro e w' ⟨rfl, rfl⟩
    have hge := grownCap_ge w (0 + n) 0 (growRen.t 25)
    rw [Nat.zero_add] at hge
    refine ⟨_, _, rfl, ⟨rfl, Or.inr ⟨w.heap.size, _, _, rfl, Nat.le_refl _, heap_alloc_new w.drew _, Nat.zero_le _, grownCap_le_maxLen _ _ _ _ (by unfold maxLen; omega), ?_, rfl⟩⟩, (ext_drawn w).trans (ext_alloc _ _)⟩
    simp [Builtin.zeroCells, Value.cells]
    omega
set_option maxHeartbeats 4000000 in
theorem slices_Concat2 (a b : List Int) (ao : Option Addr) (ac : Nat) (bo : Option Addr) (bc g : Nat) (S : Nat → Prop) (w : World) (ha : IntsAt w S ao a) (hb : IntsAt w S bo b) (h0 : w.cell? ⟨g, 0, none⟩ = some (.slice ao a.length ac)) (h1 : w.cell? ⟨g, 1, none⟩ = some (.slice bo b.length bc)) (hl : a.length + b.length ≤ 100000) :
    Calls Try.prog 29 #[.slice (some ⟨g, 0, none⟩) 2 2] w fun e w' => ∃ oa oc, e = .returned (.slice oa (a ++ b).length oc) ∧ OwnI w' w.heap.size oa oc (a ++ b) ∧ Below w.heap.size w w' := by
  refine calls_post fun R' hR => ?_
  have ha0 := hid ha
  have hb0 := hid hb
  clear ha hb
  obtain ⟨c, hc⟩ : ∃ c, c = a ++ b := ⟨_, rfl⟩
  rw [← hc] at hR
  replace hc := hid hc
  go_enter Try.func29, Try.ntmps29
  go_upto_region 3 with fail
  go_loop [3, 11] (fun s i => ∃ k : Nat, k ≤ 2 ∧ i = .int .i64 k ∧ s = .int .i64 ((if k = 0 then 0 else if k = 1 then a.length else a.length + b.length : Nat) : Int)) (fun _ i => 2 - (intOf i).toNat)
  case atStart => exact ⟨0, Nat.zero_le _, rfl, rfl⟩
  case round =>
    obtain ⟨k, hk, rfl, rfl⟩ := hrel
    by_cases k0 : k = 0
    · subst k0
      simp only [if_true]
      go_wp2_with fail
      go_round
      case rel => exact ⟨1, by omega, by go_num, by simp⟩
      case measure => simp [intOf]
    by_cases k1 : k = 1
    · subst k1
      simp only [if_true, if_neg (show ¬ (1 = 0) by decide)]
      go_wp2_with fail
      go_round
      case rel => exact ⟨2, by omega, by go_num, by simp⟩
      case measure => simp [intOf]
    obtain rfl : k = 2 := by omega
    simp only [if_neg (show ¬ (2 = 0) by decide), if_neg (show ¬ (2 = 1) by decide)]
    go_wp2_with fail
    refine (slices_Grow0 (a.length + b.length) w (by omega)).mono ?_
    rintro e w1 ⟨go, gc, rfl, hO, hb1⟩
    have E := hid ((Env.start w (fun b => S b)).argI ha0.out)
    replace E := hid ((E.out.argI hb0.out).addRowI hO hb1)
    (try simp only [List.cons_append, List.nil_append, List.set_cons_zero, List.set_cons_succ] at E)
    clear hO hb1
    have hc0 := hid h0
    have hc1 := hid h1
    clear h0 h1
    go_upto_region 11 with fail
    have eA : a ++ b = c := hc.out.symm
    replace eA := hid eA
    go_loopw [6, 27] (fun s i wr => ∃ (k : Nat) (xs : List Int) (oa : Option Addr) (oc : Nat), k ≤ 2 ∧ i = .int .i64 k ∧ s = .slice oa xs.length oc ∧ Hid (xs = if k = 0 then [] else if k = 1 then a else c) ∧ Env w S wr [.ints a ao, .ints b bo, .rowI oa oc xs]) (fun _ i _ => 2 - (intOf i).toNat)
    case atStart => exact ⟨0, [], go, gc, Nat.zero_le _, rfl, rfl, hid rfl, E.out⟩
    case round =>
      clear E
      obtain ⟨k, xs, oa, oc, hk, rfl, rfl, hxs, E⟩ := hrel
      replace E := hid E
      have c0 := up_cell hc0.out E.out.ext
      have c1 := up_cell hc1.out E.out.ext
      by_cases k0 : k = 0
      · subst k0
        have hx : xs = [] := hxs.out
        subst hx
        clear hxs
        go_wp2_with (at_builtin; refine wplE_appI E.out 2 rfl rfl (.tmp 31) (.tmp 32) rfl rfl _ _ _ a rfl (E.out.ints 0 rfl) (by (try simp only [List.length_nil]); omega) ?_; intro V1 a1 k1 E1; rw [List.nil_append] at E1 ⊢; clear E; have E := hid E1; clear E1; (try simp only [List.cons_append, List.nil_append, List.set_cons_zero, List.set_cons_succ] at E))
        go_roundw
        case rel => exact ⟨1, a, a1, k1, by omega, by go_num, rfl, hid rfl, E.out⟩
        case measure => simp [intOf]
      by_cases k1 : k = 1
      · subst k1
        have hx : xs = a := hxs.out
        subst hx
        clear hxs
        go_wp2_with (at_builtin; refine wplE_appI E.out 2 rfl rfl (.tmp 31) (.tmp 32) rfl rfl _ _ _ b rfl (E.out.ints 1 rfl) (by omega) ?_; intro V1 a1 k1 E1; rw [eA.out] at E1 ⊢; clear E; have E := hid E1; clear E1; (try simp only [List.cons_append, List.nil_append, List.set_cons_zero, List.set_cons_succ] at E))
        go_roundw
        case rel => exact ⟨2, c, a1, k1, by omega, by go_num, rfl, hid rfl, E.out⟩
        case measure => simp [intOf]
      obtain rfl : k = 2 := by omega
      have hx : xs = c := hxs.out
      subst hx
      clear hxs c0 c1
      go_wp2_with fail
      exact hR.out _ _ ⟨oa, oc, rfl, E.out.rowI 2 rfl, E.out.ext⟩
end Go.Proofs.Ytdpdcjadedcglaa
