/- slices.Equal, slices.EqualFunc over array.Same, and array.Same: contracts. Condition: the arrays are read. -/
import Derived.Test.YtcoknjlkhefgpaaGG
import Derived.Test.YtcoknjlkhefgpaaGC
set_option linter.unusedVariables false
set_option linter.unusedSimpArgs false
namespace Go.Proofs.Ytcoknjlkhefgpaa
open Go.RowKit Go.Sort
attribute [local go_sem ↓] run_max2 run_min2
attribute [local go_sem] eql_ints_nil eql_arrs_nil
set_option maxHeartbeats 1000000 in
theorem slices_Equal (s t : List Int) (ao : Option Addr) (cap : Nat) (bo : Option Addr) (bcap : Nat) (S T : Nat → Prop) (w : World) (h : IntsAt w S ao s) (g : IntsAt w T bo t) :
    Calls Try.prog 84 #[.slice ao s.length cap, .slice bo t.length bcap] w fun e w' => e = .returned (.bool (eqI s t)) ∧ ∃ n, w' = w.drewN n := by
  refine calls_post fun R' hR => ?_
  have hl := h.1
  have gl := g.1
  by_cases c : s.length = t.length
  · have cb : ((s.length : Int) != (t.length : Int)) = false := by simp [c]
    go_enter Try.func84, Try.ntmps84
    go_wp2_with fail
    have c' := hid c
    clear c
    go_loopw [13] (fun i wr => ∃ k : Nat, k ≤ s.length ∧ i = .int .i64 k ∧ Hid (∀ j, j < k → s.getD j 0 = t.getD j 0) ∧ ∃ n, wr = w.drewN n) (fun i _ => s.length - (intOf i).toNat)
    case atStart => exact ⟨0, Nat.zero_le _, rfl, fun j hj => by omega, 0, rfl⟩
    case round =>
      obtain ⟨k, hk, rfl, hb, n, rfl⟩ := hrel
      by_cases hlt : k < s.length
      · have hlt2 : k < t.length := by have := c'.out; omega
        obtain ⟨b, off, rfl, hbl, hS, hc⟩ := h.at hlt
        obtain ⟨b', off', rfl, hbl', hS', hc'⟩ := g.at hlt2
        have hI := hid (eqI_at (s := s) (t := t) (k := k))
        have hN : Hid (s.getD k 0 = t.getD k 0 → ∀ j, j < k + 1 → s.getD j 0 = t.getD j 0) := fun e j hj => by
          rcases Nat.lt_succ_iff_lt_or_eq.1 hj with h1 | h1
          · exact hb.out j h1
          · rw [h1]; exact e
        generalize s.getD k 0 = d at hc hI hN
        generalize t.getD k 0 = d' at hc' hI hN
        by_cases c1 : d = d'
        · have e1 : (d != d') = false := by simp [c1]
          have c1' := hid c1
          clear c1
          go_wp2_with fail
          go_quiet (fail)
          go_wp2_with fail
          go_roundw
          case rel => exact ⟨k + 1, by omega, by go_num, hN.out c1'.out, n + nq, by first | rfl | exact World.drewN_drewN _ _ _⟩
          case measure => simp [intOf]; omega
        · have e1 : (d != d') = true := by simp [c1]
          have c1' := hid (hI.out c1)
          clear c1 hI
          go_wp2_with fail
          go_quiet (fail)
          go_wp2_with fail
          exact hR.out _ _ ⟨by rw [c1'.out] <;> rfl, n + nq, by first | rfl | exact World.drewN_drewN _ _ _⟩
      · have E := hid (eqI_all c'.out (fun j hj => hb.out j (by omega)))
        have t2 : ¬ (k : Int) < (s.length : Int) := by omega
        have t3 : ¬ (k : Int) < (t.length : Int) := by have := c'.out; omega
        go_wp2_with fail
        exact hR.out _ _ ⟨by rw [E.out] <;> rfl, n, rfl⟩
  · have cb : ((s.length : Int) != (t.length : Int)) = true := by simp; omega
    have E := hid (eqI_len c)
    go_enter Try.func84, Try.ntmps84
    go_wp2_with fail
    exact hR.out _ _ ⟨by rw [E.out] <;> rfl, 0, rfl⟩
theorem cell_chg {w w' : World} {b g o : Nat} {v : Value} (h : w.cell? ⟨b, o, none⟩ = some v) (C : Chg w w' g) (hb : b ≠ g) : w'.cell? ⟨b, o, none⟩ = some v := by
  have hlt := block_lt_of_cell h
  rw [← h]; simp only [World.cell?]; rw [C.blk hlt hb]
noncomputable def sameL (l m : List Arr) : Bool := @decide (l = m) (Classical.propDecidable _)
theorem sameL_not {l m : List Arr} (h : l ≠ m) : sameL l m = false := by unfold sameL; exact @decide_eq_false _ (Classical.propDecidable _) h
theorem sameL_yes {l m : List Arr} (h : l = m) : sameL l m = true := by unfold sameL; exact @decide_eq_true _ (Classical.propDecidable _) h
theorem sameL_at {l m : List Arr} {j : Nat} (h1 : j < l.length) (h2 : j < m.length) (h : sameB l[j] m[j] = false) : sameL l m = false := sameL_not fun e => by subst e; rw [sameB_self] at h; cases h
theorem sameL_all {l m : List Arr} (hl : l.length = m.length) (h : ∀ j (h1 : j < l.length) (h2 : j < m.length), sameB l[j] m[j] = true) : sameL l m = true := sameL_yes (List.ext_getElem hl fun j h1 h2 => sameB_true (h j h1 h2))
theorem sameB_items {a b : Arr} (h0 : a.kind = b.kind) (h1 : eqI a.shape b.shape = true) (h2 : eqI a.nums b.nums = true) : sameB a b = sameL a.items b.items := by
  by_cases h : a.items = b.items
  · rw [sameL_yes h]
    have : a = b := by rw [← Arr.eta a, ← Arr.eta b, h0, eqI_true h1, eqI_true h2, h]
    rw [this]; exact sameB_self b
  · rw [sameL_not h]; exact sameB_not fun e => h (by rw [e])
end Go.Proofs.Ytcoknjlkhefgpaa
