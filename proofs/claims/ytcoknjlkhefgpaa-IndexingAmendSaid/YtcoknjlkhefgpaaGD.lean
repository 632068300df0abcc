/- A group of texts (GD), each with its own conditions: those of each lemma. -/
import Derived.Test.YtcoknjlkhefgpaaGA
import Derived.Test.YtcoknjlkhefgpaaGC
import Derived.Laws.Rows
set_option linter.unusedVariables false
set_option linter.unusedSimpArgs false
namespace Go.Proofs.Ytcoknjlkhefgpaa
open Go.RowKit Go.Sort
attribute [local go_sem ↓] run_max2 run_min2
attribute [local go_sem] eql_ints_nil eql_arrs_nil
def IdxR (w : World) (l : List Int) (e : Ending) (w' : World) : Prop :=
  ∃ ao cap, e = .returned (.tuple #[.slice ao l.length cap, .bool true]) ∧ OwnI w' w.heap.size ao cap l ∧ Below w.heap.size w w'
theorem IdxR.mk {w w' : World} {l : List Int} {ao : Option Addr} {n cap : Nat} (e : n = l.length) (h : OwnI w' w.heap.size ao cap l) (hb : Below w.heap.size w w') : IdxR w l (.returned (.tuple #[.slice ao n cap, .bool true])) w' := by
  subst e; exact ⟨ao, cap, rfl, h, hb⟩
end Go.Proofs.Ytcoknjlkhefgpaa
namespace Go.Proofs.Ytcoknjlkhefgpaa
open Go.RowKit Go.Sort
attribute [local go_sem ↓] run_max2 run_min2
attribute [local go_sem] eql_ints_nil eql_arrs_nil
set_option maxHeartbeats 2000000 in
theorem shape_Offset (s l : List Int) (ao : Option Addr) (cap : Nat) (bo : Option Addr) (bcap : Nat) (S T : Nat → Prop) (w : World) (h : IntsAt w S ao s) (g : IntsAt w T bo l) (hs : shapeB s = true) (hin : inS s l) :
    Calls Try.prog 38 #[.slice ao s.length cap, .slice bo l.length bcap] w fun e w' => e = .returned (.tuple #[.int .i64 (offS s l), .bool true]) ∧ w = w' := by
  refine calls_post fun R' hR => ?_
  have hl := h.1
  have gl := g.1
  have hs' := hid hs
  have hll := hin.1
  have hin' := hid hin
  have hB := shapeB_iff.1 hs
  have hpr : Hid (∀ i, i ≤ s.length → 0 ≤ offF s l i ∧ offF s l i < 65536) := fun i hi => by
    have h1 := offF_bd hin i hi
    have h2 := prodNZ_take_le hB.2.1 i
    have := hB.2.2
    omega
  have hel : Hid (∀ i, i < s.length → s.getD i 0 ≤ 65536) := fun i hi => Int.le_trans (prodNZ_ge_mem hB.2.1 (getD_mem hi)) hB.2.2
  have h' := hid h
  have g' := hid g
  clear hs hB hin
  have e0 : ((l.length : Int) != (s.length : Int)) = false := by simp [hll]
  replace hll := hid hll
  go_enter Try.func38, Try.ntmps38
  go_wp2_with (go_at_call 33; refine (shape_Right _ _ _ _ _ h'.out).mono ?_; rintro e w' ⟨rfl, rfl⟩; rw [hs'.out])
  go_loop [6, 21] (fun o i => ∃ j : Nat, j ≤ l.length ∧ i = .int .i64 j ∧ o = .int .i64 (offF s l j)) (fun _ i => l.length - (intOf i).toNat)
  case atStart => exact ⟨0, Nat.zero_le _, rfl, rfl⟩
  case round =>
    obtain ⟨j, hj, rfl, rfl⟩ := hrel
    by_cases hlt : j < l.length
    · have hlt2 : j < s.length := by have := hll.out; omega
      obtain ⟨b, off, rfl, hbl, hS, hc⟩ := h.at hlt2
      obtain ⟨b', off', rfl, hbl', hS', hc'⟩ := g.at hlt
      obtain ⟨i1, i2⟩ := hin'.out.2 j hlt2
      have f1 := (hpr.out j (by omega)).1
      have f2 := (hpr.out j (by omega)).2
      have f3 := (hpr.out (j + 1) (by omega)).2
      have f4 := hel.out j hlt2
      have hF : Hid (offF s l (j + 1) = offF s l j * s.getD j 0 + l.getD j 0) := rfl
      rw [hF.out] at f3
      generalize s.getD j 0 = d at hc i1 i2 f3 f4 hF
      generalize l.getD j 0 = x at hc' i1 i2 f3 hF
      generalize offF s l j = y at f1 f2 f3 hF ⊢
      have m0 : 0 ≤ y * d := Int.mul_nonneg f1 (by omega)
      go_wp2_with fail
      go_round
      case rel => exact ⟨j + 1, by omega, by go_num, by rw [hF.out]⟩
      case measure => simp [intOf]; omega
    · have hje : j = l.length := by omega
      have E : Hid (offS s l = offF s l j) := by rw [hje, hll.out]; exact rfl
      clear hje
      go_wp2_with fail
      exact hR.out _ _ ⟨by rw [E.out] <;> rfl, rfl⟩
theorem OwnI.base {w : World} {base base' : Nat} {ao : Option Addr} {cap : Nat} {xs : List Int} (h : OwnI w base ao cap xs) (hb : base' ≤ base) : OwnI w base' ao cap xs :=
  ⟨h.1, h.2.imp id fun ⟨g, c, cur, e, h1, h2⟩ => ⟨g, c, cur, e, Nat.le_trans hb h1, h2⟩⟩
theorem OwnA.base {w : World} {base base' : Nat} {S : Nat → Prop} {ao : Option Addr} {cap : Nat} {l : List Arr} (h : OwnA w base S ao cap l) (hb : base' ≤ base) : OwnA w base' S ao cap l := by
  obtain ⟨cs, h1, h2⟩ := h
  exact ⟨cs, ⟨h1.1, h1.2.imp id fun ⟨g, c, cur, e, h1, h2⟩ => ⟨g, c, cur, e, Nat.le_trans hb h1, h2⟩⟩, h2⟩
end Go.Proofs.Ytcoknjlkhefgpaa
