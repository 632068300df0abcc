/- slices.Clone over lists of int: a contract. Conditions: the list is read. -/
import Derived.Test.YtkbbdlibamcilaaShp
import Derived.Test.YtkbbdlibamcilaaOwn
set_option linter.unusedVariables false
set_option linter.unusedSimpArgs false
namespace Go.Proofs.Ytkbbdlibamcilaa
open Go.RowKit
attribute [local go_sem ↓] run_max2 run_min2
attribute [local go_sem] eql_ints_nil eql_arrs_nil
theorem below_grownI {a w w' : World} {row : Option Nat} (h : Below a.heap.size a w) (hg : w.grownBy w' row) (hr : ∀ k, row = some k → a.heap.size ≤ k) : Below a.heap.size a w' :=
  h.grown hg h.size hr
def ClonedI (w : World) (s : List Int) (e : Ending) (w' : World) : Prop :=
  ∃ ao cap, e = .returned (.slice ao s.length cap) ∧ OwnI w' w.heap.size ao cap s ∧ Below w.heap.size w w'
set_option maxHeartbeats 1000000 in
theorem slices_Clone (s : List Int) (ao : Option Addr) (cap : Nat) (S : Nat → Prop) (w : World) (h : IntsAt w S ao s) :
    Calls Try.prog 44 #[.slice ao s.length cap] w (ClonedI w s) := by
  refine calls_post fun R' hR => ?_
  have hl := h.1
  cases ao with
  | none =>
    have hs : s = [] := by
      cases s with
      | nil => rfl
      | cons y l => obtain ⟨_, _, e, _⟩ := h.2 (by simp); cases e
    subst hs
    go_enter Try.func44, Try.ntmps44
    go_wp2
    exact hR.out _ _ ⟨none, 0, rfl, OwnI.nil _ _, Below.refl _ _⟩
  | some ad =>
    have h' := h.alloc (.cells #[] 3)
    go_enter Try.func44, Try.ntmps44
    go_wp2_with (at_builtin; refine wpList_appI _ rfl _ _ rfl w.heap.size (some ⟨w.heap.size, 0, none⟩) 0 [] rfl (World.ownsRow_made w #[] 0 (Nat.le_refl _) (Nat.zero_le _) rfl) S (some ad) cap s rfl h' ?c1 ?c2 ?_)
    case c1 => simpa using hl
    case c2 => simp
    · intro ao' cap' w' hown hg hrow
      clear h'
      go_wp2
      exact hR.out _ _ ⟨ao', cap', rfl, hown, below_grownI ((Below.refl _ _).alloc (Nat.le_refl _) _) hg (by intro k hk; simp [rowOf] at hk; omega)⟩
end Go.Proofs.Ytkbbdlibamcilaa
