/- A group of texts (GD), each with its own conditions: those of each lemma. -/
import Derived.Test.YtdpdcjadedcglaaGA
import Derived.Test.YtdpdcjadedcglaaGC
import Derived.Laws.Rows
set_option linter.unusedVariables false
set_option maxRecDepth 20000
set_option linter.unusedSimpArgs false
namespace Go.Proofs.Ytdpdcjadedcglaa
open Go.RowKit Go.Sort
attribute [local go_sem ↓] run_max2 run_min2
attribute [local go_sem] eql_ints_nil eql_arrs_nil
def IdxR (w : World) (l : List Int) (e : Ending) (w' : World) : Prop :=
  ∃ ao cap, e = .returned (.tuple #[.slice ao l.length cap, .bool true]) ∧ OwnI w' w.heap.size ao cap l ∧ Below w.heap.size w w'
theorem IdxR.mk {w w' : World} {l : List Int} {ao : Option Addr} {n cap : Nat} (e : n = l.length) (h : OwnI w' w.heap.size ao cap l) (hb : Below w.heap.size w w') : IdxR w l (.returned (.tuple #[.slice ao n cap, .bool true])) w' := by
  subst e; exact ⟨ao, cap, rfl, h, hb⟩
end Go.Proofs.Ytdpdcjadedcglaa
namespace Go.Proofs.Ytdpdcjadedcglaa
open Go.RowKit Go.Sort
attribute [local go_sem ↓] run_max2 run_min2
attribute [local go_sem] eql_ints_nil eql_arrs_nil
theorem OwnI.base {w : World} {base base' : Nat} {ao : Option Addr} {cap : Nat} {xs : List Int} (h : OwnI w base ao cap xs) (hb : base' ≤ base) : OwnI w base' ao cap xs :=
  ⟨h.1, h.2.imp id fun ⟨g, c, cur, e, h1, h2⟩ => ⟨g, c, cur, e, Nat.le_trans hb h1, h2⟩⟩
theorem OwnA.base {w : World} {base base' : Nat} {S : Nat → Prop} {ao : Option Addr} {cap : Nat} {l : List Arr} (h : OwnA w base S ao cap l) (hb : base' ≤ base) : OwnA w base' S ao cap l := by
  obtain ⟨cs, h1, h2⟩ := h
  exact ⟨cs, ⟨h1.1, h1.2.imp id fun ⟨g, c, cur, e, h1, h2⟩ => ⟨g, c, cur, e, Nat.le_trans hb h1, h2⟩⟩, h2⟩
end Go.Proofs.Ytdpdcjadedcglaa
