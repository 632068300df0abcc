/- A local array of ints: its cells are read and written. Conditions: the array is an object of the call's own. -/
import Derived.Test.YtolnbmmkpmajdaaROWO
set_option linter.unusedVariables false
set_option maxRecDepth 20000
set_option linter.unusedSimpArgs false
namespace Go.Proofs.Ytolnbmmkpmajdaa
open Go.RowKit Go.Sort
theorem rowO_cell {w : World} {b : Nat} {xs : List Int} {t : TypeId} (h : w.heap[b]? = some (.cells (rowO xs) t (0, 0))) {k : Nat} (hk : k < xs.length) : w.cell? ⟨b, k, none⟩ = some (.int .i64 (xs.getD k 0)) := by
  rw [cell_of_row w b k _ _ _ h]; simp [rowO, hk]
theorem ints_cell {w : World} {T : Nat → Prop} {b o : Nat} {xs : List Int} (h : IntsAt w T (some ⟨b, o, none⟩) xs) {k : Nat} (hk : k < xs.length) : w.cell? ⟨b, o + k, none⟩ = some (.int .i64 (xs.getD k 0)) := by
  obtain ⟨b', o', e, _, _, hc⟩ := h.at hk
  injection e with e
  injection e with e1 e2
  subst e1; subst e2
  exact hc
section
variable {ops : Array Oper} {rest : List Oper} {o : Oper} {a : Act} {Q : Exit → Act → World → Prop} {w0 w : World} {S : Nat → Prop} {L : List Fact}
theorem wplE_setT (E : Env w0 S w L) (j : Nat) {g : Nat} {xs : List Int} {t : TypeId} (hj : L[j]? = some (.obj g (.cells (rowO xs) t (0, 0)))) (hgd : o.guard = none) (p x : Operand) (ho : o.op = .store 3 p x) (k : Nat) (hk : k < xs.length) (v : Int)
    (hp : a.eval p = .pointer (some ⟨g, k, none⟩)) (hx : a.eval x = .int .i64 v) (h : ∀ V, Env w0 S V (L.set j (.obj g (.cells (rowO (xs.set k v)) t (0, 0)))) → wpList Try.prog ops Q rest (a.put o.dst undef) V) : wpList Try.prog ops Q (o :: rest) a w := by
  have hg := E.obj j hj
  have hrow := row_setCells g t [.int .i64 v] k (rowO xs) w hg
  rw [rowO_set xs k hk v] at hrow
  have hrow2 : (w.setCell ⟨g, k, none⟩ (.int .i64 v)).heap[g]? = some (.cells (rowO (xs.set k v)) t (0, 0)) := by simpa [World.setCells] using hrow
  refine wpList_plain hgd fun K hK => ?_
  have := hK _ _ (h _ (E.chg j hj (chg_setCell w g k _) hrow2))
  have hu : w.cell? ⟨g, k, none⟩ = some (.int .i64 xs[k]) := by rw [cell_of_row w g k _ _ _ hg]; simp [rowO, hk]
  have hf := frozen_of_row w g k _ _ hg
  unfold Oper.wp execOp
  simp only [ho, hp, hx]
  simp [go_sem, hu, hf]
  exact this
end
end Go.Proofs.Ytolnbmmkpmajdaa
