/- A row of ints that a call has made and writes in place: laws of the walk. Conditions: the row is an object of the call's own. -/
import Derived.Test.YtdpdcjadedcglaaGG
import Derived.Laws.OwnMore
set_option linter.unusedVariables false
set_option maxRecDepth 20000
set_option linter.unusedSimpArgs false
namespace Go.Proofs.Ytdpdcjadedcglaa
open Go.RowKit Go.Sort
def rowO (xs : List Int) : Array Value := (xs.map (Value.int .i64)).toArray
theorem madeI_rowO (n : Nat) : madeI n = rowO (List.replicate n 0) := by
  apply Array.ext'
  unfold madeI rowO
  rw [toList_madeCells_one]
  simp
theorem rowO_size (xs : List Int) : (rowO xs).size = xs.length := by simp [rowO]
theorem rowO_set (xs : List Int) (k : Nat) (hk : k < xs.length) (v : Int) : putFrom (rowO xs) k [.int .i64 v] = rowO (xs.set k v) := by
  apply Array.ext'
  simp [putFrom, rowO, List.map_set]
section
variable {ops : Array Oper} {rest : List Oper} {o : Oper} {a : Act} {Q : Exit → Act → World → Prop} {w0 w : World} {S : Nat → Prop} {L : List Fact}
theorem wplE_setO (E : Env w0 S w L) (j : Nat) {g : Nat} {xs : List Int} (hj : L[j]? = some (.obj g (.cells (rowO xs) 3 (0, 0)))) (hgd : o.guard = none) (p x : Operand) (ho : o.op = .store 3 p x) (k : Nat) (hk : k < xs.length) (v : Int)
    (hp : a.eval p = .pointer (some ⟨g, k, none⟩)) (hx : a.eval x = .int .i64 v) (h : ∀ V, Env w0 S V (L.set j (.obj g (.cells (rowO (xs.set k v)) 3 (0, 0)))) → wpList Try.prog ops Q rest (a.put o.dst undef) V) : wpList Try.prog ops Q (o :: rest) a w := by
  have hg := E.obj j hj
  have hrow := row_setCells g 3 [.int .i64 v] k (rowO xs) w hg
  rw [rowO_set xs k hk v] at hrow
  have hrow2 : (w.setCell ⟨g, k, none⟩ (.int .i64 v)).heap[g]? = some (.cells (rowO (xs.set k v)) 3 (0, 0)) := by simpa [World.setCells] using hrow
  refine wpList_plain hgd fun K hK => ?_
  have := hK _ _ (h _ (E.chg j hj (chg_setCell w g k _) hrow2))
  have hu : w.cell? ⟨g, k, none⟩ = some (.int .i64 xs[k]) := by rw [cell_of_row w g k _ _ _ hg]; simp [rowO, hk]
  have hf := frozen_of_row w g k _ _ hg
  unfold Oper.wp execOp
  simp only [ho, hp, hx]
  simp [go_sem, hu, hf]
  exact this
end
/-- such a row is only read from now on -/
theorem Env.doneO {w0 w : World} {S : Nat → Prop} {L : List Fact} (E : Env w0 S w L) (j : Nat) {g : Nat} {xs : List Int} (hj : L[j]? = some (.obj g (.cells (rowO xs) 3 (0, 0)))) (hl : xs.length ≤ 17592186044416) : Env w0 S w (L.set j (.ints xs (some ⟨g, 0, none⟩))) :=
  E.filled j hj hl
end Go.Proofs.Ytdpdcjadedcglaa
