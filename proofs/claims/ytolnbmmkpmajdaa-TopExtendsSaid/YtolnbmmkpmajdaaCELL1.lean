/- A variable of one cell is stored into: laws of the walk. Conditions: the variable is an object of the call's own. -/
import Derived.Test.YtolnbmmkpmajdaaGK
set_option linter.unusedVariables false
set_option maxRecDepth 20000
set_option linter.unusedSimpArgs false
namespace Go.Proofs.Ytolnbmmkpmajdaa
open Go.RowKit Go.Sort
theorem cell_row1 {w : World} {b : Nat} {a0 : Value} {t : TypeId} (h : w.heap[b]? = some (.cells #[a0] t (0, 0))) : w.cell? ⟨b, 0, none⟩ = some a0 ∧ w.frozen? ⟨b, 0, none⟩ = false := by
  constructor
  · simp [World.cell?, h]
  · simp [World.frozen?, h]
theorem set_row1 {w : World} {b : Nat} {a0 : Value} {t : TypeId} (h : w.heap[b]? = some (.cells #[a0] t (0, 0))) (v : Value) : (w.setCell ⟨b, 0, none⟩ v).heap[b]? = some (.cells #[v] t (0, 0)) := by
  have := row_setCells b t [v] 0 #[a0] w h
  simpa [World.setCells, putFrom] using this
section
variable {ops : Array Oper} {rest : List Oper} {o : Oper} {a : Act} {Q : Exit → Act → World → Prop} {w : World}
theorem wpl_cell1S (hgd : o.guard = none) (p x : Operand) (ho : o.op = .store 23 p x) (b : Nat) {s : Option Addr} {sl sc : Nat} {v0 : Value} {t : TypeId} (hp : a.eval p = .pointer (some ⟨b, 0, none⟩)) (hx : a.eval x = .slice s sl sc) (hh : w.heap[b]? = some (.cells #[v0] t (0, 0)))
    (h : ∀ V, V.heap[b]? = some (.cells #[.slice s sl sc] t (0, 0)) → Chg w V b → wpList Try.prog ops Q rest (a.put o.dst undef) V) : wpList Try.prog ops Q (o :: rest) a w := by
  refine wpList_plain hgd fun K hK => ?_
  have := hK _ _ (h _ (set_row1 hh _) (chg_setCell w b _ _))
  unfold Oper.wp execOp
  simp only [ho, hp, hx]
  obtain ⟨d2, f⟩ := cell_row1 hh
  simp [go_sem, d2, f]
  exact this
theorem wpl_cell1I (hgd : o.guard = none) (p x : Operand) (ho : o.op = .store 3 p x) (b : Nat) {n : Int} {v0 : Value} {t : TypeId} (hp : a.eval p = .pointer (some ⟨b, 0, none⟩)) (hx : a.eval x = .int .i64 n) (hh : w.heap[b]? = some (.cells #[v0] t (0, 0)))
    (h : ∀ V, V.heap[b]? = some (.cells #[.int .i64 n] t (0, 0)) → Chg w V b → wpList Try.prog ops Q rest (a.put o.dst undef) V) : wpList Try.prog ops Q (o :: rest) a w := by
  refine wpList_plain hgd fun K hK => ?_
  have := hK _ _ (h _ (set_row1 hh _) (chg_setCell w b _ _))
  unfold Oper.wp execOp
  simp only [ho, hp, hx]
  obtain ⟨d2, f⟩ := cell_row1 hh
  simp [go_sem, d2, f]
  exact this
end
end Go.Proofs.Ytolnbmmkpmajdaa
