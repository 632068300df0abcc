/- append inside a statement whose order is open: my laws as steps; what stays as it was behind an append. Conditions: those of each lemma. -/
import Derived.Test.YtkbbdlibamcilaaFILL
import Derived.Deep.AppendLies
set_option linter.unusedVariables false
set_option linter.unusedSimpArgs false
namespace Go.Proofs.Ytkbbdlibamcilaa
open Go.RowKit
theorem step_appI (w : World) {ops : Array Oper} {o : Oper} {a : Act} {K : Act → World → Prop} {Q : Exit → Act → World → Prop} {E : Prop} (hgd : o.guard = none) (s x : Operand)
    (ho : o.op = .call { callee := .builtin .append, args := #[s, x], argTypes := #[23, 23] })
    (base : Nat) (ao : Option Addr) (cap : Nat) (xs : List Int) (hs : a.eval s = .slice ao xs.length cap) (hown : OwnI w base ao cap xs) (S : Nat → Prop) (so : Option Addr) (sc : Nat) (ys : List Int) (hx : a.eval x = .slice so ys.length sc)
    (hys : IntsAt w S so ys) (hlen : xs.length + ys.length ≤ 17592186044416) (hbase : base ≤ w.heap.size)
    (h : ∀ ao' cap' w', OwnI w' base ao' cap' (xs ++ ys) → w.grownBy w' (rowOf ao) → (rowOf ao' = rowOf ao ∨ rowOf ao' = some w.heap.size) → K (a.put o.dst (.slice ao' (xs ++ ys).length cap')) w') :
    if Region.wanted o (yielded ops a.tmps) = true then Oper.wp Try.prog o a w K Q else E := by
  have hw : Region.wanted o (yielded ops a.tmps) = true := by simp [Region.wanted, hgd]
  rw [if_pos hw]
  obtain ⟨ao', cap', w', hrun, h1, h2, h3⟩ := run_appI w o.type base ao cap xs hown S so sc ys hys hlen hbase
  unfold Oper.wp
  simp [execOp, ho, resolve, invoke, builtin, hs, hx, hrun, Result.andThen]
  have := h ao' cap' w' h1 h2 h3
  simp at this
  exact this
theorem step_appA (w : World) {ops : Array Oper} {o : Oper} {a : Act} {K : Act → World → Prop} {Q : Exit → Act → World → Prop} {E : Prop} (hgd : o.guard = none) (s x : Operand)
    (ho : o.op = .call { callee := .builtin .append, args := #[s, x], argTypes := #[24, 24] })
    (base : Nat) (S : Nat → Prop) (ao : Option Addr) (cap : Nat) (l : List Arr) (hs : a.eval s = .slice ao l.length cap) (hown : OwnA w base S ao cap l) (T : Nat → Prop) (so : Option Addr) (sc : Nat) (m : List Arr) (hx : a.eval x = .slice so m.length sc)
    (hm : ItemsAt w T so 0 m) (hTS : ∀ b, b < w.heap.size → T b → S b ∧ some b ≠ rowOf ao) (hlen : l.length + m.length ≤ 1759218604441) (hbase : base ≤ w.heap.size)
    (h : ∀ ao' cap' w', OwnA w' base (fun b => S b ∧ b < w.heap.size) ao' cap' (l ++ m) → w.grownBy w' (rowOf ao) → (rowOf ao' = rowOf ao ∨ rowOf ao' = some w.heap.size) → K (a.put o.dst (.slice ao' (l ++ m).length cap')) w') :
    if Region.wanted o (yielded ops a.tmps) = true then Oper.wp Try.prog o a w K Q else E := by
  have hw : Region.wanted o (yielded ops a.tmps) = true := by simp [Region.wanted, hgd]
  rw [if_pos hw]
  obtain ⟨ao', cap', w', hrun, h1, h2, h3⟩ := run_appA w o.type base S ao cap l hown T so sc m hm hTS hlen hbase
  unfold Oper.wp
  simp [execOp, ho, resolve, invoke, builtin, hs, hx, hrun, Result.andThen]
  have := h ao' cap' w' h1 h2 h3
  simp at this
  exact this
section
variable {w w' : World} {S : Nat → Prop} {ao sa na ia : Option Addr} {xs : List Int} {a : Arr} {l : List Arr} {row : Option Nat} {base cap : Nat}
theorem ArrAt.grown (h : ArrAt w S a sa na ia) (hg : w.grownBy w' row) (hne : ∀ b, S b → b < w.heap.size → some b ≠ row) : ArrAt w' S a sa na ia := ArrAt.keep (fun b hs hlt => hg.block b hlt (hne b hs hlt)) a h
theorem IntsAt.grown (h : IntsAt w S ao xs) (hg : w.grownBy w' row) (hne : ∀ b, S b → b < w.heap.size → some b ≠ row) : IntsAt w' S ao xs := h.keep fun b hs hlt => hg.block b hlt (hne b hs hlt)
theorem ItemsAt.grown (h : ItemsAt w S ia 0 l) (hg : w.grownBy w' row) (hne : ∀ b, S b → b < w.heap.size → some b ≠ row) : ItemsAt w' S ia 0 l := h.keep fun b hs hlt => hg.block b hlt (hne b hs hlt)
theorem ArrAt.grown0 (h : ArrAt w S a sa na ia) (hg : w.grownBy w' none) : ArrAt w' S a sa na ia := h.grown hg fun _ _ _ => by simp
theorem IntsAt.grown0 (h : IntsAt w S ao xs) (hg : w.grownBy w' none) : IntsAt w' S ao xs := h.grown hg fun _ _ _ => by simp
theorem OwnI.grown0 (h : OwnI w base ao cap xs) (hg : w.grownBy w' none) : OwnI w' base ao cap xs := h.keep fun k hk => hg.block k (h.row k hk).2 (by simp)
theorem OwnI.drew (h : OwnI w base ao cap xs) : OwnI w.drew base ao cap xs := h.keep (w' := w.drew) fun _ _ => rfl
theorem OwnI.drewN (h : OwnI w base ao cap xs) (n : Nat) : OwnI (w.drewN n) base ao cap xs := h.keep (w' := w.drewN n) fun _ _ => rfl
theorem OwnA.drew (h : OwnA w base S ao cap l) : OwnA w.drew base S ao cap l := h.keep (w' := w.drew) (fun _ _ => rfl) fun _ _ _ => rfl
theorem OwnA.drewN (h : OwnA w base S ao cap l) (n : Nat) : OwnA (w.drewN n) base S ao cap l := h.keep (w' := w.drewN n) (fun _ _ => rfl) fun _ _ _ => rfl
theorem OwnI.setCell' (h : OwnI w base ao cap xs) {b o : Nat} {f : Option (TypeId × Nat)} (u : Value) (hb : rowOf ao ≠ some b) (p : Addr) (hp : p.block = b) : OwnI (w.setCell p u) base ao cap xs := h.setCell (by rw [hp]; exact hb) u
end
/-- One array, in a block of its own, read as a slice of one. -/
theorem items_one {w : World} {S : Nat → Prop} {b : Nat} {x : Arr} {sa na ja : Option Addr} {sc nc jc : Nat} (hS : S b) (c0 : w.cell? ⟨b, 0, none⟩ = some (.int .i64 x.kind)) (c1 : w.cell? ⟨b, 1, none⟩ = some (.slice sa x.shape.length sc)) (c2 : w.cell? ⟨b, 2, none⟩ = some (.slice na x.nums.length nc)) (c3 : w.cell? ⟨b, 3, none⟩ = some (.slice ja x.items.length jc))
    (hx : ArrAt w S x sa na ja) : ItemsAt w S (some ⟨b, 0, none⟩) 0 [x] := by
  refine ItemsAt.of_get fun j y hy => ?_
  have hj : j = 0 := by have := (List.getElem?_eq_some_iff.1 hy).1; simp at this; omega
  subst hj
  simp at hy
  subst hy
  exact ⟨b, 0, sa, sc, na, nc, ja, jc, rfl, hS, block_lt_of_cell c0, c0, c1, c2, c3, hx⟩
end Go.Proofs.Ytkbbdlibamcilaa
