/- make and copy over lists of int and arrays, and rows that are filled by index: laws. Conditions: those of each lemma. -/
import Derived.Test.YtkbbdlibamcilaaCLO
import Derived.Laws.MakeOwn
import Derived.Laws.CopyRow
import Derived.Laws.IdiomCopy
set_option linter.unusedVariables false
set_option linter.unusedSimpArgs false
namespace Go.Proofs.Ytkbbdlibamcilaa
open Go.RowKit
def madeI (n : Nat) : Array Value := madeCells #[.int .i64 0] (n * 1)
def madeA (n : Nat) : Array Value := madeCells #[.int .i64 0, .slice none 0 0, .slice none 0 0, .slice none 0 0] (n * 4)
theorem madeI_size (n : Nat) : (madeI n).size = n := by unfold madeI; rw [size_madeCells]; omega
theorem madeA_size (n : Nat) : (madeA n).size = n * 4 := by unfold madeA; rw [size_madeCells]
theorem run_makeI (w : World) (n : Nat) (h : n ≤ 17592186044416) : (Instr.makeSlice 23 (.int .i64 (n : Int)) (.int .i64 (n : Int))).run Try.prog w = .ok (.slice (some ⟨w.heap.size, 0, none⟩) n n) (w.alloc (.cells (madeI n) 3)) := by
  obtain ⟨i0, hi, hz0, hz1, hz2⟩ := info_parts infoInt
  have hr := run_make (P := Try.prog) w 23 3 i0 (.int .i64 0) Try.underlying23 hi hz0 .i64 .i64 n n (by omega) (Int.le_refl _) (by rw [hz2]; omega) (by omega)
  simp only [Int.toNat_natCast, hz1] at hr
  exact hr
theorem run_makeA (w : World) (n : Nat) (h : n ≤ 1759218604441) : (Instr.makeSlice 24 (.int .i64 (n : Int)) (.int .i64 (n : Int))).run Try.prog w = .ok (.slice (some ⟨w.heap.size, 0, none⟩) n n) (w.alloc (.cells (madeA n) 26)) := by
  obtain ⟨i0, hi, hz0, hz1, hz2⟩ := info_parts infoArr
  have hr := run_make (P := Try.prog) w 24 26 i0 (.agg #[.int .i64 0, .slice none 0 0, .slice none 0 0, .slice none 0 0]) Try.underlying24 hi hz0 .i64 .i64 n n (by omega) (Int.le_refl _) (by rw [hz2]; omega) (by omega)
  simp only [Int.toNat_natCast, hz1] at hr
  exact hr
/-- copy of a whole list of int into a row of its own length -/
theorem run_copyI (w : World) (ty : TypeId) (g : Nat) (cur : Array Value) (t : TypeId) (S : Nat → Prop) (so : Option Addr) (sc dc : Nat) (ys : List Int) (hg : w.heap[g]? = some (.cells cur t (0, 0))) (hc : cur.size = ys.length) (hys : IntsAt w S so ys) :
    (Builtin.copy_ #[23, 23] ty #[.slice (some ⟨g, 0, none⟩) ys.length dc, .slice so ys.length sc]).run Try.prog w = .ok (.int .i64 (ys.length : Int)) (w.setRow g (ys.map (Value.int .i64)).toArray) := by
  obtain ⟨i0, hi, hz0, hz1, hz2⟩ := info_parts infoInt
  have hs : (Try.prog.info? 3).map (·.size) = some 1 := by rw [hi]; simp [hz1]
  by_cases h0 : ys.length = 0
  · have hy : ys = [] := List.eq_nil_of_length_eq_zero h0
    subst hy
    have := run_copy_none (P := Try.prog) w 23 23 ty 3 (some ⟨g, 0, none⟩) so 0 dc 0 sc Try.underlying23 hs rfl
    have hcur : cur = #[] := Array.eq_empty_of_size_eq_zero (by simpa using hc)
    subst hcur
    simp only [List.map_nil, List.length_nil]
    rw [show w.setRow g #[].toList.toArray = w from setRow_self w g #[] t (0, 0) hg] 
    exact this
  · obtain ⟨b, off, rfl, hS, hlt, hcell⟩ := hys.2 (by omega)
    have := run_copy_row (P := Try.prog) w 23 23 ty 3 g 0 ys.length dc ⟨b, off, none⟩ ys.length sc cur t (ys.map (Value.int .i64)) Try.underlying23 hs hg (by simp [Nat.min_def]) (by
      intro j v hv
      have hj : j < ys.length := by have := (List.getElem?_eq_some_iff.1 hv).1; simpa using this
      have hcj := hcell j hj
      simp [hj] at hv
      subst hv
      simpa [Addr.add_lit, hj] using hcj) (by simp; omega) (ints_oneCell _ _)
    simp only [List.take_zero, List.nil_append, List.length_map, Nat.zero_add] at this
    rw [List.drop_of_length_le (by simp; omega), List.append_nil] at this
    exact this
theorem wpList_copyI {ops : Array Oper} {rest : List Oper} {o : Oper} {a : Act} {Q : Exit → Act → World → Prop} (w : World) (hgd : o.guard = none) (d s : Operand)
    (ho : o.op = .call { callee := .builtin .copy, args := #[d, s], argTypes := #[23, 23] })
    (g : Nat) (cur : Array Value) (t : TypeId) (S : Nat → Prop) (so : Option Addr) (sc dc : Nat) (ys : List Int) (hd : a.eval d = .slice (some ⟨g, 0, none⟩) ys.length dc) (hs : a.eval s = .slice so ys.length sc)
    (hg : w.heap[g]? = some (.cells cur t (0, 0))) (hc : cur.size = ys.length) (hys : IntsAt w S so ys)
    (h : wpList Try.prog ops Q rest (a.put o.dst (.int .i64 (ys.length : Int))) (w.setRow g (ys.map (Value.int .i64)).toArray)) :
    wpList Try.prog ops Q (o :: rest) a w := by
  refine wpList_plain hgd fun K hK => ?_
  have hrun := run_copyI w o.type g cur t S so sc dc ys hg hc hys
  unfold Oper.wp
  simp [execOp, ho, resolve, invoke, builtin, hd, hs, hrun, Result.andThen]
  exact hK _ _ h
theorem isSome_set {w : World} {p q : Addr} {v : Value} (h : (w.cell? q).isSome = true) : ((w.setCell p v).cell? q).isSome = true := by
  by_cases e : p = q
  · subst e
    obtain ⟨u, hu⟩ := Option.isSome_iff_exists.1 h
    rw [World.cell?_setCell_same _ _ _ hu]; rfl
  · rw [World.cell?_setCell_other _ _ _ _ e]; exact h
/-- a row of arrays that is filled from the left: its first elements are read -/
def PartA (w : World) (S : Nat → Prop) (g n : Nat) (l : List Arr) : Prop :=
  (∀ o, o < n * 4 → (w.cell? ⟨g, o, none⟩).isSome = true) ∧ (∀ o, w.frozen? ⟨g, o, none⟩ = false) ∧ (∀ b, S b → b ≠ g) ∧
    ∀ j x, l[j]? = some x → ∃ sa sc na nc ja jc, w.cell? ⟨g, j * 4, none⟩ = some (.int .i64 x.kind) ∧ w.cell? ⟨g, j * 4 + 1, none⟩ = some (.slice sa x.shape.length sc) ∧ w.cell? ⟨g, j * 4 + 2, none⟩ = some (.slice na x.nums.length nc) ∧
      w.cell? ⟨g, j * 4 + 3, none⟩ = some (.slice ja x.items.length jc) ∧ ArrAt w S x sa na ja
theorem PartA.keep {w w' : World} {S : Nat → Prop} {g n : Nat} {l : List Arr} (h : PartA w S g n l) (hg : w'.heap[g]? = w.heap[g]?) (hk : ∀ b, S b → b < w.heap.size → w'.heap[b]? = w.heap[b]?) : PartA w' S g n l := by
  have hc : ∀ o, w'.cell? ⟨g, o, none⟩ = w.cell? ⟨g, o, none⟩ := fun o => World.cell?_of_block (a := ⟨g, o, none⟩) hg
  have hf : ∀ o, w'.frozen? ⟨g, o, none⟩ = w.frozen? ⟨g, o, none⟩ := fun o => World.frozen?_of_block (a := ⟨g, o, none⟩) hg
  refine ⟨fun o ho => by rw [hc]; exact h.1 o ho, fun o => by rw [hf]; exact h.2.1 o, h.2.2.1, fun j x hx => ?_⟩
  obtain ⟨sa, sc, na, nc, ja, jc, e0, e1, e2, e3, e4⟩ := h.2.2.2 j x hx
  exact ⟨sa, sc, na, nc, ja, jc, (hc _).trans e0, (hc _).trans e1, (hc _).trans e2, (hc _).trans e3, ArrAt.keep hk x e4⟩
theorem PartA.items {w : World} {S : Nat → Prop} {g n : Nat} {l : List Arr} (h : PartA w S g n l) {T : Nat → Prop} (hT : ∀ b, S b → T b) (hg : T g) : ItemsAt w T (some ⟨g, 0, none⟩) 0 l := by
  refine ItemsAt.of_get fun j x hx => ?_
  obtain ⟨sa, sc, na, nc, ja, jc, e0, e1, e2, e3, e4⟩ := h.2.2.2 j x hx
  exact ⟨g, 0, sa, sc, na, nc, ja, jc, rfl, hg, block_lt_of_cell e0, by simpa using e0, by simpa [Nat.add_assoc] using e1, by simpa [Nat.add_assoc] using e2, by simpa [Nat.add_assoc] using e3, ArrAt.mono (fun b _ hb => hT b hb) x e4⟩
/-- the next element is stored -/
theorem PartA.store {w : World} {S : Nat → Prop} {g n : Nat} {l : List Arr} (h : PartA w S g n l) {x : Arr} {sa na ja : Option Addr} {sc nc jc : Nat} (hx : ArrAt w S x sa na ja) (hl : l.length < n) :
    PartA ((((w.setCell ⟨g, l.length * 4, none⟩ (.int .i64 x.kind)).setCell ⟨g, l.length * 4 + 1, none⟩ (.slice sa x.shape.length sc)).setCell ⟨g, l.length * 4 + 2, none⟩ (.slice na x.nums.length nc)).setCell ⟨g, l.length * 4 + 3, none⟩ (.slice ja x.items.length jc)) S g n (l ++ [x]) := by
  have hs : ∀ o, o < n * 4 → ∃ u, w.cell? ⟨g, o, none⟩ = some u := fun o ho => Option.isSome_iff_exists.1 (h.1 o ho)
  have hkeep : ∀ b, S b → ((((w.setCell ⟨g, l.length * 4, none⟩ (.int .i64 x.kind)).setCell ⟨g, l.length * 4 + 1, none⟩ (.slice sa x.shape.length sc)).setCell ⟨g, l.length * 4 + 2, none⟩ (.slice na x.nums.length nc)).setCell ⟨g, l.length * 4 + 3, none⟩ (.slice ja x.items.length jc)).heap[b]? = w.heap[b]? := fun b hb => by
    have := h.2.2.1 b hb
    rw [Below.heap_setCell _ _ _ b this, Below.heap_setCell _ _ _ b this, Below.heap_setCell _ _ _ b this, Below.heap_setCell _ _ _ b this]
  obtain ⟨u0, c0⟩ := hs (l.length * 4) (by omega)
  obtain ⟨u1, c1⟩ := hs (l.length * 4 + 1) (by omega)
  obtain ⟨u2, c2⟩ := hs (l.length * 4 + 2) (by omega)
  obtain ⟨u3, c3⟩ := hs (l.length * 4 + 3) (by omega)
  refine ⟨fun o ho => ?_, fun o => ?_, h.2.2.1, fun j y hy => ?_⟩
  · obtain ⟨u, hu⟩ := hs o ho
    exact isSome_set (isSome_set (isSome_set (isSome_set (h.1 o ho))))
  · simp only [World.frozen?_setCell]; exact h.2.1 o
  · by_cases hj : j < l.length
    · rw [List.getElem?_append_left hj] at hy
      obtain ⟨sa', sc', na', nc', ja', jc', e0, e1, e2, e3, e4⟩ := h.2.2.2 j y hy
      have ho : ∀ (o : Nat) u, o < l.length * 4 → w.cell? ⟨g, o, none⟩ = some u → ((((w.setCell ⟨g, l.length * 4, none⟩ (.int .i64 x.kind)).setCell ⟨g, l.length * 4 + 1, none⟩ (.slice sa x.shape.length sc)).setCell ⟨g, l.length * 4 + 2, none⟩ (.slice na x.nums.length nc)).setCell ⟨g, l.length * 4 + 3, none⟩ (.slice ja x.items.length jc)).cell? ⟨g, o, none⟩ = some u := fun o u ho hu => by
        rw [World.cell?_setCell_other _ _ _ _ (by intro e; injection e with _ e; omega), World.cell?_setCell_other _ _ _ _ (by intro e; injection e with _ e; omega), World.cell?_setCell_other _ _ _ _ (by intro e; injection e with _ e; omega), World.cell?_setCell_other _ _ _ _ (by intro e; injection e with _ e; omega)]
        exact hu
      exact ⟨sa', sc', na', nc', ja', jc', ho _ _ (by omega) e0, ho _ _ (by omega) e1, ho _ _ (by omega) e2, ho _ _ (by omega) e3, ArrAt.keep (fun b hb _ => hkeep b hb) y e4⟩
    · have hj' : j = l.length := by have := (List.getElem?_eq_some_iff.1 hy).1; simp at this; omega
      subst hj'
      simp at hy
      subst hy
      refine ⟨sa, sc, na, nc, ja, jc, ?_, ?_, ?_, ?_, ArrAt.keep (fun b hb _ => hkeep b hb) x hx⟩
      · simp [go_sem, c0, c1, c2, c3]
      · simp [go_sem, c0, c1, c2, c3]
      · simp [go_sem, c0, c1, c2, c3]
      · simp [go_sem, c0, c1, c2, c3]
end Go.Proofs.Ytkbbdlibamcilaa
