/- Slices that a call itself makes by append: what they own, and the walk's laws for append. Conditions: those of each lemma. -/
import Derived.Test.YtkbbdlibamcilaaOpen
import Derived.Maps.AppendAt
import Derived.OwnWalk
set_option linter.unusedVariables false
set_option linter.unusedSimpArgs false
namespace Go.Proofs.Ytkbbdlibamcilaa
open Go.RowKit

theorem infoInt : (Try.prog.info? 3).map (fun i => (i.zero, i.size, i.bytes)) = some (some (.int .i64 0), 1, 8) := by kernel_rfl
theorem infoArr : (Try.prog.info? 26).map (fun i => (i.zero, i.size, i.bytes)) = some (some (.agg #[.int .i64 0, .slice none 0 0, .slice none 0 0, .slice none 0 0]), 4, 80) := by kernel_rfl

theorem eql_ints_nil (w : World) (a : Option Addr) (n c : Nat) : (binOp .eql 23 (.slice a n c) (.slice none 0 0)).run Try.prog w = .ok (.bool a.isNone) w := Lib.run_eql_slice_nil (P := Try.prog) w 23 3 a n c 0 0 Try.underlying23
theorem eql_arrs_nil (w : World) (a : Option Addr) (n c : Nat) : (binOp .eql 24 (.slice a n c) (.slice none 0 0)).run Try.prog w = .ok (.bool a.isNone) w := Lib.run_eql_slice_nil (P := Try.prog) w 24 26 a n c 0 0 Try.underlying24
/-- the row in which a slice lies -/
def rowOf (ao : Option Addr) : Option Nat := ao.map (·.block)
theorem ownBlock_slice (ao : Option Addr) (n c : Nat) : (Value.slice ao n c).ownBlock = rowOf ao := by cases ao <;> rfl
/-- a slice of int that the call owns -/
def OwnI (w : World) (base : Nat) (ao : Option Addr) (cap : Nat) (xs : List Int) : Prop := w.ownsRow base 3 1 (.slice ao xs.length cap) xs.length (xs.map (Value.int .i64))
/-- the cells of arrays in a row, and what they lead to -/
def CellsAt (w : World) (S : Nat → Prop) : List Arr → List Value → Prop
  | [], cs => cs = []
  | x :: l, cs => ∃ sa sc na nc ja jc rest, cs = .int .i64 x.kind :: .slice sa x.shape.length sc :: .slice na x.nums.length nc :: .slice ja x.items.length jc :: rest ∧ ArrAt w S x sa na ja ∧ CellsAt w S l rest
/-- a slice of arrays that the call owns; what its elements lead to lies elsewhere -/
def OwnA (w : World) (base : Nat) (S : Nat → Prop) (ao : Option Addr) (cap : Nat) (l : List Arr) : Prop :=
  ∃ cs, w.ownsRow base 26 4 (.slice ao l.length cap) l.length cs ∧ CellsAt w (fun b => S b ∧ some b ≠ rowOf ao) l cs

section
variable {w w' : World} {base : Nat} {S T : Nat → Prop} {ao : Option Addr} {cap : Nat} {xs : List Int} {l : List Arr} {cs : List Value}
theorem OwnI.nil (w : World) (base : Nat) : OwnI w base none 0 [] := World.ownsRow_nil _ _ _ _
theorem OwnI.row (h : OwnI w base ao cap xs) : ∀ k, rowOf ao = some k → base ≤ k ∧ k < w.heap.size := fun k hk => World.ownsRow.lt h k (by rw [ownBlock_slice]; exact hk)
theorem OwnI.kept {row : Option Nat} (h : OwnI w base ao cap xs) (hg : w.grownBy w' row) (hne : rowOf ao = none ∨ rowOf ao ≠ row) : OwnI w' base ao cap xs :=
  World.ownsRow.kept h hg (by rw [ownBlock_slice]; exact hne)
theorem OwnI.keep (h : OwnI w base ao cap xs) (hk : ∀ k, rowOf ao = some k → w'.heap[k]? = w.heap[k]?) : OwnI w' base ao cap xs := by
  refine ⟨h.1, ?_⟩
  rcases h.2 with hn | ⟨g, c, cur, e, hb, hgg, rest⟩
  · exact Or.inl hn
  · injection e with e1 e2 e3
    exact Or.inr ⟨g, c, cur, by rw [e1, e3], hb, (hk g (by rw [e1]; rfl)).trans hgg, by rw [e3] at *; exact rest⟩
theorem OwnI.alloc (h : OwnI w base ao cap xs) (o : Obj) : OwnI (w.alloc o) base ao cap xs := World.ownsRow.alloc h o
theorem OwnI.setCell (h : OwnI w base ao cap xs) {a : Addr} (ha : rowOf ao ≠ some a.block) (u : Value) : OwnI (w.setCell a u) base ao cap xs := ownsRow_setCell_other h (by rw [ownBlock_slice]; exact ha) u
theorem OwnI.ints (h : OwnI w base ao cap xs) (hl : xs.length ≤ 17592186044416) : IntsAt w (fun b => base ≤ b ∧ rowOf ao = some b) ao xs := by
  refine ⟨hl, fun h0 => ?_⟩
  rcases h.2 with ⟨_, hn⟩ | ⟨g, c, cur, e, hb, hgg, _⟩
  · omega
  · injection e with e1 e2 e3
    subst e1
    refine ⟨g, 0, rfl, ⟨hb, rfl⟩, lt_of_block hgg, fun k hk => ?_⟩
    have := World.ownsRow.cells h (g := g) rfl k (.int .i64 (xs.getD k 0)) (by simp [hk])
    simpa [Addr.add_lit] using this

theorem CellsAt.length : ∀ {l : List Arr} {cs : List Value}, CellsAt w S l cs → cs.length = l.length * 4
  | [], cs, h => by simp only [CellsAt] at h; simp [h]
  | x :: l, cs, h => by
    simp only [CellsAt] at h
    obtain ⟨_, _, _, _, _, _, rest, rfl, _, h2⟩ := h
    have := CellsAt.length h2
    simp [this]; omega
theorem CellsAt.one : ∀ {l : List Arr} {cs : List Value}, CellsAt w S l cs → ∀ u ∈ cs, u.oneCell' = true
  | [], cs, h, u, hu => by simp only [CellsAt] at h; simp [h] at hu
  | x :: l, cs, h, u, hu => by
    simp only [CellsAt] at h
    obtain ⟨_, _, _, _, _, _, rest, rfl, _, h2⟩ := h
    simp only [List.mem_cons] at hu
    rcases hu with rfl | rfl | rfl | rfl | hu
    · rfl
    · rfl
    · rfl
    · rfl
    · exact CellsAt.one h2 u hu
theorem CellsAt.keep : ∀ {l : List Arr} {cs : List Value}, CellsAt w S l cs → (∀ b, S b → b < w.heap.size → w'.heap[b]? = w.heap[b]?) → CellsAt w' S l cs
  | [], cs, h, _ => by simp only [CellsAt] at h ⊢; exact h
  | x :: l, cs, h, hk => by
    simp only [CellsAt] at h ⊢
    obtain ⟨sa, sc, na, nc, ja, jc, rest, e, h1, h2⟩ := h
    exact ⟨sa, sc, na, nc, ja, jc, rest, e, ArrAt.keep hk x h1, CellsAt.keep h2 hk⟩
theorem CellsAt.mono : ∀ {l : List Arr} {cs : List Value}, CellsAt w S l cs → (∀ b, b < w.heap.size → S b → T b) → CellsAt w T l cs
  | [], cs, h, _ => by simp only [CellsAt] at h ⊢; exact h
  | x :: l, cs, h, hk => by
    simp only [CellsAt] at h ⊢
    obtain ⟨sa, sc, na, nc, ja, jc, rest, e, h1, h2⟩ := h
    exact ⟨sa, sc, na, nc, ja, jc, rest, e, ArrAt.mono hk x h1, CellsAt.mono h2 hk⟩
theorem CellsAt.append : ∀ {l m : List Arr} {cs ds : List Value}, CellsAt w S l cs → CellsAt w S m ds → CellsAt w S (l ++ m) (cs ++ ds)
  | [], m, cs, ds, h, k => by simp only [CellsAt] at h; subst h; simpa using k
  | x :: l, m, cs, ds, h, k => by
    simp only [CellsAt, List.cons_append] at h ⊢
    obtain ⟨sa, sc, na, nc, ja, jc, rest, rfl, h1, h2⟩ := h
    exact ⟨sa, sc, na, nc, ja, jc, rest ++ ds, by simp, h1, CellsAt.append h2 k⟩
theorem CellsAt.get : ∀ {l : List Arr} {cs : List Value}, CellsAt w S l cs → ∀ j x, l[j]? = some x → ∃ sa sc na nc ja jc, cs[j * 4]? = some (.int .i64 x.kind) ∧ cs[j * 4 + 1]? = some (.slice sa x.shape.length sc) ∧
    cs[j * 4 + 2]? = some (.slice na x.nums.length nc) ∧ cs[j * 4 + 3]? = some (.slice ja x.items.length jc) ∧ ArrAt w S x sa na ja
  | [], cs, h, j, x, hx => by simp at hx
  | y :: l, cs, h, 0, x, hx => by
    simp only [CellsAt] at h
    simp at hx; subst hx
    obtain ⟨sa, sc, na, nc, ja, jc, rest, rfl, h1, h2⟩ := h
    exact ⟨sa, sc, na, nc, ja, jc, rfl, rfl, rfl, rfl, h1⟩
  | y :: l, cs, h, j + 1, x, hx => by
    simp only [CellsAt] at h
    obtain ⟨_, _, _, _, _, _, rest, rfl, h1, h2⟩ := h
    obtain ⟨sa, sc, na, nc, ja, jc, e0, e1, e2, e3, h3⟩ := CellsAt.get h2 j x (by simpa using hx)
    refine ⟨sa, sc, na, nc, ja, jc, ?_, ?_, ?_, ?_, h3⟩
    · rw [show (j + 1) * 4 = j * 4 + 4 from by omega]; simpa using e0
    · rw [show (j + 1) * 4 + 1 = (j * 4 + 1) + 4 from by omega]; simpa using e1
    · rw [show (j + 1) * 4 + 2 = (j * 4 + 2) + 4 from by omega]; simpa using e2
    · rw [show (j + 1) * 4 + 3 = (j * 4 + 3) + 4 from by omega]; simpa using e3
/-- the cells of a slice of arrays, as a list -/
theorem ItemsAt.cells : ∀ {l : List Arr} {i : Nat} {ia : Option Addr}, ItemsAt w S ia i l → ∃ cs, CellsAt w S l cs ∧ ∀ b off, ia = some ⟨b, off, none⟩ → ∀ j u, cs[j]? = some u → w.cell? ⟨b, off + i * 4 + j, none⟩ = some u
  | [], i, ia, _ => ⟨[], by simp only [CellsAt], fun b off _ j u hu => by simp at hu⟩
  | x :: l, i, ia, h => by
    simp only [ItemsAt] at h
    obtain ⟨⟨b, off, sa, sc, na, nc, ja, jc, rfl, hS, hb, c0, c1, c2, c3, hx⟩, h2⟩ := h
    obtain ⟨cs, h3, h4⟩ := ItemsAt.cells h2
    refine ⟨.int .i64 x.kind :: .slice sa x.shape.length sc :: .slice na x.nums.length nc :: .slice ja x.items.length jc :: cs, ?_, ?_⟩
    · simp only [CellsAt]
      exact ⟨sa, sc, na, nc, ja, jc, cs, rfl, hx, h3⟩
    · intro b' off' e j u hu
      injection e with e
      injection e with e1 e2
      subst e1; subst e2
      match j, hu with
      | 0, hu => simp at hu; subst hu; simpa using c0
      | 1, hu => simp at hu; subst hu; simpa using c1
      | 2, hu => simp at hu; subst hu; simpa using c2
      | 3, hu => simp at hu; subst hu; simpa using c3
      | j + 4, hu =>
        have := h4 b off rfl j u (by simpa using hu)
        rw [show off + i * 4 + (j + 4) = off + (i + 1) * 4 + j from by omega]
        exact this
theorem OwnA.nil (w : World) (base : Nat) (S : Nat → Prop) : OwnA w base S none 0 [] := ⟨[], World.ownsRow_nil _ _ _ _, by simp only [CellsAt]⟩
theorem OwnA.row (h : OwnA w base S ao cap l) : ∀ k, rowOf ao = some k → base ≤ k ∧ k < w.heap.size := by
  obtain ⟨cs, h1, _⟩ := h
  exact fun k hk => World.ownsRow.lt h1 k (by rw [ownBlock_slice]; exact hk)
theorem OwnA.keep (h : OwnA w base S ao cap l) (hr : ∀ k, rowOf ao = some k → w'.heap[k]? = w.heap[k]?) (hk : ∀ b, S b → b < w.heap.size → w'.heap[b]? = w.heap[b]?) : OwnA w' base S ao cap l := by
  obtain ⟨cs, h1, h2⟩ := h
  refine ⟨cs, ⟨h1.1, ?_⟩, h2.keep fun b hb hlt => hk b hb.1 hlt⟩
  rcases h1.2 with hn | ⟨g, c, cur, e, hb, hgg, rest⟩
  · exact Or.inl hn
  · injection e with e1 e2 e3
    exact Or.inr ⟨g, c, cur, by rw [e1, e3], hb, (hr g (by rw [e1]; rfl)).trans hgg, by rw [e3] at *; exact rest⟩
theorem OwnA.mono (h : OwnA w base S ao cap l) (hS : ∀ b, b < w.heap.size → S b → T b) : OwnA w base T ao cap l := by
  obtain ⟨cs, h1, h2⟩ := h
  exact ⟨cs, h1, h2.mono fun b hb hs => ⟨hS b hb hs.1, hs.2⟩⟩
theorem OwnA.alloc (h : OwnA w base S ao cap l) (o : Obj) : OwnA (w.alloc o) base S ao cap l :=
  h.keep (fun k hk => Below.heap_alloc w o k (h.row k hk).2) fun b _ hlt => Below.heap_alloc w o b hlt
theorem OwnA.items (h : OwnA w base S ao cap l) : ItemsAt w (fun b => S b ∨ (base ≤ b ∧ rowOf ao = some b)) ao 0 l := by
  obtain ⟨cs, h1, h2⟩ := h
  refine ItemsAt.of_get fun j x hx => ?_
  obtain ⟨sa, sc, na, nc, ja, jc, e0, e1, e2, e3, h3⟩ := h2.get j x hx
  rcases h1.2 with ⟨_, hn⟩ | ⟨g, c, cur, e, hb, hgg, _⟩
  · have := (List.getElem?_eq_some_iff.1 hx).1; omega
  · injection e with f1 f2 f3
    subst f1
    have hc := World.ownsRow.cells h1 (g := g) rfl
    have k0 := hc _ _ e0
    have k1 := hc _ _ e1
    have k2 := hc _ _ e2
    have k3 := hc _ _ e3
    simp only [Addr.add_lit] at k0 k1 k2 k3
    exact ⟨g, 0, sa, sc, na, nc, ja, jc, rfl, Or.inr ⟨hb, rfl⟩, lt_of_block hgg, by simpa using k0, by simpa [Nat.add_assoc] using k1, by simpa [Nat.add_assoc] using k2, by simpa [Nat.add_assoc] using k3, ArrAt.mono (fun b _ hs => Or.inl hs.1) x h3⟩
end

/-- append of nothing -/
theorem run_append_nothing {P : Program} (w : World) (base : Nat) (t ty e : TypeId) (i : TypeInfo) (size : Nat) (ht : P.underlying t = some (.slice e)) (hi : P.info? e = some i)
    (v : Value) (n : Nat) (xs : List Value) (hown : w.ownsRow base e size v n xs) (c : Nat) : (Builtin.append_ #[t, t] ty #[v, .slice none 0 c]).run P w = .ok v w := by
  rcases hown.2 with ⟨rfl, rfl⟩ | ⟨g, cap, cur, rfl, _, _, hnc, _⟩
  · simp [Builtin.append_, run_underlying ht, sizeOf, typeInfo, hi, Builtin.lenOf, Builtin.firstCells]
  · simp [Builtin.append_, run_underlying ht, sizeOf, typeInfo, hi, Builtin.lenOf, Builtin.firstCells, hnc, storeCells]
theorem slice_form {w : World} {base : Nat} {e size : Nat} {v : Value} {n : Nat} {xs : List Value} (h : w.ownsRow base e size v n xs) : ∃ ao cap, v = .slice ao n cap := by
  rcases h.2 with ⟨rfl, rfl⟩ | ⟨g, c, _, rfl, _⟩
  · exact ⟨none, 0, rfl⟩
  · exact ⟨_, c, rfl⟩

theorem run_appI (w : World) (ty : TypeId) (base : Nat) (ao : Option Addr) (cap : Nat) (xs : List Int) (hown : OwnI w base ao cap xs) (S : Nat → Prop) (so : Option Addr) (sc : Nat) (ys : List Int) (hys : IntsAt w S so ys)
    (hlen : xs.length + ys.length ≤ 17592186044416) (hbase : base ≤ w.heap.size) :
    ∃ ao' cap' w', (Builtin.append_ #[23, 23] ty #[.slice ao xs.length cap, .slice so ys.length sc]).run Try.prog w = .ok (.slice ao' (xs ++ ys).length cap') w' ∧ OwnI w' base ao' cap' (xs ++ ys) ∧ w.grownBy w' (rowOf ao) ∧
      (rowOf ao' = rowOf ao ∨ rowOf ao' = some w.heap.size) := by
  obtain ⟨i0, hi, hz0, hz1, hz2⟩ := info_parts infoInt
  cases so with
  | none =>
    have hy : ys = [] := by
      cases ys with
      | nil => rfl
      | cons y l => obtain ⟨_, _, e, _⟩ := hys.2 (by simp); cases e
    subst hy
    refine ⟨ao, cap, w, ?_, by simpa using hown, World.grownBy.refl _ _, Or.inl rfl⟩
    have := run_append_nothing (P := Try.prog) w base 23 ty 3 i0 1 Try.underlying23 hi _ _ _ hown sc
    simpa using this
  | some ad =>
    have hnews : ∀ j u, (ys.map (Value.int .i64))[j]? = some u → w.cell? (ad.add j) = some u := by
      intro j u hu
      have hj : j < ys.length := by have := (List.getElem?_eq_some_iff.1 hu).1; simpa using this
      obtain ⟨b, off, e, _, _, hc⟩ := hys.2 (by omega)
      injection e with e
      subst e
      have := hc j hj
      simp [hj] at hu
      subst hu
      simpa [Addr.add_lit, hj] using this
    obtain ⟨v', w', hr, ho, hg, _, hb⟩ := run_append_own_at (P := Try.prog) w base 23 ty 3 i0 (.int .i64 0) 1 8 Try.underlying23 hi hz0 hz1 hz2 rfl (by decide) (.slice ao xs.length cap) xs.length (xs.map (Value.int .i64)) hown
      ad ys.length sc (ys.map (Value.int .i64)) (by simp) hnews (ints_oneCell _ _) (by unfold maxLen; omega) (by omega) hbase
    obtain ⟨ao', cap', rfl⟩ := slice_form ho
    rw [ownBlock_slice] at hg
    rw [ownBlock_slice, ownBlock_slice] at hb
    exact ⟨ao', cap', w', by simpa using hr, by unfold OwnI; simpa using ho, hg, hb⟩

theorem wpList_appI {ops : Array Oper} {rest : List Oper} {o : Oper} {a : Act} {Q : Exit → Act → World → Prop} (w : World) (hgd : o.guard = none) (s x : Operand)
    (ho : o.op = .call { callee := .builtin .append, args := #[s, x], argTypes := #[23, 23] })
    (base : Nat) (ao : Option Addr) (cap : Nat) (xs : List Int) (hs : a.eval s = .slice ao xs.length cap) (hown : OwnI w base ao cap xs) (S : Nat → Prop) (so : Option Addr) (sc : Nat) (ys : List Int) (hx : a.eval x = .slice so ys.length sc)
    (hys : IntsAt w S so ys) (hlen : xs.length + ys.length ≤ 17592186044416) (hbase : base ≤ w.heap.size)
    (h : ∀ ao' cap' w', OwnI w' base ao' cap' (xs ++ ys) → w.grownBy w' (rowOf ao) → (rowOf ao' = rowOf ao ∨ rowOf ao' = some w.heap.size) → wpList Try.prog ops Q rest (a.put o.dst (.slice ao' (xs ++ ys).length cap')) w') :
    wpList Try.prog ops Q (o :: rest) a w := by
  refine wpList_plain hgd fun K hK => ?_
  obtain ⟨ao', cap', w', hrun, h1, h2, h3⟩ := run_appI w o.type base ao cap xs hown S so sc ys hys hlen hbase
  unfold Oper.wp
  simp [execOp, ho, resolve, invoke, builtin, hs, hx, hrun, Result.andThen]
  have := hK _ _ (h ao' cap' w' h1 h2 h3)
  simp at this
  exact this

theorem run_appA (w : World) (ty : TypeId) (base : Nat) (S : Nat → Prop) (ao : Option Addr) (cap : Nat) (l : List Arr) (hown : OwnA w base S ao cap l) (T : Nat → Prop) (so : Option Addr) (sc : Nat) (m : List Arr) (hm : ItemsAt w T so 0 m)
    (hTS : ∀ b, b < w.heap.size → T b → S b ∧ some b ≠ rowOf ao)
    (hlen : l.length + m.length ≤ 1759218604441) (hbase : base ≤ w.heap.size) :
    ∃ ao' cap' w', (Builtin.append_ #[24, 24] ty #[.slice ao l.length cap, .slice so m.length sc]).run Try.prog w = .ok (.slice ao' (l ++ m).length cap') w' ∧ OwnA w' base (fun b => S b ∧ b < w.heap.size) ao' cap' (l ++ m) ∧ w.grownBy w' (rowOf ao) ∧
      (rowOf ao' = rowOf ao ∨ rowOf ao' = some w.heap.size) := by
  obtain ⟨i0, hi, hz0, hz1, hz2⟩ := info_parts infoArr
  obtain ⟨cs, hrow, hcs⟩ := hown
  have hcs' : CellsAt w (fun b => (S b ∧ b < w.heap.size) ∧ some b ≠ rowOf ao) l cs := hcs.mono fun b hb hs => ⟨⟨hs.1, hb⟩, hs.2⟩
  cases so with
  | none =>
    have hy : m = [] := by
      cases m with
      | nil => rfl
      | cons y l => simp only [ItemsAt] at hm; obtain ⟨⟨_, _, _, _, _, _, _, _, e, _⟩, _⟩ := hm; cases e
    subst hy
    refine ⟨ao, cap, w, ?_, ⟨cs, by simpa using hrow, by simpa using hcs'⟩, World.grownBy.refl _ _, Or.inl rfl⟩
    have := run_append_nothing (P := Try.prog) w base 24 ty 26 i0 4 Try.underlying24 hi _ _ _ hrow sc
    simpa using this
  | some ad =>
    obtain ⟨ds, hds, hdc⟩ := hm.cells
    have hds' : CellsAt w (fun b => (S b ∧ b < w.heap.size) ∧ some b ≠ rowOf ao) m ds := hds.mono fun b hb hs => ⟨⟨(hTS b hb hs).1, hb⟩, (hTS b hb hs).2⟩
    have hnews : ∀ j u, ds[j]? = some u → w.cell? (ad.add j) = some u := by
      intro j u hu
      cases m with
      | nil => have := hds.length; simp at this; subst this; simp at hu
      | cons y r =>
        simp only [ItemsAt] at hm
        obtain ⟨⟨b, off, _, _, _, _, _, _, e, _⟩, _⟩ := hm
        injection e with e
        subst e
        have := hdc b off rfl j u hu
        simpa [Addr.add_lit] using this
    obtain ⟨v', w', hr, ho, hg, _, hb⟩ := run_append_own_at (P := Try.prog) w base 24 ty 26 i0 (.agg #[.int .i64 0, .slice none 0 0, .slice none 0 0, .slice none 0 0]) 4 80 Try.underlying24 hi hz0 hz1 hz2 rfl (by decide) (.slice ao l.length cap) l.length cs hrow
      ad m.length sc ds hds.length hnews hds.one (by unfold maxLen; omega) (by omega) hbase
    obtain ⟨ao', cap', rfl⟩ := slice_form ho
    rw [ownBlock_slice] at hg
    rw [ownBlock_slice, ownBlock_slice] at hb
    refine ⟨ao', cap', w', by simpa using hr, ⟨cs ++ ds, by simpa using ho, ?_⟩, hg, hb⟩
    have hall := hcs'.append hds'
    refine (hall.keep fun b hs hlt => hg.block b hlt hs.2).mono fun b hb' hs => ⟨hs.1, ?_⟩
    rcases hb with hb | hb
    · rw [hb]; exact hs.2
    · rw [hb]; intro e; injection e with e; have := hs.1.2; omega

theorem wpList_appA {ops : Array Oper} {rest : List Oper} {o : Oper} {a : Act} {Q : Exit → Act → World → Prop} (w : World) (hgd : o.guard = none) (s x : Operand)
    (ho : o.op = .call { callee := .builtin .append, args := #[s, x], argTypes := #[24, 24] })
    (base : Nat) (S : Nat → Prop) (ao : Option Addr) (cap : Nat) (l : List Arr) (hs : a.eval s = .slice ao l.length cap) (hown : OwnA w base S ao cap l) (T : Nat → Prop) (so : Option Addr) (sc : Nat) (m : List Arr) (hx : a.eval x = .slice so m.length sc)
    (hm : ItemsAt w T so 0 m) (hTS : ∀ b, b < w.heap.size → T b → S b ∧ some b ≠ rowOf ao) (hlen : l.length + m.length ≤ 1759218604441) (hbase : base ≤ w.heap.size)
    (h : ∀ ao' cap' w', OwnA w' base (fun b => S b ∧ b < w.heap.size) ao' cap' (l ++ m) → w.grownBy w' (rowOf ao) → (rowOf ao' = rowOf ao ∨ rowOf ao' = some w.heap.size) → wpList Try.prog ops Q rest (a.put o.dst (.slice ao' (l ++ m).length cap')) w') :
    wpList Try.prog ops Q (o :: rest) a w := by
  refine wpList_plain hgd fun K hK => ?_
  obtain ⟨ao', cap', w', hrun, h1, h2, h3⟩ := run_appA w o.type base S ao cap l hown T so sc m hm hTS hlen hbase
  unfold Oper.wp
  simp [execOp, ho, resolve, invoke, builtin, hs, hx, hrun, Result.andThen]
  have := hK _ _ (h ao' cap' w' h1 h2 h3)
  simp at this
  exact this
end Go.Proofs.Ytkbbdlibamcilaa
