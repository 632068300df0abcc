/- Rows of arrays whose slices' capacities are known. Conditions: those of each lemma. -/
import Derived.Test.YtdpdcjadedcglaaGK
import Derived.Test.YtdpdcjadedcglaaGG
set_option linter.unusedVariables false
set_option maxRecDepth 20000
set_option linter.unusedSimpArgs false
namespace Go.Proofs.Ytdpdcjadedcglaa
open Go.RowKit Go.Sort
/-- the cells of arrays: each slice's capacity is at least its length -/
def CapsL : List Arr → List Value → Prop
  | [], _ => True
  | x :: l, cs => ∃ k sa sc na nc ja jc rest, cs = k :: .slice sa x.shape.length sc :: .slice na x.nums.length nc :: .slice ja x.items.length jc :: rest ∧ (x.shape.length ≤ sc ∧ x.nums.length ≤ nc ∧ x.items.length ≤ jc) ∧ CapsL l rest
theorem CapsL.snoc {z : Arr} {k : Value} {sa na ja : Option Addr} {sc nc jc : Nat} (hc : z.shape.length ≤ sc ∧ z.nums.length ≤ nc ∧ z.items.length ≤ jc) : ∀ {l : List Arr} {cs : List Value}, cs.length = l.length * 4 → CapsL l cs → CapsL (l ++ [z]) (cs ++ [k, .slice sa z.shape.length sc, .slice na z.nums.length nc, .slice ja z.items.length jc])
  | [], cs, hl, _ => by
    have : cs = [] := List.eq_nil_of_length_eq_zero (by simpa using hl)
    subst this
    exact ⟨k, sa, sc, na, nc, ja, jc, [], rfl, hc, trivial⟩
  | x :: l, cs, hl, h => by
    obtain ⟨k', sa', sc', na', nc', ja', jc', rest, rfl, h1, h2⟩ := h
    exact ⟨k', sa', sc', na', nc', ja', jc', rest ++ _, rfl, h1, CapsL.snoc hc (by simp at hl ⊢; omega) h2⟩
theorem CapsL.get : ∀ {l : List Arr} {cs : List Value}, CapsL l cs → ∀ j x, l[j]? = some x → ∃ sa sc na nc ja jc, cs[j * 4 + 1]? = some (.slice sa x.shape.length sc) ∧ cs[j * 4 + 2]? = some (.slice na x.nums.length nc) ∧ cs[j * 4 + 3]? = some (.slice ja x.items.length jc) ∧ x.shape.length ≤ sc ∧ x.nums.length ≤ nc ∧ x.items.length ≤ jc
  | [], cs, h, j, x, hx => by simp at hx
  | y :: l, cs, h, 0, x, hx => by
    simp at hx; subst hx
    obtain ⟨k, sa, sc, na, nc, ja, jc, rest, rfl, h1, h2⟩ := h
    exact ⟨sa, sc, na, nc, ja, jc, rfl, rfl, rfl, h1⟩
  | y :: l, cs, h, j + 1, x, hx => by
    obtain ⟨_, _, _, _, _, _, _, rest, rfl, h1, h2⟩ := h
    obtain ⟨sa, sc, na, nc, ja, jc, e1, e2, e3, h3⟩ := CapsL.get h2 j x (by simpa using hx)
    exact ⟨sa, sc, na, nc, ja, jc, by rw [Nat.succ_mul]; exact e1, by rw [Nat.succ_mul]; exact e2, by rw [Nat.succ_mul]; exact e3, h3⟩
def OwnAC (w : World) (B : Nat) (T : Nat → Prop) (ao : Option Addr) (cap : Nat) (l : List Arr) : Prop :=
  ∃ cs, w.ownsRow B 27 4 (.slice ao l.length cap) l.length cs ∧ CellsAt w (fun b => T b ∧ some b ≠ rowOf ao) l cs ∧ CapsL l cs
/-- a list of arrays in memory: the slices' capacities -/
def CapsAt (w : World) (ia : Option Addr) (l : List Arr) : Prop :=
  ∀ j (hj : j < l.length), ∃ b off sa sc na nc ja jc, ia = some ⟨b, off, none⟩ ∧ b < w.heap.size ∧ w.cell? ⟨b, off + j * 4 + 1, none⟩ = some (.slice sa (l[j]).shape.length sc) ∧ w.cell? ⟨b, off + j * 4 + 2, none⟩ = some (.slice na (l[j]).nums.length nc) ∧ w.cell? ⟨b, off + j * 4 + 3, none⟩ = some (.slice ja (l[j]).items.length jc) ∧ (l[j]).shape.length ≤ sc ∧ (l[j]).nums.length ≤ nc ∧ (l[j]).items.length ≤ jc
section
variable {w w' V : World} {B : Nat} {T T' : Nat → Prop} {ao : Option Addr} {cap : Nat} {l : List Arr}
theorem OwnAC.to (h : OwnAC w B T ao cap l) : OwnA w B T ao cap l := by obtain ⟨cs, h1, h2, _⟩ := h; exact ⟨cs, h1, h2⟩
theorem OwnAC.nil (w : World) (B : Nat) (T : Nat → Prop) : OwnAC w B T none 0 [] := ⟨[], World.ownsRow_nil _ _ _ _, by simp only [CellsAt], trivial⟩
theorem OwnAC.turn (h : OwnAC w B T ao cap l) (hr : ∀ k, rowOf ao = some k → w'.heap[k]? = w.heap[k]?) (hk : ∀ b, T b → b < w.heap.size → w'.heap[b]? = w.heap[b]?) (hT : ∀ b, b < w.heap.size → T b → T' b) : OwnAC w' B T' ao cap l := by
  obtain ⟨cs, h1, h2, h3⟩ := h
  have hO : OwnA w B T ao cap l := ⟨cs, h1, h2⟩
  refine ⟨cs, ?_, ((h2.mono (T := fun b => (T b ∧ T' b) ∧ some b ≠ rowOf ao) fun b hb hs => ⟨⟨hs.1, hT b hb hs.1⟩, hs.2⟩).keep fun b hs hb => hk b hs.1.1 hb).mono fun b _ hs => ⟨hs.1.2, hs.2⟩, h3⟩
  have hz : OwnA w' B (fun _ => True) ao cap l → True := fun _ => trivial
  rcases h1 with ⟨a1, a2⟩
  refine ⟨a1, ?_⟩
  rcases a2 with a2 | ⟨g, c, cur, e, hb, hg, r⟩
  · exact Or.inl a2
  · refine Or.inr ⟨g, c, cur, e, hb, ?_, r⟩
    injection e with e1 e2 e3
    rw [hr g (by rw [e1]; rfl)]; exact hg
theorem OwnAC.caps (h : OwnAC w B T ao cap l) : CapsAt w ao l := by
  obtain ⟨cs, h1, _, h3⟩ := h
  intro j hj
  obtain ⟨sa, sc, na, nc, ja, jc, e1, e2, e3, c⟩ := h3.get j l[j] (List.getElem?_eq_getElem hj)
  rcases h1.2 with ⟨_, hn⟩ | ⟨g, c', cur, e, hb, hgg, _⟩
  · omega
  · injection e with f1 f2 f3
    subst f1
    have hc := World.ownsRow.cells h1 (g := g) rfl
    have k1 := hc _ _ e1
    have k2 := hc _ _ e2
    have k3 := hc _ _ e3
    simp only [Addr.add_lit] at k1 k2 k3
    exact ⟨g, 0, sa, sc, na, nc, ja, jc, rfl, (Array.getElem?_eq_some_iff.1 hgg).1, by simpa using k1, by simpa using k2, by simpa using k3, c⟩
end
theorem CapsAt.up {w w' : World} {ia : Option Addr} {l : List Arr} (h : CapsAt w ia l) (e : Ext w w') : CapsAt w' ia l := by
  intro j hj
  obtain ⟨b, off, sa, sc, na, nc, ja, jc, e0, hb, h1, h2, h3, c⟩ := h j hj
  exact ⟨b, off, sa, sc, na, nc, ja, jc, e0, Nat.lt_of_lt_of_le hb e.size, up_cell h1 e, up_cell h2 e, up_cell h3 e, c⟩
/-- append of one array in a literal slice -/
theorem run_appAC (w : World) (ty : TypeId) (base : Nat) (S : Nat → Prop) (ao : Option Addr) (cap : Nat) (l : List Arr) (hown : OwnAC w base S ao cap l) (g : Nat) (z : Arr) (sa na ja : Option Addr) (sc nc jc : Nat)
    (hg : w.heap[g]? = some (.cells #[.int .i64 z.kind, .slice sa z.shape.length sc, .slice na z.nums.length nc, .slice ja z.items.length jc] 27 (0, 0))) (hz : ArrAt w (fun b => S b ∧ some b ≠ rowOf ao) z sa na ja)
    (hc : z.shape.length ≤ sc ∧ z.nums.length ≤ nc ∧ z.items.length ≤ jc) (hlen : l.length + 1 ≤ 1759218604441) (hbase : base ≤ w.heap.size) :
    ∃ ao' cap' w', (Builtin.append_ #[25, 25] ty #[.slice ao l.length cap, .slice (some ⟨g, 0, none⟩) 1 1]).run Try.prog w = .ok (.slice ao' (l ++ [z]).length cap') w' ∧ OwnAC w' base (fun b => S b ∧ b < w.heap.size) ao' cap' (l ++ [z]) ∧ w.grownBy w' (rowOf ao) ∧
      (rowOf ao' = rowOf ao ∨ rowOf ao' = some w.heap.size) := by
  obtain ⟨i0, hi, hz0, hz1, hz2⟩ := info_parts infoArr
  obtain ⟨cs, hrow, hcs, hcp⟩ := hown
  have hcs' : CellsAt w (fun b => (S b ∧ b < w.heap.size) ∧ some b ≠ rowOf ao) l cs := hcs.mono fun b hb hs => ⟨⟨hs.1, hb⟩, hs.2⟩
  have hds' : CellsAt w (fun b => (S b ∧ b < w.heap.size) ∧ some b ≠ rowOf ao) [z] [.int .i64 z.kind, .slice sa z.shape.length sc, .slice na z.nums.length nc, .slice ja z.items.length jc] := by
    simp only [CellsAt]
    exact ⟨sa, sc, na, nc, ja, jc, [], rfl, ArrAt.mono (fun b hb hs => ⟨⟨hs.1, hb⟩, hs.2⟩) z hz, rfl⟩
  have hnews : ∀ j u, [Value.int .i64 z.kind, .slice sa z.shape.length sc, .slice na z.nums.length nc, .slice ja z.items.length jc][j]? = some u → w.cell? ((⟨g, 0, none⟩ : Addr).add j) = some u := by
    intro j u hu
    match j, hu with
    | 0, hu => simp at hu; subst hu; simpa [Addr.add_lit] using cell_of_row w g 0 _ _ _ hg
    | 1, hu => simp at hu; subst hu; simpa [Addr.add_lit] using cell_of_row w g 1 _ _ _ hg
    | 2, hu => simp at hu; subst hu; simpa [Addr.add_lit] using cell_of_row w g 2 _ _ _ hg
    | 3, hu => simp at hu; subst hu; simpa [Addr.add_lit] using cell_of_row w g 3 _ _ _ hg
  obtain ⟨v', w', hr, ho, hgb, _, hb⟩ := run_append_own_at (P := Try.prog) w base 25 ty 27 i0 (.agg #[.int .i64 0, .slice none 0 0, .slice none 0 0, .slice none 0 0]) 4 80 Try.underlying25 hi hz0 hz1 hz2 rfl (by decide) (.slice ao l.length cap) l.length cs hrow
    ⟨g, 0, none⟩ 1 1 _ (by rfl) hnews hds'.one (by unfold maxLen; omega) (by omega) hbase
  obtain ⟨ao', cap', rfl⟩ := slice_form ho
  rw [ownBlock_slice] at hgb
  rw [ownBlock_slice, ownBlock_slice] at hb
  refine ⟨ao', cap', w', by simpa using hr, ⟨_, by simpa using ho, ?_, CapsL.snoc hc hcs.length hcp⟩, hgb, hb⟩
  have hall := hcs'.append hds'
  refine (hall.keep fun b hs hlt => hgb.block b hlt hs.2).mono fun b hb' hs => ⟨hs.1, ?_⟩
  rcases hb with hb | hb
  · rw [hb]; exact hs.2
  · rw [hb]; intro e; injection e with e; have := hs.1.2; omega
/-- such a row of the call's own, as a fact -/
@[reducible] def rowAC (ao : Option Addr) (cap : Nat) (l : List Arr) : Fact := .gen (rowOf ao).toList (fun B T w => OwnAC w B T ao cap l) (fun B T T' w w' h hb hk hT => h.turn (fun k hk' => hb k (by simp [hk'])) hk hT)
section
variable {w0 w V : World} {S : Nat → Prop} {L : List Fact}
theorem OwnAC.row {B : Nat} {T : Nat → Prop} {ao : Option Addr} {cap : Nat} {l : List Arr} (h : OwnAC w B T ao cap l) : ∀ k, rowOf ao = some k → B ≤ k ∧ k < w.heap.size := h.to.row
theorem Env.rowAC (E : Env w0 S w L) (j : Nat) {ao : Option Addr} {cap : Nat} {l : List Arr} (h : L[j]? = some (Go.Proofs.Ytdpdcjadedcglaa.rowAC ao cap l)) : OwnAC w w0.heap.size (Tst w0 S L) ao cap l := E.get j h
/-- such a row has grown -/
theorem Env.appAC (E : Env w0 S w L) (j : Nat) {ao ao' : Option Addr} {cap cap' : Nat} {l l' : List Arr} (h : L[j]? = some (Go.Proofs.Ytdpdcjadedcglaa.rowAC ao cap l)) (hown : OwnAC V w0.heap.size (fun b => Tst w0 S L b ∧ b < w.heap.size) ao' cap' l') (hg : w.grownBy V (rowOf ao)) (hr : rowOf ao' = rowOf ao ∨ rowOf ao' = some w.heap.size) : Env w0 S V (L.set j (Go.Proofs.Ytdpdcjadedcglaa.rowAC ao' cap' l')) := by
  have hrow := (E.rowAC j h).row
  have hnew : ∀ b ∈ (Go.Proofs.Ytdpdcjadedcglaa.rowAC ao' cap' l').blk, b ∈ (Go.Proofs.Ytdpdcjadedcglaa.rowAC ao cap l).blk ∨ (w.heap.size ≤ b ∧ b < V.heap.size) := fun b hb => by
    simp only [Fact.blk, Option.mem_toList, Option.mem_def] at hb ⊢
    rcases hr with e | e
    · exact Or.inl (e ▸ hb)
    · rw [e] at hb; injection hb with hb; subst hb
      exact Or.inr ⟨Nat.le_refl _, (hown.row _ e).2⟩
  refine E.turn j h (E.ext.grown hg E.size (fun k hk => (hrow k hk).1)) hg.size (fun b hb hne => hg.block b hb (fun e => hne (by simp [Fact.blk, ← e]))) hnew (nodup_opt _) (hown.turn (fun _ _ => rfl) (fun _ _ _ => rfl) fun b hlt hs => ⟨hs.1.1, fun hb => ?_⟩)
  obtain ⟨A, C, h1, h2⟩ := blks_set (g := Go.Proofs.Ytdpdcjadedcglaa.rowAC ao' cap' l') h
  obtain ⟨⟨_, hn⟩, hl⟩ := hs
  rw [h2] at hb
  rw [h1] at hn
  simp only [List.mem_append] at hb hn
  rcases hb with (hb | hb) | hb
  · exact hn (Or.inl (Or.inl hb))
  · rcases hnew b hb with h' | h'
    · exact hn (Or.inl (Or.inr h'))
    · omega
  · exact hn (Or.inr hb)
/-- the row is done: its arrays, and what is known of their capacities -/
theorem Env.doneAC (E : Env w0 S w L) (j : Nat) {ao : Option Addr} {cap : Nat} {l : List Arr} (h : L[j]? = some (Go.Proofs.Ytdpdcjadedcglaa.rowAC ao cap l)) : Env w0 S w (L.set j (.items l ao)) :=
  E.freeze j h rfl (((E.rowAC j h).to.items).mono fun b _ hb => by
    rcases hb with hb | hb
    · exact Or.inl hb
    · exact Or.inr (by simp [Fact.blk, hb.2]))
theorem Env.row0AC (E : Env w0 S w L) : Env w0 S w (L ++ [Go.Proofs.Ytdpdcjadedcglaa.rowAC none 0 []]) := E.add rfl (OwnAC.nil _ _ _)
end
section
variable {ops : Array Oper} {rest : List Oper} {o : Oper} {a : Act} {Q : Exit → Act → World → Prop} {w0 w : World} {S : Nat → Prop} {L : List Fact}
theorem wplE_appAC (E : Env w0 S w L) (j : Nat) {ao : Option Addr} {cap : Nat} {l : List Arr} (hj : L[j]? = some (Go.Proofs.Ytdpdcjadedcglaa.rowAC ao cap l)) (hgd : o.guard = none) (s x : Operand) (ho : o.op = .call { callee := .builtin .append, args := #[s, x], argTypes := #[25, 25] })
    (hs : a.eval s = .slice ao l.length cap) (g : Nat) (z : Arr) (sa na ja : Option Addr) (sc nc jc : Nat) (hx : a.eval x = .slice (some ⟨g, 0, none⟩) 1 1)
    (hg : w.heap[g]? = some (.cells #[.int .i64 z.kind, .slice sa z.shape.length sc, .slice na z.nums.length nc, .slice ja z.items.length jc] 27 (0, 0))) (hz : ArrAt w (Tst w0 S L) z sa na ja) (hc : z.shape.length ≤ sc ∧ z.nums.length ≤ nc ∧ z.items.length ≤ jc) (hlen : l.length + 1 ≤ 1759218604441)
    (h : ∀ V ao' cap', Env w0 S V (L.set j (Go.Proofs.Ytdpdcjadedcglaa.rowAC ao' cap' (l ++ [z]))) → wpList Try.prog ops Q rest (a.put o.dst (.slice ao' (l ++ [z]).length cap')) V) : wpList Try.prog ops Q (o :: rest) a w := by
  refine wpList_plain hgd fun K hK => ?_
  obtain ⟨ao', cap', w', hrun, h1, h2, h3⟩ := run_appAC w o.type w0.heap.size (Tst w0 S L) ao cap l (E.rowAC j hj) g z sa na ja sc nc jc hg (ArrAt.mono (fun b hb hs => ⟨hs, fun e => hs.2 (mem_blks.2 ⟨_, List.mem_of_getElem? hj, by simp [Fact.blk, ← e]⟩)⟩) z hz) hc hlen E.size
  unfold Oper.wp
  simp [execOp, ho, resolve, invoke, builtin, hs, hx, hrun, Result.andThen]
  have := hK _ _ (h w' ao' cap' (E.appAC j hj h1 h2 h3))
  simp at this
  exact this
end
/-- what is known of the capacities of a list's arrays, as a fact -/
def CapsT (T : Nat → Prop) (w : World) (ia : Option Addr) (l : List Arr) : Prop :=
  ∀ j (hj : j < l.length), ∃ b off sa sc na nc ja jc, ia = some ⟨b, off, none⟩ ∧ (T b ∧ b < w.heap.size) ∧ w.cell? ⟨b, off + j * 4 + 1, none⟩ = some (.slice sa (l[j]).shape.length sc) ∧ w.cell? ⟨b, off + j * 4 + 2, none⟩ = some (.slice na (l[j]).nums.length nc) ∧ w.cell? ⟨b, off + j * 4 + 3, none⟩ = some (.slice ja (l[j]).items.length jc) ∧ (l[j]).shape.length ≤ sc ∧ (l[j]).nums.length ≤ nc ∧ (l[j]).items.length ≤ jc
theorem cell_keep {w w' : World} {b : Nat} (h : w'.heap[b]? = w.heap[b]?) {o : Nat} {v : Value} (hc : w.cell? ⟨b, o, none⟩ = some v) : w'.cell? ⟨b, o, none⟩ = some v := by
  rw [← hc]; simp only [World.cell?]; rw [h]
theorem CapsT.turn {T T' : Nat → Prop} {w w' : World} {ia : Option Addr} {l : List Arr} (h : CapsT T w ia l) (hk : ∀ b, T b → b < w.heap.size → w'.heap[b]? = w.heap[b]?) (hT : ∀ b, b < w.heap.size → T b → T' b) : CapsT T' w' ia l := by
  intro j hj
  obtain ⟨b, off, sa, sc, na, nc, ja, jc, e0, ⟨hb, hlt⟩, h1, h2, h3, c⟩ := h j hj
  have hq := hk b hb hlt
  exact ⟨b, off, sa, sc, na, nc, ja, jc, e0, ⟨hT b hlt hb, by
    have e := hq
    rw [Array.getElem?_eq_getElem hlt] at e
    exact (Array.getElem?_eq_some_iff.1 e).1⟩, cell_keep hq h1, cell_keep hq h2, cell_keep hq h3, c⟩
@[reducible] def capsF (ia : Option Addr) (l : List Arr) : Fact := .gen [] (fun _ T w => CapsT T w ia l) (fun B T T' w w' h hb hk hT => h.turn hk hT)
section
variable {w0 w V : World} {S : Nat → Prop} {L : List Fact}
theorem Env.addCaps (E : Env w0 S w L) (j : Nat) {a : Arr} {sa na ia : Option Addr} (hj : L[j]? = some (.arr a sa na ia)) (h : CapsAt w ia a.items) : Env w0 S w (L ++ [capsF ia a.items]) := by
  refine E.add rfl fun k hk => ?_
  obtain ⟨b, off, sa, sc, na, nc, ja, jc, e0, hb, h1, h2, h3, c⟩ := h k hk
  obtain ⟨b', off', _, _, _, _, _, _, e0', hT, _⟩ := (E.arr j hj).items.at hk
  have e := e0.symm.trans e0'
  injection e with e
  injection e with q1 q2
  exact ⟨b, off, sa, sc, na, nc, ja, jc, e0, ⟨q1 ▸ hT, hb⟩, h1, h2, h3, c⟩
theorem Env.itemC (E : Env w0 S w L) (j i : Nat) {a : Arr} {sa na ia : Option Addr} (hj : L[j]? = some (.arr a sa na ia)) (hi : L[i]? = some (capsF ia a.items)) {k : Nat} (hk : k < a.items.length) :
    ∃ b off sa sc na nc ja jc, ia = some ⟨b, off, none⟩ ∧ w.cell? ⟨b, off + k * 4, none⟩ = some (.int .i64 (a.items[k]).kind) ∧ w.cell? ⟨b, off + k * 4 + 1, none⟩ = some (.slice sa (a.items[k]).shape.length sc) ∧ w.cell? ⟨b, off + k * 4 + 2, none⟩ = some (.slice na (a.items[k]).nums.length nc) ∧
      w.cell? ⟨b, off + k * 4 + 3, none⟩ = some (.slice ja (a.items[k]).items.length jc) ∧ ArrAt w (Tst w0 S L) (a.items[k]) sa na ja ∧ ((a.items[k]).shape.length ≤ sc ∧ (a.items[k]).nums.length ≤ nc ∧ (a.items[k]).items.length ≤ jc) := by
  obtain ⟨b, off, sa, sc, na, nc, ja, jc, e0, hT, hb, c0, c1, c2, c3, hA⟩ := (E.arr j hj).items.at hk
  obtain ⟨b', off', sa', sc', na', nc', ja', jc', e0', _, d1, d2, d3, cc⟩ := (show CapsT (Tst w0 S L) w ia a.items from E.get i hi) k hk
  have e := e0.symm.trans e0'
  injection e with e
  injection e with q1 q2
  subst q1
  subst q2
  have f1 := c1.symm.trans d1
  have f2 := c2.symm.trans d2
  have f3 := c3.symm.trans d3
  injection f1 with f1
  injection f1 with _ _ f1
  injection f2 with f2
  injection f2 with _ _ f2
  injection f3 with f3
  injection f3 with _ _ f3
  subst f1
  subst f2
  subst f3
  exact ⟨b, off, sa, sc, na, nc, ja, jc, e0, c0, c1, c2, c3, hA, cc⟩
end
end Go.Proofs.Ytdpdcjadedcglaa
