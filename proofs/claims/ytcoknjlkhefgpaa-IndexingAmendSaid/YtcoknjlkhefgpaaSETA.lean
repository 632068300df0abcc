/- An array of a row that the call owns is written. Conditions: those of each lemma. -/
import Derived.Test.YtcoknjlkhefgpaaGG
set_option linter.unusedVariables false
set_option linter.unusedSimpArgs false
namespace Go.Proofs.Ytcoknjlkhefgpaa
open Go.RowKit Go.Sort
theorem set_mid4 (cs1 cs2 : List Value) (v0 v1 v2 v3 u0 u1 u2 u3 : Value) {n : Nat} (hn : cs1.length = n) : ((((cs1 ++ v0 :: v1 :: v2 :: v3 :: cs2).set n u0).set (n + 1) u1).set (n + 2) u2).set (n + 3) u3 = cs1 ++ u0 :: u1 :: u2 :: u3 :: cs2 := by
  subst hn
  rw [List.set_append_right _ _ (Nat.le_refl _), List.set_append_right _ _ (by omega), List.set_append_right _ _ (by omega), List.set_append_right _ _ (by omega)]
  simp
theorem CellsAt.put {w : World} {S : Nat → Prop} {y : Arr} {s m i : Option Addr} (sc mc ic : Nat) (hy : ArrAt w S y s m i) : ∀ {k : Nat} {l : List Arr} {cs : List Value}, k < l.length → CellsAt w S l cs →
    ∃ cs1 v0 v1 v2 v3 cs2, cs = cs1 ++ v0 :: v1 :: v2 :: v3 :: cs2 ∧ cs1.length = k * 4 ∧ CellsAt w S (l.set k y) (cs1 ++ .int .i64 y.kind :: .slice s y.shape.length sc :: .slice m y.nums.length mc :: .slice i y.items.length ic :: cs2)
  | k, [], cs, hk, h => by simp at hk
  | 0, x :: l, cs, hk, h => by
    simp only [CellsAt] at h
    obtain ⟨sa, sc', na, nc, ja, jc, rest, rfl, h1, h2⟩ := h
    exact ⟨[], _, _, _, _, rest, rfl, rfl, by simp only [List.set_cons_zero, List.nil_append, CellsAt]; exact ⟨s, sc, m, mc, i, ic, rest, rfl, hy, h2⟩⟩
  | k + 1, x :: l, cs, hk, h => by
    simp only [CellsAt] at h
    obtain ⟨sa, sc', na, nc, ja, jc, rest, rfl, h1, h2⟩ := h
    obtain ⟨cs1, v0, v1, v2, v3, cs2, rfl, h3, h4⟩ := CellsAt.put sc mc ic hy (k := k) (by simpa using hk) h2
    refine ⟨.int .i64 x.kind :: .slice sa x.shape.length sc' :: .slice na x.nums.length nc :: .slice ja x.items.length jc :: cs1, v0, v1, v2, v3, cs2, rfl, by simp only [List.length_cons, h3]; omega, ?_⟩
    simp only [List.set_cons_succ, List.cons_append, CellsAt]
    exact ⟨sa, sc', na, nc, ja, jc, _, rfl, h1, h4⟩
theorem OwnA.setAt {w : World} {B : Nat} {T : Nat → Prop} {ao : Option Addr} {cap : Nat} {l : List Arr} {y : Arr} {s m i : Option Addr} (h : OwnA w B T ao cap l) {k : Nat} (hk : k < l.length) (hy : ArrAt w (fun b => T b ∧ some b ≠ rowOf ao) y s m i) (sc mc ic : Nat) :
    ∃ g, ao = some ⟨g, 0, none⟩ ∧ B ≤ g ∧ (∀ o, o < 4 → ∃ u, w.cell? ⟨g, k * 4 + o, none⟩ = some u) ∧ (∀ o, w.frozen? ⟨g, o, none⟩ = false) ∧
      OwnA (setAt4 w g (k * 4) (.int .i64 y.kind) (.slice s y.shape.length sc) (.slice m y.nums.length mc) (.slice i y.items.length ic)) B T ao cap (l.set k y) := by
  obtain ⟨cs, h1, h2⟩ := h
  obtain ⟨g, hg, hB⟩ : ∃ g, ao = some ⟨g, 0, none⟩ ∧ B ≤ g := by
    rcases h1.2 with ⟨_, hn⟩ | ⟨g, c, cur', e, hb, hgg, _⟩
    · omega
    · injection e with e1; exact ⟨g, e1, hb⟩
  subst hg
  have C := chg_setAt4 w g (k * 4) (.int .i64 y.kind) (.slice s y.shape.length sc) (.slice m y.nums.length mc) (.slice i y.items.length ic)
  have hkp : ∀ b, T b ∧ some b ≠ rowOf (some (⟨g, 0, none⟩ : Addr)) → b < w.heap.size → (setAt4 w g (k * 4) (.int .i64 y.kind) (.slice s y.shape.length sc) (.slice m y.nums.length mc) (.slice i y.items.length ic)).heap[b]? = w.heap[b]? := fun b hb hlt => C.blk hlt (fun e => hb.2 (by rw [e]; rfl))
  obtain ⟨cs1, v0, v1, v2, v3, cs2, rfl, hl1, h3⟩ := CellsAt.put sc mc ic (ArrAt.keep hkp y hy) hk (h2.keep hkp)
  have hcell := h1.cellAt
  refine ⟨g, rfl, hB, fun o ho => ?_, h1.frozenAt, ?_⟩
  · rw [hcell (k * 4 + o) (by omega)]
    rw [List.getElem?_append_right (by omega), hl1]
    match o, ho with
    | 0, _ => exact ⟨v0, by simp⟩
    | 1, _ => exact ⟨v1, by simp⟩
    | 2, _ => exact ⟨v2, by simp⟩
    | 3, _ => exact ⟨v3, by simp⟩
  · have a0 := h1.stored (k * 4) (.int .i64 y.kind)
    have a1 := a0.1.stored (k * 4 + 1) (.slice s y.shape.length sc)
    have a2 := a1.1.stored (k * 4 + 2) (.slice m y.nums.length mc)
    have a3 := a2.1.stored (k * 4 + 3) (.slice i y.items.length ic)
    have e3 := a3.1
    rw [set_mid4 cs1 cs2 v0 v1 v2 v3 _ _ _ _ hl1] at e3
    exact ⟨_, by rw [List.length_set]; exact e3, h3⟩
section
variable {ops : Array Oper} {rest : List Oper} {o : Oper} {a : Act} {Q : Exit → Act → World → Prop} {w0 w : World} {S : Nat → Prop} {L : List Fact}
/-- l[k] = y -/
theorem wplE_setA (E : Env w0 S w L) (j : Nat) {ao : Option Addr} {cap : Nat} {l : List Arr} {y : Arr} {s m i : Option Addr} {sc mc ic : Nat} (hj : L[j]? = some (.rowA ao cap l)) (hgd : o.guard = none) (p x : Operand) (ho : o.op = .store 26 p x) (k : Nat) (hk : k < l.length)
    (hp : ∀ g, ao = some ⟨g, 0, none⟩ → a.eval p = .pointer (some ⟨g, k * 4, none⟩)) (hx : a.eval x = .agg #[.int .i64 y.kind, .slice s y.shape.length sc, .slice m y.nums.length mc, .slice i y.items.length ic]) (hy : ArrAt w (Tst w0 S L) y s m i)
    (h : ∀ V, Env w0 S V (L.set j (.rowA ao cap (l.set k y))) → wpList Try.prog ops Q rest (a.put o.dst undef) V) : wpList Try.prog ops Q (o :: rest) a w := by
  have hrow := E.rowA j hj
  obtain ⟨g, e, hB, hc, f, hO⟩ := hrow.setAt hk (y := y) (ArrAt.mono (fun b _ hb => ⟨hb, fun q => hb.2 (mem_blks.2 ⟨_, List.mem_of_getElem? hj, by simp [Fact.blk, ← q]⟩)⟩) y hy) sc mc ic
  have C := chg_setAt4 w g (k * 4) (.int .i64 y.kind) (.slice s y.shape.length sc) (.slice m y.nums.length mc) (.slice i y.items.length ic)
  have hr : rowOf ao = some g := by rw [e]; rfl
  have E' : Env w0 S (setAt4 w g (k * 4) (.int .i64 y.kind) (.slice s y.shape.length sc) (.slice m y.nums.length mc) (.slice i y.items.length ic)) (L.set j (.rowA ao cap (l.set k y))) := by
    refine E.turn j hj (C.below E.ext hB) (Nat.le_of_eq C.z.symm) (fun q hq hne => C.blk hq (fun e' => hne (by simp [Fact.blk, hr, e']))) (fun q hq => Or.inl (by simpa [Fact.blk] using hq)) (nodup_opt _) (OwnA.mono hO fun b _ hb => ⟨hb.1, fun q => hb.2 ?_⟩)
    obtain ⟨A, D, h1, h2⟩ := blks_set (g := .rowA ao cap (l.set k y)) hj
    rw [h2] at q
    rw [h1]
    exact q
  refine wpList_plain hgd fun K hK => ?_
  have := hK _ _ (h _ E')
  unfold setAt4 at this
  unfold Oper.wp execOp
  simp only [ho, hp g e, hx]
  obtain ⟨u0, d0⟩ := hc 0 (by omega)
  obtain ⟨u1, d1⟩ := hc 1 (by omega)
  obtain ⟨u2, d2⟩ := hc 2 (by omega)
  obtain ⟨u3, d3⟩ := hc 3 (by omega)
  rw [Nat.add_zero] at d0
  simp [go_sem, d0, d1, d2, d3, f]
  exact this
end
end Go.Proofs.Ytcoknjlkhefgpaa
