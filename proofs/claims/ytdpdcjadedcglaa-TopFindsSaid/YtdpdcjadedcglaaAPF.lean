/- Regions that draw their order: appending to a full literal; a variable whose array comes from a call. Conditions: those of each lemma. -/
import Derived.Test.YtdpdcjadedcglaaGK
set_option linter.unusedVariables false
set_option maxRecDepth 20000
set_option linter.unusedSimpArgs false
namespace Go.Proofs.Ytdpdcjadedcglaa
open Go.RowKit Go.Sort
theorem lit_own {w : World} {base g : Nat} {d : Int} (h : w.heap[g]? = some (.cells #[.int .i64 d] 3 (0, 0))) (hb : base ≤ g) : OwnI w base (some ⟨g, 0, none⟩) 1 [d] :=
  ⟨rfl, Or.inr ⟨g, 1, #[.int .i64 d], rfl, hb, h, Nat.le_refl _, by decide, rfl, rfl⟩⟩
/-- append([]int{d}, l...): what was there is untouched -/
theorem run_appI_lit (w : World) (ty : TypeId) {d : Int} {g : Nat} (h : w.heap[g]? = some (.cells #[.int .i64 d] 3 (0, 0))) (S : Nat → Prop) (so : Option Addr) (sc : Nat) (ys : List Int) (hys : IntsAt w S so ys) (hl : ys.length ≤ 100000) :
    ∃ ao cap w', (Builtin.append_ #[24, 24] ty #[.slice (some ⟨g, 0, none⟩) 1 1, .slice so ys.length sc]).run Try.prog w = .ok (.slice ao ([d] ++ ys).length cap) w' ∧ Ext w w' ∧ IntsAt w' (fun b => b = g ∨ w.heap.size ≤ b) ao ([d] ++ ys) ∧ ([d] ++ ys).length ≤ cap := by
  obtain ⟨i0, hi, hz0, hz1, hz2⟩ := info_parts infoInt
  have hg : g < w.heap.size := (Array.getElem?_eq_some_iff.1 h).1
  have hown := lit_own (base := 0) h (Nat.zero_le _)
  by_cases c : ys.length = 0
  · have hy : ys = [] := List.eq_nil_of_length_eq_zero c
    subst hy
    refine ⟨some ⟨g, 0, none⟩, 1, w, ?_, Ext.refl _, (hown.ints (show (1 : Nat) ≤ 17592186044416 by decide)).mono fun b _ hb => Or.inl (by have := hb.2; simp [rowOf] at this; exact this.symm), Nat.le_refl _⟩
    cases so with
    | none =>
      have := run_append_nothing (P := Try.prog) w 0 24 ty 3 i0 1 Try.underlying24 hi _ _ _ hown sc
      simpa using this
    | some ad =>
      simp [Builtin.append_, run_underlying Try.underlying24, sizeOf, typeInfo, hi, Builtin.lenOf, Builtin.firstCells, loadCells, loadCellsFrom, storeCells]
  · obtain ⟨b0, o0, e0, _, _, hc⟩ := hys.2 (by omega)
    subst e0
    have hnews : ∀ j u, (ys.map (Value.int .i64))[j]? = some u → w.cell? ((⟨b0, o0, none⟩ : Addr).add j) = some u := by
      intro j u hu
      have hj : j < ys.length := by have := (List.getElem?_eq_some_iff.1 hu).1; simpa using this
      have := hc j hj
      simp [hj] at hu
      subst hu
      simpa [Addr.add_lit, hj] using this
    have hcell : w.cell? ⟨g, 0, none⟩ = some (.int .i64 d) := cell_of_row w g 0 _ _ _ h
    have holds : ∀ j u, ([d].map (Value.int .i64))[j]? = some u → w.cell? ((⟨g, 0, none⟩ : Addr).add j) = some u := by
      intro j u hu
      match j, hu with
      | 0, hu => simp at hu; subst hu; simpa [Addr.add_lit] using hcell
    obtain ⟨ao', cap', w', hr, hO, _, hrow⟩ := run_appI w ty 0 _ _ _ hown S _ sc ys hys (by simp; omega) (Nat.zero_le _)
    have hr2 := run_append_grow (P := Try.prog) w 24 ty 3 i0 (.int .i64 0) Try.underlying24 hi hz0 ⟨g, 0, none⟩ 1 1 ([d].map (Value.int .i64)) (by rw [hz1]; rfl) holds ⟨b0, o0, none⟩ ys.length sc (ys.map (Value.int .i64)) (by rw [hz1]; simp) hnews (by omega) (by omega) (growslice_fits (by omega) (by rw [hz2]; omega))
    have he := hr2.symm.trans hr
    injection he with h1 h2
    refine ⟨ao', cap', w', hr, by rw [← h2]; exact (ext_drawn _).trans (ext_alloc _ _), (hO.ints (by simp; omega)).mono fun b _ hb => ?_, hO.cap⟩
    rcases hrow with e | e
    · rw [hb.2] at e; simp [rowOf] at e; exact Or.inl e
    · rw [hb.2] at e; injection e with e; exact Or.inr (Nat.le_of_eq e.symm)
theorem does_append {a : Act} {w w' : World} {o : Oper} {R : Value → World → Prop} (s x : Operand) (ho : o.op = .call { callee := .builtin .append, args := #[s, x], argTypes := #[24, 24] }) {u v r : Value} (hs : a.eval s = u) (hx : a.eval x = v)
    (hr : (Builtin.append_ #[24, 24] o.type #[u, v]).run Try.prog w = .ok r w') (h : R r w') : doesUpon Try.prog R ((execOp a.eval o).run Try.prog w) := by
  simp [execOp, ho, resolve, invoke, builtin, hs, hx, hr, Result.andThen]
  exact h
section
variable {w0 W w' : World} {S : Nat → Prop} {L : List Fact}
/-- what a region may read: what was there ahead of it, and what it has made besides a variable that is still zero -/
def Nz (w0 : World) (S : Nat → Prop) (L : List Fact) (W : World) (o : Obj) (u : World) (b : Nat) : Prop := (Tst w0 S L b ∧ b < W.heap.size) ∨ (W.heap.size ≤ b ∧ u.heap[b]? ≠ some o)
theorem Nz.new {o : Obj} {u : World} {b : Nat} (e : Ext W u) (h : u.heap.size ≤ b) : Nz w0 S L W o u b := Or.inr ⟨Nat.le_trans (Below.size e) h, by rw [Array.getElem?_eq_none h]; simp⟩
theorem Nz.up {o : Obj} {u v : World} {b : Nat} (h : Nz w0 S L W o u b) (e : Ext u v) (hb : b < u.heap.size) : Nz w0 S L W o v b := by
  rcases h with h | h
  · exact Or.inl h
  · exact Or.inr ⟨h.1, by rw [e.block b hb]; exact h.2⟩
theorem Nz.old {o : Obj} {u : World} {b : Nat} (h : Tst w0 S L b) (hb : b < W.heap.size) : Nz w0 S L W o u b := Or.inl ⟨h, hb⟩
theorem Env.nz (E : Env w0 S W L) (o : Obj) : ∃ N : World → Nat → Prop, N = Nz w0 S L W o := ⟨_, rfl⟩
/-- a variable that a region has made, and an array that a call of it has made, whichever came first -/
theorem Env.varN {x u u' : World} {o : Obj} {r : Arr} {s n i : Option Addr} (E : Env w0 S W L) (hA : ArrAt x (Nz w0 S L W o u') r s n i) (hx : Ext x w') (hux : Ext u' x) (hord : Ext x u ∨ Ext (u.alloc o) u') (hu' : Ext W u') (hu : Ext W u) (e8 : Ext (u.alloc o) w') (ew : Ext W w') : Env w0 S w' (L ++ [.obj u.heap.size o] ++ [.arr r s n i]) := by
  refine (E.made hu e8 ew).addArr ((ArrAt.mono (T := fun b => Nz w0 S L W o u' b ∧ b < x.heap.size) (fun b hb h => ⟨h, hb⟩) _ hA).up hx) fun b _ hb => ?_
  have hz := Below.size hu
  have key : Tst w0 S L b ∧ b ≠ u.heap.size := by
    rcases hb.1 with h | h
    · exact ⟨h.1, by omega⟩
    · refine ⟨E.fresh (Ext.refl _) h.1, ?_⟩
      rintro rfl
      rcases hord with q | q
      · have := Below.size q; have := hb.2; omega
      · exact h.2 (by rw [q.block _ (by simp)]; exact heap_alloc_new u o)
  refine ⟨key.1.1, ?_⟩
  rw [blks_append, List.mem_append]
  rintro (h' | h')
  · exact key.1.2 h'
  · simp [blks, Fact.blk] at h'
    exact key.2 h'
theorem Env.varNI {x u u' : World} {o : Obj} {xs : List Int} {ao : Option Addr} (E : Env w0 S W L) (hA : IntsAt x (Nz w0 S L W o u') ao xs) (hx : Ext x w') (hux : Ext u' x) (hord : Ext x u ∨ Ext (u.alloc o) u') (hu' : Ext W u') (hu : Ext W u) (e8 : Ext (u.alloc o) w') (ew : Ext W w') : Env w0 S w' (L ++ [.obj u.heap.size o] ++ [.ints xs ao]) := by
  refine (E.made hu e8 ew).addInts ((hA.mono (T := fun b => Nz w0 S L W o u' b ∧ b < x.heap.size) (fun b hb h => ⟨h, hb⟩)).up hx) fun b _ hb => ?_
  have hz := Below.size hu
  have key : Tst w0 S L b ∧ b ≠ u.heap.size := by
    rcases hb.1 with h | h
    · exact ⟨h.1, by omega⟩
    · refine ⟨E.fresh (Ext.refl _) h.1, ?_⟩
      rintro rfl
      rcases hord with q | q
      · have := Below.size q; have := hb.2; omega
      · exact h.2 (by rw [q.block _ (by simp)]; exact heap_alloc_new u o)
  refine ⟨key.1.1, ?_⟩
  rw [blks_append, List.mem_append]
  rintro (h' | h')
  · exact key.1.2 h'
  · simp [blks, Fact.blk] at h'
    exact key.2 h'
end
end Go.Proofs.Ytdpdcjadedcglaa
