/- ref19.Gather: a contract. Conditions: the array and the lists are read; the offsets are the array's. -/
import Derived.Test.YtkbbdlibamcilaaBUILD
import Derived.ArgAppend
import Derived.Deep.RegionHeld3
import Derived.Deep.DrawnRows
set_option linter.unusedVariables false
set_option linter.unusedSimpArgs false
namespace Go.Proofs.Ytkbbdlibamcilaa
open Go.RowKit Go.Sort
attribute [local go_sem ↓] run_max2 run_min2
attribute [local go_sem] eql_ints_nil eql_arrs_nil
theorem OwnI.ne_hdr {w : World} {base : Nat} {ao : Option Addr} {cap : Nat} {xs : List Int} {b : Nat} {k s n i : Value} (h : OwnI w base ao cap xs) (hh : Hdr w b k s n i) : rowOf ao ≠ some b := by
  intro e
  rcases h.2 with ⟨e1, _⟩ | ⟨g, c, cur, e1, _, hg, _⟩
  · injection e1 with e1; subst e1; simp [rowOf] at e
  · injection e1 with e1; subst e1
    simp [rowOf] at e
    subst e
    unfold Hdr at hh
    rw [hg] at hh
    injection hh with hh
    injection hh with h1 h2
    revert h2
    decide
set_option maxHeartbeats 1000000 in
theorem run_appE (w : World) (ty : TypeId) (base : Nat) (ao : Option Addr) (hown : OwnI w base ao 0 []) (S : Nat → Prop) (so : Option Addr) (sc : Nat) (ys : List Int) (hys : IntsAt w S so ys) (hbase : base ≤ w.heap.size) :
    ∃ ao' cap' w', (Builtin.append_ #[23, 23] ty #[.slice ao 0 0, .slice so ys.length sc]).run Try.prog w = .ok (.slice ao' ys.length cap') w' ∧ OwnI w' base ao' cap' ys ∧ Ext w w' := by
  obtain ⟨i0, hi, hz0, hz1, hz2⟩ := info_parts infoInt
  have hlen := hys.1
  rcases hown.2 with ⟨e1, _⟩ | ⟨g, c, cur, e1, hgb, hg, hnc, _⟩
  · injection e1 with e1; subst e1
    obtain ⟨ao', cap', w', hr, ho, hgr, _⟩ := run_appI w ty base none 0 [] (OwnI.nil _ _) S so sc ys hys (by simpa using hlen) hbase
    exact ⟨ao', cap', w', by simpa using hr, by simpa using ho, below_app0 hgr⟩
  · injection e1 with e1 _ e2; subst e1; subst e2
    cases so with
    | none =>
      have hy : ys = [] := by
        cases ys with
        | nil => rfl
        | cons y l => obtain ⟨_, _, e, _⟩ := hys.2 (by simp); cases e
      subst hy
      exact ⟨_, 0, w, run_append_nothing (P := Try.prog) w base 23 ty 3 i0 1 Try.underlying23 hi _ _ _ hown sc, hown, Ext.refl _⟩
    | some ad =>
      by_cases hy : ys = []
      · subst hy
        refine ⟨_, 0, w, ?_, hown, Ext.refl _⟩
        have := run_append_room_cells (P := Try.prog) (w := w) 23 ty 3 i0 Try.underlying23 hi g 0 0 0 ad 0 sc [] (by simp) (fun j u hu => by simp at hu) (fun u hu => by simp at hu) (Nat.le_refl _) (fun j hj => by simp at hj) (fun j hj => by simp at hj)
        exact this
      · have hpos : 0 < ys.length := List.length_pos_iff.2 hy
        obtain ⟨b, off, e, hS, hlt, hc⟩ := hys.2 hpos
        injection e with e
        subst e
        have hnews : ∀ j u, (ys.map (Value.int .i64))[j]? = some u → w.cell? ((⟨b, off, none⟩ : Addr).add j) = some u := by
          intro j u hu
          have hj : j < ys.length := by have := (List.getElem?_eq_some_iff.1 hu).1; simpa using this
          have := hc j hj
          simp [hj] at hu
          subst hu
          simpa [Addr.add_lit, hj] using this
        obtain ⟨v', w', hr, ho, hgr⟩ := run_append_arg_grows (P := Try.prog) (w := w) 23 ty 3 i0 (.int .i64 0) 1 8 Try.underlying23 hi hz0 hz1 hz2 rfl (by decide) ⟨g, 0, none⟩ 0 0 [] rfl (fun j u hu => by simp at hu) ⟨b, off, none⟩ ys.length sc (ys.map (Value.int .i64)) (by simp) hnews (by omega) (by unfold maxLen; omega) (by omega)
        rw [Nat.zero_add, List.nil_append] at ho
        obtain ⟨ao', cap', rfl⟩ := slice_form ho
        have ho' : OwnI w' w.heap.size ao' cap' ys := ho
        exact ⟨ao', cap', w', hr, ho'.base hbase, below_app0 hgr⟩
theorem does_appE {o : Oper} {a : Act} {w : World} {R : Value → World → Prop} (s x : Operand) (ho : o.op = .call { callee := .builtin .append, args := #[s, x], argTypes := #[23, 23] })
    (base : Nat) (ao : Option Addr) (hs : a.eval s = .slice ao 0 0) (hown : OwnI w base ao 0 []) (S : Nat → Prop) (so : Option Addr) (sc : Nat) (ys : List Int) (hx : a.eval x = .slice so ys.length sc) (hys : IntsAt w S so ys) (hbase : base ≤ w.heap.size)
    (h : ∀ ao' cap' w', OwnI w' base ao' cap' ys → Ext w w' → R (.slice ao' ys.length cap') w') : does Try.prog o a w R := by
  obtain ⟨ao', cap', w', hrun, h1, h2⟩ := run_appE w o.type base ao hown S so sc ys hys hbase
  unfold does
  simp [execOp, ho, resolve, invoke, builtin, hs, hx, hrun, Result.andThen, doesUpon]
  exact h _ _ _ h1 h2
theorem own_empty {w wf : World} {base : Nat} (hb : base ≤ w.heap.size) (e : Ext (w.alloc (.cells #[] 3)) wf) : OwnI wf base (some ⟨w.heap.size, 0, none⟩) 0 [] :=
  ⟨rfl, Or.inr ⟨w.heap.size, 0, #[], rfl, hb, made_blk e, Nat.le_refl _, by decide, rfl, rfl⟩⟩
end Go.Proofs.Ytkbbdlibamcilaa
