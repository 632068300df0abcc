/- Lists that a call has made, known to lie in new memory. Conditions: those of each lemma. -/
import Derived.Test.YtdpdcjadedcglaaROWO
import Derived.Test.YtdpdcjadedcglaaGK
set_option linter.unusedVariables false
set_option maxRecDepth 20000
set_option linter.unusedSimpArgs false
namespace Go.Proofs.Ytdpdcjadedcglaa
open Go.RowKit Go.Sort
section
variable {w0 w w' W V : World} {S : Nat → Prop} {L M : List Fact}
theorem Env.madeIF {x u u' : World} {o : Obj} {xs : List Int} {ao : Option Addr} (E : Env w0 S W L) (hA : IntsAt x (fun b => u'.heap.size ≤ b) ao xs) (hx : Ext x w') (hord : Ext x u ∨ Ext (u.alloc o) u') (hu' : Ext W u') (hu : Ext W u) (e8 : Ext (u.alloc o) w') (ew : Ext W w') : Env w0 S w' (L ++ [.obj u.heap.size o] ++ [.intsF xs ao]) := by
  refine (E.made hu e8 ew).add rfl (IntsAt.mono ((hA.mono (T := fun b => u'.heap.size ≤ b ∧ b < x.heap.size) (fun b hb h => ⟨h, hb⟩)).up hx) fun b _ hb => ?_)
  have h1 := E.fresh hu' hb.1
  refine ⟨⟨h1.1, ?_⟩, by have := E.size; have := Below.size hu'; omega⟩
  rw [blks_append, List.mem_append]
  rintro (h' | h')
  · exact h1.2 h'
  · simp [blks, Fact.blk] at h'
    exact ord_out hord hb.1 hb.2 h'
theorem Env.addInts2F {W u5 x5 ua ub : World} {oa ob : Obj} {xs : List Int} {ao : Option Addr} (E0 : Env w0 S W L) (E : Env w0 S w' (L ++ [.obj ua.heap.size oa] ++ [.obj ub.heap.size ob] ++ M)) (hM : blks M = []) (h : IntsAt x5 (fun b => u5.heap.size ≤ b) ao xs) (e0 : Ext W u5) (e : Ext x5 w') (o1 : Ext x5 ua ∨ Ext (ua.alloc oa) u5) (o2 : Ext x5 ub ∨ Ext (ub.alloc ob) u5) :
    Env w0 S w' (L ++ [.obj ua.heap.size oa] ++ [.obj ub.heap.size ob] ++ M ++ [.intsF xs ao]) := by
  refine E.add rfl (IntsAt.mono ((h.mono (T := fun b => u5.heap.size ≤ b ∧ b < x5.heap.size) (fun b hlt hb => ⟨hb, hlt⟩)).up e) fun b _ hb => ⟨⟨Or.inr (by have := E0.size; have := Below.size e0; omega), ?_⟩, by have := E0.size; have := Below.size e0; omega⟩)
  rw [blks_append, blks_append, blks_append, hM]
  simp only [List.append_nil, List.mem_append]
  rintro ((q | q) | q)
  · have := (E0.lo b q).2; have := Below.size e0; omega
  · simp [blks, Fact.blk] at q
    exact ord_out o1 hb.1 hb.2 q
  · simp [blks, Fact.blk] at q
    exact ord_out o2 hb.1 hb.2 q
theorem Env.doneOF (E : Env w0 S w L) (j : Nat) {g : Nat} {xs : List Int} (hj : L[j]? = some (.obj g (.cells (rowO xs) 3 (0, 0)))) (hl : xs.length ≤ 17592186044416) : Env w0 S w (L.set j (.intsF xs (some ⟨g, 0, none⟩))) :=
  E.freeze j hj rfl (row_ints (E.obj j hj) hl ⟨Or.inr (by simp [Fact.blk]), (E.lt j hj).1⟩)
end
end Go.Proofs.Ytdpdcjadedcglaa
