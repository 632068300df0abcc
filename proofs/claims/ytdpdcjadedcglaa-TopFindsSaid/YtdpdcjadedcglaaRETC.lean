/- An array as a result, with its capacities. Conditions: those of each lemma. -/
import Derived.Test.YtdpdcjadedcglaaGK
import Derived.Test.YtdpdcjadedcglaaGG
set_option linter.unusedVariables false
set_option maxRecDepth 20000
set_option linter.unusedSimpArgs false
namespace Go.Proofs.Ytdpdcjadedcglaa
open Go.RowKit Go.Sort
/-- an array as a result; a slice's capacity is at least its length -/
def RetAC (w : World) (S : Nat → Prop) (a : Arr) (e : Ending) (w' : World) : Prop :=
  ∃ sa sc na nc ia ic, e = .returned (.agg #[.int .i64 a.kind, .slice sa a.shape.length sc, .slice na a.nums.length nc, .slice ia a.items.length ic]) ∧ ArrAt w' S a sa na ia ∧ Below w.heap.size w w' ∧ a.shape.length ≤ sc ∧ a.nums.length ≤ nc ∧ a.items.length ≤ ic
theorem RetAC.to {w w' : World} {S : Nat → Prop} {a : Arr} {e : Ending} (h : RetAC w S a e w') : RetA w S a e w' := by
  obtain ⟨sa, sc, na, nc, ia, ic, h1, h2, h3, _⟩ := h
  exact ⟨sa, sc, na, nc, ia, ic, h1, h2, h3⟩
theorem RetAC.eq {w w' : World} {S : Nat → Prop} {a b : Arr} {e : Ending} (h : RetAC w S a e w') (E : b = a) : RetAC w S b e w' := E ▸ h
theorem retAC_arm {W wz wq : World} {T : Nat → Prop} {r : Arr} {e : Ending} (hT2 : ∀ b, W.heap.size ≤ b → T b) (hSe : Ext W wz) (h : RetAC wz (fun b => T b ∨ wz.heap.size ≤ b) r e wq) : ∃ v, e = .returned v ∧ Ext wz wq ∧ RetAC wz T r (.returned v) wq := by
  obtain ⟨sa, sc, na, nc, ia, ic, rfl, h2, h3, h4⟩ := h
  exact ⟨_, rfl, h3, sa, sc, na, nc, ia, ic, rfl, ArrAt.mono (fun b _ hb => hb.elim id fun q => hT2 b (Nat.le_trans (Below.size hSe) q)) _ h2, h3, h4⟩
theorem retAEC_arm {W wz wq : World} {T : Nat → Prop} {r : Arr} {n : Int} {e : Ending} (hT2 : ∀ b, W.heap.size ≤ b → T b) (hSe : Ext W wz) (h : RetAEC wz (fun b => T b ∨ wz.heap.size ≤ b) r n e wq) : ∃ v, e = .returned v ∧ Ext wz wq ∧ RetAEC wz T r n (.returned v) wq := by
  obtain ⟨sa, sc, na, nc, ia, ic, rfl, h2, h3, h4⟩ := h
  exact ⟨_, rfl, h3, sa, sc, na, nc, ia, ic, rfl, ArrAt.mono (fun b _ hb => hb.elim id fun q => hT2 b (Nat.le_trans (Below.size hSe) q)) _ h2, h3, h4⟩
/-- an array without items as a result: its slice of items is nil -/
def RetI (w : World) (S : Nat → Prop) (a : Arr) (e : Ending) (w' : World) : Prop :=
  ∃ sa sc na nc, e = .returned (.agg #[.int .i64 a.kind, .slice sa a.shape.length sc, .slice na a.nums.length nc, .slice none a.items.length 0]) ∧ ArrAt w' S a sa na none ∧ Below w.heap.size w w' ∧ a.shape.length ≤ sc ∧ a.nums.length ≤ nc
theorem RetI.eq {w w' : World} {S : Nat → Prop} {a b : Arr} {e : Ending} (h : RetI w S a e w') (E : b = a) : RetI w S b e w' := E ▸ h
theorem retI_arm {W wz wq : World} {T : Nat → Prop} {r : Arr} {e : Ending} (hT2 : ∀ b, W.heap.size ≤ b → T b) (hSe : Ext W wz) (h : RetI wz (fun b => T b ∨ wz.heap.size ≤ b) r e wq) : ∃ v, e = .returned v ∧ Ext wz wq ∧ RetI wz T r (.returned v) wq := by
  obtain ⟨sa, sc, na, nc, rfl, h2, h3, h4⟩ := h
  exact ⟨_, rfl, h3, sa, sc, na, nc, rfl, ArrAt.mono (fun b _ hb => hb.elim id fun q => hT2 b (Nat.le_trans (Below.size hSe) q)) _ h2, h3, h4⟩
end Go.Proofs.Ytdpdcjadedcglaa
