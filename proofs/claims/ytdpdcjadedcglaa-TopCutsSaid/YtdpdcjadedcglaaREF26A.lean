/- ref23.Tally, ref23.Cell and the small functions of ref26: contracts. Conditions: the arrays are read; a slice's capacity is at least its length. -/
import Derived.Test.YtdpdcjadedcglaaS26
import Derived.Deep.CutRange
import Derived.Deep.DeepCutAuto
set_option linter.unusedVariables false
set_option maxRecDepth 20000
set_option linter.unusedSimpArgs false
namespace Go.Proofs.Ytdpdcjadedcglaa
open Go.RowKit Go.Sort
attribute [local go_sem ↓] run_max2 run_min2
attribute [local go_sem] eql_ints_nil eql_arrs_nil
/-- a slice that reads as the shape of a cell -/
def RetCell (w : World) (S : Nat → Prop) (y : Arr) (e : Ending) (w' : World) : Prop :=
  ∃ so sc, e = .returned (.slice so (celL y).length sc) ∧ IntsAt w' S so (celL y) ∧ Below w.heap.size w w'
def RetChk (w : World) (S : Nat → Prop) (x y : Arr) (e : Ending) (w' : World) : Prop :=
  ∃ so sl sc, e = .returned (.tuple #[.slice so sl sc, .int .i64 (chkE26 x y)]) ∧ (chkE26 x y = 0 → sl = x.nums.length ∧ IntsAt w' S so x.nums ∧ x.nums.length ≤ sc) ∧ Below w.heap.size w w'
theorem chkE_x {x y : Arr} (h : rightS x ≠ 0) : chkE26 x y = 1 := if_pos (Or.inl h)
theorem chkE_y {x y : Arr} (h : rightS y ≠ 0) : chkE26 x y = 1 := if_pos (Or.inr h)
theorem chkE_k {x y : Arr} (h : rightS x = 0) (g : rightS y = 0) (k : x.kind ≠ 1) : chkE26 x y = 14 := by unfold chkE26; rw [if_neg (by simp [h, g]), if_pos k]
theorem chkE_r {x y : Arr} (h : rightS x = 0) (g : rightS y = 0) (k : x.kind = 1) (r : 1 < x.shape.length) : chkE26 x y = 15 := by unfold chkE26; rw [if_neg (by simp [h, g]), if_neg (by simp [k]), if_pos r]
def bitB (n : Int) : Bool := decide (n = 0 ∨ n = 1)
/-- bits: how many ones, and whether all are bits -/
def bitsS (l : List Int) : Int × Bool := if l.all bitB then (sumF (fun i => l.getD i 0) l.length, true) else (0, false)
theorem sumF_bits {l : List Int} : ∀ {n : Nat}, (∀ j, j < n → bitB (l.getD j 0) = true) → 0 ≤ sumF (fun i => l.getD i 0) n ∧ sumF (fun i => l.getD i 0) n ≤ n
  | 0, _ => ⟨Int.le_refl _, Int.le_refl _⟩
  | n + 1, h => by
    have h1 := sumF_bits (n := n) (fun j hj => h j (by omega))
    have h2 := h n (by omega)
    simp only [bitB, decide_eq_true_eq] at h2
    simp only [sumF]
    omega
theorem bits_all {l : List Int} (h : ∀ j, j < l.length → bitB (l.getD j 0) = true) : bitsS l = (sumF (fun i => l.getD i 0) l.length, true) := by
  refine if_pos (List.all_eq_true.2 fun e he => ?_)
  obtain ⟨k, hk, rfl⟩ := List.mem_iff_getElem.1 he
  have := h k hk
  simpa [hk] using this
theorem bits_none {l : List Int} {k : Nat} (hk : k < l.length) (h : bitB (l.getD k 0) = false) : bitsS l = (0, false) := by
  refine if_neg fun q => ?_
  have := (List.all_eq_true.1 q) _ (getD_mem hk)
  rw [h] at this; cases this
/-- bounded: the array if it is right -/
def bndE (a : Arr) : Int := if rightS a = 0 then 0 else 21
def bndS (a : Arr) : Arr := if rightS a = 0 then a else .zero
theorem own_lit26 {w : World} {base : Nat} {d : Int} (hb : base ≤ w.heap.size) : OwnI (w.alloc (.cells #[.int .i64 d] 3)) base (some ⟨w.heap.size, 0, none⟩) 1 [d] :=
  ⟨rfl, Or.inr ⟨w.heap.size, 1, #[.int .i64 d], rfl, hb, made_blk (Ext.refl _), Nat.le_refl _, by decide, rfl, rfl⟩⟩
theorem wpl_buildV {ops : Array Oper} {rest : List Oper} {o : Oper} {a : Act} {Q : Exit → Act → World → Prop} {w : World} (hgd : o.guard = none) (d : Int) (p : Operand) (ho : o.op = .buildSlice 24 1 #[(0, p)]) (hp : a.eval p = .int .i64 d)
    (h : wpList Try.prog ops Q rest (a.put o.dst (.slice (some ⟨w.heap.size, 0, none⟩) 1 1)) (w.alloc (.cells #[.int .i64 d] 3))) : wpList Try.prog ops Q (o :: rest) a w := by
  refine wpList_plain hgd fun K hK => ?_
  have := hK _ _ h
  unfold Oper.wp execOp
  simp only [ho]
  cases p <;> (simp [go_sem] at hp) <;> simp [go_sem, hp] <;> exact this
/-- what shaped returns -/
def RetShp (w : World) (k : Int) (s : List Int) (e : Ending) (w' : World) : Prop :=
  ((dimsE s ≠ 0 ∧ e = .returned (.tuple #[.agg #[.int .i64 0, .slice none 0 0, .slice none 0 0, .slice none 0 0], .int .i64 21])) ∨
    (dimsE s = 0 ∧ ∃ so sc, e = .returned (.tuple #[.agg #[.int .i64 k, .slice so s.length sc, .slice none 0 0, .slice none 0 0], .int .i64 0]) ∧ OwnI w' w.heap.size so sc s)) ∧ Below w.heap.size w w'
end Go.Proofs.Ytdpdcjadedcglaa
