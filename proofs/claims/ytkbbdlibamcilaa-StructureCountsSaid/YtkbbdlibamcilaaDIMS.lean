/- reshaping.Dims, its reference, and the small functions of the statements on cells: contracts. Conditions: the arrays are read. -/
import Derived.Test.YtkbbdlibamcilaaREF19
import Derived.Test.YtkbbdlibamcilaaROT
import Derived.Test.YtkbbdlibamcilaaR03
import Derived.Test.YtkbbdlibamcilaaSAME
set_option linter.unusedVariables false
set_option linter.unusedSimpArgs false
namespace Go.Proofs.Ytkbbdlibamcilaa
open Go.RowKit Go.Sort
attribute [local go_sem ↓] run_max2 run_min2
attribute [local go_sem] eql_ints_nil eql_arrs_nil
/-- a list of numbers and an error number -/
def RetIE (w : World) (l : List Int) (n : Int) (e : Ending) (w' : World) : Prop := ∃ ao cap, e = .returned (.tuple #[.slice ao l.length cap, .int .i64 n]) ∧ OwnI w' w.heap.size ao cap l ∧ Ext w w'
theorem RetIE.mk {w w' : World} {l l' : List Int} {n m : Int} {ao : Option Addr} {cap k : Nat} (E : l = l') (E2 : n = m) (ek : k = l'.length) (h : OwnI w' w.heap.size ao cap l') (hb : Ext w w') : RetIE w l n (.returned (.tuple #[.slice ao k cap, .int .i64 m])) w' := by
  subst E; subst E2; subst ek; exact ⟨ao, cap, rfl, h, hb⟩
def ndE (x : Arr) : Int := if rightS x ≠ 0 then 1 else if x.kind ≠ 1 then 14 else if 1 < x.shape.length then 15 else if x.nums.any negB = true then 17 else if shapeB x.nums = false then 21 else 0
def ndL (x : Arr) : List Int := if ndE x = 0 then x.nums else []
theorem ndE1 {x : Arr} (h : rightS x ≠ 0) : ndE x = 1 := if_pos h
theorem ndE14 {x : Arr} (h : rightS x = 0) (k : x.kind ≠ 1) : ndE x = 14 := by unfold ndE; rw [if_neg (by simp [h]), if_pos k]
theorem ndE15 {x : Arr} (h : rightS x = 0) (k : x.kind = 1) (r : 1 < x.shape.length) : ndE x = 15 := by unfold ndE; rw [if_neg (by simp [h]), if_neg (by simp [k]), if_pos r]
theorem ndE17 {x : Arr} (h : rightS x = 0) (k : x.kind = 1) (r : ¬ 1 < x.shape.length) (n : x.nums.any negB = true) : ndE x = 17 := by unfold ndE; rw [if_neg (by simp [h]), if_neg (by simp [k]), if_neg r, if_pos n]
theorem ndE21 {x : Arr} (h : rightS x = 0) (k : x.kind = 1) (r : ¬ 1 < x.shape.length) (n : x.nums.any negB = false) (s : shapeB x.nums = false) : ndE x = 21 := by unfold ndE; rw [if_neg (by simp [h]), if_neg (by simp [k]), if_neg r, if_neg (by simp [n]), if_pos s]
theorem ndE0 {x : Arr} (h : rightS x = 0) (k : x.kind = 1) (r : ¬ 1 < x.shape.length) (n : x.nums.any negB = false) (s : shapeB x.nums = true) : ndE x = 0 := by unfold ndE; rw [if_neg (by simp [h]), if_neg (by simp [k]), if_neg r, if_neg (by simp [n]), if_neg (by simp [s])]
theorem ndL_no {x : Arr} (h : ndE x ≠ 0) : ndL x = [] := if_neg h
theorem ndL_yes {x : Arr} (h : ndE x = 0) : ndL x = x.nums := if_pos h
theorem ndE_zero {x : Arr} (h : ndE x = 0) : rightS x = 0 ∧ x.kind = 1 ∧ ¬ 1 < x.shape.length ∧ shapeB x.nums = true := by
  by_cases a : rightS x = 0
  · by_cases b : x.kind = 1
    · by_cases c : 1 < x.shape.length
      · rw [ndE15 a b c] at h; omega
      · cases d : x.nums.any negB with
        | true => rw [ndE17 a b c d] at h; omega
        | false =>
          cases e : shapeB x.nums with
          | false => rw [ndE21 a b c d e] at h; omega
          | true => exact ⟨a, b, c, rfl⟩
    · rw [ndE14 a b] at h; omega
  · rw [ndE1 a] at h; omega
theorem wpl_appE {ops : Array Oper} {rest : List Oper} {o : Oper} {a : Act} {Q : Exit → Act → World → Prop} {w : World} (hgd : o.guard = none) (s x : Operand) (ho : o.op = .call { callee := .builtin .append, args := #[s, x], argTypes := #[23, 23] })
    (base : Nat) (ao : Option Addr) (hs : a.eval s = .slice ao 0 0) (hown : OwnI w base ao 0 []) (S : Nat → Prop) (so : Option Addr) (sc : Nat) (ys : List Int) (hx : a.eval x = .slice so ys.length sc) (hys : IntsAt w S so ys) (hbase : base ≤ w.heap.size)
    (h : ∀ ao' cap' w', OwnI w' base ao' cap' ys → Ext w w' → wpList Try.prog ops Q rest (a.put o.dst (.slice ao' ys.length cap')) w') : wpList Try.prog ops Q (o :: rest) a w := by
  refine wpList_plain hgd fun K hK => ?_
  exact wp_of_does (R := fun v w' => wpList Try.prog ops Q rest (a.put o.dst v) w') (fun v w' hr => hK _ _ hr) (does_appE s x ho base ao hs hown S so sc ys hx hys hbase h)
theorem wpl_build0 {ops : Array Oper} {rest : List Oper} {o : Oper} {a : Act} {Q : Exit → Act → World → Prop} {w : World} (hgd : o.guard = none) (ho : o.op = .buildSlice 23 0 #[])
    (h : wpList Try.prog ops Q rest (a.put o.dst (.slice (some ⟨w.heap.size, 0, none⟩) 0 0)) (w.alloc (.cells #[] 3))) : wpList Try.prog ops Q (o :: rest) a w := by
  refine wpList_plain hgd fun K hK => ?_
  have := hK _ _ h
  unfold Oper.wp execOp
  simp only [ho]
  simp [go_sem]
  exact this
def SomeI (w : World) (e : Ending) (w' : World) : Prop := ∃ r : Int, e = .returned (.int .i64 r) ∧ Ext w w'
def SomeB' (w : World) (e : Ending) (w' : World) : Prop := ∃ r : Bool, e = .returned (.bool r) ∧ Ext w w'
end Go.Proofs.Ytkbbdlibamcilaa
