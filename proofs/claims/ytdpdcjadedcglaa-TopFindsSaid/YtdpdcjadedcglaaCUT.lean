/- A slice of ints is cut: a law of the walk. Conditions: a slice's capacity is at least its length. -/
import Derived.Test.YtdpdcjadedcglaaGK
import Derived.Laws.Slices
set_option linter.unusedVariables false
set_option maxRecDepth 20000
set_option linter.unusedSimpArgs false
namespace Go.Proofs.Ytdpdcjadedcglaa
open Go.RowKit Go.Sort
section
variable {ops : Array Oper} {rest : List Oper} {o : Oper} {a : Act} {Q : Exit → Act → World → Prop} {w : World}
theorem run_cutI (ao : Option Addr) (n cap k : Nat) (hk : k ≤ n) (w : World) :
    (Instr.sliceAt 24 (.slice ao n cap) (some (.int .i64 (k : Int))) none none).run Try.prog w = .ok (.slice (if cap = k then ao else ao.map fun x => x.add k) (n - k) (cap - k)) w := by
  have h1 : (k : Int) ≤ (n : Int) := by omega
  have h0 : (0 : Int) ≤ (k : Int) := by omega
  simp [go_sem, h1, h0, Result.andThen]
theorem wpl_cutI (hgd : o.guard = none) (p q : Operand) (ho : o.op = .slice 24 p (some q) none none) {ao : Option Addr} {cap : Nat} (xs : List Int) (k : Nat) {kv : Int} {T : Nat → Prop} (ys : List Int) (hys : ys = xs.drop k)
    (hp : a.eval p = .slice ao xs.length cap) (hq : a.eval q = .int .i64 kv) (hkv : kv = (k : Int)) (hk : k ≤ xs.length) (hc : xs.length ≤ cap) (hI : IntsAt w T ao xs)
    (h : ∀ bo, IntsAt w T bo ys → wpList Try.prog ops Q rest (a.put o.dst (.slice bo ys.length (cap - k))) w) : wpList Try.prog ops Q (o :: rest) a w := by
  subst hkv
  subst hys
  have hb : IntsAt w T (if cap = k then ao else ao.map fun x => x.add k) (xs.drop k) := by
    split
    · exact hI.cut0 (by omega)
    · exact hI.cut k
  refine wpList_plain hgd fun K hK => ?_
  have := hK _ _ (h _ hb)
  have hr := run_cutI ao xs.length cap k hk w
  rw [List.length_drop] at this
  unfold Oper.wp execOp
  simp only [ho]
  cases p <;> (simp [go_sem] at hp) <;> cases q <;> (simp [go_sem] at hq) <;> simp [go_sem, hp, hq, hr] <;> exact this
end
end Go.Proofs.Ytdpdcjadedcglaa
