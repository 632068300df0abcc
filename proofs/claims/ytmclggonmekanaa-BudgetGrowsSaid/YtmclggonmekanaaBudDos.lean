/- A slice of operations as it comes in, read. No conditions. -/
import Derived.Test.YtmclggonmekanaaBud
import Derived.ProofKit
import Derived.Deep.SlicePairs
import Derived.Deep.Slices
set_option linter.unusedVariables false
set_option linter.unusedSimpArgs false
namespace Go.Proofs.Ytmclggonmekanaa
open Go.ChangeShapes Go.WideShapes Go.ChangeAt Go.RowKit Go.Deep
/-- a slice of operations: pairs (kind, n) -/
def DosIn (w : World) (B : Nat) (ao : Option Addr) (len : Nat) (ds : List (Int × Int)) : Prop :=
  ds.length = len ∧ len ≤ 9223372036854775807 ∧ (∀ k, 0 ≤ (ds.getD k (0, 0)).1 ∧ (ds.getD k (0, 0)).1 < 256) ∧
  (0 < len → ∃ b off, ao = some ⟨b, off, none⟩ ∧ b < B ∧ ∀ k, k < len →
    w.cell? ⟨b, off + k * 2, none⟩ = some (.int .u8 (ds.getD k (0, 0)).1) ∧ w.cell? ⟨b, off + k * 2 + 1, none⟩ = some (.int .i64 (ds.getD k (0, 0)).2))
theorem trod_int_cell {H : Type} {enc : TypeId × Value → H} {P : Program} {w : World} {base : Nat} {spare : Nat → Bool} {held : Bool} {t : TypeId} {k : IntKind} (ht : P.underlying t = some (.int k)) {n : Nat} {v : Value} {x : DataW H × List MemPlace}
    (h : DataW.trod enc P w base spare held n t [v] = some x) : ∃ i, v = .int k i ∧ (Lit.int k i).wf = true := by
  obtain ⟨i, h1, _, h3⟩ := DataW.trod_int ht h
  exact ⟨i, by simpa using h1, h3⟩
theorem open_dos {H : Type} {enc : TypeId × Value → H} {W : World} {d : DataW H} {p : List MemPlace} {ao : Option Addr} {len cap : Nat}
    (h : DataW.Trod enc Try.prog W 0 (fun _ => true) true 24 (.slice ao len cap) d p) : ∃ ds, DosIn W W.heap.size ao len ds := by
  obtain ⟨fuel, hf⟩ := h
  rcases open_slice_pairs Try.underlying24 Try.underlying33 (by kernel_rfl) rfl rfl (by kernel_rfl) (by kernel_rfl) hf with ⟨hcs, _⟩ | ⟨a, l, c, m, n, V0, V1, D0, D1, P0, P1, hcs, _, hl, hm, hmm, _, hx⟩
  · simp [Value.cells] at hcs
    obtain ⟨rfl, rfl, rfl⟩ := hcs
    exact ⟨[], rfl, by omega, fun k => by simp, fun h => absurd h (by omega)⟩
  · simp [Value.cells] at hcs
    obtain ⟨rfl, rfl, rfl⟩ := hcs
    have hm' : len ≤ m := by rw [hmm]; simp; omega
    have each : ∀ i, ∃ q : Int × Int, i < len → V0 i = .int .u8 q.1 ∧ V1 i = .int .i64 q.2 ∧ 0 ≤ q.1 ∧ q.1 < 256 := by
      intro i
      by_cases hi : i < len
      · obtain ⟨_, _, h1, h2⟩ := hx i (by omega)
        obtain ⟨x, hx1, hx2⟩ := trod_int_cell Try.underlying5 h1
        obtain ⟨y, hy1, _⟩ := trod_int_cell Try.underlying3 h2
        refine ⟨(x, y), fun _ => ⟨hx1, hy1, ?_⟩⟩
        simp [Lit.wf, IntKind.min, IntKind.max, IntKind.bits, IntKind.signed] at hx2
        omega
      · exact ⟨(0, 0), fun h => absurd h hi⟩
    obtain ⟨q, hq⟩ := Classical.axiomOfChoice each
    refine ⟨(List.range len).map q, by simp, by unfold maxLen at hm; omega, ?_, ?_⟩
    · intro k
      by_cases hk : k < len
      · have := hq k hk
        simp [hk]; omega
      · simp [hk]
    · intro h0
      obtain ⟨c0, _, _, _⟩ := hx 0 (by omega)
      obtain ⟨b, off, spot⟩ := a
      have hspot : spot = none := by simpa [Addr.add] using World.cell?_spot c0
      subst hspot
      have hblk := World.block_lt_of_cell? W _ c0
      refine ⟨b, off, rfl, by simpa [Addr.add] using hblk, fun k hk => ?_⟩
      obtain ⟨c1, c2, _, _⟩ := hx k (by omega)
      obtain ⟨g1, g2, _, _⟩ := hq k hk
      rw [g1] at c1
      rw [g2] at c2
      simp only [Addr.add_lit] at c1 c2
      simp [hk]
      exact ⟨c1, by rw [Nat.add_assoc]; exact c2⟩
end Go.Proofs.Ytmclggonmekanaa
