/- An argument that is a list of arrays. Conditions: it is well typed and not too large. -/
import Derived.Test.YtdobnkbmjkcpoaaDoorGA
set_option linter.unusedVariables false
set_option linter.unusedSimpArgs false
namespace Go.Proofs.YtdobnkbmjkcpoaaDoor
open Go.ChangeShapes Go.WideShapes Go.ChangeAt Go.RowKit
theorem open_arrsV {H : Type} {enc : TypeId × Value → H} {W : World} {ao : Option Addr} {len cap : Nat} {d : DataW H} {p : List MemPlace}
    (h : DataW.Trod enc Tryd.prog W 0 (fun _ => true) true 24 (.slice ao len cap) d p) (hz : ∀ n ∈ d.weights Tryd.prog 24, n ≤ reachBytes) :
    ∃ l : List Arr, len = l.length ∧ ItemsAt W (fun b => b < W.heap.size) ao 0 l ∧ l.length ≤ 1759218604441 := by
  obtain ⟨fuel, hf⟩ := h
  replace hf : DataW.trod enc Tryd.prog W 0 (fun _ => true) true fuel 24 [.slice ao len cap] = some (d, p) := by simpa [Value.cells] using hf
  have hz' : ∀ n ∈ ((d, p) : DataW H × List MemPlace).1.weights Tryd.prog 24, n ≤ reachBytes := hz
  clear hz
  have hz := hz'
  clear hz'
  generalize ((d, p) : DataW H × List MemPlace) = y3 at hf hz
  rcases DataW.trod_slice Tryd.underlying24 hf with ⟨hcs, _⟩ | ⟨a, len2, cap2, elems, rest, m, hm, hcs, hx, _, hlc, hcm, hel, hall, _, _⟩
  · simp at hcs
    obtain ⟨rfl, rfl, rfl⟩ := hcs
    exact ⟨[], rfl, by simp [ItemsAt], by simp⟩
  · simp at hcs
    obtain ⟨rfl, rfl, rfl⟩ := hcs
    rw [cellsArr] at hall
    have each : ∀ i, ∃ q : Arr, i < len → ∃ sa sc na nc ia ic, W.cells? 0 (a.add (i * 4)) 4 = some [.int .i64 q.kind, .slice sa q.shape.length sc, .slice na q.nums.length nc, .slice ia q.items.length ic] ∧ ArrAt W (fun b => b < W.heap.size) q sa na ia := by
      intro i
      by_cases hi : i < len
      · have hb := hall i hi
        have hiel : i < elems.length := by omega
        rw [List.getElem?_eq_getElem hiel] at hb
        obtain ⟨cs', hc', ht'⟩ := Option.bind_eq_some_iff.1 hb
        have hzi : ∀ n ∈ (elems[i]).1.weights Tryd.prog 26, n ≤ reachBytes := fun n hn => hz n (by
          rw [hx]
          simp only [DataW.weights, Tryd.underlying24, List.mem_cons, List.mem_append]
          exact Or.inr (Or.inl (mem_weightsAll (List.mem_map.2 ⟨elems[i], List.getElem_mem _, rfl⟩) n hn)))
        obtain ⟨q, sa', sc', na', nc', ia', ic', rfl, hq⟩ := open_arr_cells m cs' _ ht' hzi
        exact ⟨q, fun _ => ⟨sa', sc', na', nc', ia', ic', hc', hq⟩⟩
      · exact ⟨Arr.zero, fun h => absurd h hi⟩
    obtain ⟨q, hq⟩ := Classical.axiomOfChoice each
    have hlen' : len ≤ 1759218604441 := by
      have h1 := hz ((elems.length + rest.length) * Program.bytesOf Tryd.prog 26) (by rw [hx]; simp [DataW.weights, Tryd.underlying24])
      rw [bytesArr, reach_eq] at h1
      omega
    refine ⟨(List.range len).map q, by simp, ItemsAt.of_get fun j y hy => ?_, by simpa using hlen'⟩
    have hj : j < len := by
      have := (List.getElem?_eq_some_iff.1 hy).1
      simpa using this
    have hy' : q j = y := by simpa [hj] using hy
    subst hy'
    obtain ⟨sa', sc', na', nc', ia', ic', hc', hq'⟩ := hq j hj
    obtain ⟨_, _, hcell⟩ := World.cells?_some hc'
    have e0 := hcell 0 (by omega)
    have e1 := hcell 1 (by omega)
    have e2 := hcell 2 (by omega)
    have e3 := hcell 3 (by omega)
    obtain ⟨b, off, spot⟩ := a
    have hspot : spot = none ∨ j ≠ 0 := by
      by_cases hj0 : j = 0
      · subst hj0
        left
        have := World.cell?_spot e0
        simpa [Addr.add] using this
      · exact Or.inr hj0
    have hspot : spot = none := by
      obtain ⟨sa0, sc0, na0, nc0, ia0, ic0, hc0, _⟩ := hq 0 (by omega)
      obtain ⟨_, _, hcell0⟩ := World.cells?_some hc0
      have f0 := hcell0 0 (by omega)
      have := World.cell?_spot f0
      simpa [Addr.add] using this
    subst hspot
    simp only [Addr.add_lit, Nat.add_zero] at e0 e1 e2 e3
    have hb : b < W.heap.size := World.block_lt_of_cell? W _ e0
    refine ⟨b, off, sa', sc', na', nc', ia', ic', rfl, hb, hb, ?_, ?_, ?_, ?_, hq'⟩
    · simpa using e0
    · simpa using e1
    · simpa using e2
    · simpa using e3
end Go.Proofs.YtdobnkbmjkcpoaaDoor
