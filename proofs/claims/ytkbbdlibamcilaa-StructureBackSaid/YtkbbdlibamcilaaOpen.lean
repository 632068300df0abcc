/- Arguments that are arrays, lists of numbers, lists of arrays, as they come in: read as plain trees. Conditions: the form's own reach. -/
import Derived.Test.YtkbbdlibamcilaaRows
import Derived.Test.YtkbbdlibamcilaaArr
import Derived.ProofKit
import Derived.SizedLaws
import Derived.Deep.Slices
set_option linter.unusedVariables false
set_option linter.unusedSimpArgs false
namespace Go.Proofs.Ytkbbdlibamcilaa
open Go.ChangeShapes Go.WideShapes Go.ChangeAt Go.RowKit Go.Deep

theorem sized_at {H : Type} {P : Program} {ts : List TypeId} {ds : List (DataW H)} (h : (DataW.weightsEach P ts ds).all (fun x => decide (x ≤ reachBytes)) = true) {j : Nat} {t : TypeId} {d : DataW H} (ht : ts[j]? = some t) (hd : ds[j]? = some d) :
    ∀ n ∈ d.weights P t, n ≤ reachBytes := fun n hn => by simpa using List.all_eq_true.1 h _ (DataW.weights_mem_each ht hd n hn)
theorem mem_weightsAll {H : Type} {P : Program} {e : TypeId} : ∀ {l : List (DataW H)} {d : DataW H}, d ∈ l → ∀ n ∈ d.weights P e, n ∈ DataW.weightsAll P e l
  | x :: r, d, h, n, hn => by
    simp only [DataW.weightsAll, List.mem_append]
    rcases List.mem_cons.1 h with rfl | h
    · exact Or.inl hn
    · exact Or.inr (mem_weightsAll h n hn)
theorem reach_eq : reachBytes = 140737488351232 := by decide
theorem bytesInt : Program.bytesOf Try.prog 3 = 8 := by kernel_rfl
theorem bytesArr : Program.bytesOf Try.prog 26 = 80 := by kernel_rfl
theorem cellsInt : Program.cellsOf Try.prog 3 = 1 := by kernel_rfl
theorem cellsArr : Program.cellsOf Try.prog 26 = 4 := by kernel_rfl
theorem cellsKind : Program.cellsOf Try.prog 22 = 1 := by kernel_rfl
theorem cellsInts : Program.cellsOf Try.prog 23 = 1 := by kernel_rfl
theorem cellsArrs : Program.cellsOf Try.prog 24 = 1 := by kernel_rfl

/-- a slice of int -/
theorem open_ints_at {H : Type} {enc : TypeId × Value → H} {W : World} {fuel : Nat} {v : Value} {x : DataW H × List MemPlace}
    (h : DataW.trod enc Try.prog W 0 (fun _ => true) true fuel 23 [v] = some x) (hz : ∀ n ∈ x.1.weights Try.prog 23, n ≤ reachBytes) :
    ∃ ao xs cap, v = .slice ao (List.length xs) cap ∧ IntsAt W (fun b => b < W.heap.size) ao xs := by
  rcases open_ints Try.underlying23 Try.underlying3 cellsInt h with ⟨hcs, _⟩ | ⟨a, l, c, zs, hcs, _, hl, hm, hzl, hx, hcell, hwz⟩
  · simp at hcs
    subst hcs
    exact ⟨none, [], 0, rfl, IntsAt.nil _ _ _⟩
  · simp at hcs
    subst hcs
    have hzl' : zs.length = c := by simpa using hzl
    have hsz := hz
    rw [hx] at hsz
    have h1 := hsz (zs.length * Program.bytesOf Try.prog 3) (by simp [DataW.weights, Try.underlying23, lits]; left; congr 1; omega)
    rw [bytesInt, reach_eq] at h1
    refine ⟨some a, zs.take l, c, by simp; omega, by simp; omega, fun h0 => ?_⟩
    simp at h0
    have c0 := hcell 0 (by omega)
    obtain ⟨b, off, spot⟩ := a
    have hspot : spot = none := by simpa [Addr.add] using World.cell?_spot c0
    subst hspot
    have hblk := World.block_lt_of_cell? W _ c0
    have hb : b < W.heap.size := by simpa [Addr.add] using hblk
    refine ⟨b, off, rfl, hb, hb, fun k hk => ?_⟩
    simp at hk
    have ck := hcell k (by omega)
    simp only [Addr.add_lit] at ck
    rw [ck]
    have hk' : k < l := by omega
    simp [List.getElem?_take, hk']
/-- an array, cell by cell -/
theorem open_arr_cells {H : Type} {enc : TypeId × Value → H} {W : World} : ∀ (fuel : Nat) (cs : List Value) (x : DataW H × List MemPlace),
    DataW.trod enc Try.prog W 0 (fun _ => true) true fuel 26 cs = some x → (∀ n ∈ x.1.weights Try.prog 26, n ≤ reachBytes) →
    ∃ a sa sc na nc ia ic, cs = [.int .i64 (Arr.kind a), .slice sa a.shape.length sc, .slice na a.nums.length nc, .slice ia a.items.length ic] ∧ ArrAt W (fun b => b < W.heap.size) a sa na ia := by
  intro fuel
  induction fuel using Nat.strongRecOn with
  | _ fuel IH =>
    intro cs x h hz
    obtain ⟨xs, n, hfuel, rfl, hl, hlen, hf⟩ := DataW.trod_struct Try.underlying26 h
    have hl4 : cs.length = 4 := hl.trans cellsArr
    match xs, hlen with
    | [y0, y1, y2, y3], _ =>
      match cs, hl4 with
      | [c0, c1, c2, c3], _ =>
        have t0 : DataW.trod enc Try.prog W 0 (fun _ => true) true n 22 [c0] = some y0 := by simpa [cellsKind] using hf 0 _ rfl
        have t1 : DataW.trod enc Try.prog W 0 (fun _ => true) true n 23 [c1] = some y1 := by simpa [cellsInts] using hf 1 _ rfl
        have t2 : DataW.trod enc Try.prog W 0 (fun _ => true) true n 23 [c2] = some y2 := by simpa [cellsInts] using hf 2 _ rfl
        have t3 : DataW.trod enc Try.prog W 0 (fun _ => true) true n 24 [c3] = some y3 := by simpa [cellsArrs] using hf 3 _ rfl
        have z1 : ∀ n ∈ y1.1.weights Try.prog 23, n ≤ reachBytes := fun n hn => hz n (by simp [DataW.weights, Try.underlying26, DataW.weightsEach, hn])
        have z2 : ∀ n ∈ y2.1.weights Try.prog 23, n ≤ reachBytes := fun n hn => hz n (by simp [DataW.weights, Try.underlying26, DataW.weightsEach, hn])
        have z3 : ∀ n ∈ y3.1.weights Try.prog 24, n ≤ reachBytes := fun n hn => hz n (by simp [DataW.weights, Try.underlying26, DataW.weightsEach, hn])
        obtain ⟨kd, hk, _, _⟩ := DataW.trod_int Try.underlying22 t0
        simp at hk
        subst hk
        obtain ⟨sa, s, sc, rfl, hs⟩ := open_ints_at t1 z1
        obtain ⟨na, ns, nc, rfl, hn⟩ := open_ints_at t2 z2
        rcases DataW.trod_slice Try.underlying24 t3 with ⟨hcs, _⟩ | ⟨a, len, cap, elems, rest, m, hm, hcs, hx, _, hlc, hcm, hel, hall, _, _⟩
        · simp at hcs
          subst hcs
          exact ⟨.mk kd s ns [], sa, sc, na, nc, none, 0, by simp [Arr.kind, Arr.shape, Arr.nums, Arr.items], by rw [ArrAt.iff]; exact ⟨hs, hn, by simp [Arr.items], by simp [Arr.items, ItemsAt]⟩⟩
        · simp at hcs
          subst hcs
          rw [cellsArr] at hall
          have each : ∀ i, ∃ q : Arr, i < len → ∃ sa sc na nc ia ic, W.cells? 0 (a.add (i * 4)) 4 = some [.int .i64 q.kind, .slice sa q.shape.length sc, .slice na q.nums.length nc, .slice ia q.items.length ic] ∧ ArrAt W (fun b => b < W.heap.size) q sa na ia := by
            intro i
            by_cases hi : i < len
            · have hb := hall i hi
              have hiel : i < elems.length := by omega
              rw [List.getElem?_eq_getElem hiel] at hb
              obtain ⟨cs', hc', ht'⟩ := Option.bind_eq_some_iff.1 hb
              have hzi : ∀ n ∈ (elems[i]).1.weights Try.prog 26, n ≤ reachBytes := fun n hn => z3 n (by
                rw [hx]
                simp only [DataW.weights, Try.underlying24, List.mem_cons, List.mem_append]
                exact Or.inr (Or.inl (mem_weightsAll (List.mem_map.2 ⟨elems[i], List.getElem_mem _, rfl⟩) n hn)))
              obtain ⟨q, sa', sc', na', nc', ia', ic', rfl, hq⟩ := IH m (by omega) cs' _ ht' hzi
              exact ⟨q, fun _ => ⟨sa', sc', na', nc', ia', ic', hc', hq⟩⟩
            · exact ⟨Arr.zero, fun h => absurd h hi⟩
          obtain ⟨q, hq⟩ := Classical.axiomOfChoice each
          have hlen' : len ≤ 1759218604441 := by
            have h1 := z3 ((elems.length + rest.length) * Program.bytesOf Try.prog 26) (by rw [hx]; simp [DataW.weights, Try.underlying24])
            rw [bytesArr, reach_eq] at h1
            omega
          refine ⟨.mk kd s ns ((List.range len).map q), sa, sc, na, nc, some a, cap, by simp [Arr.kind, Arr.shape, Arr.nums, Arr.items], ?_⟩
          rw [ArrAt.iff]
          refine ⟨hs, hn, by simpa [Arr.items] using hlen', ItemsAt.of_get fun j y hy => ?_⟩
          simp only [Arr.items] at hy
          have hj : j < len := by
            have := (List.getElem?_eq_some_iff.1 hy).1
            simpa using this
          have hy' : q j = y := by simpa [hj] using hy
          subst hy'
          obtain ⟨sa', sc', na', nc', ia', ic', hc', hq'⟩ := hq j hj
          obtain ⟨_, _, hcell⟩ := World.cells?_some hc'
          have e0 := hcell 0 (by omega)
          have e1 := hcell 1 (by omega)
          have e2 := hcell 2 (by omega)
          have e3 := hcell 3 (by omega)
          obtain ⟨b, off, spot⟩ := a
          have hspot : spot = none ∨ j ≠ 0 := by
            by_cases hj0 : j = 0
            · subst hj0
              left
              have := World.cell?_spot e0
              simpa [Addr.add] using this
            · exact Or.inr hj0
          have hspot : spot = none := by
            obtain ⟨sa0, sc0, na0, nc0, ia0, ic0, hc0, _⟩ := hq 0 (by omega)
            obtain ⟨_, _, hcell0⟩ := World.cells?_some hc0
            have f0 := hcell0 0 (by omega)
            have := World.cell?_spot f0
            simpa [Addr.add] using this
          subst hspot
          simp only [Addr.add_lit, Nat.add_zero] at e0 e1 e2 e3
          have hb : b < W.heap.size := World.block_lt_of_cell? W _ e0
          refine ⟨b, off, sa', sc', na', nc', ia', ic', rfl, hb, hb, ?_, ?_, ?_, ?_, hq'⟩
          · simpa using e0
          · simpa using e1
          · simpa using e2
          · simpa using e3
/-- an array by value -/
theorem open_arr {H : Type} {enc : TypeId × Value → H} {W : World} {r : Reach} {b0 : Nat} {v : Value} {d : DataW H} {p : List MemPlace} (hv : Value.okWide Try.prog W r b0 26 v)
    (h : DataW.Trod enc Try.prog W 0 (fun _ => true) true 26 v d p) (hz : ∀ n ∈ d.weights Try.prog 26, n ≤ reachBytes) :
    ∃ (a : Arr) (sa : Option Addr) (sc : Nat) (na : Option Addr) (nc : Nat) (ia : Option Addr) (ic : Nat), v = .agg #[.int .i64 a.kind, .slice sa a.shape.length sc, .slice na a.nums.length nc, .slice ia a.items.length ic] ∧ ArrAt W (fun b => b < W.heap.size) a sa na ia := by
  obtain ⟨cs, rfl, hsz⟩ := okWide_struct Try.underlying26 hv
  obtain ⟨fuel, hf⟩ := h
  obtain ⟨a, sa, sc, na, nc, ia, ic, e, ha⟩ := open_arr_cells fuel _ _ hf hz
  refine ⟨a, sa, sc, na, nc, ia, ic, ?_, ha⟩
  simp only [Value.cells] at e
  rw [← Array.toArray_toList (xs := cs), e]
/-- a list of numbers -/
theorem open_intsV {H : Type} {enc : TypeId × Value → H} {W : World} {ao : Option Addr} {len cap : Nat} {d : DataW H} {p : List MemPlace}
    (h : DataW.Trod enc Try.prog W 0 (fun _ => true) true 23 (.slice ao len cap) d p) (hz : ∀ n ∈ d.weights Try.prog 23, n ≤ reachBytes) :
    ∃ xs : List Int, len = xs.length ∧ IntsAt W (fun b => b < W.heap.size) ao xs := by
  obtain ⟨fuel, hf⟩ := h
  obtain ⟨ao', xs, cap', e, hx⟩ := open_ints_at (by simpa [Value.cells] using hf) hz
  injection e with e1 e2 e3
  subst e1
  exact ⟨xs, e2, hx⟩
end Go.Proofs.Ytkbbdlibamcilaa
