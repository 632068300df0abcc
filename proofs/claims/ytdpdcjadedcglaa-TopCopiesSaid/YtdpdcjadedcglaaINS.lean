/- slices.Insert of one number into a list that the call owns: contract, out of the shelf's. Conditions: those of each lemma. -/
import Derived.Shelf.Spec.SlicesInsert
import Derived.Shelf.Spec.SlicesInsertGrow
import Derived.Test.YtdpdcjadedcglaaGG
set_option linter.unusedVariables false
set_option maxRecDepth 20000
set_option linter.unusedSimpArgs false
namespace Go.Proofs.Ytdpdcjadedcglaa
open Go.RowKit
def insRen : Go.Shelf.Ren := ⟨fun k => if k = 21 then 95 else if k = 27 then 104 else if k = 28 then 105 else if k = 35 then 111 else if k = 39 then 113 else 0, fun k => if k = 0 then 0 else if k = 3 then 3 else if k = 4 then 4 else if k = 22 then 24 else 0, fun k => k⟩
theorem insLays : Lays2.n21 Try.prog insRen := {
  mixed := by kernel_rfl
  f21 := Try.func95.trans (by kernel_rfl)
  f27 := Try.func104.trans (by kernel_rfl)
  f28 := Try.func105.trans (by kernel_rfl)
  f35 := Try.func111.trans (by kernel_rfl)
  f39 := Try.func113.trans (by kernel_rfl)
  t0 := Try.underlying0
  a0 := Try.isAgg0
  z0 := Try.sizeOf0
  v0 := Try.zeroValue0
  t3 := Try.underlying3
  a3 := Try.isAgg3
  z3 := Try.sizeOf3
  v3 := Try.zeroValue3
  t4 := Try.underlying4
  a4 := Try.isAgg4
  z4 := Try.sizeOf4
  v4 := Try.zeroValue4
  t22 := Try.underlying24
  a22 := Try.isAgg24
  z22 := Try.sizeOf24
  v22 := Try.zeroValue24
  i3 := by kernel_rfl }
theorem ints_oneCell (xs : List Int) : ∀ v ∈ xs.map (Value.int .i64), v.oneCell' = true := by
  intro v hv
  rw [List.mem_map] at hv
  obtain ⟨x, _, rfl⟩ := hv
  rfl
set_option maxHeartbeats 1000000 in
theorem slices_Insert1 (xs : List Int) (i : Nat) (hi : i ≤ xs.length) (v : Int) (vb B : Nat) (ao : Option Addr) (cap : Nat) (w : World) (hO : OwnI w B ao cap xs) (hv : w.heap[vb]? = some (.cells #[.int .i64 v] 3 (0, 0))) (hne : rowOf ao ≠ some vb) (hl : xs.length ≤ 1000) (hB : B ≤ w.heap.size) :
    Calls Try.prog 95 #[.slice ao xs.length cap, .int .i64 i, .slice (some ⟨vb, 0, none⟩) 1 1] w fun e w' => ∃ ao' cap', e = .returned (.slice ao' (xs.length + 1) cap') ∧ OwnI w' B ao' cap' (xs.take i ++ v :: xs.drop i) ∧ w.grownBy w' (rowOf ao) := by
  obtain ⟨hlen, hrow⟩ := hO
  have hvs : ∀ j u, [Value.int .i64 v][j]? = some u → w.cell? ⟨vb, 0 + j, none⟩ = some u := fun j u hj => by
    rw [Nat.zero_add, cell_of_row w vb j _ _ _ hv]
    simpa using hj
  have h1v : ∀ u ∈ [Value.int .i64 v], u.oneCell' = true := fun u hu => by simp at hu; subst hu; rfl
  have hvb : vb < w.heap.size := lt_of_block hv
  have hmap : (xs.take i ++ v :: xs.drop i).map (Value.int .i64) = (xs.map (Value.int .i64)).take i ++ [.int .i64 v] ++ (xs.map (Value.int .i64)).drop i := by simp [List.map_take, List.map_drop]
  have hln : (xs.take i ++ v :: xs.drop i).length = xs.length + 1 := by simp; omega
  have hm : xs.length + 1 ≤ maxLen := by unfold maxLen; omega
  rcases hrow with ⟨hn1, hn2⟩ | ⟨g, c, cur, he, hBg, hg, hnc, hcm, hcs, htk⟩
  · injection hn1 with e1 e2 e3
    subst e1; subst e3
    obtain rfl : xs = [] := List.length_eq_zero_iff.1 hn2
    obtain rfl : i = 0 := by simpa using hi
    refine (Any2.slices_Insert_int_end_grow insLays none 0 0 vb 0 1 1 [] [.int .i64 v] w (by omega) (by omega) (by omega) (by omega) rfl rfl (fun _ => rfl) (fun a ha => by cases ha) hvs h1v).mono ?_
    rintro e w' ⟨rfl, rfl⟩
    have hr := heap_alloc_new w.drew (.cells (([] ++ [Value.int .i64 v]).toArray ++ Builtin.zeroCells (Value.int .i64 0).cells (grownCap w (0 + 1) 0 (insRen.t 3) - (0 + 1))) (insRen.t 3))
    refine ⟨_, _, rfl, ⟨by simp, Or.inr ⟨w.heap.size, _, _, rfl, hB, hr, grownCap_ge _ _ _ _, grownCap_le_maxLen _ _ _ _ (by unfold maxLen; omega), ?_, ?_⟩⟩, ?_⟩
    · have := grownCap_ge w 1 0 (insRen.t 3)
      simp [Builtin.zeroCells, Value.cells]
      omega
    · simp
    · exact ⟨rfl, rfl, rfl, by simp, fun k hk _ => Below.heap_alloc w.drew _ k hk⟩
  · injection he with e1 e2 e3
    subst e1; subst e3
    have hcell : ∀ j u, (xs.map (Value.int .i64))[j]? = some u → w.cell? ⟨g, 0 + j, none⟩ = some u := fun j u hj => by
      rw [Nat.zero_add, cell_of_row w g j _ _ _ hg]
      rw [← htk] at hj
      rw [List.getElem?_take] at hj
      split at hj
      · simpa using hj
      · cases hj
    have hcl : (xs.map (Value.int .i64)).length = xs.length := by simp
    have hsome : ∀ j, j < cap → (w.cell? ⟨g, j, none⟩).isSome = true := fun j hj => by
      rw [cell_of_row w g j _ _ _ hg]
      simp [hcs, hj]
    have hfz : ∀ j, w.frozen? ⟨g, j, none⟩ = false := fun j => frozen_of_row w g j _ _ hg
    have hgv : vb ≠ g := fun e => hne (by subst e; rfl)
    have htk' : cur.toList.take xs.length = xs.map (Value.int .i64) := by simpa using htk
    by_cases hroom : xs.length + 1 ≤ cap
    · by_cases hend : i = xs.length
      · subst hend
        refine (Any2.slices_Insert_int_end_room insLays g 0 xs.length cap vb 0 1 1 [.int .i64 v] w (by omega) hroom (by unfold maxLen at hcm; omega) rfl (fun j hj => hsome _ (by omega)) (fun j hj => hfz _) hvs h1v).mono ?_
        rintro e w' ⟨rfl, rfl⟩
        have hr := row_setCells g 3 [.int .i64 v] (0 + xs.length) cur w hg
        refine ⟨_, _, rfl, ⟨by simp, Or.inr ⟨g, cap, _, by rw [hln], hBg, hr, by rw [hln]; exact hroom, hcm, by rw [putFrom_size]; exact hcs, ?_⟩⟩, grown_setCells _ _ _ _⟩
        rw [putFrom_list _ _ _ (by simp; omega), hmap, hln]
        rw [List.take_append_of_le_length (by simp; omega)]
        rw [List.take_of_length_le (by simp; omega)]
        rw [Nat.zero_add, htk']
        rw [List.take_of_length_le (i := xs.length) (l := xs.map (Value.int .i64)) (by simp), List.drop_of_length_le (by simp), List.append_nil]
      · refine (Any2.slices_Insert_int_shift insLays g 0 xs.length cap i vb 0 1 1 (xs.map (Value.int .i64)) [.int .i64 v] w (by omega) (by omega) hroom (by unfold maxLen at hcm; omega) hgv hcl rfl hcell (fun j hj => by rw [Nat.zero_add]; exact hsome _ (by omega)) (fun j hj => hfz _) hvs (ints_oneCell xs) h1v 3 3 1 cap (by unfold World.shape?; rw [hv]; rfl) (by unfold World.shape?; rw [hg]; simp [hcs]) (by omega) (frozen_of_row w vb _ _ _ hv) (frozen_of_row w vb _ _ _ hv)).mono ?_
        rintro e w' ⟨rfl, rfl⟩
        have hr1 := row_setCells g 3 ((xs.map (Value.int .i64)).drop i) (0 + (i + 1)) cur w.drew hg
        have hr := row_setCells g 3 [.int .i64 v] (0 + i) _ _ hr1
        have hdl : ((xs.map (Value.int .i64)).drop i).length = xs.length - i := by simp
        refine ⟨_, _, rfl, ⟨by simp, Or.inr ⟨g, cap, _, by rw [hln], hBg, hr, by rw [hln]; exact hroom, hcm, by rw [putFrom_size, putFrom_size]; exact hcs, ?_⟩⟩, ?_⟩
        · rw [putFrom_list _ _ _ (by rw [putFrom_size]; simp; omega), putFrom_list _ _ _ (by rw [hdl]; omega), hmap, hln, hdl]
          have l1 : (cur.toList.take (0 + (i + 1))).length = i + 1 := by simp; omega
          have t1 : (cur.toList.take (0 + (i + 1)) ++ (xs.map (Value.int .i64)).drop i ++ cur.toList.drop (0 + (i + 1) + (xs.length - i))).take (0 + i) = (xs.map (Value.int .i64)).take i := by
            rw [List.append_assoc, List.take_append_of_le_length (by omega), List.take_take, ← htk', List.take_take]
            congr 1; omega
          have t2 : (cur.toList.take (0 + (i + 1)) ++ (xs.map (Value.int .i64)).drop i ++ cur.toList.drop (0 + (i + 1) + (xs.length - i))).drop (0 + i + [Value.int .i64 v].length) = (xs.map (Value.int .i64)).drop i ++ cur.toList.drop (0 + (i + 1) + (xs.length - i)) := by
            rw [List.append_assoc, List.drop_append_of_le_length (by simp; omega), List.drop_of_length_le (by simp; omega)]
            rfl
          rw [t1, t2, ← List.append_assoc]
          rw [List.take_append_of_le_length (by simp; omega), List.take_of_length_le (by simp; omega)]
        · have g1 := grown_setCells g ((xs.map (Value.int .i64)).drop i) (0 + (i + 1)) w.drew
          have g2 := grown_setCells g [.int .i64 v] (0 + i) (w.drew.setCells g (0 + (i + 1)) ((xs.map (Value.int .i64)).drop i))
          exact ⟨g2.os.trans g1.os, g2.tape.trans g1.tape, g2.output.trans g1.output, Nat.le_trans g1.size g2.size, fun k hk hne' => (g2.block k (Nat.lt_of_lt_of_le hk g1.size) hne').trans (g1.block k hk hne')⟩
    · by_cases hend : i = xs.length
      · subst hend
        refine (Any2.slices_Insert_int_end_grow insLays (some ⟨g, 0, none⟩) xs.length cap vb 0 1 1 (xs.map (Value.int .i64)) [.int .i64 v] w (by omega) hnc (by omega) (by omega) hcl rfl (fun h => by cases h) (fun a ha j u hj => by injection ha with ha; subst ha; rw [Addr.add_lit]; exact hcell j u hj) hvs h1v).mono ?_
        rintro e w' ⟨rfl, rfl⟩
        have hge := grownCap_ge w (xs.length + 1) cap (insRen.t 3)
        have hr := heap_alloc_new w.drew (.cells ((xs.map (Value.int .i64) ++ [Value.int .i64 v]).toArray ++ Builtin.zeroCells (Value.int .i64 0).cells (grownCap w (xs.length + 1) cap (insRen.t 3) - (xs.length + 1))) (insRen.t 3))
        refine ⟨_, _, rfl, ⟨by simp, Or.inr ⟨w.heap.size, _, _, by rw [hln], hB, hr, by rw [hln]; exact hge, grownCap_le_maxLen _ _ _ _ hm, ?_, ?_⟩⟩, ?_⟩
        · simp [Builtin.zeroCells, Value.cells]
          omega
        · rw [hmap, hln]
          simp only [Array.toList_append, List.toList_toArray]
          rw [List.take_append_of_le_length (by simp), List.take_of_length_le (by simp)]
          rw [List.take_of_length_le (i := xs.length) (l := xs.map (Value.int .i64)) (by simp), List.drop_of_length_le (by simp), List.append_nil]
        · exact ⟨rfl, rfl, rfl, by simp, fun k hk _ => Below.heap_alloc w.drew _ k hk⟩
      · refine (Any2.slices_Insert_int_grow insLays g 0 xs.length cap i vb 0 1 1 (xs.map (Value.int .i64)) [.int .i64 v] w (by omega) (by omega) hnc (by omega) (by omega) hcl rfl hcell hvs (ints_oneCell xs) h1v).mono ?_
        rintro e w' ⟨rfl, rfl⟩
        have hge := grownCap_ge w (xs.length + 1) cap (insRen.t 3)
        have hr0 := heap_alloc_new w (.cells (((xs.map (Value.int .i64)).take i).toArray ++ Builtin.zeroCells (Value.int .i64 0).cells (xs.length + 1 - i) ++ Builtin.zeroCells (Value.int .i64 0).cells (grownCap w (xs.length + 1) cap (insRen.t 3) - (xs.length + 1))) (insRen.t 3))
        have hr1 := row_setCells w.heap.size 3 [.int .i64 v] i _ (w.alloc (.cells (((xs.map (Value.int .i64)).take i).toArray ++ Builtin.zeroCells (Value.int .i64 0).cells (xs.length + 1 - i) ++ Builtin.zeroCells (Value.int .i64 0).cells (grownCap w (xs.length + 1) cap (insRen.t 3) - (xs.length + 1))) (insRen.t 3))).drew hr0
        have hr := row_setCells w.heap.size 3 ((xs.map (Value.int .i64)).drop i) (i + 1) _ ((w.alloc (.cells (((xs.map (Value.int .i64)).take i).toArray ++ Builtin.zeroCells (Value.int .i64 0).cells (xs.length + 1 - i) ++ Builtin.zeroCells (Value.int .i64 0).cells (grownCap w (xs.length + 1) cap (insRen.t 3) - (xs.length + 1))) (insRen.t 3))).drew.setCells w.heap.size i [.int .i64 v]).drew hr1
        have hz : (((xs.map (Value.int .i64)).take i).toArray ++ Builtin.zeroCells (Value.int .i64 0).cells (xs.length + 1 - i) ++ Builtin.zeroCells (Value.int .i64 0).cells (grownCap w (xs.length + 1) cap (insRen.t 3) - (xs.length + 1))).size = grownCap w (xs.length + 1) cap (insRen.t 3) := by
          simp [Builtin.zeroCells, Value.cells]
          omega
        generalize hA : (((xs.map (Value.int .i64)).take i).toArray ++ Builtin.zeroCells (Value.int .i64 0).cells (xs.length + 1 - i) ++ Builtin.zeroCells (Value.int .i64 0).cells (grownCap w (xs.length + 1) cap (insRen.t 3) - (xs.length + 1))) = A at *
        refine ⟨_, _, rfl, ⟨by simp, Or.inr ⟨w.heap.size, _, _, by rw [hln], hB, hr, by rw [hln]; exact hge, grownCap_le_maxLen _ _ _ _ hm, by rw [putFrom_size, putFrom_size, hz, Nat.mul_one], ?_⟩⟩, ?_⟩
        · have hdl : ((xs.map (Value.int .i64)).drop i).length = xs.length - i := by simp
          have hA1 : A.toList.take i = (xs.map (Value.int .i64)).take i := by
            rw [← hA]
            simp only [Array.toList_append, List.toList_toArray, List.append_assoc]
            rw [List.take_append_of_le_length (by simp; omega), List.take_of_length_le (by simp; omega)]
          rw [putFrom_list _ _ _ (by rw [putFrom_size, hz, hdl]; omega), putFrom_list _ _ _ (by rw [hz]; simp; omega), hmap, hln, hA1, hdl]
          rw [List.take_append_of_le_length (by simp; omega)]
          rw [List.take_append_of_le_length (l₁ := (xs.map (Value.int .i64)).take i ++ [Value.int .i64 v]) (by simp; omega)]
          rw [List.take_of_length_le (l := (xs.map (Value.int .i64)).take i ++ [Value.int .i64 v]) (by simp; omega)]
          rw [List.take_of_length_le (by simp; omega)]
        · have g1 := grown_setCells w.heap.size [.int .i64 v] i (w.alloc (.cells A (insRen.t 3))).drew
          have g2 := grown_setCells w.heap.size ((xs.map (Value.int .i64)).drop i) (i + 1) ((w.alloc (.cells A (insRen.t 3))).drew.setCells w.heap.size i [.int .i64 v]).drew
          have hsz : (w.alloc (.cells A (insRen.t 3))).drew.heap.size = w.heap.size + 1 := by simp
          refine ⟨g2.os.trans g1.os, g2.tape.trans g1.tape, g2.output.trans g1.output, ?_, fun k hk hne' => ?_⟩
          · have := g1.size; have := g2.size; have h3 : ((w.alloc (.cells A (insRen.t 3))).drew.setCells w.heap.size i [.int .i64 v]).drew.heap.size = ((w.alloc (.cells A (insRen.t 3))).drew.setCells w.heap.size i [.int .i64 v]).heap.size := rfl
            omega
          · have hne2 : some k ≠ some w.heap.size := by intro e; injection e with e; omega
            have h3 : ((w.alloc (.cells A (insRen.t 3))).drew.setCells w.heap.size i [.int .i64 v]).drew.heap = ((w.alloc (.cells A (insRen.t 3))).drew.setCells w.heap.size i [.int .i64 v]).heap := rfl
            exact (g2.block k (by have := g1.size; rw [h3]; omega) hne2).trans ((g1.block k (by omega) hne2).trans (Below.heap_alloc w _ k hk))
#print axioms slices_Insert1
end Go.Proofs.Ytdpdcjadedcglaa
