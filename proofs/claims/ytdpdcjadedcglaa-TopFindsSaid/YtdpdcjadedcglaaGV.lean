/- A group of texts (GV), each with its own conditions: those of each lemma. -/
import Derived.Shelf.Spec.SlicesInsert
import Derived.Shelf.Spec.SlicesInsertGrow
import Derived.Test.YtdpdcjadedcglaaGG
import Derived.Test.YtdpdcjadedcglaaGI
import Derived.Deep.RegionHeld3
import Derived.IntWalk
set_option linter.unusedVariables false
set_option maxRecDepth 20000
set_option linter.unusedSimpArgs false
namespace Go.Proofs.Ytdpdcjadedcglaa
open Go.RowKit
def insRen : Go.Shelf.Ren := ⟨fun k => if k = 21 then 95 else if k = 27 then 104 else if k = 28 then 105 else if k = 35 then 111 else if k = 39 then 113 else 0, fun k => if k = 0 then 0 else if k = 3 then 3 else if k = 4 then 4 else if k = 22 then 24 else 0, fun k => k⟩
theorem insLays : Lays2.n21 Try.prog insRen := {
  mixed := by kernel_rfl
  f21 := Try.func95.trans (by kernel_rfl)
  f27 := Try.func104.trans (by kernel_rfl)
  f28 := Try.func105.trans (by kernel_rfl)
  f35 := Try.func111.trans (by kernel_rfl)
  f39 := Try.func113.trans (by kernel_rfl)
  t0 := Try.underlying0
  a0 := Try.isAgg0
  z0 := Try.sizeOf0
  v0 := Try.zeroValue0
  t3 := Try.underlying3
  a3 := Try.isAgg3
  z3 := Try.sizeOf3
  v3 := Try.zeroValue3
  t4 := Try.underlying4
  a4 := Try.isAgg4
  z4 := Try.sizeOf4
  v4 := Try.zeroValue4
  t22 := Try.underlying24
  a22 := Try.isAgg24
  z22 := Try.sizeOf24
  v22 := Try.zeroValue24
  i3 := by kernel_rfl }
theorem ints_oneCell (xs : List Int) : ∀ v ∈ xs.map (Value.int .i64), v.oneCell' = true := by
  intro v hv
  rw [List.mem_map] at hv
  obtain ⟨x, _, rfl⟩ := hv
  rfl
set_option maxHeartbeats 1000000 in
theorem slices_Insert1 (xs : List Int) (i : Nat) (hi : i ≤ xs.length) (v : Int) (vb B : Nat) (ao : Option Addr) (cap : Nat) (w : World) (hO : OwnI w B ao cap xs) (hv : w.heap[vb]? = some (.cells #[.int .i64 v] 3 (0, 0))) (hne : rowOf ao ≠ some vb) (hl : xs.length ≤ 1000) (hB : B ≤ w.heap.size) :
    Calls Try.prog 95 #[.slice ao xs.length cap, .int .i64 i, .slice (some ⟨vb, 0, none⟩) 1 1] w fun e w' => ∃ ao' cap', e = .returned (.slice ao' (xs.length + 1) cap') ∧ OwnI w' B ao' cap' (xs.take i ++ v :: xs.drop i) ∧ w.grownBy w' (rowOf ao) := by
  obtain ⟨hlen, hrow⟩ := hO
  have hvs : ∀ j u, [Value.int .i64 v][j]? = some u → w.cell? ⟨vb, 0 + j, none⟩ = some u := fun j u hj => by
    rw [Nat.zero_add, cell_of_row w vb j _ _ _ hv]
    simpa using hj
  have h1v : ∀ u ∈ [Value.int .i64 v], u.oneCell' = true := fun u hu => by simp at hu; subst hu; rfl
  have hvb : vb < w.heap.size := lt_of_block hv
  have hmap : (xs.take i ++ v :: xs.drop i).map (Value.int .i64) = (xs.map (Value.int .i64)).take i ++ [.int .i64 v] ++ (xs.map (Value.int .i64)).drop i := by simp [List.map_take, List.map_drop]
  have hln : (xs.take i ++ v :: xs.drop i).length = xs.length + 1 := by simp; omega
  have hm : xs.length + 1 ≤ maxLen := by unfold maxLen; omega
  rcases hrow with ⟨hn1, hn2⟩ | ⟨g, c, cur, he, hBg, hg, hnc, hcm, hcs, htk⟩
  · injection hn1 with e1 e2 e3
    subst e1; subst e3
    obtain rfl : xs = [] := List.length_eq_zero_iff.1 hn2
    obtain rfl : i = 0 := by simpa using hi
    refine (Any2.slices_Insert_int_end_grow insLays none 0 0 vb 0 1 1 [] [.int .i64 v] w (by omega) (by omega) (by omega) (by omega) rfl rfl (fun _ => rfl) (fun a ha => by cases ha) hvs h1v).mono ?_
    rintro e w' ⟨rfl, rfl⟩
    have hr := heap_alloc_new w.drew (.cells (([] ++ [Value.int .i64 v]).toArray ++ Builtin.zeroCells (Value.int .i64 0).cells (grownCap w (0 + 1) 0 (insRen.t 3) - (0 + 1))) (insRen.t 3))
    refine ⟨_, _, rfl, ⟨by simp, Or.inr ⟨w.heap.size, _, _, rfl, hB, hr, grownCap_ge _ _ _ _, grownCap_le_maxLen _ _ _ _ (by unfold maxLen; omega), ?_, ?_⟩⟩, ?_⟩
    · have := grownCap_ge w 1 0 (insRen.t 3)
      simp [Builtin.zeroCells, Value.cells]
      omega
    · simp
    · exact ⟨rfl, rfl, rfl, by simp, fun k hk _ => Below.heap_alloc w.drew _ k hk⟩
  · injection he with e1 e2 e3
    subst e1; subst e3
    have hcell : ∀ j u, (xs.map (Value.int .i64))[j]? = some u → w.cell? ⟨g, 0 + j, none⟩ = some u := fun j u hj => by
      rw [Nat.zero_add, cell_of_row w g j _ _ _ hg]
      rw [← htk] at hj
      rw [List.getElem?_take] at hj
      split at hj
      · simpa using hj
      · cases hj
    have hcl : (xs.map (Value.int .i64)).length = xs.length := by simp
    have hsome : ∀ j, j < cap → (w.cell? ⟨g, j, none⟩).isSome = true := fun j hj => by
      rw [cell_of_row w g j _ _ _ hg]
      simp [hcs, hj]
    have hfz : ∀ j, w.frozen? ⟨g, j, none⟩ = false := fun j => frozen_of_row w g j _ _ hg
    have hgv : vb ≠ g := fun e => hne (by subst e; rfl)
    have htk' : cur.toList.take xs.length = xs.map (Value.int .i64) := by simpa using htk
    by_cases hroom : xs.length + 1 ≤ cap
    · by_cases hend : i = xs.length
      · subst hend
        refine (Any2.slices_Insert_int_end_room insLays g 0 xs.length cap vb 0 1 1 [.int .i64 v] w (by omega) hroom (by unfold maxLen at hcm; omega) rfl (fun j hj => hsome _ (by omega)) (fun j hj => hfz _) hvs h1v).mono ?_
        rintro e w' ⟨rfl, rfl⟩
        have hr := row_setCells g 3 [.int .i64 v] (0 + xs.length) cur w hg
        refine ⟨_, _, rfl, ⟨by simp, Or.inr ⟨g, cap, _, by rw [hln], hBg, hr, by rw [hln]; exact hroom, hcm, by rw [putFrom_size]; exact hcs, ?_⟩⟩, grown_setCells _ _ _ _⟩
        rw [putFrom_list _ _ _ (by simp; omega), hmap, hln]
        rw [List.take_append_of_le_length (by simp; omega)]
        rw [List.take_of_length_le (by simp; omega)]
        rw [Nat.zero_add, htk']
        rw [List.take_of_length_le (i := xs.length) (l := xs.map (Value.int .i64)) (by simp), List.drop_of_length_le (by simp), List.append_nil]
      · refine (Any2.slices_Insert_int_shift insLays g 0 xs.length cap i vb 0 1 1 (xs.map (Value.int .i64)) [.int .i64 v] w (by omega) (by omega) hroom (by unfold maxLen at hcm; omega) hgv hcl rfl hcell (fun j hj => by rw [Nat.zero_add]; exact hsome _ (by omega)) (fun j hj => hfz _) hvs (ints_oneCell xs) h1v 3 3 1 cap (by unfold World.shape?; rw [hv]; rfl) (by unfold World.shape?; rw [hg]; simp [hcs]) (by omega) (frozen_of_row w vb _ _ _ hv) (frozen_of_row w vb _ _ _ hv)).mono ?_
        rintro e w' ⟨rfl, rfl⟩
        have hr1 := row_setCells g 3 ((xs.map (Value.int .i64)).drop i) (0 + (i + 1)) cur w.drew hg
        have hr := row_setCells g 3 [.int .i64 v] (0 + i) _ _ hr1
        have hdl : ((xs.map (Value.int .i64)).drop i).length = xs.length - i := by simp
        refine ⟨_, _, rfl, ⟨by simp, Or.inr ⟨g, cap, _, by rw [hln], hBg, hr, by rw [hln]; exact hroom, hcm, by rw [putFrom_size, putFrom_size]; exact hcs, ?_⟩⟩, ?_⟩
        · rw [putFrom_list _ _ _ (by rw [putFrom_size]; simp; omega), putFrom_list _ _ _ (by rw [hdl]; omega), hmap, hln, hdl]
          have l1 : (cur.toList.take (0 + (i + 1))).length = i + 1 := by simp; omega
          have t1 : (cur.toList.take (0 + (i + 1)) ++ (xs.map (Value.int .i64)).drop i ++ cur.toList.drop (0 + (i + 1) + (xs.length - i))).take (0 + i) = (xs.map (Value.int .i64)).take i := by
            rw [List.append_assoc, List.take_append_of_le_length (by omega), List.take_take, ← htk', List.take_take]
            congr 1; omega
          have t2 : (cur.toList.take (0 + (i + 1)) ++ (xs.map (Value.int .i64)).drop i ++ cur.toList.drop (0 + (i + 1) + (xs.length - i))).drop (0 + i + [Value.int .i64 v].length) = (xs.map (Value.int .i64)).drop i ++ cur.toList.drop (0 + (i + 1) + (xs.length - i)) := by
            rw [List.append_assoc, List.drop_append_of_le_length (by simp; omega), List.drop_of_length_le (by simp; omega)]
            rfl
          rw [t1, t2, ← List.append_assoc]
          rw [List.take_append_of_le_length (by simp; omega), List.take_of_length_le (by simp; omega)]
        · have g1 := grown_setCells g ((xs.map (Value.int .i64)).drop i) (0 + (i + 1)) w.drew
          have g2 := grown_setCells g [.int .i64 v] (0 + i) (w.drew.setCells g (0 + (i + 1)) ((xs.map (Value.int .i64)).drop i))
          exact ⟨g2.os.trans g1.os, g2.tape.trans g1.tape, g2.output.trans g1.output, Nat.le_trans g1.size g2.size, fun k hk hne' => (g2.block k (Nat.lt_of_lt_of_le hk g1.size) hne').trans (g1.block k hk hne')⟩
    · by_cases hend : i = xs.length
      · subst hend
        refine (Any2.slices_Insert_int_end_grow insLays (some ⟨g, 0, none⟩) xs.length cap vb 0 1 1 (xs.map (Value.int .i64)) [.int .i64 v] w (by omega) hnc (by omega) (by omega) hcl rfl (fun h => by cases h) (fun a ha j u hj => by injection ha with ha; subst ha; rw [Addr.add_lit]; exact hcell j u hj) hvs h1v).mono ?_
        rintro e w' ⟨rfl, rfl⟩
        have hge := grownCap_ge w (xs.length + 1) cap (insRen.t 3)
        have hr := heap_alloc_new w.drew (.cells ((xs.map (Value.int .i64) ++ [Value.int .i64 v]).toArray ++ Builtin.zeroCells (Value.int .i64 0).cells (grownCap w (xs.length + 1) cap (insRen.t 3) - (xs.length + 1))) (insRen.t 3))
        refine ⟨_, _, rfl, ⟨by simp, Or.inr ⟨w.heap.size, _, _, by rw [hln], hB, hr, by rw [hln]; exact hge, grownCap_le_maxLen _ _ _ _ hm, ?_, ?_⟩⟩, ?_⟩
        · simp [Builtin.zeroCells, Value.cells]
          omega
        · rw [hmap, hln]
          simp only [Array.toList_append, List.toList_toArray]
          rw [List.take_append_of_le_length (by simp), List.take_of_length_le (by simp)]
          rw [List.take_of_length_le (i := xs.length) (l := xs.map (Value.int .i64)) (by simp), List.drop_of_length_le (by simp), List.append_nil]
        · exact ⟨rfl, rfl, rfl, by simp, fun k hk _ => Below.heap_alloc w.drew _ k hk⟩
      · refine (Any2.slices_Insert_int_grow insLays g 0 xs.length cap i vb 0 1 1 (xs.map (Value.int .i64)) [.int .i64 v] w (by omega) (by omega) hnc (by omega) (by omega) hcl rfl hcell hvs (ints_oneCell xs) h1v).mono ?_
        rintro e w' ⟨rfl, rfl⟩
        have hge := grownCap_ge w (xs.length + 1) cap (insRen.t 3)
        have hr0 := heap_alloc_new w (.cells (((xs.map (Value.int .i64)).take i).toArray ++ Builtin.zeroCells (Value.int .i64 0).cells (xs.length + 1 - i) ++ Builtin.zeroCells (Value.int .i64 0).cells (grownCap w (xs.length + 1) cap (insRen.t 3) - (xs.length + 1))) (insRen.t 3))
        have hr1 := row_setCells w.heap.size 3 [.int .i64 v] i _ (w.alloc (.cells (((xs.map (Value.int .i64)).take i).toArray ++ Builtin.zeroCells (Value.int .i64 0).cells (xs.length + 1 - i) ++ Builtin.zeroCells (Value.int .i64 0).cells (grownCap w (xs.length + 1) cap (insRen.t 3) - (xs.length + 1))) (insRen.t 3))).drew hr0
        have hr := row_setCells w.heap.size 3 ((xs.map (Value.int .i64)).drop i) (i + 1) _ ((w.alloc (.cells (((xs.map (Value.int .i64)).take i).toArray ++ Builtin.zeroCells (Value.int .i64 0).cells (xs.length + 1 - i) ++ Builtin.zeroCells (Value.int .i64 0).cells (grownCap w (xs.length + 1) cap (insRen.t 3) - (xs.length + 1))) (insRen.t 3))).drew.setCells w.heap.size i [.int .i64 v]).drew hr1
        have hz : (((xs.map (Value.int .i64)).take i).toArray ++ Builtin.zeroCells (Value.int .i64 0).cells (xs.length + 1 - i) ++ Builtin.zeroCells (Value.int .i64 0).cells (grownCap w (xs.length + 1) cap (insRen.t 3) - (xs.length + 1))).size = grownCap w (xs.length + 1) cap (insRen.t 3) := by
          simp [Builtin.zeroCells, Value.cells]
          omega
        generalize hA : (((xs.map (Value.int .i64)).take i).toArray ++ Builtin.zeroCells (Value.int .i64 0).cells (xs.length + 1 - i) ++ Builtin.zeroCells (Value.int .i64 0).cells (grownCap w (xs.length + 1) cap (insRen.t 3) - (xs.length + 1))) = A at *
        refine ⟨_, _, rfl, ⟨by simp, Or.inr ⟨w.heap.size, _, _, by rw [hln], hB, hr, by rw [hln]; exact hge, grownCap_le_maxLen _ _ _ _ hm, by rw [putFrom_size, putFrom_size, hz, Nat.mul_one], ?_⟩⟩, ?_⟩
        · have hdl : ((xs.map (Value.int .i64)).drop i).length = xs.length - i := by simp
          have hA1 : A.toList.take i = (xs.map (Value.int .i64)).take i := by
            rw [← hA]
            simp only [Array.toList_append, List.toList_toArray, List.append_assoc]
            rw [List.take_append_of_le_length (by simp; omega), List.take_of_length_le (by simp; omega)]
          rw [putFrom_list _ _ _ (by rw [putFrom_size, hz, hdl]; omega), putFrom_list _ _ _ (by rw [hz]; simp; omega), hmap, hln, hA1, hdl]
          rw [List.take_append_of_le_length (by simp; omega)]
          rw [List.take_append_of_le_length (l₁ := (xs.map (Value.int .i64)).take i ++ [Value.int .i64 v]) (by simp; omega)]
          rw [List.take_of_length_le (l := (xs.map (Value.int .i64)).take i ++ [Value.int .i64 v]) (by simp; omega)]
          rw [List.take_of_length_le (by simp; omega)]
        · have g1 := grown_setCells w.heap.size [.int .i64 v] i (w.alloc (.cells A (insRen.t 3))).drew
          have g2 := grown_setCells w.heap.size ((xs.map (Value.int .i64)).drop i) (i + 1) ((w.alloc (.cells A (insRen.t 3))).drew.setCells w.heap.size i [.int .i64 v]).drew
          have hsz : (w.alloc (.cells A (insRen.t 3))).drew.heap.size = w.heap.size + 1 := by simp
          refine ⟨g2.os.trans g1.os, g2.tape.trans g1.tape, g2.output.trans g1.output, ?_, fun k hk hne' => ?_⟩
          · have := g1.size; have := g2.size; have h3 : ((w.alloc (.cells A (insRen.t 3))).drew.setCells w.heap.size i [.int .i64 v]).drew.heap.size = ((w.alloc (.cells A (insRen.t 3))).drew.setCells w.heap.size i [.int .i64 v]).heap.size := rfl
            omega
          · have hne2 : some k ≠ some w.heap.size := by intro e; injection e with e; omega
            have h3 : ((w.alloc (.cells A (insRen.t 3))).drew.setCells w.heap.size i [.int .i64 v]).drew.heap = ((w.alloc (.cells A (insRen.t 3))).drew.setCells w.heap.size i [.int .i64 v]).heap := rfl
            exact (g2.block k (by have := g1.size; rw [h3]; omega) hne2).trans ((g1.block k (by omega) hne2).trans (Below.heap_alloc w _ k hk))
#print axioms slices_Insert1
end Go.Proofs.Ytdpdcjadedcglaa
namespace Go.Proofs.Ytdpdcjadedcglaa
open Go.RowKit Go.Sort
attribute [local go_sem ↓] run_max2 run_min2
attribute [local go_sem] eql_ints_nil eql_arrs_nil
section
variable {ops : Array Oper} {rest : List Oper} {o : Oper} {a : Act} {Q : Exit → Act → World → Prop} {w : World}
/-- a whole record is stored into a variable -/
theorem wpl_storeRow (hgd : o.guard = none) (ty : TypeId) (p x : Operand) (ho : o.op = .store ty p x) (b : Nat) (cells old : Array Value) (t : TypeId) (hp : a.eval p = .pointer (some ⟨b, 0, none⟩)) (hx : a.eval x = .agg cells) (hg : w.heap[b]? = some (.cells old t (0, 0)))
    (hi : (Try.prog.info? ty).map (·.size) = some cells.size) (hold : old.size = cells.size) (h1 : cells.all (·.oneCell') = true)
    (h : ∀ V, V.heap[b]? = some (.cells cells t (0, 0)) → Chg w V b → wpList Try.prog ops Q rest (a.put o.dst undef) V) : wpList Try.prog ops Q (o :: rest) a w :=
  wpList_store_row hgd ty p x ho b cells hp hx t old hg hi hold h1 (h _ (setRow_heap w b _ _ _ _ hg) (chg_setRow w b cells))
end
theorem keep5 {w : World} {b c o : Nat} {u0 u1 u2 u3 u4 v : Value} (h : w.cell? ⟨c, o, none⟩ = some v) (hne : c ≠ b) : (((((w.setCell ⟨b, 0, none⟩ u0).setCell ⟨b, 1, none⟩ u1).setCell ⟨b, 2, none⟩ u2).setCell ⟨b, 3, none⟩ u3).setCell ⟨b, 4, none⟩ u4).cell? ⟨c, o, none⟩ = some v := by
  have q : ∀ (w : World) (k : Nat) (u : Value), (w.setCell ⟨b, k, none⟩ u).cell? ⟨c, o, none⟩ = w.cell? ⟨c, o, none⟩ := fun w k u => World.cell?_setCell_other _ _ _ _ (by intro e; injection e with e; exact hne e.symm)
  rw [q, q, q, q, q, h]
theorem set5 {w : World} {b : Nat} {a0 a1 a2 a3 a4 : Value} {t : TypeId} (h : w.heap[b]? = some (.cells #[a0, a1, a2, a3, a4] t (0, 0))) (v0 v1 v2 v3 v4 : Value) :
    ∃ V, (((((w.setCell ⟨b, 0, none⟩ v0).setCell ⟨b, 1, none⟩ v1).setCell ⟨b, 2, none⟩ v2).setCell ⟨b, 3, none⟩ v3).setCell ⟨b, 4, none⟩ v4) = V ∧ V.heap[b]? = some (.cells #[v0, v1, v2, v3, v4] t (0, 0)) ∧ Chg w V b := by
  refine ⟨_, rfl, ?_, ((((chg_setCell _ _ _ _).trans (chg_setCell _ _ _ _)).trans (chg_setCell _ _ _ _)).trans (chg_setCell _ _ _ _)).trans (chg_setCell _ _ _ _)⟩
  have h0 := heap_setCell_same w b 0 _ _ v0 h
  have h1 := heap_setCell_same _ b 1 _ _ v1 h0
  have h2 := heap_setCell_same _ b 2 _ _ v2 h1
  have h3 := heap_setCell_same _ b 3 _ _ v3 h2
  have h4 := heap_setCell_same _ b 4 _ _ v4 h3
  simpa using h4
theorem row5 {w : World} {b : Nat} {a0 a1 a2 a3 a4 : Value} {t : TypeId} (h : w.heap[b]? = some (.cells #[a0, a1, a2, a3, a4] t (0, 0))) : w.cell? ⟨b, 0, none⟩ = some a0 ∧ w.cell? ⟨b, 1, none⟩ = some a1 ∧ w.cell? ⟨b, 2, none⟩ = some a2 ∧ w.cell? ⟨b, 3, none⟩ = some a3 ∧ w.cell? ⟨b, 4, none⟩ = some a4 :=
  ⟨cell_of_row w b 0 _ _ _ h, cell_of_row w b 1 _ _ _ h, cell_of_row w b 2 _ _ _ h, cell_of_row w b 3 _ _ _ h, cell_of_row w b 4 _ _ _ h⟩
theorem end_side {fn : Func} {p : Tmp} (hres : fn.results = #[.cell p 99]) {w : World} {b : Nat} {tmps : Array Value} {k s n i l : Value} (h : w.heap[b]? = some (.cells #[k, s, n, i, l] 99 (0, 0))) (hp : tmps.getD p undef = .pointer (some ⟨b, 0, none⟩)) :
    (results fn tmps).run Try.prog w = .ok (.agg #[k, s, n, i, l]) w :=
  results_cell_row hres tmps w b _ _ _ _ hp h Try.underlying99 rfl (by kernel_rfl)
def ExtPost (x : Arr) (sx : Option Addr) (cx : Nat) (nx : Option Addr) (mx : Nat) (ix : Option Addr) (jx : Nat) (s : List Int) (w : World) (e : Ending) (w' : World) : Prop :=
  ∃ so sc, e = .returned (.agg #[.int .i64 x.kind, .slice sx x.shape.length cx, .slice nx x.nums.length mx, .slice ix x.items.length jx, .slice so s.length sc]) ∧ IntsAt w' (fun b => w.heap.size ≤ b) so s ∧ Below w.heap.size w w'
set_option maxHeartbeats 4000000 in
theorem joining_extend (x : Arr) (sx : Option Addr) (cx : Nat) (nx : Option Addr) (mx : Nat) (ix : Option Addr) (jx : Nat) (like : List Int) (lo : Option Addr) (lc : Nat) (r ax : Nat) (hax : ax < r) (hr : r ≤ 9) (S : Nat → Prop) (w : World) (h : ArrAt w S x sx nx ix) (g : IntsAt w S lo like) (hx8 : x.shape.length ≤ 8) (hl8 : like.length ≤ 8) (hA : x.shape.length < r → ¬ (x.shape.length = 0 ∧ like.length = r) → ax ≤ x.shape.length) :
    Calls Try.prog 77 #[.agg #[.int .i64 x.kind, .slice sx x.shape.length cx, .slice nx x.nums.length mx, .slice ix x.items.length jx], .slice lo like.length lc, .int .i64 r, .int .i64 ax] w (ExtPost x sx cx nx mx ix jx (extSh x.shape like r ax) w) := by
  refine calls_post fun R' hR => ?_
  have h0 := hid h
  have g0 := hid g
  clear h g
  by_cases c : x.shape.length = 0 ∧ like.length = r
  case pos =>
    obtain ⟨c1, c2⟩ := c
    have cb1 : ((x.shape.length : Int) == 0) = true := by rw [c1]; rfl
    have cb2 : ((like.length : Int) == (r : Int)) = true := by rw [c2]; simp
    have hs : Hid (extSh x.shape like r ax = like.set ax 1) := hid (if_pos ⟨c1, c2⟩)
    have t1 : (0 : Int) ≤ (ax : Int) := by omega
    have t2 : (ax : Int) < (like.length : Int) := by omega
    have t3 : ax < like.length := by omega
    replace c1 := hid c1
    replace c2 := hid c2
    go_enter Try.func77, Try.ntmps77
    go_wp2_with fail
    generalize hEW : ((w).alloc (.cells #[.int .i64 x.kind, .slice sx x.shape.length cx, .slice nx x.nums.length mx, .slice ix x.items.length jx] 27)).alloc (.cells #[.int .i64 0, .slice none 0 0, .slice none 0 0, .slice none 0 0, .slice none 0 0] 99) = W
    have E := hid (env2 w S hEW)
    clear hEW
    replace E := hid ((E.out.arg h0.out).argI g0.out)
    (try simp only [List.cons_append, List.nil_append, List.set_cons_zero, List.set_cons_succ] at E)
    obtain ⟨q00, q01, q02, q03⟩ := (E.out.hdr 0 rfl).all
    go_upto_region 2 with (fail)
    clear q00 q01 q02 q03
    go_wp2_with fail
    refine (slices_Clone like _ _ _ _ (E.out.ints 3 rfl)).mono ?_
    rintro e w1 ⟨so, sc, rfl, hO, hb⟩
    replace E := hid (E.out.addRowI hO hb)
    clear hO hb
    (try simp only [List.cons_append, List.nil_append, List.set_cons_zero, List.set_cons_succ] at E)
    obtain ⟨gb, hso, -⟩ := (E.out.rowI 4 rfl).set (j := ax) t3
    subst hso
    go_upto_region 4 with (refine wplE_setI E.out 4 rfl rfl (.tmp 25) (.const (.int .i64 1)) rfl ax t3 1 (fun g e => by cases e; rfl) rfl ?_; intro V1 E1; clear E; have E := hid E1; clear E1; (try simp only [List.cons_append, List.nil_append, List.set_cons_zero, List.set_cons_succ] at E))
    replace E := hid (E.out.doneIF 4 rfl (by simp; omega))
    (try simp only [List.cons_append, List.nil_append, List.set_cons_zero, List.set_cons_succ] at E)
    obtain ⟨q00, q01, q02, q03⟩ := (E.out.hdr 0 rfl).all
    go_wp2_with (refine wpl_storeRow rfl 99 (.tmp 8) (.tmp 28) rfl _ _ _ _ rfl rfl (E.out.obj 1 rfl) (by kernel_rfl) rfl (by simp [Value.oneCell']) ?_; intro V2 HV CV; replace E := hid (E.out.chg 1 rfl CV HV); (try simp only [List.cons_append, List.nil_append, List.set_cons_zero, List.set_cons_succ] at E))
    have hln : (like.set ax 1).length = like.length := by simp
    refine bodyPost_ret (end_side rfl HV rfl) rfl (hR.out _ _ ⟨some ⟨gb, 0, none⟩, sc, by rw [hs.out, hln], by rw [hs.out]; exact (E.out.intsF 4 rfl).mono fun b _ q => q.2, E.out.ext⟩)
  case neg =>
    have hcb : ((x.shape.length : Int) == 0) = false ∨ (((x.shape.length : Int) == 0) = true ∧ ((like.length : Int) == (r : Int)) = false) := by
      by_cases q : x.shape.length = 0
      · right; refine ⟨by rw [q]; rfl, ?_⟩; rw [beq_eq_false_iff_ne]; intro q2; exact c ⟨q, by omega⟩
      · left; rw [beq_eq_false_iff_ne]; omega
    have hcd : ((x.shape.length : Int) < (r : Int)) ↔ x.shape.length < r := by omega
    by_cases d : x.shape.length < r
    case pos =>
      have hs : Hid (extSh x.shape like r ax = x.shape.take ax ++ 1 :: x.shape.drop ax) := hid (by unfold extSh; rw [if_neg c, if_pos d])
      have hax2 := hA d c
      have hln : Hid (x.shape.length + 1 = (x.shape.take ax ++ 1 :: x.shape.drop ax).length) := hid (by simp; omega)
      have dd : (x.shape.length : Int) < (r : Int) := by omega
      replace c := hid c
      clear hA hcd
      go_enter Try.func77, Try.ntmps77
      go_upto_region 1 with (fail)
      generalize hEW : ((w).alloc (.cells #[.int .i64 x.kind, .slice sx x.shape.length cx, .slice nx x.nums.length mx, .slice ix x.items.length jx] 27)).alloc (.cells #[.int .i64 0, .slice none 0 0, .slice none 0 0, .slice none 0 0, .slice none 0 0] 99) = W
      have E := hid (env2 w S hEW)
      clear hEW
      replace E := hid ((E.out.arg h0.out).argI g0.out)
      (try simp only [List.cons_append, List.nil_append, List.set_cons_zero, List.set_cons_succ] at E)
      obtain ⟨q00, q01, q02, q03⟩ := (E.out.hdr 0 rfl).all
      rcases hcb with hcb | ⟨hcb, hcb2⟩
      · go_wp2_with fail
        obtain ⟨y0, y1, y2, y3, y4⟩ := row5 (E.out.obj 1 rfl)
        have yf := frozen_of_row _ _ 0 _ _ (E.out.obj 1 rfl)
        go_region_held3 (fun w' => w'.cell? ⟨w.heap.size, 0, none⟩ = some (.int .i64 x.kind) ∧ w'.cell? ⟨w.heap.size, 1, none⟩ = some (.slice sx x.shape.length cx) ∧ w'.cell? ⟨w.heap.size, 2, none⟩ = some (.slice nx x.nums.length mx) ∧ w'.cell? ⟨w.heap.size, 3, none⟩ = some (.slice ix x.items.length jx)) ((first | with_reducible exact ⟨k0, k1, k2, k3⟩ | with_reducible exact ⟨l0, l1, l2, l3⟩ | with_reducible exact ⟨up_cell k0 (ext_alloc _ _), up_cell k1 (ext_alloc _ _), up_cell k2 (ext_alloc _ _), up_cell k3 (ext_alloc _ _)⟩ | with_reducible exact ⟨up_cell q00 (ext_alloc _ _), up_cell q01 (ext_alloc _ _), up_cell q02 (ext_alloc _ _), up_cell q03 (ext_alloc _ _)⟩ | with_reducible exact ⟨keep5 l0 (by omega), keep5 l1 (by omega), keep5 l2 (by omega), keep5 l3 (by omega)⟩ | with_reducible exact ⟨up_cell q00 (ext_drawn _), up_cell q01 (ext_drawn _), up_cell q02 (ext_drawn _), up_cell q03 (ext_drawn _)⟩ | with_reducible exact ⟨up_cell q00 ((ext_alloc _ _).trans (ext_drawn _)), up_cell q01 ((ext_alloc _ _).trans (ext_drawn _)), up_cell q02 ((ext_alloc _ _).trans (ext_drawn _)), up_cell q03 ((ext_alloc _ _).trans (ext_drawn _))⟩ | with_reducible exact ⟨up_cell q00 ((ext_drawn _).trans (ext_alloc _ _)), up_cell q01 ((ext_drawn _).trans (ext_alloc _ _)), up_cell q02 ((ext_drawn _).trans (ext_alloc _ _)), up_cell q03 ((ext_drawn _).trans (ext_alloc _ _))⟩ | (trace_state; fail))) ((first
          | (go_at_call 67; refine (slices_Clone x.shape _ _ _ _ ((E.out.arr 2 rfl).shape.up (by first | exact ext_drawn _ | exact (ext_alloc _ _).trans (ext_drawn _)))).mono ?_; rintro e w1 ⟨so, sc, rfl, hO, hb⟩; have hW1 : Ext W w1 := Ext.trans (by first | exact ext_drawn _ | exact (ext_alloc _ _).trans (ext_drawn _)) hb; have k0 := up_cell q00 hW1; have k1 := up_cell q01 hW1; have k2 := up_cell q02 hW1; have k3 := up_cell q03 hW1; replace hb := hid hb)
          | (go_at_call 95; refine (slices_Insert1 x.shape ax hax2 1 _ W.heap.size _ _ _ (by first | exact hO.base (by simp) | exact (hO.base (by simp)).alloc _) (by first | exact heap_alloc_new _ _ | exact (hb.out.block _ (by simp)).trans (heap_alloc_new W _)) (by intro q; have := hO.row _ q; simp at this <;> omega) (by omega) (by first | exact Below.size hW1 | (have := Below.size hW1; simp; omega))).mono ?_; rintro e w2 ⟨so2, sc2, rfl, hO2, hg2⟩; have hW2 : Ext W w2 := below_grownI (by first | exact hW1 | exact hW1.trans (ext_alloc _ _)) hg2 (fun k q => by have := hO.row _ q; simp at this <;> omega); have l0 := up_cell q00 hW2; have l1 := up_cell q01 hW2; have l2 := up_cell q02 hW2; have l3 := up_cell q03 hW2; have z0 := up_cell y0 hW2; have z1 := up_cell y1 hW2; have z2 := up_cell y2 hW2; have z3 := up_cell y3 hW2; have z4 := up_cell y4 hW2; have f0 := frozen_of_row w2 _ 0 _ _ (Ext.blk hW2 (E.out.obj 1 rfl)); have f1 := frozen_of_row w2 _ 1 _ _ (Ext.blk hW2 (E.out.obj 1 rfl)); have f2 := frozen_of_row w2 _ 2 _ _ (Ext.blk hW2 (E.out.obj 1 rfl)); have f3 := frozen_of_row w2 _ 3 _ _ (Ext.blk hW2 (E.out.obj 1 rfl)); have f4 := frozen_of_row w2 _ 4 _ _ (Ext.blk hW2 (E.out.obj 1 rfl)); clear q00 q01 q02 q03 y0 y1 y2 y3 y4 yf k0 k1 k2 k3; replace hO2 := hid hO2; replace hg2 := hid hg2; replace hO := hid hO; replace hW1 := hid hW1; replace hW2 := hid hW2)))
        all_goals
          replace E := hid ((E.out.up hW2.out).addIntsF (u := W) ((hO2.out.ints (by rw [← hln.out]; omega)).mono fun b _ hq => hq.1) E.out.blt E.out.size)
          (try simp only [List.cons_append, List.nil_append, List.set_cons_zero, List.set_cons_succ] at E)
          clear hO2 hg2 hW1 hW2 hO hb l0 l1 l2 l3 z0 z1 z2 z3 z4 f0 f1 f2 f3 f4
          obtain ⟨V, hV, HV, CV⟩ := set5 (E.out.obj 1 rfl) (.int .i64 x.kind) (.slice sx x.shape.length cx) (.slice nx x.nums.length mx) (.slice ix x.items.length jx) (.slice so2 (x.shape.length + 1) sc2)
          rw [hV]
          clear hV
          replace E := hid (E.out.chg 1 rfl CV HV)
          (try simp only [List.cons_append, List.nil_append, List.set_cons_zero, List.set_cons_succ] at E)
          go_wp2_with fail
          exact bodyPost_ret (end_side rfl HV rfl) rfl (hR.out _ _ ⟨so2, sc2, by rw [hs.out, ← hln.out], by rw [hs.out]; exact (E.out.intsF 4 rfl).mono fun b _ q => q.2, E.out.ext⟩)
      · go_wp2_with fail
        obtain ⟨y0, y1, y2, y3, y4⟩ := row5 (E.out.obj 1 rfl)
        have yf := frozen_of_row _ _ 0 _ _ (E.out.obj 1 rfl)
        go_region_held3 (fun w' => w'.cell? ⟨w.heap.size, 0, none⟩ = some (.int .i64 x.kind) ∧ w'.cell? ⟨w.heap.size, 1, none⟩ = some (.slice sx x.shape.length cx) ∧ w'.cell? ⟨w.heap.size, 2, none⟩ = some (.slice nx x.nums.length mx) ∧ w'.cell? ⟨w.heap.size, 3, none⟩ = some (.slice ix x.items.length jx)) ((first | with_reducible exact ⟨k0, k1, k2, k3⟩ | with_reducible exact ⟨l0, l1, l2, l3⟩ | with_reducible exact ⟨up_cell k0 (ext_alloc _ _), up_cell k1 (ext_alloc _ _), up_cell k2 (ext_alloc _ _), up_cell k3 (ext_alloc _ _)⟩ | with_reducible exact ⟨up_cell q00 (ext_alloc _ _), up_cell q01 (ext_alloc _ _), up_cell q02 (ext_alloc _ _), up_cell q03 (ext_alloc _ _)⟩ | with_reducible exact ⟨keep5 l0 (by omega), keep5 l1 (by omega), keep5 l2 (by omega), keep5 l3 (by omega)⟩ | with_reducible exact ⟨up_cell q00 (ext_drawn _), up_cell q01 (ext_drawn _), up_cell q02 (ext_drawn _), up_cell q03 (ext_drawn _)⟩ | with_reducible exact ⟨up_cell q00 ((ext_alloc _ _).trans (ext_drawn _)), up_cell q01 ((ext_alloc _ _).trans (ext_drawn _)), up_cell q02 ((ext_alloc _ _).trans (ext_drawn _)), up_cell q03 ((ext_alloc _ _).trans (ext_drawn _))⟩ | with_reducible exact ⟨up_cell q00 ((ext_drawn _).trans (ext_alloc _ _)), up_cell q01 ((ext_drawn _).trans (ext_alloc _ _)), up_cell q02 ((ext_drawn _).trans (ext_alloc _ _)), up_cell q03 ((ext_drawn _).trans (ext_alloc _ _))⟩ | (trace_state; fail))) ((first
          | (go_at_call 67; refine (slices_Clone x.shape _ _ _ _ ((E.out.arr 2 rfl).shape.up (by first | exact ext_drawn _ | exact (ext_alloc _ _).trans (ext_drawn _)))).mono ?_; rintro e w1 ⟨so, sc, rfl, hO, hb⟩; have hW1 : Ext W w1 := Ext.trans (by first | exact ext_drawn _ | exact (ext_alloc _ _).trans (ext_drawn _)) hb; have k0 := up_cell q00 hW1; have k1 := up_cell q01 hW1; have k2 := up_cell q02 hW1; have k3 := up_cell q03 hW1; replace hb := hid hb)
          | (go_at_call 95; refine (slices_Insert1 x.shape ax hax2 1 _ W.heap.size _ _ _ (by first | exact hO.base (by simp) | exact (hO.base (by simp)).alloc _) (by first | exact heap_alloc_new _ _ | exact (hb.out.block _ (by simp)).trans (heap_alloc_new W _)) (by intro q; have := hO.row _ q; simp at this <;> omega) (by omega) (by first | exact Below.size hW1 | (have := Below.size hW1; simp; omega))).mono ?_; rintro e w2 ⟨so2, sc2, rfl, hO2, hg2⟩; have hW2 : Ext W w2 := below_grownI (by first | exact hW1 | exact hW1.trans (ext_alloc _ _)) hg2 (fun k q => by have := hO.row _ q; simp at this <;> omega); have l0 := up_cell q00 hW2; have l1 := up_cell q01 hW2; have l2 := up_cell q02 hW2; have l3 := up_cell q03 hW2; have z0 := up_cell y0 hW2; have z1 := up_cell y1 hW2; have z2 := up_cell y2 hW2; have z3 := up_cell y3 hW2; have z4 := up_cell y4 hW2; have f0 := frozen_of_row w2 _ 0 _ _ (Ext.blk hW2 (E.out.obj 1 rfl)); have f1 := frozen_of_row w2 _ 1 _ _ (Ext.blk hW2 (E.out.obj 1 rfl)); have f2 := frozen_of_row w2 _ 2 _ _ (Ext.blk hW2 (E.out.obj 1 rfl)); have f3 := frozen_of_row w2 _ 3 _ _ (Ext.blk hW2 (E.out.obj 1 rfl)); have f4 := frozen_of_row w2 _ 4 _ _ (Ext.blk hW2 (E.out.obj 1 rfl)); clear q00 q01 q02 q03 y0 y1 y2 y3 y4 yf k0 k1 k2 k3; replace hO2 := hid hO2; replace hg2 := hid hg2; replace hO := hid hO; replace hW1 := hid hW1; replace hW2 := hid hW2)))
        all_goals
          replace E := hid ((E.out.up hW2.out).addIntsF (u := W) ((hO2.out.ints (by rw [← hln.out]; omega)).mono fun b _ hq => hq.1) E.out.blt E.out.size)
          (try simp only [List.cons_append, List.nil_append, List.set_cons_zero, List.set_cons_succ] at E)
          clear hO2 hg2 hW1 hW2 hO hb l0 l1 l2 l3 z0 z1 z2 z3 z4 f0 f1 f2 f3 f4
          obtain ⟨V, hV, HV, CV⟩ := set5 (E.out.obj 1 rfl) (.int .i64 x.kind) (.slice sx x.shape.length cx) (.slice nx x.nums.length mx) (.slice ix x.items.length jx) (.slice so2 (x.shape.length + 1) sc2)
          rw [hV]
          clear hV
          replace E := hid (E.out.chg 1 rfl CV HV)
          (try simp only [List.cons_append, List.nil_append, List.set_cons_zero, List.set_cons_succ] at E)
          go_wp2_with fail
          exact bodyPost_ret (end_side rfl HV rfl) rfl (hR.out _ _ ⟨so2, sc2, by rw [hs.out, ← hln.out], by rw [hs.out]; exact (E.out.intsF 4 rfl).mono fun b _ q => q.2, E.out.ext⟩)
    case neg =>
      have hs : Hid (extSh x.shape like r ax = x.shape) := hid (by unfold extSh; rw [if_neg c, if_neg d])
      have dd : ¬ (x.shape.length : Int) < (r : Int) := by omega
      replace c := hid c
      clear hA hcd
      go_enter Try.func77, Try.ntmps77
      go_upto_region 1 with (fail)
      generalize hEW : ((w).alloc (.cells #[.int .i64 x.kind, .slice sx x.shape.length cx, .slice nx x.nums.length mx, .slice ix x.items.length jx] 27)).alloc (.cells #[.int .i64 0, .slice none 0 0, .slice none 0 0, .slice none 0 0, .slice none 0 0] 99) = W
      have E := hid (env2 w S hEW)
      clear hEW
      replace E := hid ((E.out.arg h0.out).argI g0.out)
      (try simp only [List.cons_append, List.nil_append, List.set_cons_zero, List.set_cons_succ] at E)
      obtain ⟨q00, q01, q02, q03⟩ := (E.out.hdr 0 rfl).all
      rcases hcb with hcb | ⟨hcb, hcb2⟩
      · go_upto_region 7 with (fail)
        refine wp_region_mono_tail 5 (Sees W [(⟨w.heap.size, 0, none⟩, .int .i64 x.kind), (⟨w.heap.size, 1, none⟩, .slice sx x.shape.length cx), (⟨w.heap.size, 2, none⟩, .slice nx x.nums.length mx), (⟨w.heap.size, 3, none⟩, .slice ix x.items.length jx)]) [3] (fun k v u u' => match k with | 3 => ClonedI u x.shape (.returned v) u' | _ => False) (fun _ _ h e => h.up e) (Sees.start (all_cons (q00) (all_cons (q01) (all_cons (q02) (all_cons (q03) (all_nil)))))) (by kernel_rfl) (by kernel_rfl) ?_
        simp only [List.take_succ_cons, List.take_zero, List.drop_succ_cons, List.drop_zero]
        repeat (first | (refine m_plain (v := ?_) (by rfl) (by rfl) ?_ ?_; rotate_left; (intro wz hSw; obtain ⟨-, hSc⟩ := hSw; (try simp only [List.forall_mem_cons, List.forall_mem_nil, and_true] at hSc); go_simp; (first | done | with_reducible rfl)); (intro K hK; (try simp only [Act.put, List.setIfInBounds_toArray, List.set_cons_zero, List.set_cons_succ]); refine hK _ _ ?_; clear hK K)) | (refine m_skip (by rfl) (by rfl) ?_; (intro K hK; (try simp only [Act.put, List.setIfInBounds_toArray, List.set_cons_zero, List.set_cons_succ]); refine hK _ _ ?_; clear hK K)))
        refine m_make (by rfl) (by rfl) ?_ ?_
        · intro wz hSw hdep R hRz
          obtain ⟨hSe, hSc⟩ := hSw
          (try simp only [List.forall_mem_cons, List.forall_mem_nil, and_true] at hSc)
          unfold does
          (go_simp; refine Calls.mono (slices_Clone x.shape _ _ _ wz ((E.out.arr 2 rfl).shape.up hSe)) ?_; rintro e wq ⟨so, sc, rfl, hO, hb⟩; exact ⟨_, rfl, hRz.out _ _ ⟨hb, so, sc, rfl, hO, hb⟩⟩)
        intro v3 u3 x3 hG3 K hK
        have hF3 := hG3.fact
        (try dsimp only at hF3)
        obtain ⟨so, sc, he, hO, hb⟩ := hF3
        injection he with he
        subst he
        (try simp only [Act.put, List.setIfInBounds_toArray, List.set_cons_zero, List.set_cons_succ]); refine hK _ _ ?_; clear hK K
        repeat (first | (refine m_plain (v := ?_) (by rfl) (by rfl) ?_ ?_; rotate_left; (intro wz hSw; obtain ⟨-, hSc⟩ := hSw; (try simp only [List.forall_mem_cons, List.forall_mem_nil, and_true] at hSc); go_simp; (first | done | with_reducible rfl)); (intro K hK; (try simp only [Act.put, List.setIfInBounds_toArray, List.set_cons_zero, List.set_cons_succ]); refine hK _ _ ?_; clear hK K)) | (refine m_skip (by rfl) (by rfl) ?_; (intro K hK; (try simp only [Act.put, List.setIfInBounds_toArray, List.set_cons_zero, List.set_cons_succ]); refine hK _ _ ?_; clear hK K)))
        refine m_nil ?_
        intro wf hSf hAf
        replace E := hid ((E.out.up hSf.1).addIntsF (u := W) (((hO.ints (by omega)).mono fun b _ hq => Nat.le_trans (Below.size hG3.s.1) hq.1).up (hAf 3 _ rfl)) E.out.blt E.out.size)
        (try simp only [List.cons_append, List.nil_append, List.set_cons_zero, List.set_cons_succ] at E)
        clear hSf hAf hG3 hO hb
        refine wpl_storeRow (by rfl) 99 (.tmp 8) (.tmp 47) (by rfl) _ _ _ _ (by rfl) (by rfl) (E.out.obj 1 rfl) (by kernel_rfl) (by rfl) (by simp [Value.oneCell']) ?_
        intro V2 HV CV
        replace E := hid (E.out.chg 1 rfl CV HV)
        (try simp only [List.cons_append, List.nil_append, List.set_cons_zero, List.set_cons_succ] at E)
        go_wp2_with fail
        exact bodyPost_ret (end_side rfl HV rfl) rfl (hR.out _ _ ⟨so, sc, by rw [hs.out], by rw [hs.out]; exact (E.out.intsF 4 rfl).mono fun b _ q => q.2, E.out.ext⟩)
      · go_upto_region 7 with (fail)
        refine wp_region_mono_tail 5 (Sees W [(⟨w.heap.size, 0, none⟩, .int .i64 x.kind), (⟨w.heap.size, 1, none⟩, .slice sx x.shape.length cx), (⟨w.heap.size, 2, none⟩, .slice nx x.nums.length mx), (⟨w.heap.size, 3, none⟩, .slice ix x.items.length jx)]) [3] (fun k v u u' => match k with | 3 => ClonedI u x.shape (.returned v) u' | _ => False) (fun _ _ h e => h.up e) (Sees.start (all_cons (q00) (all_cons (q01) (all_cons (q02) (all_cons (q03) (all_nil)))))) (by kernel_rfl) (by kernel_rfl) ?_
        simp only [List.take_succ_cons, List.take_zero, List.drop_succ_cons, List.drop_zero]
        repeat (first | (refine m_plain (v := ?_) (by rfl) (by rfl) ?_ ?_; rotate_left; (intro wz hSw; obtain ⟨-, hSc⟩ := hSw; (try simp only [List.forall_mem_cons, List.forall_mem_nil, and_true] at hSc); go_simp; (first | done | with_reducible rfl)); (intro K hK; (try simp only [Act.put, List.setIfInBounds_toArray, List.set_cons_zero, List.set_cons_succ]); refine hK _ _ ?_; clear hK K)) | (refine m_skip (by rfl) (by rfl) ?_; (intro K hK; (try simp only [Act.put, List.setIfInBounds_toArray, List.set_cons_zero, List.set_cons_succ]); refine hK _ _ ?_; clear hK K)))
        refine m_make (by rfl) (by rfl) ?_ ?_
        · intro wz hSw hdep R hRz
          obtain ⟨hSe, hSc⟩ := hSw
          (try simp only [List.forall_mem_cons, List.forall_mem_nil, and_true] at hSc)
          unfold does
          (go_simp; refine Calls.mono (slices_Clone x.shape _ _ _ wz ((E.out.arr 2 rfl).shape.up hSe)) ?_; rintro e wq ⟨so, sc, rfl, hO, hb⟩; exact ⟨_, rfl, hRz.out _ _ ⟨hb, so, sc, rfl, hO, hb⟩⟩)
        intro v3 u3 x3 hG3 K hK
        have hF3 := hG3.fact
        (try dsimp only at hF3)
        obtain ⟨so, sc, he, hO, hb⟩ := hF3
        injection he with he
        subst he
        (try simp only [Act.put, List.setIfInBounds_toArray, List.set_cons_zero, List.set_cons_succ]); refine hK _ _ ?_; clear hK K
        repeat (first | (refine m_plain (v := ?_) (by rfl) (by rfl) ?_ ?_; rotate_left; (intro wz hSw; obtain ⟨-, hSc⟩ := hSw; (try simp only [List.forall_mem_cons, List.forall_mem_nil, and_true] at hSc); go_simp; (first | done | with_reducible rfl)); (intro K hK; (try simp only [Act.put, List.setIfInBounds_toArray, List.set_cons_zero, List.set_cons_succ]); refine hK _ _ ?_; clear hK K)) | (refine m_skip (by rfl) (by rfl) ?_; (intro K hK; (try simp only [Act.put, List.setIfInBounds_toArray, List.set_cons_zero, List.set_cons_succ]); refine hK _ _ ?_; clear hK K)))
        refine m_nil ?_
        intro wf hSf hAf
        replace E := hid ((E.out.up hSf.1).addIntsF (u := W) (((hO.ints (by omega)).mono fun b _ hq => Nat.le_trans (Below.size hG3.s.1) hq.1).up (hAf 3 _ rfl)) E.out.blt E.out.size)
        (try simp only [List.cons_append, List.nil_append, List.set_cons_zero, List.set_cons_succ] at E)
        clear hSf hAf hG3 hO hb
        refine wpl_storeRow (by rfl) 99 (.tmp 8) (.tmp 47) (by rfl) _ _ _ _ (by rfl) (by rfl) (E.out.obj 1 rfl) (by kernel_rfl) (by rfl) (by simp [Value.oneCell']) ?_
        intro V2 HV CV
        replace E := hid (E.out.chg 1 rfl CV HV)
        (try simp only [List.cons_append, List.nil_append, List.set_cons_zero, List.set_cons_succ] at E)
        go_wp2_with fail
        exact bodyPost_ret (end_side rfl HV rfl) rfl (hR.out _ _ ⟨so, sc, by rw [hs.out], by rw [hs.out]; exact (E.out.intsF 4 rfl).mono fun b _ q => q.2, E.out.ext⟩)
end Go.Proofs.Ytdpdcjadedcglaa
namespace Go.Proofs.Ytdpdcjadedcglaa
open Go.RowKit Go.Sort
attribute [local go_sem ↓] run_max2 run_min2
attribute [local go_sem] eql_ints_nil eql_arrs_nil
theorem end_none {fn : Func} (hres : fn.results = #[]) {w : World} {tmps : Array Value} : (results fn tmps).run Try.prog w = .ok (.tuple #[]) w := by
  simp [results, hres]
set_option maxRecDepth 100000 in
set_option maxHeartbeats 8000000 in
theorem side_addA (x : Arr) (sx : Option Addr) (cx : Nat) (nx : Option Addr) (mx : Nat) (ix : Option Addr) (jx : Nat) (so : Option Addr) (sl sc : Nat) (kk : Int) (oa : Option Addr) (ol oc : Nat) (na : Option Addr) (nc : Nat) (nums : List Int) (ia : Option Addr) (ic : Nat) (items : List Arr) (bo i n : Nat) (w0 : World) (S : Nat → Prop) (w : World) (M : List Fact)
    (E : Hid (Env w0 S w (.arr x sx nx ix :: .obj bo (.cells #[.int .i64 kk, .slice oa ol oc, .slice na (nums).length nc, .slice ia (items).length ic] 27 (0, 0)) :: .rowI na nc nums :: .rowA ia ic items :: M)))
    (hn : n ≤ 65536) (hi : i ≤ 65536) (c : ¬ x.shape.length = 0) (k3 : x.kind = 3) (hx0 : x.nums = []) (hsz' : i * n + n ≤ x.items.length) (hl2 : items.length + n ≤ 1000000) (hl3 : x.items.length ≤ 65536) (hci : x.items.length ≤ jx) (R' : Ending → World → Prop)
    (hR : Hid (∀ en w', (∃ na' nc' ia' ic', en = .returned (.tuple #[]) ∧
      Env w0 S w' (.obj bo (.cells #[.int .i64 kk, .slice oa ol oc, .slice na' (nums ++ addL x.shape x.nums i n).length nc', .slice ia' (items ++ addL x.shape x.items i n).length ic'] 27 (0, 0)) :: .rowI na' nc' (nums ++ addL x.shape x.nums i n) :: .rowA ia' ic' (items ++ addL x.shape x.items i n) :: M)) → R' en w')) :
    Calls Try.prog 79 #[.agg #[.int .i64 x.kind, .slice sx x.shape.length cx, .slice nx x.nums.length mx, .slice ix x.items.length jx, .slice so sl sc], .pointer (some ⟨bo, 0, none⟩), .int .i64 i, .int .i64 n] w R' := by
  have cb : ((x.shape.length : Int) == 0) = false := by rw [beq_eq_false_iff_ne]; omega
  have kb : (x.kind != 3) = false := by simp [k3]
  have hmul : ((i : Int) * (n : Int)) = ((i * n : Nat) : Int) := by simp
  have hib : i * n ≤ 65536 := by omega
  have eI : Hid (items ++ addL x.shape x.items i n = items ++ (x.items.drop (i * n)).take n) := hid (by unfold addL blkL; rw [if_neg c])
  have eN : Hid (nums ++ addL x.shape x.nums i n = nums) := hid (by unfold addL; rw [if_neg c, hx0, blkL_nil, List.append_nil])
  obtain ⟨m, hm⟩ : ∃ m, m = i * n := ⟨_, rfl⟩
  rw [← hm] at hmul hib hsz' eI
  have hwr : IntKind.i64.wrap ((i : Int) * (n : Int)) = (m : Int) := by rw [hmul]; exact IntWalk.i64_in _ (by omega)
  have hwr2 : IntKind.i64.wrap ((m : Int) + (n : Int)) = ((m + n : Nat) : Int) := by rw [show (m : Int) + (n : Int) = ((m + n : Nat) : Int) by simp]; exact IntWalk.i64_in _ (by omega)
  have c2 : (m : Int) ≤ ((m + n : Nat) : Int) := by omega
  have c3 : (0 : Int) ≤ (m : Int) := by omega
  have c4 : (m : Int).toNat = m := by omega
  have c5 : (0 : Int) ≤ ((m + n : Nat) : Int) := by omega
  have c6 : ((m + n : Nat) : Int) ≤ (jx : Int) := by omega
  have c7 : ((m + n : Nat) : Int).toNat = m + n := by omega
  have c8 : m + n - m = n := by omega
  replace hx0 := hid hx0
  replace c := hid c
  replace k3 := hid k3
  replace hm := hid hm
  go_enter Try.func79, Try.ntmps79
  go_upto_region 1 with (fail)
  generalize hEW : (w).alloc (.cells #[.int .i64 x.kind, .slice sx x.shape.length cx, .slice nx x.nums.length mx, .slice ix x.items.length jx, .slice so sl sc] 99) = W
  replace E := hid (envF1 E.out hEW)
  clear hEW
  obtain ⟨q00, q01, q02, q03, q04⟩ := row5 (E.out.obj 0 rfl)
  by_cases hnz : n = 0
  case pos =>
    have c9 : ¬ (0 : Int) < (n : Int) := by omega
    have hz : Hid (items ++ addL x.shape x.items i n = items) := hid (by rw [eI.out, hnz]; simp)
    replace hnz := hid hnz
    by_cases c1 : jx = m
    · go_upto_region 13 with (fail)
      go_loopw [91] (fun v wr => v = .int .i64 0 ∧ Env w0 S wr (.obj w.heap.size (.cells #[.int .i64 x.kind, .slice sx x.shape.length cx, .slice nx x.nums.length mx, .slice ix x.items.length jx, .slice so sl sc] 99 (0, 0)) :: .arr x sx nx ix :: .obj bo (.cells #[.int .i64 kk, .slice oa ol oc, .slice na (nums).length nc, .slice ia (items).length ic] 27 (0, 0)) :: .rowI na nc nums :: .rowA ia ic items :: M)) (fun _ _ => 0)
      case atStart => exact ⟨rfl, E.out⟩
      case round =>
        clear E
        obtain ⟨rfl, E⟩ := hrel
        go_wp2_with fail
        exact bodyPost_ret (end_none rfl) rfl (hR.out _ _ ⟨na, nc, ia, ic, rfl, by rw [eN.out, hz.out]; exact E.tl.tl⟩)
    · go_upto_region 13 with (fail)
      go_loopw [91] (fun v wr => v = .int .i64 0 ∧ Env w0 S wr (.obj w.heap.size (.cells #[.int .i64 x.kind, .slice sx x.shape.length cx, .slice nx x.nums.length mx, .slice ix x.items.length jx, .slice so sl sc] 99 (0, 0)) :: .arr x sx nx ix :: .obj bo (.cells #[.int .i64 kk, .slice oa ol oc, .slice na (nums).length nc, .slice ia (items).length ic] 27 (0, 0)) :: .rowI na nc nums :: .rowA ia ic items :: M)) (fun _ _ => 0)
      case atStart => exact ⟨rfl, E.out⟩
      case round =>
        clear E
        obtain ⟨rfl, E⟩ := hrel
        go_wp2_with fail
        exact bodyPost_ret (end_none rfl) rfl (hR.out _ _ ⟨na, nc, ia, ic, rfl, by rw [eN.out, hz.out]; exact E.tl.tl⟩)
  case neg =>
    have c1 : ¬ jx = m := by omega
    obtain ⟨b1, o1, _, _, _, _, _, _, hia, -⟩ := (E.out.arr 1 rfl).items.at (k := 0) (by omega)
    subst hia
    go_upto_region 13 with (fail)
    clear q00 q01 q02 q03 q04 hwr hwr2 c2 c3 c4 c5 c6 c7 c8
    go_loopw [91] (fun v wr => ∃ (k : Nat) (ia' : Option Addr) (ic' : Nat) (cur : List Arr), k ≤ n ∧ v = .int .i64 k ∧ Hid (cur = items ++ (x.items.drop m).take k) ∧ Env w0 S wr (.obj w.heap.size (.cells #[.int .i64 x.kind, .slice sx x.shape.length cx, .slice nx x.nums.length mx, .slice (some ⟨b1, o1, none⟩) x.items.length jx, .slice so sl sc] 99 (0, 0)) :: .arr x sx nx (some ⟨b1, o1, none⟩) :: .obj bo (.cells #[.int .i64 kk, .slice oa ol oc, .slice na (nums).length nc, .slice ia' (cur).length ic'] 27 (0, 0)) :: .rowI na nc nums :: .rowA ia' ic' cur :: M)) (fun v _ => n - (intOf v).toNat)
    case atStart => exact ⟨0, ia, ic, items, Nat.zero_le _, rfl, hid (by simp), E.out⟩
    case round =>
      clear E
      obtain ⟨k, ia', ic', cur, hk, rfl, hcur, E⟩ := hrel
      replace E := hid E
      by_cases hlt : k < n
      · obtain ⟨b2, o2, sz, cz, nz, mz, iz, jz, hia, hS1, hbl1, e0, e1, e2, e3, hz⟩ := (E.out.arr 1 rfl).items.at (k := m + k) (by omega)
        injection hia with hia
        injection hia with hia1 hia2
        subst hia1
        subst hia2
        have hstep : Hid (cur ++ [x.items[m + k]'(by omega)] = items ++ (x.items.drop m).take (k + 1)) := hid (by rw [hcur.out, List.append_assoc]; congr 1; rw [List.take_succ_eq_append_getElem (by simp; omega)]; simp)
        generalize x.items[m + k]'(by omega) = z at e0 e1 e2 e3 hz hstep
        rw [show o1 + (m + k) * 4 = o1 + m * 4 + k * 4 by omega] at e0 e1 e2 e3
        have hll : cur.length + 1 ≤ 1759218604441 := by rw [hcur.out, List.length_append]; simp; omega
        replace E := hid (E.out.addArr hz (fun _ _ h => h)).front
        clear hz
        have k1 : (0 : Int) ≤ (k : Int) := by omega
        have k2 : (k : Int) < (n : Int) := by omega
        go_upto_region 15 with (refine wpl_store4 rfl (.tmp 10) (.tmp 94) rfl _ rfl rfl ((E.out.alloc _).front.hdr 0 rfl) ?_; intro V1 HV CV; replace E := hid ((E.out.alloc _).front.chg 0 rfl CV HV); clear CV HV; (try simp only [List.cons_append, List.nil_append, List.set_cons_zero, List.set_cons_succ] at E))
        generalize wr.heap.size = by1 at E ⊢
        obtain ⟨q00, q01, q02, q03⟩ := (E.out.hdr 0 rfl).all
        obtain ⟨q40, q41, q42, q43⟩ := (E.out.hdr 4 rfl).all
        refine wp_region_mono_any 8 (Sees V1 [(⟨by1, 0, none⟩, .int .i64 z.kind), (⟨by1, 1, none⟩, .slice sz z.shape.length cz), (⟨by1, 2, none⟩, .slice nz z.nums.length mz), (⟨by1, 3, none⟩, .slice iz z.items.length jz), (⟨bo, 3, none⟩, .slice ia' cur.length ic')]) [5, 7] (fun k v u u' => match k with | 5 => RetA u (fun b => V1.heap.size ≤ b) z (.returned v) u' | 7 => v = .slice (some ⟨u.heap.size, 0, none⟩) 1 1 ∧ u' = u.alloc (.cells #[.int .i64 0, .slice none 0 0, .slice none 0 0, .slice none 0 0] 27) | _ => False) (fun _ _ h e => h.up e) (Sees.start (all_cons (q00) (all_cons (q01) (all_cons (q02) (all_cons (q03) (all_cons (q43) (all_nil))))))) (by kernel_rfl) (by kernel_rfl) ?_
        simp only [List.take_succ_cons, List.take_zero, List.drop_succ_cons, List.drop_zero]
        repeat (first | (refine m_plain (v := ?_) (by rfl) (by rfl) ?_ ?_; rotate_left; (intro wz hSw; obtain ⟨-, hSc⟩ := hSw; (try simp only [List.forall_mem_cons, List.forall_mem_nil, and_true] at hSc); go_simp; (first | done | with_reducible rfl)); (intro K hK; (try simp only [Act.put, List.setIfInBounds_toArray, List.set_cons_zero, List.set_cons_succ]); refine hK _ _ ?_; clear hK K)) | (refine m_skip (by rfl) (by rfl) ?_; (intro K hK; (try simp only [Act.put, List.setIfInBounds_toArray, List.set_cons_zero, List.set_cons_succ]); refine hK _ _ ?_; clear hK K)))
        refine m_make (by rfl) (by rfl) ?_ ?_
        · intro wz hSw hdep R hRz
          obtain ⟨hSe, hSc⟩ := hSw
          (try simp only [List.forall_mem_cons, List.forall_mem_nil, and_true] at hSc)
          unfold does
          (go_simp; refine Calls.mono (array_Clone z _ _ _ _ _ _ _ wz ((E.out.arr 1 rfl).up hSe)) ?_; rintro e wq ⟨ta, tc, tn, tnc, ti, tic, rfl, hq, hqb⟩; exact ⟨_, rfl, hRz.out _ _ ⟨hqb, ta, tc, tn, tnc, ti, tic, rfl, ArrAt.mono (fun b _ hb => Nat.le_trans (Below.size hSe) hb) z hq, hqb⟩⟩)
        intro v5 u5 x5 hG5 K hK
        have hF5 := hG5.fact
        (try dsimp only at hF5)
        obtain ⟨s5, c5, n5, m5, i5, j5, he, hA5, hb5⟩ := hF5
        injection he with he
        subst he
        (try simp only [Act.put, List.setIfInBounds_toArray, List.set_cons_zero, List.set_cons_succ]); refine hK _ _ ?_; clear hK K
        repeat (first | (refine m_plain (v := ?_) (by rfl) (by rfl) ?_ ?_; rotate_left; (intro wz hSw; obtain ⟨-, hSc⟩ := hSw; (try simp only [List.forall_mem_cons, List.forall_mem_nil, and_true] at hSc); go_simp; (first | done | with_reducible rfl)); (intro K hK; (try simp only [Act.put, List.setIfInBounds_toArray, List.set_cons_zero, List.set_cons_succ]); refine hK _ _ ?_; clear hK K)) | (refine m_skip (by rfl) (by rfl) ?_; (intro K hK; (try simp only [Act.put, List.setIfInBounds_toArray, List.set_cons_zero, List.set_cons_succ]); refine hK _ _ ?_; clear hK K)))
        refine m_make (by rfl) (by rfl) ?_ ?_
        · intro wz hSw hdep R hRz
          obtain ⟨hSe, hSc⟩ := hSw
          (try simp only [List.forall_mem_cons, List.forall_mem_nil, and_true] at hSc)
          unfold does
          (go_simp; exact hRz.out _ _ ⟨ext_alloc _ _, rfl, rfl⟩)
        intro v7 u7 x7 hG7 K hK
        have hF7 := hG7.fact
        (try dsimp only at hF7)
        obtain ⟨rfl, rfl⟩ := hF7
        (try simp only [Act.put, List.setIfInBounds_toArray, List.set_cons_zero, List.set_cons_succ]); refine hK _ _ ?_; clear hK K
        repeat (first | (refine m_plain (v := ?_) (by rfl) (by rfl) ?_ ?_; rotate_left; (intro wz hSw; obtain ⟨-, hSc⟩ := hSw; (try simp only [List.forall_mem_cons, List.forall_mem_nil, and_true] at hSc); go_simp; (first | done | with_reducible rfl)); (intro K hK; (try simp only [Act.put, List.setIfInBounds_toArray, List.set_cons_zero, List.set_cons_succ]); refine hK _ _ ?_; clear hK K)) | (refine m_skip (by rfl) (by rfl) ?_; (intro K hK; (try simp only [Act.put, List.setIfInBounds_toArray, List.set_cons_zero, List.set_cons_succ]); refine hK _ _ ?_; clear hK K)))
        refine m_nil ?_
        intro wf hSf hAf
        have oZ := hid (box_items (z := .zero) (T := fun b => V1.heap.size ≤ b) (sc := 0) (nc := 0) (ic := 0) (hAf 7 _ rfl) (Below.size hG7.s.1) (zero_at _ _ none none none))
        have hfr : Hid (∀ b, V1.heap.size ≤ b → Tst w0 S _ b) := hid (fun b hb => E.out.fresh (Ext.refl _) hb)
        replace E := hid (((E.out.up hSf.1).addArr (ArrAt.up hA5 (hAf 5 _ rfl)) (fun b _ hb => hfr.out b hb)).front)
        clear hSf hAf hG7 hG5 hA5 hb5 q00 q01 q02 q03 q40 q41 q42 q43 e0 e1 e2 e3
        refine any_step 8 (by kernel_rfl) (by rfl) ?_
        refine wplE_appA E.out 7 (by rfl) (by rfl) (.tmp 98) (.tmp 102) (by rfl) (by rfl) _ _ 1 [.zero] (by rfl) oZ.out (fun b _ hb => hfr.out b hb) hll ?_
        intro V1 ia2 ic2 E1
        clear E oZ hfr
        have E := hid E1
        clear E1
        (try simp only [List.cons_append, List.nil_append, List.set_cons_zero, List.set_cons_succ] at E)
        refine any_nil ?_
        obtain ⟨g5, hg5⟩ := (E.out.rowA 7 rfl).at (by simp)
        subst hg5
        have ti0 : (0 : Int) ≤ (cur.length : Int) := Int.natCast_nonneg _
        have ti1 : (cur.length : Int) < ((cur ++ [Arr.zero]).length : Int) := by simp; omega
        refine any_take 11 (v := .pointer (some ⟨bo, 0, none⟩)) (by kernel_rfl) (by kernel_rfl) (by kernel_rfl) (by rfl) (by rfl) (by intro wz; go_simp <;> (try (intro hh; omega))) (by intro c a w h; exact h) ?_
        refine any_take 12 (v := .pointer (some ⟨bo, 3, none⟩)) (by kernel_rfl) (by kernel_rfl) (by kernel_rfl) (by rfl) (by rfl) (by intro wz; go_simp <;> (try (intro hh; omega))) (by intro c a w h; exact h) ?_
        refine any_take 9 (v := .pointer (some ⟨g5, cur.length * 4, none⟩)) (by kernel_rfl) (by kernel_rfl) (by kernel_rfl) (by rfl) (by rfl) (by intro wz; go_simp <;> (try (intro hh; omega))) (by intro c a w h; exact h) ?_
        refine any_two 10 13 (by kernel_rfl) (by rfl) (by rfl) ?_ ?_
        · refine wplE_last E.out 7 (by rfl) (by rfl) (.tmp 104) (.tmp 100) (by rfl) (fun g e => by cases e; rfl) (by rfl) (E.out.arr 0 rfl) ?_
          intro V2 E1
          clear E
          have E := hid E1
          clear E1
          (try simp only [List.cons_append, List.nil_append, List.set_cons_zero, List.set_cons_succ] at E)
          refine any_nil ?_
          refine any_step 13 (by kernel_rfl) (by rfl) ?_
          refine wpl_store3 (by rfl) (.tmp 106) (.tmp 103) (by rfl) bo (by rfl) (by rfl) (E.out.hdr 5 rfl) ?_
          intro V HV CV
          replace E := hid (E.out.chg 5 rfl CV HV)
          (try simp only [List.cons_append, List.nil_append, List.set_cons_zero, List.set_cons_succ] at E)
          refine any_nil ?_
          refine any_done (by kernel_rfl) ?_
          replace E := hid E.out.tl
          go_wp2_with fail
          replace E := hid E.out.tl.tl
          go_roundw
          case rel => exact ⟨k + 1, by omega, by go_num, _, ic2, cur ++ [z], hstep, by rw [show (cur ++ [z]).length = (cur ++ [Arr.zero]).length by simp]; exact E.out⟩
          case measure => simp [intOf]; omega
        · refine wpl_store3 (by rfl) (.tmp 106) (.tmp 103) (by rfl) bo (by rfl) (by rfl) (E.out.hdr 5 rfl) ?_
          intro V HV CV
          replace E := hid (E.out.chg 5 rfl CV HV)
          (try simp only [List.cons_append, List.nil_append, List.set_cons_zero, List.set_cons_succ] at E)
          refine any_nil ?_
          refine any_step 10 (by kernel_rfl) (by rfl) ?_
          refine wplE_last E.out 7 (by rfl) (by rfl) (.tmp 104) (.tmp 100) (by rfl) (fun g e => by cases e; rfl) (by rfl) (E.out.arr 0 rfl) ?_
          intro V2 E1
          clear E
          have E := hid E1
          clear E1
          (try simp only [List.cons_append, List.nil_append, List.set_cons_zero, List.set_cons_succ] at E)
          refine any_nil ?_
          refine any_done (by kernel_rfl) ?_
          replace E := hid E.out.tl
          go_wp2_with fail
          replace E := hid E.out.tl.tl
          go_roundw
          case rel => exact ⟨k + 1, by omega, by go_num, _, ic2, cur ++ [z], hstep, by rw [show (cur ++ [z]).length = (cur ++ [Arr.zero]).length by simp]; exact E.out⟩
          case measure => simp [intOf]; omega
      · obtain rfl : k = n := by omega
        go_wp2_with fail
        exact bodyPost_ret (end_none rfl) rfl (hR.out _ _ ⟨na, nc, ia', ic', rfl, by rw [eN.out, eI.out, ← hcur.out]; exact E.out.tl.tl⟩)
end Go.Proofs.Ytdpdcjadedcglaa
namespace Go.Proofs.Ytdpdcjadedcglaa
open Go.RowKit Go.Sort
attribute [local go_sem ↓] run_max2 run_min2
attribute [local go_sem] eql_ints_nil eql_arrs_nil
theorem mul_bd {a b : Int} (h0 : 0 ≤ a) (h1 : a ≤ 65536) (g0 : 0 ≤ b) (g1 : b ≤ 262145) : 0 ≤ a * b ∧ a * b ≤ 17179934720 := by
  refine ⟨Int.mul_nonneg h0 g0, ?_⟩
  have := Int.mul_le_mul h1 g1 g0 (by omega)
  omega
set_option maxHeartbeats 4000000 in
theorem side_weight (x : Arr) (sx : Option Addr) (cx : Nat) (nx : Option Addr) (mx : Nat) (ix : Option Addr) (jx : Nat) (s : List Int) (so : Option Addr) (sc : Nat) (S : Nat → Prop) (w : World) (h : ArrAt w S x sx nx ix) (g : IntsAt w S so s) (hs : shapeB s = true) :
    Calls Try.prog 78 #[.agg #[.int .i64 x.kind, .slice sx x.shape.length cx, .slice nx x.nums.length mx, .slice ix x.items.length jx, .slice so s.length sc]] w fun e w' => e = .returned (.int .i64 (exW x s)) ∧ Below w.heap.size w w' := by
  refine calls_post fun R' hR => ?_
  have h0 := hid h
  have g0 := hid g
  clear h g
  by_cases c : x.shape.length = 0
  case pos =>
    have cb : ((x.shape.length : Int) == 0) = true := by rw [c]; rfl
    have hW := hid (show exW x s = cnt s * wtS x from if_pos c)
    have hz := hid (sizeS_true hs)
    have hc := cnt_le hs
    have hw := wtS_bd x
    have hm := mul_bd hc.1 hc.2 hw.1 hw.2
    obtain ⟨p, hp⟩ : ∃ p, p = cnt s := ⟨_, rfl⟩
    obtain ⟨q, hq⟩ : ∃ q, q = wtS x := ⟨_, rfl⟩
    rw [← hp, ← hq] at hm hW
    rw [← hp] at hz
    replace hp := hid hp
    replace hq := hid hq
    replace c := hid c
    go_enter Try.func78, Try.ntmps78
    go_upto_region 1 with (fail)
    generalize hEW : (w).alloc (.cells #[.int .i64 x.kind, .slice sx x.shape.length cx, .slice nx x.nums.length mx, .slice ix x.items.length jx, .slice so s.length sc] 99) = W
    have E := hid (env1 w S hEW)
    clear hEW
    replace E := hid ((E.out.arg h0.out).argI g0.out)
    (try simp only [List.cons_append, List.nil_append, List.set_cons_zero, List.set_cons_succ] at E)
    obtain ⟨q00, q01, q02, q03, q04⟩ := row5 (E.out.obj 0 rfl)
    go_upto_region 2 with (fail)
    have hwr : IntKind.i64.wrap (p * q) = p * q := IntWalk.i64_in _ (by omega)
    obtain ⟨T, hT1, hT2, hT3⟩ := E.out.tw
    refine wp_region_mono (Sees W [(⟨w.heap.size, 0, none⟩, .int .i64 x.kind), (⟨w.heap.size, 1, none⟩, .slice sx x.shape.length cx), (⟨w.heap.size, 2, none⟩, .slice nx x.nums.length mx), (⟨w.heap.size, 3, none⟩, .slice ix x.items.length jx), (⟨w.heap.size, 4, none⟩, .slice so s.length sc)]) [2, 5] (fun k v u u' => match k with | 2 => v = .int .i64 p | 5 => v = .int .i64 q | _ => False) (fun _ _ h e => h.up e) (Sees.start (all_cons (q00) (all_cons (q01) (all_cons (q02) (all_cons (q03) (all_cons (q04) (all_nil))))))) (by kernel_rfl) (by kernel_rfl) ?_
    repeat (first | (refine m_plain (v := ?_) (by rfl) (by rfl) ?_ ?_; rotate_left; (intro wz hSw; obtain ⟨-, hSc⟩ := hSw; (try simp only [List.forall_mem_cons, List.forall_mem_nil, and_true] at hSc); go_simp; (first | done | with_reducible rfl)); (intro K hK; (try simp only [Act.put, List.setIfInBounds_toArray, List.set_cons_zero, List.set_cons_succ]); refine hK _ _ ?_; clear hK K)) | (refine m_skip (by rfl) (by rfl) ?_; (intro K hK; (try simp only [Act.put, List.setIfInBounds_toArray, List.set_cons_zero, List.set_cons_succ]); refine hK _ _ ?_; clear hK K)))
    refine m_make (by rfl) (by rfl) ?_ ?_
    · intro wz hSw hdep R hRz
      obtain ⟨hSe, hSc⟩ := hSw
      (try simp only [List.forall_mem_cons, List.forall_mem_nil, and_true] at hSc)
      unfold does
      (go_simp; refine Calls.mono (shape_Size s _ _ _ wz ((E.out.ints 2 rfl).mono (fun b _ h => hT1 b h) |>.up hSe)) ?_; rintro e wq ⟨rfl, rfl⟩; rw [hz.out]; exact ⟨_, rfl, hRz.out _ _ ⟨Ext.refl _, rfl⟩⟩)
    intro v2 u2 x2 hG2 K hK
    have hF2 := hG2.fact
    (try dsimp only at hF2)
    subst hF2
    (try simp only [Act.put, List.setIfInBounds_toArray, List.set_cons_zero, List.set_cons_succ]); refine hK _ _ ?_; clear hK K
    repeat (first | (refine m_plain (v := ?_) (by rfl) (by rfl) ?_ ?_; rotate_left; (intro wz hSw; obtain ⟨-, hSc⟩ := hSw; (try simp only [List.forall_mem_cons, List.forall_mem_nil, and_true] at hSc); go_simp; (first | done | with_reducible rfl)); (intro K hK; (try simp only [Act.put, List.setIfInBounds_toArray, List.set_cons_zero, List.set_cons_succ]); refine hK _ _ ?_; clear hK K)) | (refine m_skip (by rfl) (by rfl) ?_; (intro K hK; (try simp only [Act.put, List.setIfInBounds_toArray, List.set_cons_zero, List.set_cons_succ]); refine hK _ _ ?_; clear hK K)))
    refine m_make (by rfl) (by rfl) ?_ ?_
    · intro wz hSw hdep R hRz
      obtain ⟨hSe, hSc⟩ := hSw
      (try simp only [List.forall_mem_cons, List.forall_mem_nil, and_true] at hSc)
      unfold does
      (go_simp; refine Calls.mono (array_Weight x _ _ _ _ _ _ _ wz (ArrAt.up (ArrAt.mono (fun b _ h => hT1 b h) _ (E.out.arr 1 rfl)) hSe)) ?_; rintro e wq ⟨rfl, hqb⟩; rw [hq.out.symm]; exact ⟨_, rfl, hRz.out _ _ ⟨hqb, rfl⟩⟩)
    intro v5 u5 x5 hG5 K hK
    have hF5 := hG5.fact
    (try dsimp only at hF5)
    subst hF5
    (try simp only [Act.put, List.setIfInBounds_toArray, List.set_cons_zero, List.set_cons_succ]); refine hK _ _ ?_; clear hK K
    repeat (first | (refine m_plain (v := ?_) (by rfl) (by rfl) ?_ ?_; rotate_left; (intro wz hSw; obtain ⟨-, hSc⟩ := hSw; (try simp only [List.forall_mem_cons, List.forall_mem_nil, and_true] at hSc); go_simp; (first | done | with_reducible rfl)); (intro K hK; (try simp only [Act.put, List.setIfInBounds_toArray, List.set_cons_zero, List.set_cons_succ]); refine hK _ _ ?_; clear hK K)) | (refine m_skip (by rfl) (by rfl) ?_; (intro K hK; (try simp only [Act.put, List.setIfInBounds_toArray, List.set_cons_zero, List.set_cons_succ]); refine hK _ _ ?_; clear hK K)))
    refine m_nil ?_
    intro wf hSf hAf
    have ef := hid (E.out.up hSf.1).ext
    clear hSf hAf hwr
    go_wp2_with fail
    exact hR.out _ _ ⟨by rw [hW.out]; rfl, ef.out⟩
  case neg =>
    have cb : ((x.shape.length : Int) == 0) = false := by rw [beq_eq_false_iff_ne]; omega
    have hW := hid (show exW x s = wtS x from if_neg c)
    replace c := hid c
    go_enter Try.func78, Try.ntmps78
    go_upto_region 1 with (fail)
    generalize hEW : (w).alloc (.cells #[.int .i64 x.kind, .slice sx x.shape.length cx, .slice nx x.nums.length mx, .slice ix x.items.length jx, .slice so s.length sc] 99) = W
    have E := hid (env1 w S hEW)
    clear hEW
    replace E := hid ((E.out.arg h0.out).argI g0.out)
    (try simp only [List.cons_append, List.nil_append, List.set_cons_zero, List.set_cons_succ] at E)
    obtain ⟨q00, q01, q02, q03, q04⟩ := row5 (E.out.obj 0 rfl)
    go_wp2_with fail
    refine (array_Weight x _ _ _ _ _ _ _ _ (E.out.arr 1 rfl)).mono ?_
    rintro e w1 ⟨rfl, hb⟩
    replace E := hid (E.out.up hb)
    clear hb
    go_wp2_with fail
    exact hR.out _ _ ⟨by rw [hW.out]; rfl, E.out.ext⟩
set_option maxRecDepth 100000 in
set_option maxHeartbeats 8000000 in
theorem side_add (x : Arr) (sx : Option Addr) (cx : Nat) (nx : Option Addr) (mx : Nat) (ix : Option Addr) (jx : Nat) (so : Option Addr) (sl sc : Nat) (kk : Int) (oa : Option Addr) (ol oc : Nat) (na : Option Addr) (nc : Nat) (nums : List Int) (ia : Option Addr) (ic : Nat) (items : List Arr) (bo i n : Nat) (w0 : World) (S : Nat → Prop) (w : World) (M : List Fact)
    (E : Env w0 S w (.obj bo (.cells #[.int .i64 kk, .slice oa ol oc, .slice na (nums).length nc, .slice ia (items).length ic] 27 (0, 0)) :: .rowI na nc nums :: .rowA ia ic items :: M)) (h : ArrAt w (Tst w0 S (.obj bo (.cells #[.int .i64 kk, .slice oa ol oc, .slice na (nums).length nc, .slice ia (items).length ic] 27 (0, 0)) :: .rowI na nc nums :: .rowA ia ic items :: M)) x sx nx ix)
    (hn : n ≤ 65536) (hi : i ≤ 65536) (hs1 : x.shape.length = 0 → x.nums.length + x.items.length = 1) (hk3 : x.kind = 3 → x.nums = []) (hkn : x.kind ≠ 3 → x.items = []) (hs2 : x.shape.length ≠ 0 → i * n + n ≤ x.nums.length + x.items.length)
    (hl1 : nums.length + n ≤ 1000000) (hl2 : items.length + n ≤ 1000000) (hl3 : x.nums.length + x.items.length ≤ 65536) (hcn : x.nums.length ≤ mx) (hci : x.items.length ≤ jx) :
    Calls Try.prog 79 #[.agg #[.int .i64 x.kind, .slice sx x.shape.length cx, .slice nx x.nums.length mx, .slice ix x.items.length jx, .slice so sl sc], .pointer (some ⟨bo, 0, none⟩), .int .i64 i, .int .i64 n] w fun en w' => ∃ na' nc' ia' ic', en = .returned (.tuple #[]) ∧
      Env w0 S w' (.obj bo (.cells #[.int .i64 kk, .slice oa ol oc, .slice na' (nums ++ addL x.shape x.nums i n).length nc', .slice ia' (items ++ addL x.shape x.items i n).length ic'] 27 (0, 0)) :: .rowI na' nc' (nums ++ addL x.shape x.nums i n) :: .rowA ia' ic' (items ++ addL x.shape x.items i n) :: M) := by
  refine calls_post fun R' hR => ?_
  replace E := hid (E.addArr h (fun _ _ q => q)).front
  clear h
  by_cases c : x.shape.length = 0
  case pos =>
    have cb : ((x.shape.length : Int) == 0) = true := by rw [c]; rfl
    by_cases k3 : x.kind = 3
    case pos =>
      have kb : (x.kind == 3) = true := by simp [k3]
      have hx0 := hk3 k3
      have hx1 : x.items.length = 1 := by have := hs1 c; rw [hx0] at this; simpa using this
      obtain ⟨z, hd⟩ : ∃ d, x.items = [d] := List.length_eq_one_iff.1 hx1
      have eI : Hid (items ++ addL x.shape x.items i n = items ++ repL [z] n) := hid (by unfold addL; rw [if_pos c, hd])
      have eN : Hid (nums ++ addL x.shape x.nums i n = nums) := hid (by unfold addL; rw [if_pos c, hx0, repL_nil, List.append_nil])
      have hgd' : Hid (∀ h : 0 < x.items.length, x.items[0]'h = z) := hid (fun h => by simp [hd])
      have hx2 : (0 : Int) < (x.items.length : Int) := by omega
      have hx3 : 0 < x.items.length := by omega
      replace hx0 := hid hx0
      replace hd := hid hd
      replace c := hid c
      replace k3 := hid k3
      clear hs1 hk3 hkn hs2 hx1
      go_enter Try.func79, Try.ntmps79
      go_upto_region 1 with (fail)
      generalize hEW : (w).alloc (.cells #[.int .i64 x.kind, .slice sx x.shape.length cx, .slice nx x.nums.length mx, .slice ix x.items.length jx, .slice so sl sc] 99) = W
      replace E := hid (envF1 E.out hEW)
      clear hEW
      obtain ⟨q00, q01, q02, q03, q04⟩ := row5 (E.out.obj 0 rfl)
      go_upto_region 3 with (fail)
      clear q00 q01 q02 q03 q04
      go_loopw [17] (fun v wr => ∃ (k : Nat) (ia' : Option Addr) (ic' : Nat), k ≤ n ∧ v = .int .i64 k ∧ Env w0 S wr (.obj w.heap.size (.cells #[.int .i64 x.kind, .slice sx x.shape.length cx, .slice nx x.nums.length mx, .slice ix x.items.length jx, .slice so sl sc] 99 (0, 0)) :: .arr x sx nx ix :: .obj bo (.cells #[.int .i64 kk, .slice oa ol oc, .slice na (nums).length nc, .slice ia' (items ++ repL [z] k).length ic'] 27 (0, 0)) :: .rowI na nc nums :: .rowA ia' ic' (items ++ repL [z] k) :: M)) (fun v _ => n - (intOf v).toNat)
      case atStart => exact ⟨0, ia, ic, Nat.zero_le _, rfl, by simpa [repL] using E.out⟩
      case round =>
        clear E
        obtain ⟨k, ia', ic', hk, rfl, E⟩ := hrel
        replace E := hid E
        by_cases hlt : k < n
        · obtain ⟨b1, o1, sz, cz, nz, mz, iz, jz, hia, hS1, hbl1, e0, e1, e2, e3, hz⟩ := (E.out.arr 1 rfl).items.at (k := 0) hx3
          rw [hgd'.out hx3] at e0 e1 e2 e3 hz
          simp only [Nat.zero_mul, Nat.add_zero] at e0 e1 e2 e3
          subst hia
          obtain ⟨q00, q01, q02, q03, q04⟩ := row5 (E.out.obj 0 rfl)
          obtain ⟨q20, q21, q22, q23⟩ := (E.out.hdr 2 rfl).all
          have hll : (items ++ repL [z] k).length + 1 ≤ 1759218604441 := by rw [List.length_append, repL_len]; simp; omega
          have hstep : Hid (items ++ repL [z] (k + 1) = (items ++ repL [z] k) ++ [z]) := hid (by rw [repL, List.append_assoc])
          generalize items ++ repL [z] k = cur at E q23 hll hstep ⊢
          have hz0 := hid hz
          clear hz
          go_upto_region 5 with (fail)
          refine wp_region_mono_any 12 (Sees wr [(⟨w.heap.size, 3, none⟩, .slice (some ⟨b1, o1, none⟩) x.items.length jx), (⟨b1, o1, none⟩, .int .i64 z.kind), (⟨b1, o1 + 1, none⟩, .slice sz z.shape.length cz), (⟨b1, o1 + 2, none⟩, .slice nz z.nums.length mz), (⟨b1, o1 + 3, none⟩, .slice iz z.items.length jz), (⟨bo, 3, none⟩, .slice ia' cur.length ic')]) [9, 11] (fun k v u u' => match k with | 9 => RetA u (fun b => wr.heap.size ≤ b) z (.returned v) u' | 11 => v = .slice (some ⟨u.heap.size, 0, none⟩) 1 1 ∧ u' = u.alloc (.cells #[.int .i64 0, .slice none 0 0, .slice none 0 0, .slice none 0 0] 27) | _ => False) (fun _ _ h e => h.up e) (Sees.start (all_cons (q03) (all_cons (e0) (all_cons (e1) (all_cons (e2) (all_cons (e3) (all_cons (q23) (all_nil)))))))) (by kernel_rfl) (by kernel_rfl) ?_
          simp only [List.take_succ_cons, List.take_zero, List.drop_succ_cons, List.drop_zero]
          repeat (first | (refine m_plain (v := ?_) (by rfl) (by rfl) ?_ ?_; rotate_left; (intro wz hSw; obtain ⟨-, hSc⟩ := hSw; (try simp only [List.forall_mem_cons, List.forall_mem_nil, and_true] at hSc); go_simp; (first | done | with_reducible rfl)); (intro K hK; (try simp only [Act.put, List.setIfInBounds_toArray, List.set_cons_zero, List.set_cons_succ]); refine hK _ _ ?_; clear hK K)) | (refine m_skip (by rfl) (by rfl) ?_; (intro K hK; (try simp only [Act.put, List.setIfInBounds_toArray, List.set_cons_zero, List.set_cons_succ]); refine hK _ _ ?_; clear hK K)))
          refine m_make (by rfl) (by rfl) ?_ ?_
          · intro wz hSw hdep R hRz
            obtain ⟨hSe, hSc⟩ := hSw
            (try simp only [List.forall_mem_cons, List.forall_mem_nil, and_true] at hSc)
            unfold does
            (go_simp; refine Calls.mono (array_Clone z _ _ _ _ _ _ _ wz (hz0.out.up hSe)) ?_; rintro e wq ⟨ta, tc, tn, tnc, ti, tic, rfl, hq, hqb⟩; exact ⟨_, rfl, hRz.out _ _ ⟨hqb, ta, tc, tn, tnc, ti, tic, rfl, ArrAt.mono (fun b _ hb => Nat.le_trans (Below.size hSe) hb) z hq, hqb⟩⟩)
          intro v9 u9 x9 hG9 K hK
          have hF9 := hG9.fact
          (try dsimp only at hF9)
          obtain ⟨s9, c9, n9, m9, i9, j9, he, hA9, hb9⟩ := hF9
          injection he with he
          subst he
          (try simp only [Act.put, List.setIfInBounds_toArray, List.set_cons_zero, List.set_cons_succ]); refine hK _ _ ?_; clear hK K
          repeat (first | (refine m_plain (v := ?_) (by rfl) (by rfl) ?_ ?_; rotate_left; (intro wz hSw; obtain ⟨-, hSc⟩ := hSw; (try simp only [List.forall_mem_cons, List.forall_mem_nil, and_true] at hSc); go_simp; (first | done | with_reducible rfl)); (intro K hK; (try simp only [Act.put, List.setIfInBounds_toArray, List.set_cons_zero, List.set_cons_succ]); refine hK _ _ ?_; clear hK K)) | (refine m_skip (by rfl) (by rfl) ?_; (intro K hK; (try simp only [Act.put, List.setIfInBounds_toArray, List.set_cons_zero, List.set_cons_succ]); refine hK _ _ ?_; clear hK K)))
          refine m_make (by rfl) (by rfl) ?_ ?_
          · intro wz hSw hdep R hRz
            obtain ⟨hSe, hSc⟩ := hSw
            (try simp only [List.forall_mem_cons, List.forall_mem_nil, and_true] at hSc)
            unfold does
            (go_simp; exact hRz.out _ _ ⟨ext_alloc _ _, rfl, rfl⟩)
          intro v11 u11 x11 hG11 K hK
          have hF11 := hG11.fact
          (try dsimp only at hF11)
          obtain ⟨rfl, rfl⟩ := hF11
          (try simp only [Act.put, List.setIfInBounds_toArray, List.set_cons_zero, List.set_cons_succ]); refine hK _ _ ?_; clear hK K
          repeat (first | (refine m_plain (v := ?_) (by rfl) (by rfl) ?_ ?_; rotate_left; (intro wz hSw; obtain ⟨-, hSc⟩ := hSw; (try simp only [List.forall_mem_cons, List.forall_mem_nil, and_true] at hSc); go_simp; (first | done | with_reducible rfl)); (intro K hK; (try simp only [Act.put, List.setIfInBounds_toArray, List.set_cons_zero, List.set_cons_succ]); refine hK _ _ ?_; clear hK K)) | (refine m_skip (by rfl) (by rfl) ?_; (intro K hK; (try simp only [Act.put, List.setIfInBounds_toArray, List.set_cons_zero, List.set_cons_succ]); refine hK _ _ ?_; clear hK K)))
          refine m_nil ?_
          intro wf hSf hAf
          have oZ := hid (box_items (z := .zero) (T := fun b => wr.heap.size ≤ b) (sc := 0) (nc := 0) (ic := 0) (hAf 11 _ rfl) (Below.size hG11.s.1) (zero_at _ _ none none none))
          have hfr : Hid (∀ b, wr.heap.size ≤ b → Tst w0 S _ b) := hid (fun b hb => E.out.fresh (Ext.refl _) hb)
          replace E := hid (((E.out.up hSf.1).addArr (ArrAt.up hA9 (hAf 9 _ rfl)) (fun b _ hb => hfr.out b hb)).front)
          clear hSf hAf hG11 hG9 hA9 hb9 q00 q01 q02 q03 q04 q20 q21 q22 q23 e0 e1 e2 e3
          refine any_step 12 (by kernel_rfl) (by rfl) ?_
          refine wplE_appA E.out 5 (by rfl) (by rfl) (.tmp 26) (.tmp 34) (by rfl) (by rfl) _ _ 1 [.zero] (by rfl) oZ.out (fun b _ hb => hfr.out b hb) hll ?_
          intro V1 ia2 ic2 E1
          clear E oZ hfr
          have E := hid E1
          clear E1
          (try simp only [List.cons_append, List.nil_append, List.set_cons_zero, List.set_cons_succ] at E)
          refine any_nil ?_
          obtain ⟨g5, hg5⟩ := (E.out.rowA 5 rfl).at (by simp)
          subst hg5
          have ti0 : (0 : Int) ≤ (cur.length : Int) := Int.natCast_nonneg _
          have ti1 : (cur.length : Int) < ((cur ++ [Arr.zero]).length : Int) := by simp; omega
          refine any_take 15 (v := .pointer (some ⟨bo, 0, none⟩)) (by kernel_rfl) (by kernel_rfl) (by kernel_rfl) (by rfl) (by rfl) (by intro wz; go_simp <;> (try (intro hh; omega))) (by intro c a w h; exact h) ?_
          refine any_take 16 (v := .pointer (some ⟨bo, 3, none⟩)) (by kernel_rfl) (by kernel_rfl) (by kernel_rfl) (by rfl) (by rfl) (by intro wz; go_simp <;> (try (intro hh; omega))) (by intro c a w h; exact h) ?_
          refine any_take 13 (v := .pointer (some ⟨g5, cur.length * 4, none⟩)) (by kernel_rfl) (by kernel_rfl) (by kernel_rfl) (by rfl) (by rfl) (by intro wz; go_simp <;> (try (intro hh; omega))) (by intro c a w h; exact h) ?_
          refine any_two 14 17 (by kernel_rfl) (by rfl) (by rfl) ?_ ?_
          · refine wplE_last E.out 5 (by rfl) (by rfl) (.tmp 36) (.tmp 32) (by rfl) (fun g e => by cases e; rfl) (by rfl) (E.out.arr 0 rfl) ?_
            intro V2 E1
            clear E
            have E := hid E1
            clear E1
            (try simp only [List.cons_append, List.nil_append, List.set_cons_zero, List.set_cons_succ] at E)
            refine any_nil ?_
            refine any_step 17 (by kernel_rfl) (by rfl) ?_
            refine wpl_store3 (by rfl) (.tmp 38) (.tmp 35) (by rfl) bo (by rfl) (by rfl) (E.out.hdr 3 rfl) ?_
            intro V HV CV
            replace E := hid (E.out.chg 3 rfl CV HV)
            (try simp only [List.cons_append, List.nil_append, List.set_cons_zero, List.set_cons_succ] at E)
            refine any_nil ?_
            refine any_done (by kernel_rfl) ?_
            replace E := hid E.out.tl
            go_wp2_with fail
            go_roundw
            case rel => exact ⟨k + 1, _, ic2, by omega, by go_num, by rw [hstep.out, show (cur ++ [z]).length = (cur ++ [Arr.zero]).length by simp]; exact E.out⟩
            case measure => simp [intOf]; omega
          · refine wpl_store3 (by rfl) (.tmp 38) (.tmp 35) (by rfl) bo (by rfl) (by rfl) (E.out.hdr 3 rfl) ?_
            intro V HV CV
            replace E := hid (E.out.chg 3 rfl CV HV)
            (try simp only [List.cons_append, List.nil_append, List.set_cons_zero, List.set_cons_succ] at E)
            refine any_nil ?_
            refine any_step 14 (by kernel_rfl) (by rfl) ?_
            refine wplE_last E.out 5 (by rfl) (by rfl) (.tmp 36) (.tmp 32) (by rfl) (fun g e => by cases e; rfl) (by rfl) (E.out.arr 0 rfl) ?_
            intro V2 E1
            clear E
            have E := hid E1
            clear E1
            (try simp only [List.cons_append, List.nil_append, List.set_cons_zero, List.set_cons_succ] at E)
            refine any_nil ?_
            refine any_done (by kernel_rfl) ?_
            replace E := hid E.out.tl
            go_wp2_with fail
            go_roundw
            case rel => exact ⟨k + 1, _, ic2, by omega, by go_num, by rw [hstep.out, show (cur ++ [z]).length = (cur ++ [Arr.zero]).length by simp]; exact E.out⟩
            case measure => simp [intOf]; omega
        · obtain rfl : k = n := by omega
          go_wp2_with fail
          exact bodyPost_ret (end_none rfl) rfl (hR.out _ _ ⟨na, nc, ia', ic', rfl, by rw [eN.out, eI.out]; exact E.out.tl.tl⟩)
    case neg =>
      have kb : (x.kind == 3) = false := by simp [k3]
      have hx0 := hkn k3
      have hx1 : x.nums.length = 1 := by have := hs1 c; rw [hx0] at this; simpa using this
      obtain ⟨d, hd⟩ : ∃ d, x.nums = [d] := List.length_eq_one_iff.1 hx1
      have eN : Hid (nums ++ addL x.shape x.nums i n = nums ++ repL [d] n) := hid (by unfold addL; rw [if_pos c, hd])
      have eI : Hid (items ++ addL x.shape x.items i n = items) := hid (by unfold addL; rw [if_pos c, hx0, repL_nil, List.append_nil])
      have hgd : x.nums.getD 0 0 = d := by rw [hd]; rfl
      have hx2 : (0 : Int) < (x.nums.length : Int) := by omega
      have hx3 : 0 < x.nums.length := by omega
      replace hx0 := hid hx0
      replace hd := hid hd
      replace c := hid c
      replace k3 := hid k3
      clear hs1 hk3 hkn hs2 hx1
      go_enter Try.func79, Try.ntmps79
      go_upto_region 1 with (fail)
      generalize hEW : (w).alloc (.cells #[.int .i64 x.kind, .slice sx x.shape.length cx, .slice nx x.nums.length mx, .slice ix x.items.length jx, .slice so sl sc] 99) = W
      replace E := hid (envF1 E.out hEW)
      clear hEW
      obtain ⟨q00, q01, q02, q03, q04⟩ := row5 (E.out.obj 0 rfl)
      go_upto_region 3 with (fail)
      clear q00 q01 q02 q03 q04
      go_loopw [17] (fun v wr => ∃ (k : Nat) (na' : Option Addr) (nc' : Nat), k ≤ n ∧ v = .int .i64 k ∧ Env w0 S wr (.obj w.heap.size (.cells #[.int .i64 x.kind, .slice sx x.shape.length cx, .slice nx x.nums.length mx, .slice ix x.items.length jx, .slice so sl sc] 99 (0, 0)) :: .arr x sx nx ix :: .obj bo (.cells #[.int .i64 kk, .slice oa ol oc, .slice na' (nums ++ repL [d] k).length nc', .slice ia (items).length ic] 27 (0, 0)) :: .rowI na' nc' (nums ++ repL [d] k) :: .rowA ia ic items :: M)) (fun v _ => n - (intOf v).toNat)
      case atStart => exact ⟨0, na, nc, Nat.zero_le _, rfl, by simpa [repL] using E.out⟩
      case round =>
        clear E
        obtain ⟨k, na', nc', hk, rfl, E⟩ := hrel
        replace E := hid E
        by_cases hlt : k < n
        · obtain ⟨b1, o1, hna, hbl1, hS1, hc⟩ := (E.out.arr 1 rfl).nums.at (k := 0) (by omega)
          rw [hgd, Nat.add_zero] at hc
          subst hna
          obtain ⟨q00, q01, q02, q03, q04⟩ := row5 (E.out.obj 0 rfl)
          obtain ⟨q20, q21, q22, q23⟩ := (E.out.hdr 2 rfl).all
          have hll : (nums ++ repL [d] k).length + 1 ≤ 17592186044416 := by rw [List.length_append, repL_len]; simp; omega
          have hstep : Hid (nums ++ repL [d] (k + 1) = (nums ++ repL [d] k) ++ [d]) := hid (by rw [repL, List.append_assoc])
          generalize nums ++ repL [d] k = cur at E q22 hll hstep ⊢
          go_upto_region 6 with (fail)
          refine wp_region_edge 0 11 (by kernel_rfl) (by kernel_rfl) (fun o _ v c a w h => by cases hd : o.dst <;> (rw [hd] at h; exact h)) _ rfl 11 (Sees wr [(⟨w.heap.size, 2, none⟩, .slice (some ⟨b1, o1, none⟩) x.nums.length mx), (⟨b1, o1, none⟩, .int .i64 d), (⟨bo, 2, none⟩, .slice na' cur.length nc')]) [10] (fun k v u u' => match k with | 10 => v = .slice (some ⟨u.heap.size, 0, none⟩) 1 1 ∧ u' = u.alloc (.cells (([d] : List Int).map (Value.int .i64)).toArray 3) | _ => False) (fun _ _ h e => h.up e) (Sees.start (all_cons (q02) (all_cons (hc) (all_cons (q22) (all_nil))))) (by kernel_rfl) ?_
          simp only [withEdge, List.modify_succ_cons, List.modify_zero_cons, List.push_toArray, List.cons_append, List.nil_append]
          simp only [List.take_succ_cons, List.take_zero, List.drop_succ_cons, List.drop_zero]
          repeat (first | (refine m_plain (v := ?_) (by rfl) (by rfl) ?_ ?_; rotate_left; (intro wz hSw; obtain ⟨-, hSc⟩ := hSw; (try simp only [List.forall_mem_cons, List.forall_mem_nil, and_true] at hSc); go_simp; (first | done | with_reducible rfl)); (intro K hK; (try simp only [Act.put, List.setIfInBounds_toArray, List.set_cons_zero, List.set_cons_succ]); refine hK _ _ ?_; clear hK K)) | (refine m_skip (by rfl) (by rfl) ?_; (intro K hK; (try simp only [Act.put, List.setIfInBounds_toArray, List.set_cons_zero, List.set_cons_succ]); refine hK _ _ ?_; clear hK K)))
          refine m_make (by rfl) (by rfl) ?_ ?_
          · intro wz hSw hdep R hRz
            obtain ⟨hSe, hSc⟩ := hSw
            (try simp only [List.forall_mem_cons, List.forall_mem_nil, and_true] at hSc)
            unfold does
            (go_simp; exact hRz.out _ _ ⟨ext_alloc _ _, rfl, rfl⟩)
          intro v10 u10 x10 hG10 K hK
          have hF10 := hG10.fact
          (try dsimp only at hF10)
          obtain ⟨rfl, rfl⟩ := hF10
          (try simp only [Act.put, List.setIfInBounds_toArray, List.set_cons_zero, List.set_cons_succ]); refine hK _ _ ?_; clear hK K
          repeat (first | (refine m_plain (v := ?_) (by rfl) (by rfl) ?_ ?_; rotate_left; (intro wz hSw; obtain ⟨-, hSc⟩ := hSw; (try simp only [List.forall_mem_cons, List.forall_mem_nil, and_true] at hSc); go_simp; (first | done | with_reducible rfl)); (intro K hK; (try simp only [Act.put, List.setIfInBounds_toArray, List.set_cons_zero, List.set_cons_succ]); refine hK _ _ ?_; clear hK K)) | (refine m_skip (by rfl) (by rfl) ?_; (intro K hK; (try simp only [Act.put, List.setIfInBounds_toArray, List.set_cons_zero, List.set_cons_succ]); refine hK _ _ ?_; clear hK K)))
          refine m_nil ?_
          intro wf hSf hAf
          have oF := hid (lit_at (l := [d]) (hAf 10 _ rfl) (by simp))
          replace E := hid (E.out.up hSf.1)
          clear hSf hAf hG10 q00 q01 q02 q03 q04 q20 q21 q22 q23
          refine wplE_appI E.out 3 rfl (by rfl) (.tmp 43) (.tmp 49) (by rfl) (by rfl) _ _ 1 [d] (by rfl) oF.out hll ?_
          intro V1 na2 nc2 E1
          clear E oF
          have E := hid E1
          clear E1
          (try simp only [List.cons_append, List.nil_append, List.set_cons_zero, List.set_cons_succ] at E)
          go_wp2_with (refine wpl_store2 rfl (.tmp 52) (.tmp 50) rfl bo rfl rfl (E.out.hdr 2 rfl) ?_; intro V HV CV; replace E := hid (E.out.chg 2 rfl CV HV); (try simp only [List.cons_append, List.nil_append, List.set_cons_zero, List.set_cons_succ] at E))
          go_roundw
          case rel => exact ⟨k + 1, na2, nc2, by omega, by go_num, by rw [hstep.out, List.length_append]; exact E.out⟩
          case measure => simp [intOf]; omega
        · obtain rfl : k = n := by omega
          go_wp2_with fail
          exact bodyPost_ret (end_none rfl) rfl (hR.out _ _ ⟨na', nc', ia, ic, rfl, by rw [eN.out, eI.out]; exact E.out.tl.tl⟩)
  case neg =>
    have cb : ((x.shape.length : Int) == 0) = false := by rw [beq_eq_false_iff_ne]; omega
    have hsz := hs2 c
    by_cases k3 : x.kind = 3
    case pos => exact side_addA x sx cx nx mx ix jx so sl sc kk oa ol oc na nc nums ia ic items bo i n w0 S w M E hn hi c k3 (hk3 k3) (by rw [hk3 k3] at hsz; simpa using hsz) hl2 (by omega) hci R' hR
    case neg =>
      have kb : (x.kind != 3) = true := by simp [k3]
      have hx0 := hkn k3
      have hsz' : i * n + n ≤ x.nums.length := by rw [hx0] at hsz; simpa using hsz
      have eN : Hid (nums ++ addL x.shape x.nums i n = nums ++ blkL x.nums i n) := hid (by unfold addL; rw [if_neg c])
      have eI : Hid (items ++ addL x.shape x.items i n = items) := hid (by unfold addL; rw [if_neg c, hx0, blkL_nil, List.append_nil])
      replace hx0 := hid hx0
      replace c := hid c
      replace k3 := hid k3
      clear hs1 hk3 hkn hs2 hsz
      have hmul : ((i : Int) * (n : Int)) = ((i * n : Nat) : Int) := by simp
      have hib : i * n ≤ 65536 := by omega
      obtain ⟨m, hm⟩ : ∃ m, m = i * n := ⟨_, rfl⟩
      rw [← hm] at hmul hib hsz'
      have hwr : IntKind.i64.wrap ((i : Int) * (n : Int)) = (m : Int) := by rw [hmul]; exact IntWalk.i64_in _ (by omega)
      obtain ⟨ys, hys⟩ : ∃ ys, ys = (x.nums.drop m).take n := ⟨_, rfl⟩
      have hyl : Hid (ys.length = n) := hid (by rw [hys]; simp; omega)
      have hbl : Hid (nums ++ blkL x.nums i n = nums ++ ys) := hid (by unfold blkL; rw [hys, hm])
      have hmn : n = 0 → m = 0 := fun h => by rw [hm, h, Nat.mul_zero]
      replace hm := hid hm
      replace hys := hid hys
      go_enter Try.func79, Try.ntmps79
      go_upto_region 1 with (fail)
      generalize hEW : (w).alloc (.cells #[.int .i64 x.kind, .slice sx x.shape.length cx, .slice nx x.nums.length mx, .slice ix x.items.length jx, .slice so sl sc] 99) = W
      replace E := hid (envF1 E.out hEW)
      clear hEW
      obtain ⟨q00, q01, q02, q03, q04⟩ := row5 (E.out.obj 0 rfl)
      have mS := fun w => run_makeI w n (by omega)
      go_upto_region 10 with (fail)
      clear mS q00 q01 q02 q03 q04
      replace E := hid (E.out.alloc (.cells (madeI n) 3)).front
      generalize hW2 : W.alloc (.cells (madeI n) 3) = W2 at E ⊢
      clear hW2
      generalize W.heap.size = gp at E ⊢
      have c2 : (m : Int) ≤ (x.nums.length : Int) := by omega
      have c3 : (0 : Int) ≤ (m : Int) := by omega
      have c4 : (m : Int).toNat = m := by omega
      by_cases n0 : m < x.nums.length
      case pos =>
        obtain ⟨b1, o1, hna, hbl1, hS1, hc⟩ := (E.out.arr 2 rfl).nums.at (k := 0) (by omega)
        subst hna
        clear hc
        have hsub := hid ((E.out.arr 2 rfl).nums.drop m (by omega))
        have hsl : Hid ((x.nums.drop m).length = x.nums.length - m) := hid (by simp)
        have hln : Hid (n ≤ (x.nums.drop m).length) := hid (by simp; omega)
        have c1 : ¬ mx = m := by omega
        obtain ⟨q10, q11, q12, q13, q14⟩ := row5 (E.out.obj 1 rfl)
        go_upto_region 11 with (refine wplE_copyP E.out 0 rfl (madeI_size n) rfl (.tmp 60) (.tmp 67) rfl rfl (by rw [hsl.out]; rfl) hsub.out hln.out ?_; intro V1 E1; clear E; have E := hid E1; clear E1; (try simp only [List.cons_append, List.nil_append, List.set_cons_zero, List.set_cons_succ] at E))
        rw [← hys.out] at E
        replace E := hid (E.out.filled 0 rfl (by rw [hyl.out]; omega))
        (try simp only [List.cons_append, List.nil_append, List.set_cons_zero, List.set_cons_succ] at E)
        clear q10 q11 q12 q13 q14
        obtain ⟨q30, q31, q32, q33⟩ := (E.out.hdr 3 rfl).all
        go_wp2_with (first
          | (at_builtin; refine wplE_appI E.out 4 rfl rfl (.tmp 73) (.tmp 74) rfl rfl _ _ n ys (by rw [hyl.out]; rfl) (E.out.ints 0 rfl) (by rw [hyl.out]; omega) ?_; intro V2 na2 nc2 E1; clear E; have E := hid E1; clear E1; (try simp only [List.cons_append, List.nil_append, List.set_cons_zero, List.set_cons_succ] at E))
          | (refine wpl_store2 rfl (.tmp 77) (.tmp 75) rfl bo rfl rfl (E.out.hdr 3 rfl) ?_; intro V HV CV; replace E := hid (E.out.chg 3 rfl CV HV); (try simp only [List.cons_append, List.nil_append, List.set_cons_zero, List.set_cons_succ] at E)))
        exact bodyPost_ret (end_none rfl) rfl (hR.out _ _ ⟨na2, nc2, ia, ic, rfl, by rw [eN.out, eI.out, hbl.out, List.length_append]; exact E.out.tl.tl.tl⟩)
      case neg =>
        have hn0 : n = 0 := by omega
        have hm0 : m = 0 := hmn hn0
        have hx3 : x.nums.length = 0 := by omega
        have hxe : x.nums = [] := List.length_eq_zero_iff.1 hx3
        have hye : Hid (List.map (Value.int .i64) (([] : List Int).take n) = List.map (Value.int .i64) ys) := hid (by rw [hys.out, hxe]; simp)
        obtain ⟨q10, q11, q12, q13, q14⟩ := row5 (E.out.obj 1 rfl)
        rw [hx3] at q12 c2
        replace hxe := hid hxe
        have hlz : Hid (n ≤ ([] : List Int).length) := hid (by rw [hn0]; simp)
        by_cases c1 : mx = m
        · replace hn0 := hid hn0
          replace hm0 := hid hm0
          replace hx3 := hid hx3
          have hmz : Hid (0 - m = ([] : List Int).length) := hid (by simp)
          go_upto_region 11 with (refine wplE_copyP (ys := []) (T := fun _ => True) E.out 0 rfl (madeI_size n) rfl (.tmp 60) (.tmp 67) rfl rfl rfl (IntsAt.nil _ _ _) hlz.out ?_; intro V1 E1; clear E; have E := hid E1; clear E1; (try simp only [List.cons_append, List.nil_append, List.set_cons_zero, List.set_cons_succ] at E))
          rw [hye.out] at E
          replace E := hid (E.out.filled 0 rfl (by rw [hyl.out]; omega))
          (try simp only [List.cons_append, List.nil_append, List.set_cons_zero, List.set_cons_succ] at E)
          clear q10 q11 q12 q13 q14
          obtain ⟨q30, q31, q32, q33⟩ := (E.out.hdr 3 rfl).all
          go_wp2_with (first
            | (at_builtin; refine wplE_appI E.out 4 rfl rfl (.tmp 73) (.tmp 74) rfl rfl _ _ n ys (by rw [hyl.out]; rfl) (E.out.ints 0 rfl) (by rw [hyl.out]; omega) ?_; intro V2 na2 nc2 E1; clear E; have E := hid E1; clear E1; (try simp only [List.cons_append, List.nil_append, List.set_cons_zero, List.set_cons_succ] at E))
            | (refine wpl_store2 rfl (.tmp 77) (.tmp 75) rfl bo rfl rfl (E.out.hdr 3 rfl) ?_; intro V HV CV; replace E := hid (E.out.chg 3 rfl CV HV); (try simp only [List.cons_append, List.nil_append, List.set_cons_zero, List.set_cons_succ] at E)))
          exact bodyPost_ret (end_none rfl) rfl (hR.out _ _ ⟨na2, nc2, ia, ic, rfl, by rw [eN.out, eI.out, hbl.out, List.length_append]; exact E.out.tl.tl.tl⟩)
        · replace hn0 := hid hn0
          replace hm0 := hid hm0
          replace hx3 := hid hx3
          have hmz : Hid (0 - m = ([] : List Int).length) := hid (by simp)
          go_upto_region 11 with (refine wplE_copyP (ys := []) (T := fun _ => True) E.out 0 rfl (madeI_size n) rfl (.tmp 60) (.tmp 67) rfl rfl rfl (IntsAt.nil _ _ _) hlz.out ?_; intro V1 E1; clear E; have E := hid E1; clear E1; (try simp only [List.cons_append, List.nil_append, List.set_cons_zero, List.set_cons_succ] at E))
          rw [hye.out] at E
          replace E := hid (E.out.filled 0 rfl (by rw [hyl.out]; omega))
          (try simp only [List.cons_append, List.nil_append, List.set_cons_zero, List.set_cons_succ] at E)
          clear q10 q11 q12 q13 q14
          obtain ⟨q30, q31, q32, q33⟩ := (E.out.hdr 3 rfl).all
          go_wp2_with (first
            | (at_builtin; refine wplE_appI E.out 4 rfl rfl (.tmp 73) (.tmp 74) rfl rfl _ _ n ys (by rw [hyl.out]; rfl) (E.out.ints 0 rfl) (by rw [hyl.out]; omega) ?_; intro V2 na2 nc2 E1; clear E; have E := hid E1; clear E1; (try simp only [List.cons_append, List.nil_append, List.set_cons_zero, List.set_cons_succ] at E))
            | (refine wpl_store2 rfl (.tmp 77) (.tmp 75) rfl bo rfl rfl (E.out.hdr 3 rfl) ?_; intro V HV CV; replace E := hid (E.out.chg 3 rfl CV HV); (try simp only [List.cons_append, List.nil_append, List.set_cons_zero, List.set_cons_succ] at E)))
          exact bodyPost_ret (end_none rfl) rfl (hR.out _ _ ⟨na2, nc2, ia, ic, rfl, by rw [eN.out, eI.out, hbl.out, List.length_append]; exact E.out.tl.tl.tl⟩)
end Go.Proofs.Ytdpdcjadedcglaa
