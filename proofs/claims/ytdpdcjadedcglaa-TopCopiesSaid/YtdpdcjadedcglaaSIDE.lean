/- joining's sides: an array and its extended shape: laws of the walk, and the contracts of extend and weight. Conditions: the array is read. -/
import Derived.Test.YtdpdcjadedcglaaGG
import Derived.Test.YtdpdcjadedcglaaINS
import Derived.Test.YtdpdcjadedcglaaGI
import Derived.Deep.RegionHeld3
import Derived.IntWalk
set_option linter.unusedVariables false
set_option maxRecDepth 20000
set_option linter.unusedSimpArgs false
namespace Go.Proofs.Ytdpdcjadedcglaa
open Go.RowKit Go.Sort
attribute [local go_sem ↓] run_max2 run_min2
attribute [local go_sem] eql_ints_nil eql_arrs_nil
section
variable {ops : Array Oper} {rest : List Oper} {o : Oper} {a : Act} {Q : Exit → Act → World → Prop} {w : World}
/-- a whole record is stored into a variable -/
theorem wpl_storeRow (hgd : o.guard = none) (ty : TypeId) (p x : Operand) (ho : o.op = .store ty p x) (b : Nat) (cells old : Array Value) (t : TypeId) (hp : a.eval p = .pointer (some ⟨b, 0, none⟩)) (hx : a.eval x = .agg cells) (hg : w.heap[b]? = some (.cells old t (0, 0)))
    (hi : (Try.prog.info? ty).map (·.size) = some cells.size) (hold : old.size = cells.size) (h1 : cells.all (·.oneCell') = true)
    (h : ∀ V, V.heap[b]? = some (.cells cells t (0, 0)) → Chg w V b → wpList Try.prog ops Q rest (a.put o.dst undef) V) : wpList Try.prog ops Q (o :: rest) a w :=
  wpList_store_row hgd ty p x ho b cells hp hx t old hg hi hold h1 (h _ (setRow_heap w b _ _ _ _ hg) (chg_setRow w b cells))
end
theorem keep5 {w : World} {b c o : Nat} {u0 u1 u2 u3 u4 v : Value} (h : w.cell? ⟨c, o, none⟩ = some v) (hne : c ≠ b) : (((((w.setCell ⟨b, 0, none⟩ u0).setCell ⟨b, 1, none⟩ u1).setCell ⟨b, 2, none⟩ u2).setCell ⟨b, 3, none⟩ u3).setCell ⟨b, 4, none⟩ u4).cell? ⟨c, o, none⟩ = some v := by
  have q : ∀ (w : World) (k : Nat) (u : Value), (w.setCell ⟨b, k, none⟩ u).cell? ⟨c, o, none⟩ = w.cell? ⟨c, o, none⟩ := fun w k u => World.cell?_setCell_other _ _ _ _ (by intro e; injection e with e; exact hne e.symm)
  rw [q, q, q, q, q, h]
theorem set5 {w : World} {b : Nat} {a0 a1 a2 a3 a4 : Value} {t : TypeId} (h : w.heap[b]? = some (.cells #[a0, a1, a2, a3, a4] t (0, 0))) (v0 v1 v2 v3 v4 : Value) :
    ∃ V, (((((w.setCell ⟨b, 0, none⟩ v0).setCell ⟨b, 1, none⟩ v1).setCell ⟨b, 2, none⟩ v2).setCell ⟨b, 3, none⟩ v3).setCell ⟨b, 4, none⟩ v4) = V ∧ V.heap[b]? = some (.cells #[v0, v1, v2, v3, v4] t (0, 0)) ∧ Chg w V b := by
  refine ⟨_, rfl, ?_, ((((chg_setCell _ _ _ _).trans (chg_setCell _ _ _ _)).trans (chg_setCell _ _ _ _)).trans (chg_setCell _ _ _ _)).trans (chg_setCell _ _ _ _)⟩
  have h0 := heap_setCell_same w b 0 _ _ v0 h
  have h1 := heap_setCell_same _ b 1 _ _ v1 h0
  have h2 := heap_setCell_same _ b 2 _ _ v2 h1
  have h3 := heap_setCell_same _ b 3 _ _ v3 h2
  have h4 := heap_setCell_same _ b 4 _ _ v4 h3
  simpa using h4
theorem row5 {w : World} {b : Nat} {a0 a1 a2 a3 a4 : Value} {t : TypeId} (h : w.heap[b]? = some (.cells #[a0, a1, a2, a3, a4] t (0, 0))) : w.cell? ⟨b, 0, none⟩ = some a0 ∧ w.cell? ⟨b, 1, none⟩ = some a1 ∧ w.cell? ⟨b, 2, none⟩ = some a2 ∧ w.cell? ⟨b, 3, none⟩ = some a3 ∧ w.cell? ⟨b, 4, none⟩ = some a4 :=
  ⟨cell_of_row w b 0 _ _ _ h, cell_of_row w b 1 _ _ _ h, cell_of_row w b 2 _ _ _ h, cell_of_row w b 3 _ _ _ h, cell_of_row w b 4 _ _ _ h⟩
theorem end_side {fn : Func} {p : Tmp} (hres : fn.results = #[.cell p 99]) {w : World} {b : Nat} {tmps : Array Value} {k s n i l : Value} (h : w.heap[b]? = some (.cells #[k, s, n, i, l] 99 (0, 0))) (hp : tmps.getD p undef = .pointer (some ⟨b, 0, none⟩)) :
    (results fn tmps).run Try.prog w = .ok (.agg #[k, s, n, i, l]) w :=
  results_cell_row hres tmps w b _ _ _ _ hp h Try.underlying99 rfl (by kernel_rfl)
def ExtPost (x : Arr) (sx : Option Addr) (cx : Nat) (nx : Option Addr) (mx : Nat) (ix : Option Addr) (jx : Nat) (s : List Int) (w : World) (e : Ending) (w' : World) : Prop :=
  ∃ so sc, e = .returned (.agg #[.int .i64 x.kind, .slice sx x.shape.length cx, .slice nx x.nums.length mx, .slice ix x.items.length jx, .slice so s.length sc]) ∧ IntsAt w' (fun b => w.heap.size ≤ b) so s ∧ Below w.heap.size w w'
set_option maxHeartbeats 4000000 in
theorem joining_extend (x : Arr) (sx : Option Addr) (cx : Nat) (nx : Option Addr) (mx : Nat) (ix : Option Addr) (jx : Nat) (like : List Int) (lo : Option Addr) (lc : Nat) (r ax : Nat) (hax : ax < r) (hr : r ≤ 9) (S : Nat → Prop) (w : World) (h : ArrAt w S x sx nx ix) (g : IntsAt w S lo like) (hx8 : x.shape.length ≤ 8) (hl8 : like.length ≤ 8) (hA : x.shape.length < r → ¬ (x.shape.length = 0 ∧ like.length = r) → ax ≤ x.shape.length) :
    Calls Try.prog 77 #[.agg #[.int .i64 x.kind, .slice sx x.shape.length cx, .slice nx x.nums.length mx, .slice ix x.items.length jx], .slice lo like.length lc, .int .i64 r, .int .i64 ax] w (ExtPost x sx cx nx mx ix jx (extSh x.shape like r ax) w) := by
  refine calls_post fun R' hR => ?_
  have h0 := hid h
  have g0 := hid g
  clear h g
  by_cases c : x.shape.length = 0 ∧ like.length = r
  case pos =>
    obtain ⟨c1, c2⟩ := c
    have cb1 : ((x.shape.length : Int) == 0) = true := by rw [c1]; rfl
    have cb2 : ((like.length : Int) == (r : Int)) = true := by rw [c2]; simp
    have hs : Hid (extSh x.shape like r ax = like.set ax 1) := hid (if_pos ⟨c1, c2⟩)
    have t1 : (0 : Int) ≤ (ax : Int) := by omega
    have t2 : (ax : Int) < (like.length : Int) := by omega
    have t3 : ax < like.length := by omega
    replace c1 := hid c1
    replace c2 := hid c2
    go_enter Try.func77, Try.ntmps77
    go_wp2_with fail
    generalize hEW : ((w).alloc (.cells #[.int .i64 x.kind, .slice sx x.shape.length cx, .slice nx x.nums.length mx, .slice ix x.items.length jx] 27)).alloc (.cells #[.int .i64 0, .slice none 0 0, .slice none 0 0, .slice none 0 0, .slice none 0 0] 99) = W
    have E := hid (env2 w S hEW)
    clear hEW
    replace E := hid ((E.out.arg h0.out).argI g0.out)
    (try simp only [List.cons_append, List.nil_append, List.set_cons_zero, List.set_cons_succ] at E)
    obtain ⟨q00, q01, q02, q03⟩ := (E.out.hdr 0 rfl).all
    go_upto_region 2 with (fail)
    clear q00 q01 q02 q03
    go_wp2_with fail
    refine (slices_Clone like _ _ _ _ (E.out.ints 3 rfl)).mono ?_
    rintro e w1 ⟨so, sc, rfl, hO, hb⟩
    replace E := hid (E.out.addRowI hO hb)
    clear hO hb
    (try simp only [List.cons_append, List.nil_append, List.set_cons_zero, List.set_cons_succ] at E)
    obtain ⟨gb, hso, -⟩ := (E.out.rowI 4 rfl).set (j := ax) t3
    subst hso
    go_upto_region 4 with (refine wplE_setI E.out 4 rfl rfl (.tmp 25) (.const (.int .i64 1)) rfl ax t3 1 (fun g e => by cases e; rfl) rfl ?_; intro V1 E1; clear E; have E := hid E1; clear E1; (try simp only [List.cons_append, List.nil_append, List.set_cons_zero, List.set_cons_succ] at E))
    replace E := hid (E.out.doneIF 4 rfl (by simp; omega))
    (try simp only [List.cons_append, List.nil_append, List.set_cons_zero, List.set_cons_succ] at E)
    obtain ⟨q00, q01, q02, q03⟩ := (E.out.hdr 0 rfl).all
    go_wp2_with (refine wpl_storeRow rfl 99 (.tmp 8) (.tmp 28) rfl _ _ _ _ rfl rfl (E.out.obj 1 rfl) (by kernel_rfl) rfl (by simp [Value.oneCell']) ?_; intro V2 HV CV; replace E := hid (E.out.chg 1 rfl CV HV); (try simp only [List.cons_append, List.nil_append, List.set_cons_zero, List.set_cons_succ] at E))
    have hln : (like.set ax 1).length = like.length := by simp
    refine bodyPost_ret (end_side rfl HV rfl) rfl (hR.out _ _ ⟨some ⟨gb, 0, none⟩, sc, by rw [hs.out, hln], by rw [hs.out]; exact (E.out.intsF 4 rfl).mono fun b _ q => q.2, E.out.ext⟩)
  case neg =>
    have hcb : ((x.shape.length : Int) == 0) = false ∨ (((x.shape.length : Int) == 0) = true ∧ ((like.length : Int) == (r : Int)) = false) := by
      by_cases q : x.shape.length = 0
      · right; refine ⟨by rw [q]; rfl, ?_⟩; rw [beq_eq_false_iff_ne]; intro q2; exact c ⟨q, by omega⟩
      · left; rw [beq_eq_false_iff_ne]; omega
    have hcd : ((x.shape.length : Int) < (r : Int)) ↔ x.shape.length < r := by omega
    by_cases d : x.shape.length < r
    case pos =>
      have hs : Hid (extSh x.shape like r ax = x.shape.take ax ++ 1 :: x.shape.drop ax) := hid (by unfold extSh; rw [if_neg c, if_pos d])
      have hax2 := hA d c
      have hln : Hid (x.shape.length + 1 = (x.shape.take ax ++ 1 :: x.shape.drop ax).length) := hid (by simp; omega)
      have dd : (x.shape.length : Int) < (r : Int) := by omega
      replace c := hid c
      clear hA hcd
      go_enter Try.func77, Try.ntmps77
      go_upto_region 1 with (fail)
      generalize hEW : ((w).alloc (.cells #[.int .i64 x.kind, .slice sx x.shape.length cx, .slice nx x.nums.length mx, .slice ix x.items.length jx] 27)).alloc (.cells #[.int .i64 0, .slice none 0 0, .slice none 0 0, .slice none 0 0, .slice none 0 0] 99) = W
      have E := hid (env2 w S hEW)
      clear hEW
      replace E := hid ((E.out.arg h0.out).argI g0.out)
      (try simp only [List.cons_append, List.nil_append, List.set_cons_zero, List.set_cons_succ] at E)
      obtain ⟨q00, q01, q02, q03⟩ := (E.out.hdr 0 rfl).all
      rcases hcb with hcb | ⟨hcb, hcb2⟩
      · go_wp2_with fail
        obtain ⟨y0, y1, y2, y3, y4⟩ := row5 (E.out.obj 1 rfl)
        have yf := frozen_of_row _ _ 0 _ _ (E.out.obj 1 rfl)
        go_region_held3 (fun w' => w'.cell? ⟨w.heap.size, 0, none⟩ = some (.int .i64 x.kind) ∧ w'.cell? ⟨w.heap.size, 1, none⟩ = some (.slice sx x.shape.length cx) ∧ w'.cell? ⟨w.heap.size, 2, none⟩ = some (.slice nx x.nums.length mx) ∧ w'.cell? ⟨w.heap.size, 3, none⟩ = some (.slice ix x.items.length jx)) ((first | with_reducible exact ⟨k0, k1, k2, k3⟩ | with_reducible exact ⟨l0, l1, l2, l3⟩ | with_reducible exact ⟨up_cell k0 (ext_alloc _ _), up_cell k1 (ext_alloc _ _), up_cell k2 (ext_alloc _ _), up_cell k3 (ext_alloc _ _)⟩ | with_reducible exact ⟨up_cell q00 (ext_alloc _ _), up_cell q01 (ext_alloc _ _), up_cell q02 (ext_alloc _ _), up_cell q03 (ext_alloc _ _)⟩ | with_reducible exact ⟨keep5 l0 (by omega), keep5 l1 (by omega), keep5 l2 (by omega), keep5 l3 (by omega)⟩ | with_reducible exact ⟨up_cell q00 (ext_drawn _), up_cell q01 (ext_drawn _), up_cell q02 (ext_drawn _), up_cell q03 (ext_drawn _)⟩ | with_reducible exact ⟨up_cell q00 ((ext_alloc _ _).trans (ext_drawn _)), up_cell q01 ((ext_alloc _ _).trans (ext_drawn _)), up_cell q02 ((ext_alloc _ _).trans (ext_drawn _)), up_cell q03 ((ext_alloc _ _).trans (ext_drawn _))⟩ | with_reducible exact ⟨up_cell q00 ((ext_drawn _).trans (ext_alloc _ _)), up_cell q01 ((ext_drawn _).trans (ext_alloc _ _)), up_cell q02 ((ext_drawn _).trans (ext_alloc _ _)), up_cell q03 ((ext_drawn _).trans (ext_alloc _ _))⟩ | (trace_state; fail))) ((first
          | (go_at_call 67; refine (slices_Clone x.shape _ _ _ _ ((E.out.arr 2 rfl).shape.up (by first | exact ext_drawn _ | exact (ext_alloc _ _).trans (ext_drawn _)))).mono ?_; rintro e w1 ⟨so, sc, rfl, hO, hb⟩; have hW1 : Ext W w1 := Ext.trans (by first | exact ext_drawn _ | exact (ext_alloc _ _).trans (ext_drawn _)) hb; have k0 := up_cell q00 hW1; have k1 := up_cell q01 hW1; have k2 := up_cell q02 hW1; have k3 := up_cell q03 hW1; replace hb := hid hb)
          | (go_at_call 95; refine (slices_Insert1 x.shape ax hax2 1 _ W.heap.size _ _ _ (by first | exact hO.base (by simp) | exact (hO.base (by simp)).alloc _) (by first | exact heap_alloc_new _ _ | exact (hb.out.block _ (by simp)).trans (heap_alloc_new W _)) (by intro q; have := hO.row _ q; simp at this <;> omega) (by omega) (by first | exact Below.size hW1 | (have := Below.size hW1; simp; omega))).mono ?_; rintro e w2 ⟨so2, sc2, rfl, hO2, hg2⟩; have hW2 : Ext W w2 := below_grownI (by first | exact hW1 | exact hW1.trans (ext_alloc _ _)) hg2 (fun k q => by have := hO.row _ q; simp at this <;> omega); have l0 := up_cell q00 hW2; have l1 := up_cell q01 hW2; have l2 := up_cell q02 hW2; have l3 := up_cell q03 hW2; have z0 := up_cell y0 hW2; have z1 := up_cell y1 hW2; have z2 := up_cell y2 hW2; have z3 := up_cell y3 hW2; have z4 := up_cell y4 hW2; have f0 := frozen_of_row w2 _ 0 _ _ (Ext.blk hW2 (E.out.obj 1 rfl)); have f1 := frozen_of_row w2 _ 1 _ _ (Ext.blk hW2 (E.out.obj 1 rfl)); have f2 := frozen_of_row w2 _ 2 _ _ (Ext.blk hW2 (E.out.obj 1 rfl)); have f3 := frozen_of_row w2 _ 3 _ _ (Ext.blk hW2 (E.out.obj 1 rfl)); have f4 := frozen_of_row w2 _ 4 _ _ (Ext.blk hW2 (E.out.obj 1 rfl)); clear q00 q01 q02 q03 y0 y1 y2 y3 y4 yf k0 k1 k2 k3; replace hO2 := hid hO2; replace hg2 := hid hg2; replace hO := hid hO; replace hW1 := hid hW1; replace hW2 := hid hW2)))
        all_goals
          replace E := hid ((E.out.up hW2.out).addIntsF (u := W) ((hO2.out.ints (by rw [← hln.out]; omega)).mono fun b _ hq => hq.1) E.out.blt E.out.size)
          (try simp only [List.cons_append, List.nil_append, List.set_cons_zero, List.set_cons_succ] at E)
          clear hO2 hg2 hW1 hW2 hO hb l0 l1 l2 l3 z0 z1 z2 z3 z4 f0 f1 f2 f3 f4
          obtain ⟨V, hV, HV, CV⟩ := set5 (E.out.obj 1 rfl) (.int .i64 x.kind) (.slice sx x.shape.length cx) (.slice nx x.nums.length mx) (.slice ix x.items.length jx) (.slice so2 (x.shape.length + 1) sc2)
          rw [hV]
          clear hV
          replace E := hid (E.out.chg 1 rfl CV HV)
          (try simp only [List.cons_append, List.nil_append, List.set_cons_zero, List.set_cons_succ] at E)
          go_wp2_with fail
          exact bodyPost_ret (end_side rfl HV rfl) rfl (hR.out _ _ ⟨so2, sc2, by rw [hs.out, ← hln.out], by rw [hs.out]; exact (E.out.intsF 4 rfl).mono fun b _ q => q.2, E.out.ext⟩)
      · go_wp2_with fail
        obtain ⟨y0, y1, y2, y3, y4⟩ := row5 (E.out.obj 1 rfl)
        have yf := frozen_of_row _ _ 0 _ _ (E.out.obj 1 rfl)
        go_region_held3 (fun w' => w'.cell? ⟨w.heap.size, 0, none⟩ = some (.int .i64 x.kind) ∧ w'.cell? ⟨w.heap.size, 1, none⟩ = some (.slice sx x.shape.length cx) ∧ w'.cell? ⟨w.heap.size, 2, none⟩ = some (.slice nx x.nums.length mx) ∧ w'.cell? ⟨w.heap.size, 3, none⟩ = some (.slice ix x.items.length jx)) ((first | with_reducible exact ⟨k0, k1, k2, k3⟩ | with_reducible exact ⟨l0, l1, l2, l3⟩ | with_reducible exact ⟨up_cell k0 (ext_alloc _ _), up_cell k1 (ext_alloc _ _), up_cell k2 (ext_alloc _ _), up_cell k3 (ext_alloc _ _)⟩ | with_reducible exact ⟨up_cell q00 (ext_alloc _ _), up_cell q01 (ext_alloc _ _), up_cell q02 (ext_alloc _ _), up_cell q03 (ext_alloc _ _)⟩ | with_reducible exact ⟨keep5 l0 (by omega), keep5 l1 (by omega), keep5 l2 (by omega), keep5 l3 (by omega)⟩ | with_reducible exact ⟨up_cell q00 (ext_drawn _), up_cell q01 (ext_drawn _), up_cell q02 (ext_drawn _), up_cell q03 (ext_drawn _)⟩ | with_reducible exact ⟨up_cell q00 ((ext_alloc _ _).trans (ext_drawn _)), up_cell q01 ((ext_alloc _ _).trans (ext_drawn _)), up_cell q02 ((ext_alloc _ _).trans (ext_drawn _)), up_cell q03 ((ext_alloc _ _).trans (ext_drawn _))⟩ | with_reducible exact ⟨up_cell q00 ((ext_drawn _).trans (ext_alloc _ _)), up_cell q01 ((ext_drawn _).trans (ext_alloc _ _)), up_cell q02 ((ext_drawn _).trans (ext_alloc _ _)), up_cell q03 ((ext_drawn _).trans (ext_alloc _ _))⟩ | (trace_state; fail))) ((first
          | (go_at_call 67; refine (slices_Clone x.shape _ _ _ _ ((E.out.arr 2 rfl).shape.up (by first | exact ext_drawn _ | exact (ext_alloc _ _).trans (ext_drawn _)))).mono ?_; rintro e w1 ⟨so, sc, rfl, hO, hb⟩; have hW1 : Ext W w1 := Ext.trans (by first | exact ext_drawn _ | exact (ext_alloc _ _).trans (ext_drawn _)) hb; have k0 := up_cell q00 hW1; have k1 := up_cell q01 hW1; have k2 := up_cell q02 hW1; have k3 := up_cell q03 hW1; replace hb := hid hb)
          | (go_at_call 95; refine (slices_Insert1 x.shape ax hax2 1 _ W.heap.size _ _ _ (by first | exact hO.base (by simp) | exact (hO.base (by simp)).alloc _) (by first | exact heap_alloc_new _ _ | exact (hb.out.block _ (by simp)).trans (heap_alloc_new W _)) (by intro q; have := hO.row _ q; simp at this <;> omega) (by omega) (by first | exact Below.size hW1 | (have := Below.size hW1; simp; omega))).mono ?_; rintro e w2 ⟨so2, sc2, rfl, hO2, hg2⟩; have hW2 : Ext W w2 := below_grownI (by first | exact hW1 | exact hW1.trans (ext_alloc _ _)) hg2 (fun k q => by have := hO.row _ q; simp at this <;> omega); have l0 := up_cell q00 hW2; have l1 := up_cell q01 hW2; have l2 := up_cell q02 hW2; have l3 := up_cell q03 hW2; have z0 := up_cell y0 hW2; have z1 := up_cell y1 hW2; have z2 := up_cell y2 hW2; have z3 := up_cell y3 hW2; have z4 := up_cell y4 hW2; have f0 := frozen_of_row w2 _ 0 _ _ (Ext.blk hW2 (E.out.obj 1 rfl)); have f1 := frozen_of_row w2 _ 1 _ _ (Ext.blk hW2 (E.out.obj 1 rfl)); have f2 := frozen_of_row w2 _ 2 _ _ (Ext.blk hW2 (E.out.obj 1 rfl)); have f3 := frozen_of_row w2 _ 3 _ _ (Ext.blk hW2 (E.out.obj 1 rfl)); have f4 := frozen_of_row w2 _ 4 _ _ (Ext.blk hW2 (E.out.obj 1 rfl)); clear q00 q01 q02 q03 y0 y1 y2 y3 y4 yf k0 k1 k2 k3; replace hO2 := hid hO2; replace hg2 := hid hg2; replace hO := hid hO; replace hW1 := hid hW1; replace hW2 := hid hW2)))
        all_goals
          replace E := hid ((E.out.up hW2.out).addIntsF (u := W) ((hO2.out.ints (by rw [← hln.out]; omega)).mono fun b _ hq => hq.1) E.out.blt E.out.size)
          (try simp only [List.cons_append, List.nil_append, List.set_cons_zero, List.set_cons_succ] at E)
          clear hO2 hg2 hW1 hW2 hO hb l0 l1 l2 l3 z0 z1 z2 z3 z4 f0 f1 f2 f3 f4
          obtain ⟨V, hV, HV, CV⟩ := set5 (E.out.obj 1 rfl) (.int .i64 x.kind) (.slice sx x.shape.length cx) (.slice nx x.nums.length mx) (.slice ix x.items.length jx) (.slice so2 (x.shape.length + 1) sc2)
          rw [hV]
          clear hV
          replace E := hid (E.out.chg 1 rfl CV HV)
          (try simp only [List.cons_append, List.nil_append, List.set_cons_zero, List.set_cons_succ] at E)
          go_wp2_with fail
          exact bodyPost_ret (end_side rfl HV rfl) rfl (hR.out _ _ ⟨so2, sc2, by rw [hs.out, ← hln.out], by rw [hs.out]; exact (E.out.intsF 4 rfl).mono fun b _ q => q.2, E.out.ext⟩)
    case neg =>
      have hs : Hid (extSh x.shape like r ax = x.shape) := hid (by unfold extSh; rw [if_neg c, if_neg d])
      have dd : ¬ (x.shape.length : Int) < (r : Int) := by omega
      replace c := hid c
      clear hA hcd
      go_enter Try.func77, Try.ntmps77
      go_upto_region 1 with (fail)
      generalize hEW : ((w).alloc (.cells #[.int .i64 x.kind, .slice sx x.shape.length cx, .slice nx x.nums.length mx, .slice ix x.items.length jx] 27)).alloc (.cells #[.int .i64 0, .slice none 0 0, .slice none 0 0, .slice none 0 0, .slice none 0 0] 99) = W
      have E := hid (env2 w S hEW)
      clear hEW
      replace E := hid ((E.out.arg h0.out).argI g0.out)
      (try simp only [List.cons_append, List.nil_append, List.set_cons_zero, List.set_cons_succ] at E)
      obtain ⟨q00, q01, q02, q03⟩ := (E.out.hdr 0 rfl).all
      rcases hcb with hcb | ⟨hcb, hcb2⟩
      · go_upto_region 7 with (fail)
        refine wp_region_mono_tail 5 (Sees W [(⟨w.heap.size, 0, none⟩, .int .i64 x.kind), (⟨w.heap.size, 1, none⟩, .slice sx x.shape.length cx), (⟨w.heap.size, 2, none⟩, .slice nx x.nums.length mx), (⟨w.heap.size, 3, none⟩, .slice ix x.items.length jx)]) [3] (fun k v u u' => match k with | 3 => ClonedI u x.shape (.returned v) u' | _ => False) (fun _ _ h e => h.up e) (Sees.start (all_cons (q00) (all_cons (q01) (all_cons (q02) (all_cons (q03) (all_nil)))))) (by kernel_rfl) (by kernel_rfl) ?_
        simp only [List.take_succ_cons, List.take_zero, List.drop_succ_cons, List.drop_zero]
        repeat (first | (refine m_plain (v := ?_) (by rfl) (by rfl) ?_ ?_; rotate_left; (intro wz hSw; obtain ⟨-, hSc⟩ := hSw; (try simp only [List.forall_mem_cons, List.forall_mem_nil, and_true] at hSc); go_simp; (first | done | with_reducible rfl)); (intro K hK; (try simp only [Act.put, List.setIfInBounds_toArray, List.set_cons_zero, List.set_cons_succ]); refine hK _ _ ?_; clear hK K)) | (refine m_skip (by rfl) (by rfl) ?_; (intro K hK; (try simp only [Act.put, List.setIfInBounds_toArray, List.set_cons_zero, List.set_cons_succ]); refine hK _ _ ?_; clear hK K)))
        refine m_make (by rfl) (by rfl) ?_ ?_
        · intro wz hSw hdep R hRz
          obtain ⟨hSe, hSc⟩ := hSw
          (try simp only [List.forall_mem_cons, List.forall_mem_nil, and_true] at hSc)
          unfold does
          (go_simp; refine Calls.mono (slices_Clone x.shape _ _ _ wz ((E.out.arr 2 rfl).shape.up hSe)) ?_; rintro e wq ⟨so, sc, rfl, hO, hb⟩; exact ⟨_, rfl, hRz.out _ _ ⟨hb, so, sc, rfl, hO, hb⟩⟩)
        intro v3 u3 x3 hG3 K hK
        have hF3 := hG3.fact
        (try dsimp only at hF3)
        obtain ⟨so, sc, he, hO, hb⟩ := hF3
        injection he with he
        subst he
        (try simp only [Act.put, List.setIfInBounds_toArray, List.set_cons_zero, List.set_cons_succ]); refine hK _ _ ?_; clear hK K
        repeat (first | (refine m_plain (v := ?_) (by rfl) (by rfl) ?_ ?_; rotate_left; (intro wz hSw; obtain ⟨-, hSc⟩ := hSw; (try simp only [List.forall_mem_cons, List.forall_mem_nil, and_true] at hSc); go_simp; (first | done | with_reducible rfl)); (intro K hK; (try simp only [Act.put, List.setIfInBounds_toArray, List.set_cons_zero, List.set_cons_succ]); refine hK _ _ ?_; clear hK K)) | (refine m_skip (by rfl) (by rfl) ?_; (intro K hK; (try simp only [Act.put, List.setIfInBounds_toArray, List.set_cons_zero, List.set_cons_succ]); refine hK _ _ ?_; clear hK K)))
        refine m_nil ?_
        intro wf hSf hAf
        replace E := hid ((E.out.up hSf.1).addIntsF (u := W) (((hO.ints (by omega)).mono fun b _ hq => Nat.le_trans (Below.size hG3.s.1) hq.1).up (hAf 3 _ rfl)) E.out.blt E.out.size)
        (try simp only [List.cons_append, List.nil_append, List.set_cons_zero, List.set_cons_succ] at E)
        clear hSf hAf hG3 hO hb
        refine wpl_storeRow (by rfl) 99 (.tmp 8) (.tmp 47) (by rfl) _ _ _ _ (by rfl) (by rfl) (E.out.obj 1 rfl) (by kernel_rfl) (by rfl) (by simp [Value.oneCell']) ?_
        intro V2 HV CV
        replace E := hid (E.out.chg 1 rfl CV HV)
        (try simp only [List.cons_append, List.nil_append, List.set_cons_zero, List.set_cons_succ] at E)
        go_wp2_with fail
        exact bodyPost_ret (end_side rfl HV rfl) rfl (hR.out _ _ ⟨so, sc, by rw [hs.out], by rw [hs.out]; exact (E.out.intsF 4 rfl).mono fun b _ q => q.2, E.out.ext⟩)
      · go_upto_region 7 with (fail)
        refine wp_region_mono_tail 5 (Sees W [(⟨w.heap.size, 0, none⟩, .int .i64 x.kind), (⟨w.heap.size, 1, none⟩, .slice sx x.shape.length cx), (⟨w.heap.size, 2, none⟩, .slice nx x.nums.length mx), (⟨w.heap.size, 3, none⟩, .slice ix x.items.length jx)]) [3] (fun k v u u' => match k with | 3 => ClonedI u x.shape (.returned v) u' | _ => False) (fun _ _ h e => h.up e) (Sees.start (all_cons (q00) (all_cons (q01) (all_cons (q02) (all_cons (q03) (all_nil)))))) (by kernel_rfl) (by kernel_rfl) ?_
        simp only [List.take_succ_cons, List.take_zero, List.drop_succ_cons, List.drop_zero]
        repeat (first | (refine m_plain (v := ?_) (by rfl) (by rfl) ?_ ?_; rotate_left; (intro wz hSw; obtain ⟨-, hSc⟩ := hSw; (try simp only [List.forall_mem_cons, List.forall_mem_nil, and_true] at hSc); go_simp; (first | done | with_reducible rfl)); (intro K hK; (try simp only [Act.put, List.setIfInBounds_toArray, List.set_cons_zero, List.set_cons_succ]); refine hK _ _ ?_; clear hK K)) | (refine m_skip (by rfl) (by rfl) ?_; (intro K hK; (try simp only [Act.put, List.setIfInBounds_toArray, List.set_cons_zero, List.set_cons_succ]); refine hK _ _ ?_; clear hK K)))
        refine m_make (by rfl) (by rfl) ?_ ?_
        · intro wz hSw hdep R hRz
          obtain ⟨hSe, hSc⟩ := hSw
          (try simp only [List.forall_mem_cons, List.forall_mem_nil, and_true] at hSc)
          unfold does
          (go_simp; refine Calls.mono (slices_Clone x.shape _ _ _ wz ((E.out.arr 2 rfl).shape.up hSe)) ?_; rintro e wq ⟨so, sc, rfl, hO, hb⟩; exact ⟨_, rfl, hRz.out _ _ ⟨hb, so, sc, rfl, hO, hb⟩⟩)
        intro v3 u3 x3 hG3 K hK
        have hF3 := hG3.fact
        (try dsimp only at hF3)
        obtain ⟨so, sc, he, hO, hb⟩ := hF3
        injection he with he
        subst he
        (try simp only [Act.put, List.setIfInBounds_toArray, List.set_cons_zero, List.set_cons_succ]); refine hK _ _ ?_; clear hK K
        repeat (first | (refine m_plain (v := ?_) (by rfl) (by rfl) ?_ ?_; rotate_left; (intro wz hSw; obtain ⟨-, hSc⟩ := hSw; (try simp only [List.forall_mem_cons, List.forall_mem_nil, and_true] at hSc); go_simp; (first | done | with_reducible rfl)); (intro K hK; (try simp only [Act.put, List.setIfInBounds_toArray, List.set_cons_zero, List.set_cons_succ]); refine hK _ _ ?_; clear hK K)) | (refine m_skip (by rfl) (by rfl) ?_; (intro K hK; (try simp only [Act.put, List.setIfInBounds_toArray, List.set_cons_zero, List.set_cons_succ]); refine hK _ _ ?_; clear hK K)))
        refine m_nil ?_
        intro wf hSf hAf
        replace E := hid ((E.out.up hSf.1).addIntsF (u := W) (((hO.ints (by omega)).mono fun b _ hq => Nat.le_trans (Below.size hG3.s.1) hq.1).up (hAf 3 _ rfl)) E.out.blt E.out.size)
        (try simp only [List.cons_append, List.nil_append, List.set_cons_zero, List.set_cons_succ] at E)
        clear hSf hAf hG3 hO hb
        refine wpl_storeRow (by rfl) 99 (.tmp 8) (.tmp 47) (by rfl) _ _ _ _ (by rfl) (by rfl) (E.out.obj 1 rfl) (by kernel_rfl) (by rfl) (by simp [Value.oneCell']) ?_
        intro V2 HV CV
        replace E := hid (E.out.chg 1 rfl CV HV)
        (try simp only [List.cons_append, List.nil_append, List.set_cons_zero, List.set_cons_succ] at E)
        go_wp2_with fail
        exact bodyPost_ret (end_side rfl HV rfl) rfl (hR.out _ _ ⟨so, sc, by rw [hs.out], by rw [hs.out]; exact (E.out.intsF 4 rfl).mono fun b _ q => q.2, E.out.ext⟩)
end Go.Proofs.Ytdpdcjadedcglaa
