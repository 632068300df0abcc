/- binary.function and its makers: contracts. Conditions: those of each lemma. -/
import Derived.Test.YtolnbmmkpmajdaaBIN3
set_option linter.unusedVariables false
set_option maxRecDepth 20000
set_option linter.unusedSimpArgs false
namespace Go.Proofs.Ytolnbmmkpmajdaa
open Go.RowKit Go.Sort
attribute [local go_sem ↓] run_max2 run_min2
attribute [local go_sem] eql_ints_nil eql_arrs_nil
theorem cell_new1 (w : World) (v : Value) (t : TypeId) : (w.alloc (.cells #[v] t)).cell? ⟨w.heap.size, 0, none⟩ = some v := (cell_row1 (heap_alloc_new w _)).1
set_option maxHeartbeats 2000000 in
theorem binary_test (K : FuncId) (caps : Array Value) (bl0 : List Nat) (F : Int → Int → Bool) (w : World) (hK : ∀ (args : Array Value) (wz : World), (callFunc K args).run Try.prog wz = .ok (.enter K args) wz) (hbl : ∀ q ∈ bl0, q < w.heap.size)
    (h : ∀ (a b : Int) (wz : World), (∀ q ∈ bl0, wz.heap[q]? = w.heap[q]?) → Calls Try.prog K (#[.int .i64 a, .int .i64 b] ++ caps) wz fun e w' => e = .returned (.bool (F a b)) ∧ Ext wz w') :
    Calls Try.prog 39 #[.func (.func K) #[] caps] w fun e w' => ∃ gv, e = .returned gv ∧ FnOk bl0 w w' gv (fun a b => (if F a b then 1 else 0, 0)) ∧ Ext w w' := by
  refine calls_post fun R' hR => ?_
  replace h := hid h
  have hK2 := hid hK
  clear hK
  go_enter Try.func39, Try.ntmps39
  go_wp2_with fail
  refine hR.out _ _ ⟨_, rfl, ⟨75, _, w.heap.size :: bl0, rfl, (fun args wz => by kernel_rfl), (fun q hq => ?_), fun a b wz hz _ _ => ?_⟩, ext_alloc _ _⟩
  · rcases List.mem_cons.1 hq with e | e
    · subst e; exact ⟨Or.inr (Nat.le_refl _), by simp⟩
    · exact ⟨Or.inl e, by have := hbl q e; simp; omega⟩
  · exact binary_test1 hK2.out a b w.heap.size wz ((World.cell?_of_block (a := ⟨w.heap.size, 0, none⟩) (hz _ (List.mem_cons_self ..))).trans (cell_new1 w _ _)) (h.out a b wz fun q hq => (hz q (List.mem_cons_of_mem _ hq)).trans (Below.heap_alloc w _ q (hbl q hq)))
set_option maxHeartbeats 2000000 in
theorem binary_logical (K : FuncId) (hK : ∀ (args : Array Value) (wz : World), (callFunc K args).run Try.prog wz = .ok (.enter K args) wz) (h : ∀ a b : Int, ∃ r, RetN K #[.int .i64 a, .int .i64 b] r) :
    ∃ F : Int → Int → Int × Int, ∀ w : World, Calls Try.prog 72 #[.func (.func K) #[] #[]] w fun e w' => ∃ gv, e = .returned gv ∧ FnOk [] w w' gv F ∧ Ext w w' := by
  have h1 : ∀ a b : Int, ∃ rs : Int × Int, ∀ (pc : Nat) (w : World) (hc : w.cell? ⟨pc, 0, none⟩ = some (.func (.func K) #[] #[])),
      Calls Try.prog 92 #[.int .i64 a, .int .i64 b, .pointer (some ⟨pc, 0, none⟩)] w fun e w' => e = .returned (.tuple #[.int .i64 rs.1, .int .i64 rs.2]) ∧ Ext w w' := fun a b => by
    obtain ⟨r, hr⟩ := h a b
    obtain ⟨u, v, q⟩ := binary_logical1 hK a b r hr
    exact ⟨(u, v), q⟩
  obtain ⟨F, hF⟩ : ∃ F : Int → Int → Int × Int, ∀ (a b : Int) (pc : Nat) (w : World) (hc : w.cell? ⟨pc, 0, none⟩ = some (.func (.func K) #[] #[])),
      Calls Try.prog 92 #[.int .i64 a, .int .i64 b, .pointer (some ⟨pc, 0, none⟩)] w fun e w' => e = .returned (.tuple #[.int .i64 (F a b).1, .int .i64 (F a b).2]) ∧ Ext w w' :=
    ⟨fun a b => Classical.choose (h1 a b), fun a b => Classical.choose_spec (h1 a b)⟩
  refine ⟨F, fun w => calls_post fun R' hR => ?_⟩
  clear h1 h hK
  replace hF := hid hF
  go_enter Try.func72, Try.ntmps72
  go_wp2_with fail
  refine hR.out _ _ ⟨_, rfl, ⟨92, _, [w.heap.size], rfl, (fun args wz => by kernel_rfl), (fun q hq => by rw [List.mem_singleton.1 hq]; exact ⟨Or.inr (Nat.le_refl _), by simp⟩), fun a b wz hz _ _ => ?_⟩, ext_alloc _ _⟩
  exact hF.out a b w.heap.size wz ((World.cell?_of_block (a := ⟨w.heap.size, 0, none⟩) (hz _ (List.mem_singleton.2 rfl))).trans (cell_new1 w _ _))
/-- what binary.function returns is a function of two numbers -/
def FunP (p : Int) : Prop := ∃ F : Int → Int → Int × Int, ∀ w : World, Calls Try.prog 38 #[.int .i64 p] w fun e w' => ∃ fv, e = .returned fv ∧ FnOk [] w w' fv F ∧ Ext w w'
set_option maxHeartbeats 2000000 in
theorem funP_1 : FunP 1 := by
  obtain ⟨F, hF⟩ := fn_pick num_Add
  refine ⟨F, fun w => calls_post fun R' hR => ?_⟩
  replace hF := hid hF
  go_enter Try.func38, Try.ntmps38
  go_wp2_with fail
  exact hR.out _ _ ⟨_, rfl, fn_ok (fun args wz => by kernel_rfl) hF.out _ _ _, Ext.refl _⟩
set_option maxHeartbeats 2000000 in
theorem funP_2 : FunP 2 := by
  obtain ⟨F, hF⟩ := fn_pick num_Sub
  refine ⟨F, fun w => calls_post fun R' hR => ?_⟩
  replace hF := hid hF
  go_enter Try.func38, Try.ntmps38
  go_wp2_with fail
  exact hR.out _ _ ⟨_, rfl, fn_ok (fun args wz => by kernel_rfl) hF.out _ _ _, Ext.refl _⟩
set_option maxHeartbeats 2000000 in
theorem funP_3 : FunP 3 := by
  obtain ⟨F, hF⟩ := fn_pick num_Mul
  refine ⟨F, fun w => calls_post fun R' hR => ?_⟩
  replace hF := hid hF
  go_enter Try.func38, Try.ntmps38
  go_wp2_with fail
  exact hR.out _ _ ⟨_, rfl, fn_ok (fun args wz => by kernel_rfl) hF.out _ _ _, Ext.refl _⟩
set_option maxHeartbeats 2000000 in
theorem funP_4 : FunP 4 := by
  obtain ⟨F, hF⟩ := fn_pick num_Div
  refine ⟨F, fun w => calls_post fun R' hR => ?_⟩
  replace hF := hid hF
  go_enter Try.func38, Try.ntmps38
  go_wp2_with fail
  exact hR.out _ _ ⟨_, rfl, fn_ok (fun args wz => by kernel_rfl) hF.out _ _ _, Ext.refl _⟩
set_option maxHeartbeats 2000000 in
theorem funP_5 : FunP 5 := by
  obtain ⟨F, hF⟩ := fn_pick num_Mod
  refine ⟨F, fun w => calls_post fun R' hR => ?_⟩
  replace hF := hid hF
  go_enter Try.func38, Try.ntmps38
  go_wp2_with fail
  exact hR.out _ _ ⟨_, rfl, fn_ok (fun args wz => by kernel_rfl) hF.out _ _ _, Ext.refl _⟩
set_option maxHeartbeats 2000000 in
theorem funP_6 : FunP 6 := by
  obtain ⟨F, hF⟩ := fn_pick num_Pow
  refine ⟨F, fun w => calls_post fun R' hR => ?_⟩
  replace hF := hid hF
  go_enter Try.func38, Try.ntmps38
  go_wp2_with fail
  exact hR.out _ _ ⟨_, rfl, fn_ok (fun args wz => by kernel_rfl) hF.out _ _ _, Ext.refl _⟩
set_option maxHeartbeats 2000000 in
theorem funP_7 : FunP 7 := by
  obtain ⟨F, hF⟩ := fn_pick fun_1
  refine ⟨F, fun w => calls_post fun R' hR => ?_⟩
  replace hF := hid hF
  go_enter Try.func38, Try.ntmps38
  go_wp2_with fail
  exact hR.out _ _ ⟨_, rfl, fn_ok (fun args wz => by kernel_rfl) hF.out _ _ _, Ext.refl _⟩
set_option maxHeartbeats 2000000 in
theorem funP_8 : FunP 8 := by
  obtain ⟨F, hF⟩ := fn_pick fun_2
  refine ⟨F, fun w => calls_post fun R' hR => ?_⟩
  replace hF := hid hF
  go_enter Try.func38, Try.ntmps38
  go_wp2_with fail
  exact hR.out _ _ ⟨_, rfl, fn_ok (fun args wz => by kernel_rfl) hF.out _ _ _, Ext.refl _⟩
set_option maxHeartbeats 2000000 in
theorem funP_9 : FunP 9 := by
  refine ⟨fun a b => (if decide (a < b) then 1 else 0, 0), fun w => calls_post fun R' hR => ?_⟩
  go_enter Try.func38, Try.ntmps38
  go_wp2_with fail
  refine (binary_test 66 #[] [] (fun a b => decide (a < b)) w (fun args wz => by kernel_rfl) (fun q hq => by cases hq) (fun a b wz _ => fun_3 a b wz)).mono ?_
  rintro e w1 ⟨gv, rfl, hG, e1⟩
  replace hG := hid hG
  replace e1 := hid e1
  go_wp2_with fail
  exact hR.out _ _ ⟨_, rfl, hG.out, e1.out⟩
set_option maxHeartbeats 2000000 in
theorem funP_10 : FunP 10 := by
  refine ⟨fun a b => (if decide (a ≤ b) then 1 else 0, 0), fun w => calls_post fun R' hR => ?_⟩
  go_enter Try.func38, Try.ntmps38
  go_wp2_with fail
  refine (binary_test 67 #[] [] (fun a b => decide (a ≤ b)) w (fun args wz => by kernel_rfl) (fun q hq => by cases hq) (fun a b wz _ => fun_4 a b wz)).mono ?_
  rintro e w1 ⟨gv, rfl, hG, e1⟩
  replace hG := hid hG
  replace e1 := hid e1
  go_wp2_with fail
  exact hR.out _ _ ⟨_, rfl, hG.out, e1.out⟩
set_option maxHeartbeats 2000000 in
theorem funP_11 : FunP 11 := by
  refine ⟨fun a b => (if (a == b) then 1 else 0, 0), fun w => calls_post fun R' hR => ?_⟩
  go_enter Try.func38, Try.ntmps38
  go_wp2_with fail
  refine (binary_test 68 #[] [] (fun a b => (a == b)) w (fun args wz => by kernel_rfl) (fun q hq => by cases hq) (fun a b wz _ => fun_5 a b wz)).mono ?_
  rintro e w1 ⟨gv, rfl, hG, e1⟩
  replace hG := hid hG
  replace e1 := hid e1
  go_wp2_with fail
  exact hR.out _ _ ⟨_, rfl, hG.out, e1.out⟩
set_option maxHeartbeats 2000000 in
theorem funP_12 : FunP 12 := by
  refine ⟨fun a b => (if (a != b) then 1 else 0, 0), fun w => calls_post fun R' hR => ?_⟩
  go_enter Try.func38, Try.ntmps38
  go_wp2_with fail
  refine (binary_test 69 #[] [] (fun a b => (a != b)) w (fun args wz => by kernel_rfl) (fun q hq => by cases hq) (fun a b wz _ => fun_6 a b wz)).mono ?_
  rintro e w1 ⟨gv, rfl, hG, e1⟩
  replace hG := hid hG
  replace e1 := hid e1
  go_wp2_with fail
  exact hR.out _ _ ⟨_, rfl, hG.out, e1.out⟩
set_option maxHeartbeats 2000000 in
theorem funP_13 : FunP 13 := by
  refine ⟨fun a b => (if decide (b ≤ a) then 1 else 0, 0), fun w => calls_post fun R' hR => ?_⟩
  go_enter Try.func38, Try.ntmps38
  go_wp2_with fail
  refine (binary_test 70 #[] [] (fun a b => decide (b ≤ a)) w (fun args wz => by kernel_rfl) (fun q hq => by cases hq) (fun a b wz _ => fun_7 a b wz)).mono ?_
  rintro e w1 ⟨gv, rfl, hG, e1⟩
  replace hG := hid hG
  replace e1 := hid e1
  go_wp2_with fail
  exact hR.out _ _ ⟨_, rfl, hG.out, e1.out⟩
set_option maxHeartbeats 2000000 in
theorem funP_14 : FunP 14 := by
  refine ⟨fun a b => (if decide (b < a) then 1 else 0, 0), fun w => calls_post fun R' hR => ?_⟩
  go_enter Try.func38, Try.ntmps38
  go_wp2_with fail
  refine (binary_test 71 #[] [] (fun a b => decide (b < a)) w (fun args wz => by kernel_rfl) (fun q hq => by cases hq) (fun a b wz _ => fun_8 a b wz)).mono ?_
  rintro e w1 ⟨gv, rfl, hG, e1⟩
  replace hG := hid hG
  replace e1 := hid e1
  go_wp2_with fail
  exact hR.out _ _ ⟨_, rfl, hG.out, e1.out⟩
set_option maxHeartbeats 2000000 in
theorem funP_15 : FunP 15 := by
  obtain ⟨F, hF⟩ := binary_logical 73 (fun args wz => by kernel_rfl) fun_9
  refine ⟨F, fun w => calls_post fun R' hR => ?_⟩
  replace hF := hid hF
  go_enter Try.func38, Try.ntmps38
  go_wp2_with fail
  refine (hF.out w).mono ?_
  rintro e w1 ⟨gv, rfl, hG, e1⟩
  replace hG := hid hG
  replace e1 := hid e1
  go_wp2_with fail
  exact hR.out _ _ ⟨_, rfl, hG.out, e1.out⟩
set_option maxHeartbeats 2000000 in
theorem funP_16 : FunP 16 := by
  obtain ⟨F, hF⟩ := binary_logical 74 (fun args wz => by kernel_rfl) (fun a b => ⟨_, fun_10 a b⟩)
  refine ⟨F, fun w => calls_post fun R' hR => ?_⟩
  replace hF := hid hF
  go_enter Try.func38, Try.ntmps38
  go_wp2_with fail
  refine (hF.out w).mono ?_
  rintro e w1 ⟨gv, rfl, hG, e1⟩
  replace hG := hid hG
  replace e1 := hid e1
  go_wp2_with fail
  exact hR.out _ _ ⟨_, rfl, hG.out, e1.out⟩
theorem funP {p : Nat} (h1 : 1 ≤ p) (h2 : p ≤ 16) : FunP (p : Int) := by
  match p, h1, h2 with
  | 1, _, _ => exact funP_1
  | 2, _, _ => exact funP_2
  | 3, _, _ => exact funP_3
  | 4, _, _ => exact funP_4
  | 5, _, _ => exact funP_5
  | 6, _, _ => exact funP_6
  | 7, _, _ => exact funP_7
  | 8, _, _ => exact funP_8
  | 9, _, _ => exact funP_9
  | 10, _, _ => exact funP_10
  | 11, _, _ => exact funP_11
  | 12, _, _ => exact funP_12
  | 13, _, _ => exact funP_13
  | 14, _, _ => exact funP_14
  | 15, _, _ => exact funP_15
  | 16, _, _ => exact funP_16
  | 0, h, _ => omega
  | n + 17, _, h => omega
end Go.Proofs.Ytolnbmmkpmajdaa
