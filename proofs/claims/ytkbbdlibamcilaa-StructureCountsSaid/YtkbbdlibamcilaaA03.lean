/- The functions of package array that look into arrays: contracts. Conditions: the arrays are read. -/
import Derived.Test.YtkbbdlibamcilaaCln
import Derived.Test.YtkbbdlibamcilaaSpecA
import Derived.LoopTactic
import Derived.Deep.DeepCutAuto
import Derived.Deep.RegionWith
import Derived.Deep.RegionHeld3
import Derived.Deep.CutBlock
import Derived.Lib.QuietBelow
set_option linter.unusedVariables false
set_option linter.unusedSimpArgs false
namespace Go.Proofs.Ytkbbdlibamcilaa
open Go.RowKit
attribute [local go_sem ↓] run_max2 run_min2
attribute [local go_sem] eql_ints_nil eql_arrs_nil

/-- the cells of a boxed value, in a later world -/
theorem box_cell {w w1 : World} {cs : Array Value} {t : TypeId} (hb : Below (w.alloc (.cells cs t)).heap.size (w.alloc (.cells cs t)) w1) (o : Nat) : w1.cell? ⟨w.heap.size, o, none⟩ = cs[o]? := by
  rw [hb.cell (p := ⟨w.heap.size, o, none⟩) (by simp)]
  exact cell_of_row _ w.heap.size o cs t (0, 0) (heap_alloc_new w _)
theorem below_alloc {w w1 : World} {o : Obj} (hb : Below (w.alloc o).heap.size (w.alloc o) w1) : Below w.heap.size w w1 :=
  ((Below.refl w.heap.size w).alloc (Nat.le_refl _) o).trans (hb.mono (by simp))

set_option maxHeartbeats 1000000 in
theorem array_form_1 (d : Int) (w : World) : Calls Try.prog 79 #[.int .i64 d] w fun e w' => e = .returned (.bool (negB d)) ∧ w = w' := by
  refine calls_post fun R' hR => ?_
  go_enter Try.func79, Try.ntmps79
  go_wp2
  exact hR.out _ _ ⟨rfl, rfl⟩
def FormMid (k : Int) (nn ni : Nat) (W : World) (u o : Value) (wx : World) : Prop := wx = W ∧ u = .int .i64 ((if k = 3 then ni else nn : Nat) : Int) ∧ o = .int .i64 ((if k = 3 then nn else ni : Nat) : Int)
set_option maxHeartbeats 4000000 in
theorem array_form (a : Arr) (sa : Option Addr) (sc : Nat) (na : Option Addr) (nc : Nat) (ia : Option Addr) (ic : Nat) (S : Nat → Prop) (w : World) (h : ArrAt w S a sa na ia) :
    Calls Try.prog 75 #[.agg #[.int .i64 a.kind, .slice sa a.shape.length sc, .slice na a.nums.length nc, .slice ia a.items.length ic]] w fun e w' => e = .returned (.int .i64 (formE a.kind a.shape a.nums.length a.items.length)) ∧ Below w.heap.size w w' := by
  have hs := hid h.shape
  have hn := h.nums.1
  have hl := h.len
  clear h
  generalize a.kind = k
  generalize a.shape = s at hs
  generalize a.nums.length = nn at hn
  generalize a.items.length = ni at hl
  refine calls_post fun R' hR => ?_
  have hsl := hs.out.1
  by_cases hk : k = 1 ∨ k = 2 ∨ k = 3
  · have HK := hid hk
    go_enter Try.func75, Try.ntmps75
    go_wp2_with fail
    go_quiet (fail)
    generalize hW : (w.alloc (.cells #[.int .i64 k, .slice sa s.length sc, .slice na nn nc, .slice ia ni ic] 26)).drewN _ = W
    have hb0 : Below w.heap.size w W := by
      rw [← hW]; exact below_drewN ((Below.refl _ _).alloc (Nat.le_refl _) _) _
    have hs1 : IntsAt W S sa s := by
      rw [← hW]; exact (hs.out.alloc _).keep fun _ _ _ => rfl
    have c0 : W.cell? ⟨w.heap.size, 0, none⟩ = some (.int .i64 k) := by rw [← hW]; simp
    have c1 : W.cell? ⟨w.heap.size, 1, none⟩ = some (.slice sa s.length sc) := by rw [← hW]; simp
    clear hW hs
    have HS := hid hs1
    have HB := hid hb0
    clear hs1 hb0
    go_upto_block 0 with (fail)
    go_cut [3, 4] (fun u o wx => FormMid k nn ni W u o wx)
    case first =>
      rcases hk with hk | hk | hk
      · have e1 : (k == 1) = true := by simp [hk]
        have F : Hid (FormMid k nn ni W (.int .i64 nn) (.int .i64 ni) W) := ⟨rfl, by rw [if_neg (by omega)], by rw [if_neg (by omega)]⟩
        clear hk
        go_wp2_with fail
        go_meet
        exact F.out
      · have e1 : (k == 1) = false := by simp [hk]
        have e2 : (k == 2) = true := by simp [hk]
        have F : Hid (FormMid k nn ni W (.int .i64 nn) (.int .i64 ni) W) := ⟨rfl, by rw [if_neg (by omega)], by rw [if_neg (by omega)]⟩
        clear hk
        go_wp2_with fail
        go_meet
        exact F.out
      · have e1 : (k == 1) = false := by simp [hk]
        have e2 : (k == 2) = false := by simp [hk]
        have e3 : (k == 3) = true := by simp [hk]
        have F : Hid (FormMid k nn ni W (.int .i64 ni) (.int .i64 nn) W) := ⟨rfl, by rw [if_pos hk], by rw [if_pos hk]⟩
        clear hk
        go_wp2_with fail
        go_meet
        exact F.out
    case rest =>
      clear hk
      obtain ⟨rfl, rfl, rfl⟩ := hcut
      have hu : ((if k = 3 then ni else nn : Nat) : Int) ≤ 17592186044416 := by split <;> omega
      have ho : ((if k = 3 then nn else ni : Nat) : Int) ≤ 17592186044416 := by split <;> omega
      have hE : Hid (¬ 8 < s.length → s.any negB = false → shapeB s = true → formE k s nn ni = if ((if k = 3 then ni else nn : Nat) : Int) ≠ cnt s ∨ ((if k = 3 then nn else ni : Nat) : Int) ≠ 0 then 16 else 0) := fun x1 x2 x3 => by
        by_cases h3 : k = 3
        · rw [formE_last3 h3 x1 x2 x3]; simp [h3]
        · rw [formE_last (by have := HK.out; omega) x1 x2 x3]; simp [h3]
      generalize (if k = 3 then ni else nn : Nat) = used at hu hE ⊢
      generalize (if k = 3 then nn else ni : Nat) = other at ho hE ⊢
      by_cases h8 : 8 < s.length
      · have E := hid (formE_rank (s := s) (nn := nn) (ni := ni) HK.out h8)
        go_wp2_with fail
        exact hR.out _ _ ⟨by rw [E.out] <;> rfl, HB.out⟩
      cases hn : s.any negB with
      | true =>
        have E := hid (formE_neg (nn := nn) (ni := ni) HK.out h8 hn)
        replace hn := hid hn
        go_wp2_with (go_at_call 41; refine (slices_ContainsFunc_array_form_1 negB _ _ _ _ _ HS.out (fun n => array_form_1 n _)).mono ?_; rintro e w' ⟨rfl, rfl⟩; rw [hn.out])
        exact hR.out _ _ ⟨by rw [E.out] <;> rfl, HB.out⟩
      | false =>
        cases hb : shapeB s with
        | false =>
          have E := hid (formE_limit (nn := nn) (ni := ni) HK.out h8 hn hb)
          replace hn := hid hn
          replace hb := hid hb
          go_wp2_with (first | (go_at_call 41; refine (slices_ContainsFunc_array_form_1 negB _ _ _ _ _ HS.out (fun n => array_form_1 n _)).mono ?_; rintro e w' ⟨rfl, rfl⟩; rw [hn.out]) | (go_at_call 43; refine (shape_Right _ _ _ _ _ HS.out).mono ?_; rintro e w' ⟨rfl, rfl⟩; rw [hb.out]))
          exact hR.out _ _ ⟨by rw [E.out] <;> rfl, HB.out⟩
        | true =>
          have E := hid (hE.out h8 hn hb)
          have Z := hid (sizeS_true hb)
          replace hn := hid hn
          replace hb := hid hb
          clear hE
          generalize cnt s = c at E Z
          by_cases q1 : (used : Int) = c
          · by_cases q2 : (other : Int) = 0
            · have f1 : ((used : Int) != c) = false := by simp [q1]
              have f2 : ((other : Int) != 0) = false := by simp [q2]
              rw [if_neg (by simp [q1, q2])] at E
              clear q1 q2
              go_wp2_with (first | (go_at_call 41; refine (slices_ContainsFunc_array_form_1 negB _ _ _ _ _ HS.out (fun n => array_form_1 n _)).mono ?_; rintro e w' ⟨rfl, rfl⟩; rw [hn.out]) | (go_at_call 43; refine (shape_Right _ _ _ _ _ HS.out).mono ?_; rintro e w' ⟨rfl, rfl⟩; rw [hb.out]) | (go_at_call 45; refine (shape_Size _ _ _ _ _ HS.out).mono ?_; rintro e w' ⟨rfl, rfl⟩; rw [Z.out]))
              exact hR.out _ _ ⟨by rw [E.out] <;> rfl, HB.out⟩
            · have f1 : ((used : Int) != c) = false := by simp [q1]
              have f2 : ((other : Int) != 0) = true := by simpa using q2
              rw [if_pos (Or.inr q2)] at E
              clear q1 q2
              go_wp2_with (first | (go_at_call 41; refine (slices_ContainsFunc_array_form_1 negB _ _ _ _ _ HS.out (fun n => array_form_1 n _)).mono ?_; rintro e w' ⟨rfl, rfl⟩; rw [hn.out]) | (go_at_call 43; refine (shape_Right _ _ _ _ _ HS.out).mono ?_; rintro e w' ⟨rfl, rfl⟩; rw [hb.out]) | (go_at_call 45; refine (shape_Size _ _ _ _ _ HS.out).mono ?_; rintro e w' ⟨rfl, rfl⟩; rw [Z.out]))
              exact hR.out _ _ ⟨by rw [E.out] <;> rfl, HB.out⟩
          · have f1 : ((used : Int) != c) = true := by simpa using q1
            rw [if_pos (Or.inl q1)] at E
            clear q1
            go_wp2_with (first | (go_at_call 41; refine (slices_ContainsFunc_array_form_1 negB _ _ _ _ _ HS.out (fun n => array_form_1 n _)).mono ?_; rintro e w' ⟨rfl, rfl⟩; rw [hn.out]) | (go_at_call 43; refine (shape_Right _ _ _ _ _ HS.out).mono ?_; rintro e w' ⟨rfl, rfl⟩; rw [hb.out]) | (go_at_call 45; refine (shape_Size _ _ _ _ _ HS.out).mono ?_; rintro e w' ⟨rfl, rfl⟩; rw [Z.out]))
            exact hR.out _ _ ⟨by rw [E.out] <;> rfl, HB.out⟩
  · have E := hid (formE_kind (s := s) (nn := nn) (ni := ni) (k := k) (by omega) (by omega) (by omega))
    have e1 : (k == 1) = false := by simp; omega
    have e2 : (k == 2) = false := by simp; omega
    have e3 : (k == 3) = false := by simp; omega
    clear hk
    go_enter Try.func75, Try.ntmps75
    go_wp2_with fail
    go_quiet (fail)
    go_wp2_with fail
    exact hR.out _ _ ⟨by rw [E.out] <;> rfl, below_drewN ((Below.refl _ _).alloc (Nat.le_refl _) _) _⟩

set_option maxHeartbeats 1000000 in
theorem array_number (n : Int) (w : World) : Calls Try.prog 76 #[.int .i64 n] w fun e w' => e = .returned (.bool (numB n)) ∧ w = w' := by
  refine calls_post fun R' hR => ?_
  by_cases h1 : -4611686018427387903 ≤ n
  · by_cases h2 : n ≤ 4611686018427387903
    · have E := hid (show numB n = true by simp [numB]; omega)
      go_enter Try.func76, Try.ntmps76
      go_wp2
      exact hR.out _ _ ⟨by rw [E.out] <;> rfl, rfl⟩
    · have E := hid (show numB n = false by simp [numB]; omega)
      go_enter Try.func76, Try.ntmps76
      go_wp2
      exact hR.out _ _ ⟨by rw [E.out] <;> rfl, rfl⟩
  · have E := hid (show numB n = false by simp [numB]; omega)
    go_enter Try.func76, Try.ntmps76
    go_wp2
    exact hR.out _ _ ⟨by rw [E.out] <;> rfl, rfl⟩
set_option maxHeartbeats 1000000 in
theorem array_character (n : Int) (w : World) : Calls Try.prog 77 #[.int .i64 n] w fun e w' => e = .returned (.bool (chrB n)) ∧ w = w' := by
  refine calls_post fun R' hR => ?_
  by_cases h1 : 0 ≤ n
  · by_cases h2 : n ≤ 1114111
    · by_cases h3 : n < 55296
      · have E := hid (show chrB n = true by simp [chrB]; omega)
        go_enter Try.func77, Try.ntmps77
        go_wp2
        exact hR.out _ _ ⟨by rw [E.out] <;> rfl, rfl⟩
      · by_cases h4 : 57343 < n
        · have E := hid (show chrB n = true by simp [chrB]; omega)
          go_enter Try.func77, Try.ntmps77
          go_wp2
          exact hR.out _ _ ⟨by rw [E.out] <;> rfl, rfl⟩
        · have E := hid (show chrB n = false by simp [chrB]; omega)
          go_enter Try.func77, Try.ntmps77
          go_wp2
          exact hR.out _ _ ⟨by rw [E.out] <;> rfl, rfl⟩
    · have E := hid (show chrB n = false by simp [chrB]; omega)
      go_enter Try.func77, Try.ntmps77
      go_wp2
      exact hR.out _ _ ⟨by rw [E.out] <;> rfl, rfl⟩
  · have E := hid (show chrB n = false by simp [chrB]; omega)
    go_enter Try.func77, Try.ntmps77
    go_wp2
    exact hR.out _ _ ⟨by rw [E.out] <;> rfl, rfl⟩
def VisRel (w1 : World) (l : List Arr) (d0 w0 : Int) (u57 u9 u10 : Value) (wr : World) : Prop :=
  ∃ (j : Nat) (d m : Int), j ≤ l.length ∧ u57 = .int .i64 j ∧ u9 = .int .i64 d ∧ u10 = .int .i64 m ∧ chkL l d0 w0 = chkL (l.drop j) d m ∧ 0 ≤ d ∧ d ≤ 17 ∧ 0 ≤ m ∧ m ≤ 65536 + 262145 ∧ Below w1.heap.size w1 wr
theorem elemB1 {n : Int} : elemB 1 n = numB n := by simp [elemB]
theorem elemB2 {n : Int} : elemB 2 n = chrB n := by simp [elemB]
theorem elemB3 {n : Int} : elemB 3 n = true := by simp [elemB]
theorem any_take_succ {n : List Int} {p : Int → Bool} {k : Nat} (hk : k < n.length) (h : (n.take k).any p = false) (h1 : p (n.getD k 0) = false) : (n.take (k + 1)).any p = false := by
  rw [take_succ_getD hk, List.any_append, h]
  simpa using h1
theorem any_of_at {n : List Int} {p : Int → Bool} {k : Nat} (hk : k < n.length) (h1 : p (n.getD k 0) = true) : n.any p = true := List.any_eq_true.2 ⟨_, getD_mem hk, h1⟩
theorem chkL_step {x : Arr} {l : List Arr} {d w : Int} (h : (chk x).1 = 0) : chkL (x :: l) d w = chkL l (max d ((chk x).2.1 + 1)) (min (w + (chk x).2.2) 262145) := by
  simp only [chkL]; rw [if_neg (by simpa using h)]
theorem chkL_stop {x : Arr} {l : List Arr} {d w : Int} (h : (chk x).1 ≠ 0) : chkL (x :: l) d w = none := by
  simp only [chkL]; rw [if_pos h]
theorem drop_at {l : List Arr} {j : Nat} (h : j < l.length) : l.drop j = l[j] :: l.drop (j + 1) := List.drop_eq_getElem_cons h
end Go.Proofs.Ytkbbdlibamcilaa
