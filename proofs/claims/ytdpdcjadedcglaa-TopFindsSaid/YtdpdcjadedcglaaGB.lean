/- A group of texts (GB), each with its own conditions: those of each lemma. -/
import Derived.Test.YtdpdcjadedcglaaGA
import Derived.LoopTactic
import Derived.Deep.DeepCutAuto
import Derived.Deep.RegionWith
import Derived.Deep.RegionHeld3
import Derived.Deep.CutBlock
import Derived.Lib.QuietBelow
import Derived.Laws.EntriesVeiled
set_option linter.unusedVariables false
set_option maxRecDepth 20000
set_option linter.unusedSimpArgs false
namespace Go.Proofs.Ytdpdcjadedcglaa
open Go.RowKit
attribute [local go_sem ↓] run_max2 run_min2
attribute [local go_sem] eql_ints_nil eql_arrs_nil

/-- the cells of a boxed value, in a later world -/
theorem box_cell {w w1 : World} {cs : Array Value} {t : TypeId} (hb : Below (w.alloc (.cells cs t)).heap.size (w.alloc (.cells cs t)) w1) (o : Nat) : w1.cell? ⟨w.heap.size, o, none⟩ = cs[o]? := by
  rw [hb.cell (p := ⟨w.heap.size, o, none⟩) (by simp)]
  exact cell_of_row _ w.heap.size o cs t (0, 0) (heap_alloc_new w _)
theorem below_alloc {w w1 : World} {o : Obj} (hb : Below (w.alloc o).heap.size (w.alloc o) w1) : Below w.heap.size w w1 :=
  ((Below.refl w.heap.size w).alloc (Nat.le_refl _) o).trans (hb.mono (by simp))

set_option maxHeartbeats 1000000 in
theorem array_form_1 (d : Int) (w : World) : Calls Try.prog 86 #[.int .i64 d] w fun e w' => e = .returned (.bool (negB d)) ∧ w = w' := by
  refine calls_post fun R' hR => ?_
  go_enter Try.func86, Try.ntmps86
  go_wp2
  exact hR.out _ _ ⟨rfl, rfl⟩
def FormMid (k : Int) (nn ni : Nat) (W : World) (u o : Value) (wx : World) : Prop := wx = W ∧ u = .int .i64 ((if k = 3 then ni else nn : Nat) : Int) ∧ o = .int .i64 ((if k = 3 then nn else ni : Nat) : Int)
set_option maxHeartbeats 4000000 in
theorem array_form (a : Arr) (sa : Option Addr) (sc : Nat) (na : Option Addr) (nc : Nat) (ia : Option Addr) (ic : Nat) (S : Nat → Prop) (w : World) (h : ArrAt w S a sa na ia) :
    Calls Try.prog 63 #[.agg #[.int .i64 a.kind, .slice sa a.shape.length sc, .slice na a.nums.length nc, .slice ia a.items.length ic]] w fun e w' => e = .returned (.int .i64 (formE a.kind a.shape a.nums.length a.items.length)) ∧ Below w.heap.size w w' := by
  have hs := hid h.shape
  have hn := h.nums.1
  have hl := h.len
  clear h
  generalize a.kind = k
  generalize a.shape = s at hs
  generalize a.nums.length = nn at hn
  generalize a.items.length = ni at hl
  refine calls_post fun R' hR => ?_
  have hsl := hs.out.1
  by_cases hk : k = 1 ∨ k = 2 ∨ k = 3
  · have HK := hid hk
    go_enter Try.func63, Try.ntmps63
    go_wp2_with fail
    go_quiet (fail)
    generalize hW : (w.alloc (.cells #[.int .i64 k, .slice sa s.length sc, .slice na nn nc, .slice ia ni ic] 27)).drewN _ = W
    have hb0 : Below w.heap.size w W := by
      rw [← hW]; exact below_drewN ((Below.refl _ _).alloc (Nat.le_refl _) _) _
    have hs1 : IntsAt W S sa s := by
      rw [← hW]; exact (hs.out.alloc _).keep fun _ _ _ => rfl
    have c0 : W.cell? ⟨w.heap.size, 0, none⟩ = some (.int .i64 k) := by rw [← hW]; simp
    have c1 : W.cell? ⟨w.heap.size, 1, none⟩ = some (.slice sa s.length sc) := by rw [← hW]; simp
    clear hW hs
    have HS := hid hs1
    have HB := hid hb0
    clear hs1 hb0
    go_upto_block 0 with (fail)
    go_cut [3, 4] (fun u o wx => FormMid k nn ni W u o wx)
    case first =>
      rcases hk with hk | hk | hk
      · have e1 : (k == 1) = true := by simp [hk]
        have F : Hid (FormMid k nn ni W (.int .i64 nn) (.int .i64 ni) W) := ⟨rfl, by rw [if_neg (by omega)], by rw [if_neg (by omega)]⟩
        clear hk
        go_wp2_with fail
        go_meet
        exact F.out
      · have e1 : (k == 1) = false := by simp [hk]
        have e2 : (k == 2) = true := by simp [hk]
        have F : Hid (FormMid k nn ni W (.int .i64 nn) (.int .i64 ni) W) := ⟨rfl, by rw [if_neg (by omega)], by rw [if_neg (by omega)]⟩
        clear hk
        go_wp2_with fail
        go_meet
        exact F.out
      · have e1 : (k == 1) = false := by simp [hk]
        have e2 : (k == 2) = false := by simp [hk]
        have e3 : (k == 3) = true := by simp [hk]
        have F : Hid (FormMid k nn ni W (.int .i64 ni) (.int .i64 nn) W) := ⟨rfl, by rw [if_pos hk], by rw [if_pos hk]⟩
        clear hk
        go_wp2_with fail
        go_meet
        exact F.out
    case rest =>
      clear hk
      obtain ⟨rfl, rfl, rfl⟩ := hcut
      have hu : ((if k = 3 then ni else nn : Nat) : Int) ≤ 17592186044416 := by split <;> omega
      have ho : ((if k = 3 then nn else ni : Nat) : Int) ≤ 17592186044416 := by split <;> omega
      have hE : Hid (¬ 8 < s.length → s.any negB = false → shapeB s = true → formE k s nn ni = if ((if k = 3 then ni else nn : Nat) : Int) ≠ cnt s ∨ ((if k = 3 then nn else ni : Nat) : Int) ≠ 0 then 16 else 0) := fun x1 x2 x3 => by
        by_cases h3 : k = 3
        · rw [formE_last3 h3 x1 x2 x3]; simp [h3]
        · rw [formE_last (by have := HK.out; omega) x1 x2 x3]; simp [h3]
      generalize (if k = 3 then ni else nn : Nat) = used at hu hE ⊢
      generalize (if k = 3 then nn else ni : Nat) = other at ho hE ⊢
      by_cases h8 : 8 < s.length
      · have E := hid (formE_rank (s := s) (nn := nn) (ni := ni) HK.out h8)
        go_wp2_with fail
        exact hR.out _ _ ⟨by rw [E.out] <;> rfl, HB.out⟩
      cases hn : s.any negB with
      | true =>
        have E := hid (formE_neg (nn := nn) (ni := ni) HK.out h8 hn)
        replace hn := hid hn
        go_wp2_with (go_at_call 25; refine (slices_ContainsFunc_array_form_1 negB _ _ _ _ _ HS.out (fun n => array_form_1 n _)).mono ?_; rintro e w' ⟨rfl, rfl⟩; rw [hn.out])
        exact hR.out _ _ ⟨by rw [E.out] <;> rfl, HB.out⟩
      | false =>
        cases hb : shapeB s with
        | false =>
          have E := hid (formE_limit (nn := nn) (ni := ni) HK.out h8 hn hb)
          replace hn := hid hn
          replace hb := hid hb
          go_wp2_with (first | (go_at_call 25; refine (slices_ContainsFunc_array_form_1 negB _ _ _ _ _ HS.out (fun n => array_form_1 n _)).mono ?_; rintro e w' ⟨rfl, rfl⟩; rw [hn.out]) | (go_at_call 30; refine (shape_Right _ _ _ _ _ HS.out).mono ?_; rintro e w' ⟨rfl, rfl⟩; rw [hb.out]))
          exact hR.out _ _ ⟨by rw [E.out] <;> rfl, HB.out⟩
        | true =>
          have E := hid (hE.out h8 hn hb)
          have Z := hid (sizeS_true hb)
          replace hn := hid hn
          replace hb := hid hb
          clear hE
          generalize cnt s = c at E Z
          by_cases q1 : (used : Int) = c
          · by_cases q2 : (other : Int) = 0
            · have f1 : ((used : Int) != c) = false := by simp [q1]
              have f2 : ((other : Int) != 0) = false := by simp [q2]
              rw [if_neg (by simp [q1, q2])] at E
              clear q1 q2
              go_wp2_with (first | (go_at_call 25; refine (slices_ContainsFunc_array_form_1 negB _ _ _ _ _ HS.out (fun n => array_form_1 n _)).mono ?_; rintro e w' ⟨rfl, rfl⟩; rw [hn.out]) | (go_at_call 30; refine (shape_Right _ _ _ _ _ HS.out).mono ?_; rintro e w' ⟨rfl, rfl⟩; rw [hb.out]) | (go_at_call 39; refine (shape_Size _ _ _ _ _ HS.out).mono ?_; rintro e w' ⟨rfl, rfl⟩; rw [Z.out]))
              exact hR.out _ _ ⟨by rw [E.out] <;> rfl, HB.out⟩
            · have f1 : ((used : Int) != c) = false := by simp [q1]
              have f2 : ((other : Int) != 0) = true := by simpa using q2
              rw [if_pos (Or.inr q2)] at E
              clear q1 q2
              go_wp2_with (first | (go_at_call 25; refine (slices_ContainsFunc_array_form_1 negB _ _ _ _ _ HS.out (fun n => array_form_1 n _)).mono ?_; rintro e w' ⟨rfl, rfl⟩; rw [hn.out]) | (go_at_call 30; refine (shape_Right _ _ _ _ _ HS.out).mono ?_; rintro e w' ⟨rfl, rfl⟩; rw [hb.out]) | (go_at_call 39; refine (shape_Size _ _ _ _ _ HS.out).mono ?_; rintro e w' ⟨rfl, rfl⟩; rw [Z.out]))
              exact hR.out _ _ ⟨by rw [E.out] <;> rfl, HB.out⟩
          · have f1 : ((used : Int) != c) = true := by simpa using q1
            rw [if_pos (Or.inl q1)] at E
            clear q1
            go_wp2_with (first | (go_at_call 25; refine (slices_ContainsFunc_array_form_1 negB _ _ _ _ _ HS.out (fun n => array_form_1 n _)).mono ?_; rintro e w' ⟨rfl, rfl⟩; rw [hn.out]) | (go_at_call 30; refine (shape_Right _ _ _ _ _ HS.out).mono ?_; rintro e w' ⟨rfl, rfl⟩; rw [hb.out]) | (go_at_call 39; refine (shape_Size _ _ _ _ _ HS.out).mono ?_; rintro e w' ⟨rfl, rfl⟩; rw [Z.out]))
            exact hR.out _ _ ⟨by rw [E.out] <;> rfl, HB.out⟩
  · have E := hid (formE_kind (s := s) (nn := nn) (ni := ni) (k := k) (by omega) (by omega) (by omega))
    have e1 : (k == 1) = false := by simp; omega
    have e2 : (k == 2) = false := by simp; omega
    have e3 : (k == 3) = false := by simp; omega
    clear hk
    go_enter Try.func63, Try.ntmps63
    go_wp2_with fail
    go_quiet (fail)
    go_wp2_with fail
    exact hR.out _ _ ⟨by rw [E.out] <;> rfl, below_drewN ((Below.refl _ _).alloc (Nat.le_refl _) _) _⟩

set_option maxHeartbeats 1000000 in
theorem array_number (n : Int) (w : World) : Calls Try.prog 64 #[.int .i64 n] w fun e w' => e = .returned (.bool (numB n)) ∧ w = w' := by
  refine calls_post fun R' hR => ?_
  by_cases h1 : -4611686018427387903 ≤ n
  · by_cases h2 : n ≤ 4611686018427387903
    · have E := hid (show numB n = true by simp [numB]; omega)
      go_enter Try.func64, Try.ntmps64
      go_wp2
      exact hR.out _ _ ⟨by rw [E.out] <;> rfl, rfl⟩
    · have E := hid (show numB n = false by simp [numB]; omega)
      go_enter Try.func64, Try.ntmps64
      go_wp2
      exact hR.out _ _ ⟨by rw [E.out] <;> rfl, rfl⟩
  · have E := hid (show numB n = false by simp [numB]; omega)
    go_enter Try.func64, Try.ntmps64
    go_wp2
    exact hR.out _ _ ⟨by rw [E.out] <;> rfl, rfl⟩
set_option maxHeartbeats 1000000 in
theorem array_character (n : Int) (w : World) : Calls Try.prog 65 #[.int .i64 n] w fun e w' => e = .returned (.bool (chrB n)) ∧ w = w' := by
  refine calls_post fun R' hR => ?_
  by_cases h1 : 0 ≤ n
  · by_cases h2 : n ≤ 1114111
    · by_cases h3 : n < 55296
      · have E := hid (show chrB n = true by simp [chrB]; omega)
        go_enter Try.func65, Try.ntmps65
        go_wp2
        exact hR.out _ _ ⟨by rw [E.out] <;> rfl, rfl⟩
      · by_cases h4 : 57343 < n
        · have E := hid (show chrB n = true by simp [chrB]; omega)
          go_enter Try.func65, Try.ntmps65
          go_wp2
          exact hR.out _ _ ⟨by rw [E.out] <;> rfl, rfl⟩
        · have E := hid (show chrB n = false by simp [chrB]; omega)
          go_enter Try.func65, Try.ntmps65
          go_wp2
          exact hR.out _ _ ⟨by rw [E.out] <;> rfl, rfl⟩
    · have E := hid (show chrB n = false by simp [chrB]; omega)
      go_enter Try.func65, Try.ntmps65
      go_wp2
      exact hR.out _ _ ⟨by rw [E.out] <;> rfl, rfl⟩
  · have E := hid (show chrB n = false by simp [chrB]; omega)
    go_enter Try.func65, Try.ntmps65
    go_wp2
    exact hR.out _ _ ⟨by rw [E.out] <;> rfl, rfl⟩
def VisRel (w1 : World) (l : List Arr) (d0 w0 : Int) (u57 u9 u10 : Value) (wr : World) : Prop :=
  ∃ (j : Nat) (d m : Int), j ≤ l.length ∧ u57 = .int .i64 j ∧ u9 = .int .i64 d ∧ u10 = .int .i64 m ∧ chkL l d0 w0 = chkL (l.drop j) d m ∧ 0 ≤ d ∧ d ≤ 17 ∧ 0 ≤ m ∧ m ≤ 65536 + 262145 ∧ Below w1.heap.size w1 wr
theorem elemB1 {n : Int} : elemB 1 n = numB n := by simp [elemB]
theorem elemB2 {n : Int} : elemB 2 n = chrB n := by simp [elemB]
theorem elemB3 {n : Int} : elemB 3 n = true := by simp [elemB]
theorem any_take_succ {n : List Int} {p : Int → Bool} {k : Nat} (hk : k < n.length) (h : (n.take k).any p = false) (h1 : p (n.getD k 0) = false) : (n.take (k + 1)).any p = false := by
  rw [take_succ_getD hk, List.any_append, h]
  simpa using h1
theorem any_of_at {n : List Int} {p : Int → Bool} {k : Nat} (hk : k < n.length) (h1 : p (n.getD k 0) = true) : n.any p = true := List.any_eq_true.2 ⟨_, getD_mem hk, h1⟩
theorem chkL_step {x : Arr} {l : List Arr} {d w : Int} (h : (chk x).1 = 0) : chkL (x :: l) d w = chkL l (max d ((chk x).2.1 + 1)) (min (w + (chk x).2.2) 262145) := by
  simp only [chkL]; rw [if_neg (by simpa using h)]
theorem chkL_stop {x : Arr} {l : List Arr} {d w : Int} (h : (chk x).1 ≠ 0) : chkL (x :: l) d w = none := by
  simp only [chkL]; rw [if_pos h]
theorem drop_at {l : List Arr} {j : Nat} (h : j < l.length) : l.drop j = l[j] :: l.drop (j + 1) := List.drop_eq_getElem_cons h
end Go.Proofs.Ytdpdcjadedcglaa
namespace Go.Proofs.Ytdpdcjadedcglaa
open Go.RowKit
attribute [local go_sem ↓] run_max2 run_min2
attribute [local go_sem] eql_ints_nil eql_arrs_nil
set_option maxHeartbeats 4000000 in
theorem array_visit (a : Arr) : ∀ (sa : Option Addr) (sc : Nat) (na : Option Addr) (nc : Nat) (ia : Option Addr) (ic : Nat) (S : Nat → Prop) (vb : Nat) (w : World), ArrAt w S a sa na ia → w.cell? ⟨vb, 0, none⟩ = some (.func (.func 62) #[] #[.pointer (some ⟨vb, 0, none⟩)]) →
    Calls Try.prog 62 #[.agg #[.int .i64 a.kind, .slice sa a.shape.length sc, .slice na a.nums.length nc, .slice ia a.items.length ic], .pointer (some ⟨vb, 0, none⟩)] w fun e w' => e = .returned (.tuple #[.int .i64 (chk a).1, .int .i64 (chk a).2.1, .int .i64 (chk a).2.2]) ∧ Below w.heap.size w w' := by
  induction a using Arr.ind with
  | h a IH =>
    intro sa sc na nc ia ic S vb w h hv
    have IH := hid IH
    refine calls_post fun R' hR => ?_
    have hC := hid (chk_eq a)
    have hvb := World.block_lt_of_cell? w _ hv
    simp only at hvb
    have h0 := hid (h.alloc (.cells #[.int .i64 a.kind, .slice sa a.shape.length sc, .slice na a.nums.length nc, .slice ia a.items.length ic] 27))
    have hnl := h.nums.1
    have hil := h.len
    clear h
    by_cases hE : formE a.kind a.shape a.nums.length a.items.length = 0
    · obtain ⟨hk, hsb, hlen⟩ := formE_zero hE
      have hcle := cnt_le hsb
      have fE : (formE a.kind a.shape a.nums.length a.items.length != 0) = false := by simp [hE]
      rw [if_neg (by simp [hE])] at hC
      have hsum : a.nums.length + a.items.length ≤ 65536 := by omega
      have hl3 := hid hlen
      have HE := hid hE
      have HK := hid hk
      clear hE hk hlen hcle hsb
      go_enter Try.func62, Try.ntmps62
      go_wp2_with (go_at_call 63; refine (array_form a _ _ _ _ _ _ _ _ h0.out).mono ?_; rintro e w1 ⟨rfl, hb1⟩; have c0 : w1.cell? ⟨w.heap.size, 0, none⟩ = some (.int .i64 a.kind) := box_cell hb1 0; have c2 : w1.cell? ⟨w.heap.size, 2, none⟩ = some (.slice na a.nums.length nc) := box_cell hb1 2; have c3 : w1.cell? ⟨w.heap.size, 3, none⟩ = some (.slice ia a.items.length ic) := box_cell hb1 3)
      have h1 := h0.out.later hb1
      have hv1 : w1.cell? ⟨vb, 0, none⟩ = some (.func (.func 62) #[] #[.pointer (some ⟨vb, 0, none⟩)]) := by
        rw [hb1.cell (p := ⟨vb, 0, none⟩) (by simp; omega), World.cell?_alloc_lt _ _ _ hvb]; exact hv
      have hB := hid (below_alloc hb1)
      have HN := hid h1.nums
      have HI := hid h1.items
      have hwl : w.heap.size < w1.heap.size := by have := hb1.size; simp at this; omega
      clear h1 hb1 h0 hv
      go_loop [24] (fun i => ∃ k : Nat, k ≤ a.nums.length ∧ i = .int .i64 k ∧ Hid ((a.nums.take k).any (fun x => !elemB a.kind x) = false)) (fun i => a.nums.length - (intOf i).toNat)
      case atStart => exact ⟨0, Nat.zero_le _, rfl, by simp [Hid]⟩
      case round =>
        obtain ⟨k, hk, rfl, hany⟩ := hrel
        by_cases hlt : k < a.nums.length
        · obtain ⟨b, off, rfl, hbl, hS, hc⟩ := HN.out.at hlt
          have hst := hid (any_take_succ (p := fun x => !elemB a.kind x) hlt hany.out)
          have hbad := hid (any_of_at (p := fun x => !elemB a.kind x) hlt)
          generalize a.nums.getD k 0 = d at hc hst hbad
          rcases HK.out with h3 | h3 | h3
          · have e1 : (a.kind == 1) = true := by simp [h3]
            have e2 : (a.kind == 2) = false := by simp [h3]
            cases hd : numB d with
            | true =>
              have Hd : Hid (elemB a.kind d = true) := by rw [h3]; exact elemB1.trans hd
              replace hd := hid hd
              clear h3
              go_wp2_with (go_at_call 64; refine (array_number _ _).mono ?_; rintro e w' ⟨rfl, rfl⟩; rw [hd.out])
              go_round
              case rel => exact ⟨k + 1, by omega, by go_num, hst.out (by simp [Hd.out])⟩
              case measure => simp [intOf]; omega
            | false =>
              have Hd : Hid (elemB a.kind d = false) := by rw [h3]; exact elemB1.trans hd
              replace hd := hid hd
              clear h3
              rw [if_pos (hbad.out (by simp [Hd.out]))] at hC
              go_wp2_with (go_at_call 64; refine (array_number _ _).mono ?_; rintro e w' ⟨rfl, rfl⟩; rw [hd.out])
              go_ret3
              exact hR.out _ _ ⟨by rw [hC.out] <;> rfl, hB.out⟩
          · have e1 : (a.kind == 1) = false := by simp [h3]
            have e2 : (a.kind == 2) = true := by simp [h3]
            cases hd : chrB d with
            | true =>
              have Hd : Hid (elemB a.kind d = true) := by rw [h3]; exact elemB2.trans hd
              replace hd := hid hd
              clear h3
              go_wp2_with (go_at_call 65; refine (array_character _ _).mono ?_; rintro e w' ⟨rfl, rfl⟩; rw [hd.out])
              go_round
              case rel => exact ⟨k + 1, by omega, by go_num, hst.out (by simp [Hd.out])⟩
              case measure => simp [intOf]; omega
            | false =>
              have Hd : Hid (elemB a.kind d = false) := by rw [h3]; exact elemB2.trans hd
              replace hd := hid hd
              clear h3
              rw [if_pos (hbad.out (by simp [Hd.out]))] at hC
              go_wp2_with (go_at_call 65; refine (array_character _ _).mono ?_; rintro e w' ⟨rfl, rfl⟩; rw [hd.out])
              go_ret3
              exact hR.out _ _ ⟨by rw [hC.out] <;> rfl, hB.out⟩
          · have := hl3.out
            omega
        · have hke : k = a.nums.length := by omega
          have hany' := hany.out
          rw [hke, List.take_length] at hany'
          rw [if_neg (by simp [hany'])] at hC
          clear hany hany' hke
          go_wp2_with fail
          go_quiet (fail)
          go_wp2_with fail
          go_loopw [57, 9, 10] (fun i d m wr => VisRel w1 a.items 0 ((a.nums.length : Int) + a.items.length) i d m wr) (fun i _ _ _ => a.items.length - (intOf i).toNat)
          case atStart => exact ⟨0, 0, _, Nat.zero_le _, rfl, rfl, rfl, rfl, by omega, by omega, by omega, by omega, below_drewN (Below.refl _ _) _⟩
          case round =>
            obtain ⟨j, d, m, hj, rfl, rfl, rfl, hch, d0, d1, m0, m1, hb⟩ := hrel
            have hch := hid hch
            by_cases hlt : j < a.items.length
            · obtain ⟨b, off, sa', sc', na', nc', ja', jc', rfl, hS, hbl, e0, e1, e2, e3, hx⟩ := (HI.out.later hb).at hlt
              have hmem := hid (List.getElem_mem hlt)
              have hst := hid (chkL_step (x := a.items[j]) (l := a.items.drop (j + 1)) (d := d) (w := m))
              have hsp := hid (chkL_stop (x := a.items[j]) (l := a.items.drop (j + 1)) (d := d) (w := m))
              rw [drop_at hlt] at hch
              generalize a.items[j] = x at e0 e1 e2 e3 hx hmem hst hsp hch
              have hX := hid (hx.alloc (.cells #[.int .i64 x.kind, .slice sa' x.shape.length sc', .slice na' x.nums.length nc', .slice ja' x.items.length jc'] 27))
              have hvr : wr.cell? ⟨vb, 0, none⟩ = some (.func (.func 62) #[] #[.pointer (some ⟨vb, 0, none⟩)]) := (hb.cell (p := ⟨vb, 0, none⟩) (by simp; omega)).trans hv1
              have hvrl : vb < wr.heap.size := by have := hb.size; omega
              have hbd := chk_bd x
              obtain ⟨⟨g0, g1⟩, g2, g3⟩ := hbd
              clear hx
              by_cases hx0 : (chk x).1 = 0
              · have f1 : ((chk x).1 != 0) = false := by simp [hx0]
                have hst' := hst.out hx0
                have hst'' := hid hst'
                clear hx0 hst'
                go_wp2_with fail
                refine (IH.out x hmem.out sa' sc' na' nc' ja' jc' S vb _ hX.out (by simp [World.cell?_alloc_lt, hvrl, hvr])).mono ?_
                rintro e w2 ⟨rfl, hb2⟩
                go_wp2_with fail
                go_roundw
                case rel =>
                  have hb3 := hb.trans ((below_alloc hb2).mono hb.size)
                  exact ⟨j + 1, _, _, by omega, by go_num, rfl, rfl, hch.out.trans hst''.out, by omega, by omega, by omega, by omega, hb3⟩
                case measure => simp [intOf]; omega
              · have f1 : ((chk x).1 != 0) = true := by simpa using hx0
                have hsp' := hid (hsp.out hx0)
                replace hx0 := hid hx0
                go_wp2_with fail
                refine (IH.out x hmem.out sa' sc' na' nc' ja' jc' S vb _ hX.out (by simp [World.cell?_alloc_lt, hvrl, hvr])).mono ?_
                rintro e w2 ⟨rfl, hb2⟩
                go_wp2_with fail
                go_ret3
                have hb3 := hb.trans ((below_alloc hb2).mono hb.size)
                refine hR.out _ _ ⟨?_, hB.out.trans (hb3.mono (by omega))⟩
                rw [hC.out, hch.out, hsp'.out] <;> rfl
            · have hje : a.items.drop j = [] := List.drop_eq_nil_of_le (by omega)
              rw [hje] at hch
              rw [hch.out] at hC
              simp only [chkL, chkEnd] at hC
              clear hje hch
              have hb3 := hB.out.trans (hb.mono (by omega))
              have HB3 := hid hb3
              clear hb3
              by_cases c1 : 16 < d
              · rw [if_pos (Or.inl c1)] at hC
                go_wp2_with fail
                go_ret3
                exact hR.out _ _ ⟨by rw [hC.out] <;> rfl, HB3.out⟩
              · by_cases c2 : 262144 < m
                · rw [if_pos (Or.inr c2)] at hC
                  go_wp2_with fail
                  go_ret3
                  exact hR.out _ _ ⟨by rw [hC.out] <;> rfl, HB3.out⟩
                · rw [if_neg (by omega)] at hC
                  go_wp2_with fail
                  go_ret3
                  exact hR.out _ _ ⟨by rw [hC.out] <;> rfl, HB3.out⟩
    · have fE : (formE a.kind a.shape a.nums.length a.items.length != 0) = true := by simp [hE]
      rw [if_pos hE] at hC
      replace hE := hid hE
      go_enter Try.func62, Try.ntmps62
      go_wp2_with (go_at_call 63; refine (array_form a _ _ _ _ _ _ _ _ h0.out).mono ?_; rintro e w1 ⟨rfl, hb1⟩)
      go_ret3
      exact hR.out _ _ ⟨by rw [hC.out] <;> rfl, below_alloc hb1⟩
set_option maxHeartbeats 1000000 in
theorem array_Right (a : Arr) (sa : Option Addr) (sc : Nat) (na : Option Addr) (nc : Nat) (ia : Option Addr) (ic : Nat) (S : Nat → Prop) (w : World) (h : ArrAt w S a sa na ia) :
    Calls Try.prog 32 #[.agg #[.int .i64 a.kind, .slice sa a.shape.length sc, .slice na a.nums.length nc, .slice ia a.items.length ic]] w fun e w' => e = .returned (.int .i64 (rightS a)) ∧ Below w.heap.size w w' := by
  refine calls_post fun R' hR => ?_
  have h0 := hid ((h.alloc (.cells #[.int .i64 a.kind, .slice sa a.shape.length sc, .slice na a.nums.length nc, .slice ia a.items.length ic] 27)).alloc (.cells #[.func (.func 62) #[] #[.pointer (some ⟨w.heap.size + 1, 0, none⟩)]] 85))
  clear h
  go_enter Try.func32, Try.ntmps32
  go_wp2_with fail
  refine (array_visit a sa sc na nc ia ic S (w.heap.size + 1) _ (by exact h0.out) (by simp)).mono ?_
  rintro e w1 ⟨rfl, hb⟩
  go_wp2_with fail
  exact hR.out _ _ ⟨rfl, below_alloc (below_alloc hb)⟩
end Go.Proofs.Ytdpdcjadedcglaa
namespace Go.Proofs.Ytdpdcjadedcglaa
open Go.RowKit
attribute [local go_sem ↓] run_max2 run_min2
attribute [local go_sem] eql_ints_nil eql_arrs_nil
set_option maxHeartbeats 1000000 in
theorem size_array_Size (a : Arr) (sa : Option Addr) (sc : Nat) (na : Option Addr) (nc : Nat) (ia : Option Addr) (ic : Nat) (S : Nat → Prop) (w : World) (h : ArrAt w S a sa na ia) :
    Calls Try.prog 85 #[.agg #[.int .i64 a.kind, .slice sa a.shape.length sc, .slice na a.nums.length nc, .slice ia a.items.length ic]] w fun e w' => e = .returned (.int .i64 (szN a.kind a.nums.length a.items.length : Nat)) ∧ Below w.heap.size w w' := by
  have hn := h.nums.1
  have hl := h.len
  clear h
  generalize a.kind = k
  generalize a.nums.length = nn at hn
  generalize a.items.length = ni at hl
  generalize a.shape.length = ns
  refine calls_post fun R' hR => ?_
  by_cases h1 : k = 1
  · have e1 : (k == 1) = true := by simp [h1]
    have E : Hid (szN k nn ni = nn) := by simp [Hid, szN, h1]
    clear h1
    go_enter Try.func85, Try.ntmps85
    go_wp2_with fail
    exact hR.out _ _ ⟨by rw [E.out] <;> rfl, (Below.refl _ _).alloc (Nat.le_refl _) _⟩
  by_cases h2 : k = 2
  · have e1 : (k == 1) = false := by simp [h1]
    have e2 : (k == 2) = true := by simp [h2]
    have E : Hid (szN k nn ni = nn) := by simp [Hid, szN, h2]
    clear h1 h2
    go_enter Try.func85, Try.ntmps85
    go_wp2_with fail
    exact hR.out _ _ ⟨by rw [E.out] <;> rfl, (Below.refl _ _).alloc (Nat.le_refl _) _⟩
  by_cases h3 : k = 3
  · have e1 : (k == 1) = false := by simp [h1]
    have e2 : (k == 2) = false := by simp [h2]
    have e3 : (k == 3) = true := by simp [h3]
    have E : Hid (szN k nn ni = ni) := by simp [Hid, szN, h3]
    clear h1 h2 h3
    go_enter Try.func85, Try.ntmps85
    go_wp2_with fail
    exact hR.out _ _ ⟨by rw [E.out] <;> rfl, (Below.refl _ _).alloc (Nat.le_refl _) _⟩
  · have e1 : (k == 1) = false := by simp [h1]
    have e2 : (k == 2) = false := by simp [h2]
    have e3 : (k == 3) = false := by simp [h3]
    have E : Hid (szN k nn ni = 0) := by simp [Hid, szN, h1, h2, h3]
    clear h1 h2 h3
    go_enter Try.func85, Try.ntmps85
    go_wp2_with fail
    exact hR.out _ _ ⟨by rw [E.out] <;> rfl, (Below.refl _ _).alloc (Nat.le_refl _) _⟩
set_option maxHeartbeats 1000000 in
theorem size_ref03_Size (a : Arr) (sa : Option Addr) (sc : Nat) (na : Option Addr) (nc : Nat) (ia : Option Addr) (ic : Nat) (S : Nat → Prop) (w : World) (h : ArrAt w S a sa na ia) :
    Calls Try.prog 48 #[.agg #[.int .i64 a.kind, .slice sa a.shape.length sc, .slice na a.nums.length nc, .slice ia a.items.length ic]] w fun e w' => e = .returned (.int .i64 (szN a.kind a.nums.length a.items.length : Nat)) ∧ Below w.heap.size w w' := by
  have hn := h.nums.1
  have hl := h.len
  clear h
  generalize a.kind = k
  generalize a.nums.length = nn at hn
  generalize a.items.length = ni at hl
  generalize a.shape.length = ns
  refine calls_post fun R' hR => ?_
  by_cases h1 : k = 1
  · have e1 : (k == 1) = true := by simp [h1]
    have E : Hid (szN k nn ni = nn) := by simp [Hid, szN, h1]
    clear h1
    go_enter Try.func48, Try.ntmps48
    go_wp2_with fail
    exact hR.out _ _ ⟨by rw [E.out] <;> rfl, (Below.refl _ _).alloc (Nat.le_refl _) _⟩
  by_cases h2 : k = 2
  · have e1 : (k == 1) = false := by simp [h1]
    have e2 : (k == 2) = true := by simp [h2]
    have E : Hid (szN k nn ni = nn) := by simp [Hid, szN, h2]
    clear h1 h2
    go_enter Try.func48, Try.ntmps48
    go_wp2_with fail
    exact hR.out _ _ ⟨by rw [E.out] <;> rfl, (Below.refl _ _).alloc (Nat.le_refl _) _⟩
  by_cases h3 : k = 3
  · have e1 : (k == 1) = false := by simp [h1]
    have e2 : (k == 2) = false := by simp [h2]
    have e3 : (k == 3) = true := by simp [h3]
    have E : Hid (szN k nn ni = ni) := by simp [Hid, szN, h3]
    clear h1 h2 h3
    go_enter Try.func48, Try.ntmps48
    go_wp2_with fail
    exact hR.out _ _ ⟨by rw [E.out] <;> rfl, (Below.refl _ _).alloc (Nat.le_refl _) _⟩
  · have e1 : (k == 1) = false := by simp [h1]
    have e2 : (k == 2) = false := by simp [h2]
    have e3 : (k == 3) = false := by simp [h3]
    have E : Hid (szN k nn ni = 0) := by simp [Hid, szN, h1, h2, h3]
    clear h1 h2 h3
    go_enter Try.func48, Try.ntmps48
    go_wp2_with fail
    exact hR.out _ _ ⟨by rw [E.out] <;> rfl, (Below.refl _ _).alloc (Nat.le_refl _) _⟩
theorem szN3 {k : Int} {nn ni : Nat} (h : k = 3) : szN k nn ni = ni := by simp [szN, h]
theorem szN_le {k : Int} {nn ni : Nat} (hn : nn ≤ 17592186044416) (hi : ni ≤ 1759218604441) : szN k nn ni ≤ 17592186044416 := by unfold szN; (repeat' split) <;> omega
def WtRel (w1 : World) (l : List Arr) (W0 : Int) (u16 u3 : Value) (wr : World) : Prop :=
  ∃ (j : Nat) (m : Int), j ≤ l.length ∧ u16 = .int .i64 j ∧ u3 = .int .i64 m ∧ W0 = wtL (l.drop j) m ∧ 0 ≤ m ∧ m ≤ 262145 ∧ Below w1.heap.size w1 wr
set_option maxHeartbeats 4000000 in
theorem array_Weight (a : Arr) : ∀ (sa : Option Addr) (sc : Nat) (na : Option Addr) (nc : Nat) (ia : Option Addr) (ic : Nat) (S : Nat → Prop) (w : World), ArrAt w S a sa na ia →
    Calls Try.prog 57 #[.agg #[.int .i64 a.kind, .slice sa a.shape.length sc, .slice na a.nums.length nc, .slice ia a.items.length ic]] w fun e w' => e = .returned (.int .i64 (wtS a)) ∧ Below w.heap.size w w' := by
  induction a using Arr.ind with
  | h a IH =>
    intro sa sc na nc ia ic S w h
    have IH := hid IH
    refine calls_post fun R' hR => ?_
    have hW := hid (wtS_eq a)
    have h0 := hid (h.alloc (.cells #[.int .i64 a.kind, .slice sa a.shape.length sc, .slice na a.nums.length nc, .slice ia a.items.length ic] 27))
    have hsz := szN_le (k := a.kind) h.nums.1 h.len
    have hil := h.len
    clear h
    by_cases h3 : a.kind = 3
    · have e3 : (a.kind != 3) = false := by simp [h3]
      rw [if_pos h3, ← szN3 (nn := a.nums.length) (ni := a.items.length) h3] at hW
      have hs3 := hid (szN3 (nn := a.nums.length) (ni := a.items.length) h3)
      clear h3
      go_enter Try.func57, Try.ntmps57
      go_wp2_with (go_at_call 85; refine (size_array_Size a _ _ _ _ _ _ _ _ h0.out).mono ?_; rintro e w1 ⟨rfl, hb1⟩; have c0 : w1.cell? ⟨w.heap.size, 0, none⟩ = some (.int .i64 a.kind) := box_cell hb1 0; have c3 : w1.cell? ⟨w.heap.size, 3, none⟩ = some (.slice ia a.items.length ic) := box_cell hb1 3)
      have hB := hid (below_alloc hb1)
      have HI := hid (h0.out.later hb1).items
      clear hb1 h0
      generalize szN a.kind a.nums.length a.items.length = sz at hW hsz hs3 ⊢
      go_loopw [16, 3] (fun i m wr => WtRel w1 a.items (wtS a) i m wr) (fun i _ _ => a.items.length - (intOf i).toNat)
      case atStart => exact ⟨0, _, Nat.zero_le _, rfl, rfl, hW.out, by omega, by omega, Below.refl _ _⟩
      case round =>
        obtain ⟨j, m, hj, rfl, rfl, hch, m0, m1, hb⟩ := hrel
        have hch := hid hch
        by_cases hlt : j < a.items.length
        · obtain ⟨b, off, sa', sc', na', nc', ja', jc', rfl, hS, hbl, e0, e1, e2, e3', hx⟩ := (HI.out.later hb).at hlt
          have hmem := hid (List.getElem_mem hlt)
          rw [drop_at hlt] at hch
          by_cases c1 : 262144 < m
          · have hmm : m = min m 262145 := by omega
            rw [hmm, wtL_cap (by omega)] at hch
            have hB3 := hid (hB.out.trans (hb.mono hB.out.size))
            have hmv : m = 262145 := by omega
            have hmv' := hid hmv
            clear hmv hmm
            go_wp2_with fail
            exact hR.out _ _ ⟨by rw [hch.out, ← hmv'.out] <;> rfl, hB3.out.alloc (hB3.out.size) _⟩
          · simp only [wtL] at hch
            generalize a.items[j] = x at e0 e1 e2 e3' hx hmem hch
            have hX := hid (hx.alloc (.cells #[.int .i64 x.kind, .slice sa' x.shape.length sc', .slice na' x.nums.length nc', .slice ja' x.items.length jc'] 27))
            obtain ⟨g0, g1⟩ := wtS_bd x
            clear hx
            go_wp2_with fail
            refine (IH.out x hmem.out sa' sc' na' nc' ja' jc' S _ hX.out).mono ?_
            rintro e w2 ⟨rfl, hb2⟩
            go_wp2_with fail
            go_roundw
            case rel => exact ⟨j + 1, _, by omega, by go_num, rfl, hch.out, by omega, by omega, hb.trans ((below_alloc hb2).mono hb.size)⟩
            case measure => simp [intOf]; omega
        · have hje : a.items.drop j = [] := List.drop_eq_nil_of_le (by omega)
          rw [hje] at hch
          simp only [wtL] at hch
          clear hje
          have hB3 := hid (hB.out.trans (hb.mono hB.out.size))
          go_wp2_with fail
          exact hR.out _ _ ⟨by rw [hch.out] <;> rfl, hB3.out⟩
    · have e3 : (a.kind != 3) = true := by simpa using h3
      rw [if_neg h3] at hW
      replace h3 := hid h3
      go_enter Try.func57, Try.ntmps57
      go_wp2_with (go_at_call 85; refine (size_array_Size a _ _ _ _ _ _ _ _ h0.out).mono ?_; rintro e w1 ⟨rfl, hb1⟩; have c0 : w1.cell? ⟨w.heap.size, 0, none⟩ = some (.int .i64 a.kind) := box_cell hb1 0)
      exact hR.out _ _ ⟨by rw [hW.out] <;> rfl, below_alloc hb1⟩
end Go.Proofs.Ytdpdcjadedcglaa
namespace Go.Proofs.Ytdpdcjadedcglaa
open Go.RowKit Go.Sort
attribute [local go_sem ↓] run_max2 run_min2
attribute [local go_sem] eql_ints_nil eql_arrs_nil
theorem prodC_big {s : List Int} {k : Nat} (hk : k < s.length) (h : 65536 < s.getD k 0) : prodC s = 65537 := by
  unfold prodC
  rw [if_neg]
  have h1 := prodNZ_ge_mem (posOf_nn s) (getD_mem (l := posOf s) (k := k) (by rw [posOf_len]; exact hk))
  rw [posOf_getD] at h1
  omega
theorem prodC_over {s : List Int} {k : Nat} (h : 65536 < prodNZ ((posOf s).take k)) : prodC s = 65537 := by
  unfold prodC
  rw [if_neg]
  have h1 := prodNZ_take_le (posOf_nn s) k
  omega
theorem posOf_succ {s : List Int} {k : Nat} (hk : k < s.length) : prodNZ ((posOf s).take (k + 1)) = if 0 < s.getD k 0 then prodNZ ((posOf s).take k) * s.getD k 0 else prodNZ ((posOf s).take k) := by
  rw [prodNZ_take_succ (by rw [posOf_len]; exact hk), posOf_getD]
  by_cases h : 0 < s.getD k 0
  · rw [if_pos h, if_neg (by omega), show max (s.getD k 0) 0 = s.getD k 0 from by omega]
  · rw [if_neg h, if_pos (by omega)]
set_option maxHeartbeats 1000000 in
theorem ref03_product (s : List Int) (ao : Option Addr) (cap : Nat) (S : Nat → Prop) (w : World) (h : IntsAt w S ao s) :
    Calls Try.prog 96 #[.slice ao s.length cap] w fun e w' => e = .returned (.int .i64 (prodC s)) ∧ w = w' := by
  refine calls_post fun R' hR => ?_
  have hl := h.1
  go_enter Try.func96, Try.ntmps96
  go_wp2_with fail
  go_loop [3, 4] (fun p i => ∃ k : Nat, k ≤ s.length ∧ i = .int .i64 k ∧ p = .int .i64 (prodNZ ((posOf s).take k)) ∧ 1 ≤ prodNZ ((posOf s).take k) ∧ prodNZ ((posOf s).take k) ≤ 65536) (fun _ i => s.length - (intOf i).toNat)
  case atStart => exact ⟨0, Nat.zero_le _, rfl, rfl, by simp [prodNZ], by simp [prodNZ]⟩
  case round =>
    obtain ⟨k, hk, rfl, rfl, hp1, hp2⟩ := hrel
    by_cases hlt : k < s.length
    · obtain ⟨b, off, rfl, hbl, hS, hc⟩ := h.at hlt
      have hB := hid (prodC_big hlt)
      have hO := hid (prodC_over (s := s) (k := k + 1))
      have hT := hid (posOf_succ hlt)
      generalize s.getD k 0 = d at hc hB hO hT
      generalize prodNZ ((posOf s).take k) = p at hp1 hp2 hT ⊢
      by_cases c1 : 65536 < d
      · go_wp2
        exact hR.out _ _ ⟨by rw [hB.out c1] <;> rfl, rfl⟩
      by_cases c2 : 0 < d
      · rw [if_pos c2] at hT
        have hm1 : 1 ≤ p * d := by
          have := Int.mul_le_mul hp1 (show 1 ≤ d by omega) (by omega) (by omega)
          omega
        have hm2 : p * d ≤ 4294967296 := by
          have := Int.mul_le_mul hp2 (show d ≤ 65536 by omega) (by omega) (by omega)
          omega
        rw [hT.out] at hO
        by_cases c3 : 65536 < p * d
        · go_wp2
          exact hR.out _ _ ⟨by rw [hO.out c3] <;> rfl, rfl⟩
        · go_wp2
          go_round
          case rel => exact ⟨k + 1, by omega, by go_num, by rw [hT.out], by rw [hT.out]; omega, by rw [hT.out]; omega⟩
          case measure => simp [intOf]; omega
      · rw [if_neg c2] at hT
        go_wp2
        go_round
        case rel => exact ⟨k + 1, by omega, by go_num, by rw [hT.out], by rw [hT.out]; omega, by rw [hT.out]; omega⟩
        case measure => simp [intOf]; omega
    · have hke : (posOf s).take k = posOf s := List.take_of_length_le (by rw [posOf_len]; omega)
      rw [hke] at hp1 hp2 ⊢
      have E : Hid (prodC s = prodNZ (posOf s)) := if_pos hp2
      clear hke
      go_wp2
      exact hR.out _ _ ⟨by rw [E.out] <;> rfl, rfl⟩
set_option maxHeartbeats 1000000 in
theorem ref03_Dims (s : List Int) (ao : Option Addr) (cap : Nat) (S : Nat → Prop) (w : World) (h : IntsAt w S ao s) :
    Calls Try.prog 80 #[.slice ao s.length cap] w fun e w' => e = .returned (.int .i64 (dimsE s)) ∧ w = w' := by
  refine calls_post fun R' hR => ?_
  have hl := h.1
  by_cases h8 : 8 < s.length
  · have E : Hid (dimsE s = 15) := if_pos h8
    go_enter Try.func80, Try.ntmps80
    go_wp2_with fail
    exact hR.out _ _ ⟨by rw [E.out] <;> rfl, rfl⟩
  · have E : Hid (dimsE s = if s.any negB = true then 16 else if 65536 < prodNZ (posOf s) then 21 else 0) := if_neg h8
    go_enter Try.func80, Try.ntmps80
    go_wp2_with fail
    go_loop [3] (fun i => ∃ k : Nat, k ≤ s.length ∧ i = .int .i64 k ∧ Hid ((s.take k).any negB = false)) (fun i => s.length - (intOf i).toNat)
    case atStart => exact ⟨0, Nat.zero_le _, rfl, by simp [Hid]⟩
    case round =>
      obtain ⟨k, hk, rfl, hany⟩ := hrel
      by_cases hlt : k < s.length
      · obtain ⟨b, off, rfl, hbl, hS, hc⟩ := h.at hlt
        have hst := hid (any_take_succ (p := negB) hlt hany.out)
        have hbad := hid (any_of_at (p := negB) hlt)
        generalize s.getD k 0 = d at hc hst hbad
        by_cases c1 : d < 0
        · rw [if_pos (hbad.out (by simpa [negB] using c1))] at E
          go_wp2_with fail
          exact hR.out _ _ ⟨by rw [E.out] <;> rfl, rfl⟩
        · have hst' := hid (hst.out (by simpa [negB] using c1))
          go_wp2_with fail
          go_round
          case rel => exact ⟨k + 1, by omega, by go_num, hst'.out⟩
          case measure => simp [intOf]; omega
      · have hany' := hany.out
        rw [show k = s.length from by omega, List.take_length] at hany'
        rw [if_neg (by simp [hany'])] at E
        clear hany hany'
        have hp := hid (show prodC s = if prodNZ (posOf s) ≤ 65536 then prodNZ (posOf s) else 65537 from rfl)
        by_cases c1 : 65536 < prodNZ (posOf s)
        · rw [if_pos c1] at E
          rw [if_neg (by omega)] at hp
          have hp' : 65536 < prodC s := by rw [hp.out]; omega
          go_wp2_with (go_at_call 96; refine (ref03_product _ _ _ _ _ h).mono ?_; rintro e w' ⟨rfl, rfl⟩)
          exact hR.out _ _ ⟨by rw [E.out] <;> rfl, rfl⟩
        · rw [if_neg c1] at E
          rw [if_pos (by omega)] at hp
          have hp' : ¬ 65536 < prodC s := by rw [hp.out]; omega
          go_wp2_with (go_at_call 96; refine (ref03_product _ _ _ _ _ h).mono ?_; rintro e w' ⟨rfl, rfl⟩)
          exact hR.out _ _ ⟨by rw [E.out] <;> rfl, rfl⟩
set_option maxHeartbeats 1000000 in
theorem ref03_Count (s : List Int) (ao : Option Addr) (cap : Nat) (S : Nat → Prop) (w : World) (h : IntsAt w S ao s) :
    Calls Try.prog 81 #[.slice ao s.length cap] w fun e w' => e = .returned (.int .i64 (cntC s)) ∧ w = w' := by
  refine calls_post fun R' hR => ?_
  have hl := h.1
  go_enter Try.func81, Try.ntmps81
  go_wp2_with fail
  go_loop [3] (fun i => ∃ k : Nat, k ≤ s.length ∧ i = .int .i64 k ∧ Hid (∀ j, j < k → s.getD j 0 ≠ 0)) (fun i => s.length - (intOf i).toNat)
  case atStart => exact ⟨0, Nat.zero_le _, rfl, fun j hj => by omega⟩
  case round =>
    obtain ⟨k, hk, rfl, hb⟩ := hrel
    by_cases hlt : k < s.length
    · obtain ⟨b, off, rfl, hbl, hS, hc⟩ := h.at hlt
      have hI : Hid (s.getD k 0 = 0 → cntC s = 0) := fun e => if_pos (by rw [← e]; exact getD_mem hlt)
      have hN : Hid (s.getD k 0 ≠ 0 → ∀ j, j < k + 1 → s.getD j 0 ≠ 0) := fun e j hj => by
        rcases Nat.lt_succ_iff_lt_or_eq.1 hj with h1 | h1
        · exact hb.out j h1
        · rw [h1]; exact e
      generalize s.getD k 0 = d at hc hI hN
      by_cases c1 : d = 0
      · have e1 : (d == 0) = true := by simp [c1]
        have c1' := hid c1
        clear c1
        go_wp2_with fail
        exact hR.out _ _ ⟨by rw [hI.out c1'.out] <;> rfl, rfl⟩
      · have e1 : (d == 0) = false := by simp [c1]
        have c1' := hid c1
        clear c1
        go_wp2_with fail
        go_round
        case rel => exact ⟨k + 1, by omega, by go_num, hN.out c1'.out⟩
        case measure => simp [intOf]; omega
    · have E : Hid (cntC s = prodC s) := if_neg (fun hm => by
        obtain ⟨j, hj, e⟩ := List.getElem_of_mem hm
        exact hb.out j (by omega) (by simpa [hj] using e))
      go_wp2_with (go_at_call 96; refine (ref03_product _ _ _ _ _ h).mono ?_; rintro e w' ⟨rfl, rfl⟩)
      exact hR.out _ _ ⟨by rw [E.out] <;> rfl, rfl⟩
set_option maxHeartbeats 1000000 in
theorem ref03_Number (n : Int) (w : World) : Calls Try.prog 82 #[.int .i64 n] w fun e w' => e = .returned (.bool (numB n)) ∧ w = w' := by
  refine calls_post fun R' hR => ?_
  by_cases h1 : -4611686018427387903 ≤ n
  · by_cases h2 : n ≤ 4611686018427387903
    · have E := hid (show numB n = true by simp [numB]; omega)
      go_enter Try.func82, Try.ntmps82
      go_wp2
      exact hR.out _ _ ⟨by rw [E.out] <;> rfl, rfl⟩
    · have E := hid (show numB n = false by simp [numB]; omega)
      go_enter Try.func82, Try.ntmps82
      go_wp2
      exact hR.out _ _ ⟨by rw [E.out] <;> rfl, rfl⟩
  · have E := hid (show numB n = false by simp [numB]; omega)
    go_enter Try.func82, Try.ntmps82
    go_wp2
    exact hR.out _ _ ⟨by rw [E.out] <;> rfl, rfl⟩
set_option maxHeartbeats 1000000 in
theorem ref03_Rune (n : Int) (w : World) : Calls Try.prog 83 #[.int .i64 n] w fun e w' => e = .returned (.bool (chrB n)) ∧ w = w' := by
  refine calls_post fun R' hR => ?_
  by_cases h1 : 0 ≤ n
  · by_cases h2 : n ≤ 1114111
    · by_cases h3 : n < 55296
      · have E := hid (show chrB n = true by simp [chrB]; omega)
        go_enter Try.func83, Try.ntmps83
        go_wp2
        exact hR.out _ _ ⟨by rw [E.out] <;> rfl, rfl⟩
      · by_cases h4 : 57343 < n
        · have E := hid (show chrB n = true by simp [chrB]; omega)
          go_enter Try.func83, Try.ntmps83
          go_wp2
          exact hR.out _ _ ⟨by rw [E.out] <;> rfl, rfl⟩
        · have E := hid (show chrB n = false by simp [chrB]; omega)
          go_enter Try.func83, Try.ntmps83
          go_wp2
          exact hR.out _ _ ⟨by rw [E.out] <;> rfl, rfl⟩
    · have E := hid (show chrB n = false by simp [chrB]; omega)
      go_enter Try.func83, Try.ntmps83
      go_wp2
      exact hR.out _ _ ⟨by rw [E.out] <;> rfl, rfl⟩
  · have E := hid (show chrB n = false by simp [chrB]; omega)
    go_enter Try.func83, Try.ntmps83
    go_wp2
    exact hR.out _ _ ⟨by rw [E.out] <;> rfl, rfl⟩
def RwRel (w1 : World) (l : List Arr) (W0 : Int) (u4 u3 : Value) (wr : World) : Prop :=
  ∃ (j : Nat) (m : Int), j ≤ l.length ∧ u4 = .int .i64 j ∧ u3 = .int .i64 m ∧ W0 = wtL (l.drop j) (min m 262145) ∧ 0 ≤ m ∧ m ≤ 35184372088832 ∧ Below w1.heap.size w1 wr
set_option maxHeartbeats 4000000 in
theorem ref03_Weight (a : Arr) : ∀ (sa : Option Addr) (sc : Nat) (na : Option Addr) (nc : Nat) (ia : Option Addr) (ic : Nat) (S : Nat → Prop) (w : World), ArrAt w S a sa na ia →
    Calls Try.prog 20 #[.agg #[.int .i64 a.kind, .slice sa a.shape.length sc, .slice na a.nums.length nc, .slice ia a.items.length ic]] w fun e w' => e = .returned (.int .i64 (wtS a)) ∧ Below w.heap.size w w' := by
  induction a using Arr.ind with
  | h a IH =>
    intro sa sc na nc ia ic S w h
    have IH := hid IH
    refine calls_post fun R' hR => ?_
    have hW := hid (wtS_eq a)
    have h0 := hid (h.alloc (.cells #[.int .i64 a.kind, .slice sa a.shape.length sc, .slice na a.nums.length nc, .slice ia a.items.length ic] 27))
    have hsz := szN_le (k := a.kind) h.nums.1 h.len
    have hil := h.len
    clear h
    by_cases h3 : a.kind = 3
    · have e3 : (a.kind == 3) = true := by simp [h3]
      rw [if_pos h3, ← szN3 (nn := a.nums.length) (ni := a.items.length) h3] at hW
      clear h3
      go_enter Try.func20, Try.ntmps20
      go_wp2_with (go_at_call 48; refine (size_ref03_Size a _ _ _ _ _ _ _ _ h0.out).mono ?_; rintro e w1 ⟨rfl, hb1⟩; have c0 : w1.cell? ⟨w.heap.size, 0, none⟩ = some (.int .i64 a.kind) := box_cell hb1 0; have c3 : w1.cell? ⟨w.heap.size, 3, none⟩ = some (.slice ia a.items.length ic) := box_cell hb1 3)
      have hB := hid (below_alloc hb1)
      have HI := hid (h0.out.later hb1).items
      have hwl : w.heap.size < w1.heap.size := by have := hb1.size; simp at this; omega
      clear hb1 h0
      generalize szN a.kind a.nums.length a.items.length = sz at hW hsz ⊢
      go_loopw [4, 3] (fun i m wr => RwRel w1 a.items (wtS a) i m wr) (fun i _ _ => a.items.length - (intOf i).toNat)
      case atStart => exact ⟨0, _, Nat.zero_le _, rfl, rfl, hW.out, by omega, by omega, Below.refl _ _⟩
      case round =>
        obtain ⟨j, m, hj, rfl, rfl, hch, m0, m1, hb⟩ := hrel
        have hch := hid hch
        have d0 : wr.cell? ⟨w.heap.size, 0, none⟩ = some (.int .i64 a.kind) := (hb.cell (p := ⟨w.heap.size, 0, none⟩) hwl).trans c0
        have d3 : wr.cell? ⟨w.heap.size, 3, none⟩ = some (.slice ia a.items.length ic) := (hb.cell (p := ⟨w.heap.size, 3, none⟩) hwl).trans c3
        clear c0 c3
        by_cases hlt : j < a.items.length
        · obtain ⟨b, off, sa', sc', na', nc', ja', jc', rfl, hS, hbl, e0, e1, e2, e3', hx⟩ := (HI.out.later hb).at hlt
          have hmem := hid (List.getElem_mem hlt)
          rw [drop_at hlt] at hch
          by_cases c1 : 262144 < m
          · rw [wtL_cap (by omega)] at hch
            have hmv := hid (hch.out.trans (show 262145 = min m 262145 by omega))
            have hB3 := hid (hB.out.trans (hb.mono hB.out.size))
            go_wp2_with fail
            exact hR.out _ _ ⟨by rw [hmv.out] <;> rfl, hB3.out⟩
          · rw [wtL_step _ _ m0] at hch
            generalize a.items[j] = x at e0 e1 e2 e3' hx hmem hch
            obtain ⟨g0, g1⟩ := wtS_bd x
            go_wp2_with fail
            refine (IH.out x hmem.out sa' sc' na' nc' ja' jc' S _ hx).mono ?_
            rintro e w2 ⟨rfl, hb2⟩
            go_wp2_with fail
            go_roundw
            case rel => exact ⟨j + 1, _, by omega, by go_num, rfl, hch.out, by omega, by omega, hb.trans (hb2.mono hb.size)⟩
            case measure => simp [intOf]; omega
        · have hje : a.items.drop j = [] := List.drop_eq_nil_of_le (by omega)
          rw [hje] at hch
          simp only [wtL] at hch
          clear hje
          have hB3 := hid (hB.out.trans (hb.mono hB.out.size))
          go_wp2_with fail
          exact hR.out _ _ ⟨by rw [hch.out] <;> rfl, hB3.out⟩
    · have e3 : (a.kind == 3) = false := by simp [h3]
      rw [if_neg h3] at hW
      replace h3 := hid h3
      have hwl : Hid (∀ w1 : World, (w.alloc (.cells #[.int .i64 a.kind, .slice sa a.shape.length sc, .slice na a.nums.length nc, .slice ia a.items.length ic] 27)).heap.size ≤ w1.heap.size → w.heap.size < w1.heap.size) := fun w1 h => by simp at h; omega
      by_cases hz : a.items.length = 0
      · have hz' : a.items.length ≤ 0 := by omega
        have hz0 := hid hz
        clear hz
        go_enter Try.func20, Try.ntmps20
        go_wp2_with (go_at_call 48; refine (size_ref03_Size a _ _ _ _ _ _ _ _ h0.out).mono ?_; rintro e w1 ⟨rfl, hb1⟩; have c0 : w1.cell? ⟨w.heap.size, 0, none⟩ = some (.int .i64 a.kind) := box_cell hb1 0; have c3 : w1.cell? ⟨w.heap.size, 3, none⟩ = some (.slice ia a.items.length ic) := box_cell hb1 3)
        refine wp_loop_rounds 1 ?_
        rw [rounds_succ]
        go_wp2_with fail
        exact hR.out _ _ ⟨by rw [hW.out] <;> rfl, below_alloc hb1⟩
      · have hz' : 0 < a.items.length := by omega
        go_enter Try.func20, Try.ntmps20
        go_wp2_with (go_at_call 48; refine (size_ref03_Size a _ _ _ _ _ _ _ _ h0.out).mono ?_; rintro e w1 ⟨rfl, hb1⟩; have c0 : w1.cell? ⟨w.heap.size, 0, none⟩ = some (.int .i64 a.kind) := box_cell hb1 0; have c3 : w1.cell? ⟨w.heap.size, 3, none⟩ = some (.slice ia a.items.length ic) := box_cell hb1 3)
        refine wp_loop_rounds 1 ?_
        rw [rounds_succ]
        go_wp2_with fail
        exact hR.out _ _ ⟨by rw [hW.out] <;> rfl, below_alloc hb1⟩
/-- the number of parts of the other sort -/
def otherN (k : Int) (nn ni : Nat) : Nat := if k = 3 then nn else ni
def RckRel (w1 : World) (l : List Arr) (w0 : Int) (u8 u7 : Value) (wr : World) : Prop :=
  ∃ (j : Nat) (d m : Int), j ≤ l.length ∧ u8 = .int .i64 j ∧ u7 = .int .i64 d ∧ chkL l 0 w0 = chkL (l.drop j) d m ∧ 0 ≤ d ∧ d ≤ 17 ∧ Below w1.heap.size w1 wr
theorem dimsE_8 {s : List Int} (h : dimsE s = 0) : s.length ≤ 8 := (shapeB_iff.1 (dimsE_zero.1 h)).1
set_option maxRecDepth 100000 in
set_option maxHeartbeats 8000000 in
theorem ref03_check (a : Arr) : ∀ (sa : Option Addr) (sc : Nat) (na : Option Addr) (nc : Nat) (ia : Option Addr) (ic : Nat) (S : Nat → Prop) (w : World), ArrAt w S a sa na ia →
    Calls Try.prog 49 #[.agg #[.int .i64 a.kind, .slice sa a.shape.length sc, .slice na a.nums.length nc, .slice ia a.items.length ic]] w fun e w' => e = .returned (.tuple #[.int .i64 (chk a).1, .int .i64 (chk a).2.1]) ∧ Below w.heap.size w w' := by
  induction a using Arr.ind with
  | h a IH =>
    intro sa sc na nc ia ic S w h
    have IH := hid IH
    refine calls_post fun R' hR => ?_
    have hC := hid (chk_eq a)
    have h0 := hid (h.alloc (.cells #[.int .i64 a.kind, .slice sa a.shape.length sc, .slice na a.nums.length nc, .slice ia a.items.length ic] 27))
    have hsz := szN_le (k := a.kind) h.nums.1 h.len
    have hnl := h.nums.1
    have hil := h.len
    have hsl := h.shape.1
    clear h
    by_cases hk : a.kind = 1 ∨ a.kind = 2 ∨ a.kind = 3
    · have hk1 : 1 ≤ a.kind := by omega
      have hk2 : a.kind ≤ 3 := by omega
      have HK := hid hk
      clear hk
      by_cases hd : dimsE a.shape = 0
      · have hsb := dimsE_zero.1 hd
        have hf := hid (formE_szN (nn := a.nums.length) (ni := a.items.length) HK.out hsb)
        have hcc := hid (cntC_eq hsb)
        have hcle := cnt_le hsb
        have ed : (dimsE a.shape != 0) = false := by simp [hd]
        replace hsb := hid hsb
        replace hd := hid hd
        go_enter Try.func49, Try.ntmps49
        go_upto_if 30 with (go_at_call 80; refine (ref03_Dims _ _ _ _ _ h0.out.shape).mono ?_; rintro e w' ⟨rfl, rfl⟩)
        go_cut [5] (fun s5 wx => wx = w.alloc (.cells #[.int .i64 a.kind, .slice sa a.shape.length sc, .slice na a.nums.length nc, .slice ia a.items.length ic] 27) ∧ s5 = .int .i64 (otherN a.kind a.nums.length a.items.length : Nat))
        case first =>
          by_cases h3 : a.kind = 3
          · have e3 : (a.kind == 3) = true := by simp [h3]
            have eo := hid (show otherN a.kind a.nums.length a.items.length = a.nums.length from if_pos h3)
            clear h3
            go_wp2_with fail
            go_meet
            exact ⟨rfl, by rw [eo.out]⟩
          · have e3 : (a.kind == 3) = false := by simp [h3]
            have eo := hid (show otherN a.kind a.nums.length a.items.length = a.items.length from if_neg h3)
            clear h3
            go_wp2_with fail
            go_meet
            exact ⟨rfl, by rw [eo.out]⟩
        case rest =>
          obtain ⟨hwc, rfl⟩ := hcut
          have h1 : ArrAt wc S a sa na ia := by rw [hwc]; exact h0.out
          have c0 : wc.cell? ⟨w.heap.size, 0, none⟩ = some (.int .i64 a.kind) := by rw [hwc]; simp
          have c1 : wc.cell? ⟨w.heap.size, 1, none⟩ = some (.slice sa a.shape.length sc) := by rw [hwc]; simp
          have c2 : wc.cell? ⟨w.heap.size, 2, none⟩ = some (.slice na a.nums.length nc) := by rw [hwc]; simp
          have c3 : wc.cell? ⟨w.heap.size, 3, none⟩ = some (.slice ia a.items.length ic) := by rw [hwc]; simp
          have hB : Below w.heap.size w wc := by rw [hwc]; exact (Below.refl _ _).alloc (Nat.le_refl _) _
          have hwl : w.heap.size < wc.heap.size := by rw [hwc]; simp
          clear hwc h0
          have k0 := cell_regrown c0
          have k1 := cell_regrown c1
          have k2 := cell_regrown c2
          have k3 := cell_regrown c3
          have H1 := hid h1
          have HB := hid hB
          clear h1 hB
          have cS : ∀ d os, Calls Try.prog 48 #[.agg #[.int .i64 a.kind, .slice sa a.shape.length sc, .slice na a.nums.length nc, .slice ia a.items.length ic]] (grow (redrawn wc d) os) fun e w'' => e = .returned (.int .i64 (szN a.kind a.nums.length a.items.length : Nat)) ∧ ∃ p : Regrown, w'' = grow (redrawn wc p.d) p.os := fun d os => Calls.regrown_of (size_ref03_Size a _ _ _ _ _ _ _ _ (H1.out.later (below_regrown wc d os)))
          have cC : ∀ d os, Calls Try.prog 81 #[.slice sa a.shape.length sc] (grow (redrawn wc d) os) fun e w'' => e = .returned (.int .i64 (cntC a.shape)) ∧ ∃ p : Regrown, w'' = grow (redrawn wc p.d) p.os := fun d os => Calls.regrown_of ((ref03_Count _ _ _ _ _ (H1.out.later (below_regrown wc d os)).shape).mono fun e w' h => ⟨h.1, h.2 ▸ Below.refl _ _⟩)
          have CS := hid cS
          have CC := hid cC
          clear cS cC
          have hf' : Hid (formE a.kind a.shape a.nums.length a.items.length = if (szN a.kind a.nums.length a.items.length : Int) ≠ cntC a.shape ∨ otherN a.kind a.nums.length a.items.length ≠ 0 then 16 else 0) := by
            rw [hcc.out]; exact hf.out
          have hot : otherN a.kind a.nums.length a.items.length ≤ 17592186044416 := by unfold otherN; split <;> omega
          clear hf
          generalize hon : otherN a.kind a.nums.length a.items.length = on at hf' hot ⊢
          replace hon := hid hon
          generalize szN a.kind a.nums.length a.items.length = sz at hf' hsz CS ⊢
          by_cases q1 : (sz : Int) = cntC a.shape
          · have f1 : ((sz : Int) != cntC a.shape) = false := by simp [q1]
            by_cases q2 : on = 0
            · rw [if_neg (by simp [q1, q2])] at hf'
              rw [if_neg (by rw [hf'.out]; omega)] at hC
              have q2' : decide (0 < on) = false := by simp; omega
              have Q1 := hid q1
              have Q2 := hid q2
              clear q1 q2
              go_wp2_with fail
              refine wp_region_quiet_below (by kernel_rfl) (by kernel_rfl) ?_
              repeat (quiet_step (first | exact CS.out _ _ | exact CC.out _ _))
              refine wpQuiet_nil ?_
              intro _ hw'
              obtain ⟨⟨dq, osq⟩, hw''⟩ := hw'
              subst hw''
              have hb_wq := below_regrown wc dq osq
              generalize grow (redrawn wc dq) osq = wq at hb_wq ⊢
              have d0 : wq.cell? ⟨w.heap.size, 0, none⟩ = some (.int .i64 a.kind) := (hb_wq.cell (p := ⟨w.heap.size, 0, none⟩) hwl).trans c0
              have d1 : wq.cell? ⟨w.heap.size, 1, none⟩ = some (.slice sa a.shape.length sc) := (hb_wq.cell (p := ⟨w.heap.size, 1, none⟩) hwl).trans c1
              have d2 : wq.cell? ⟨w.heap.size, 2, none⟩ = some (.slice na a.nums.length nc) := (hb_wq.cell (p := ⟨w.heap.size, 2, none⟩) hwl).trans c2
              have d3 : wq.cell? ⟨w.heap.size, 3, none⟩ = some (.slice ia a.items.length ic) := (hb_wq.cell (p := ⟨w.heap.size, 3, none⟩) hwl).trans c3
              have hB2 := hid (HB.out.trans (hb_wq.mono HB.out.size))
              have hwl2 : w.heap.size < wq.heap.size := by have := hb_wq.size; omega
              have hA2 := hid (H1.out.later hb_wq)
              clear c0 c1 c2 c3 k0 k1 k2 k3 H1 HB CS CC hb_wq hwl
              go_wp2_with fail
              have hlen := hid (form_items (k := a.kind) (s := a.shape) (nn := a.nums.length) (ni := a.items.length) (hf'.out))
              have hl0 := hid (form_len hf'.out)
              have HW := hid (chk_wtL (a := a) hf'.out)
              have HN := hid hA2.out.nums
              have HI := hid hA2.out.items
              go_loop [6] (fun i => ∃ k : Nat, k ≤ a.nums.length ∧ i = .int .i64 k ∧ Hid ((a.nums.take k).any (fun x => !elemB a.kind x) = false)) (fun i => a.nums.length - (intOf i).toNat)
              case atStart => exact ⟨0, Nat.zero_le _, rfl, by simp [Hid]⟩
              case round =>
                obtain ⟨k, hk, rfl, hany⟩ := hrel
                by_cases hlt : k < a.nums.length
                · obtain ⟨b, off, rfl, hbl, hS, hc⟩ := HN.out.at hlt
                  have hst := hid (any_take_succ (p := fun x => !elemB a.kind x) hlt hany.out)
                  have hbad := hid (any_of_at (p := fun x => !elemB a.kind x) hlt)
                  generalize a.nums.getD k 0 = d at hc hst hbad
                  rcases HK.out with h3 | h3 | h3
                  · have e1 : (a.kind == 1) = true := by simp [h3]
                    have e2 : (a.kind == 2) = false := by simp [h3]
                    cases hd' : numB d with
                    | true =>
                      have Hd : Hid (elemB a.kind d = true) := by rw [h3]; exact elemB1.trans hd'
                      replace hd' := hid hd'
                      clear h3
                      go_wp2_with (go_at_call 82; refine (ref03_Number _ _).mono ?_; rintro e w' ⟨rfl, rfl⟩; rw [hd'.out])
                      go_round
                      case rel => exact ⟨k + 1, by omega, by go_num, hst.out (by simp [Hd.out])⟩
                      case measure => simp [intOf]; omega
                    | false =>
                      have Hd : Hid (elemB a.kind d = false) := by rw [h3]; exact elemB1.trans hd'
                      replace hd' := hid hd'
                      clear h3
                      rw [if_pos (hbad.out (by simp [Hd.out]))] at hC
                      go_wp2_with (go_at_call 82; refine (ref03_Number _ _).mono ?_; rintro e w' ⟨rfl, rfl⟩; rw [hd'.out])
                      exact hR.out _ _ ⟨by rw [hC.out] <;> rfl, hB2.out⟩
                  · have e1 : (a.kind == 1) = false := by simp [h3]
                    have e2 : (a.kind == 2) = true := by simp [h3]
                    cases hd' : chrB d with
                    | true =>
                      have Hd : Hid (elemB a.kind d = true) := by rw [h3]; exact elemB2.trans hd'
                      replace hd' := hid hd'
                      clear h3
                      go_wp2_with (go_at_call 83; refine (ref03_Rune _ _).mono ?_; rintro e w' ⟨rfl, rfl⟩; rw [hd'.out])
                      go_round
                      case rel => exact ⟨k + 1, by omega, by go_num, hst.out (by simp [Hd.out])⟩
                      case measure => simp [intOf]; omega
                    | false =>
                      have Hd : Hid (elemB a.kind d = false) := by rw [h3]; exact elemB2.trans hd'
                      replace hd' := hid hd'
                      clear h3
                      rw [if_pos (hbad.out (by simp [Hd.out]))] at hC
                      go_wp2_with (go_at_call 83; refine (ref03_Rune _ _).mono ?_; rintro e w' ⟨rfl, rfl⟩; rw [hd'.out])
                      exact hR.out _ _ ⟨by rw [hC.out] <;> rfl, hB2.out⟩
                  · exfalso
                    have x1 := Q2.out
                    have x2 := hon.out
                    rw [otherN, if_pos h3] at x2
                    omega
                · have hke : k = a.nums.length := by omega
                  have hany' := hany.out
                  rw [hke, List.take_length] at hany'
                  rw [if_neg (by simp [hany'])] at hC
                  clear hany hany' hke
                  have hl0' := hl0.out
                  go_wp2_with fail
                  go_loopw [8, 7] (fun i d wr => RckRel wq a.items ((a.nums.length : Int) + a.items.length) i d wr) (fun i _ _ => a.items.length - (intOf i).toNat)
                  case atStart => exact ⟨0, 0, _, Nat.zero_le _, rfl, rfl, rfl, by omega, by omega, Below.refl _ _⟩
                  case round =>
                    obtain ⟨j, d, m, hj, rfl, rfl, hch, g0, g1, hb⟩ := hrel
                    have hch := hid hch
                    have b0 : wr.cell? ⟨w.heap.size, 0, none⟩ = some (.int .i64 a.kind) := (hb.cell (p := ⟨w.heap.size, 0, none⟩) hwl2).trans d0
                    have b1 : wr.cell? ⟨w.heap.size, 1, none⟩ = some (.slice sa a.shape.length sc) := (hb.cell (p := ⟨w.heap.size, 1, none⟩) hwl2).trans d1
                    have b2 : wr.cell? ⟨w.heap.size, 2, none⟩ = some (.slice na a.nums.length nc) := (hb.cell (p := ⟨w.heap.size, 2, none⟩) hwl2).trans d2
                    have b3 : wr.cell? ⟨w.heap.size, 3, none⟩ = some (.slice ia a.items.length ic) := (hb.cell (p := ⟨w.heap.size, 3, none⟩) hwl2).trans d3
                    clear d0 d1 d2 d3
                    by_cases hlt : j < a.items.length
                    · obtain ⟨b, off, sa', sc', na', nc', ja', jc', rfl, hS, hbl, e0, e1, e2, e3, hx⟩ := (HI.out.later hb).at hlt
                      have hmem := hid (List.getElem_mem hlt)
                      have hst := hid (chkL_step (x := a.items[j]) (l := a.items.drop (j + 1)) (d := d) (w := m))
                      have hsp := hid (chkL_stop (x := a.items[j]) (l := a.items.drop (j + 1)) (d := d) (w := m))
                      rw [drop_at hlt] at hch
                      generalize a.items[j] = x at e0 e1 e2 e3 hx hmem hst hsp hch
                      have hX := hid hx
                      have hbd := chk_bd x
                      obtain ⟨⟨q0, q1'⟩, q2, q3⟩ := hbd
                      clear hx
                      by_cases hx0 : (chk x).1 = 0
                      · have f1' : ((chk x).1 != 0) = false := by simp [hx0]
                        have hst'' := hid (hst.out hx0)
                        clear hx0
                        go_wp2_with fail
                        refine (IH.out x hmem.out sa' sc' na' nc' ja' jc' S _ hX.out).mono ?_
                        rintro e w2 ⟨rfl, hb2⟩
                        go_wp2_with fail
                        go_roundw
                        case rel => exact ⟨j + 1, _, _, by omega, by go_num, rfl, hch.out.trans hst''.out, by omega, by omega, hb.trans (hb2.mono hb.size)⟩
                        case measure => simp [intOf]; omega
                      · have f1' : ((chk x).1 != 0) = true := by simpa using hx0
                        have hsp' := hid (hsp.out hx0)
                        replace hx0 := hid hx0
                        go_wp2_with fail
                        refine (IH.out x hmem.out sa' sc' na' nc' ja' jc' S _ hX.out).mono ?_
                        rintro e w2 ⟨rfl, hb2⟩
                        go_wp2_with fail
                        have hb3 := hb.trans (hb2.mono hb.size)
                        refine hR.out _ _ ⟨?_, hB2.out.trans (hb3.mono hB2.out.size)⟩
                        rw [hC.out, hch.out, hsp'.out] <;> rfl
                    · have hje : a.items.drop j = [] := List.drop_eq_nil_of_le (by omega)
                      rw [hje] at hch
                      have hchv := hch.out
                      simp only [chkL] at hchv
                      have hm := chkL_wt (fun x _ => chk_wt x) hchv
                      simp only at hm
                      rw [hchv] at hC
                      simp only [chkEnd] at hC
                      rw [hm, ← HW.out] at hC
                      clear hje hch hchv hm
                      have hA3 := hid (hA2.out.later hb)
                      have hB3 := hid (hB2.out.trans (hb.mono hB2.out.size))
                      obtain ⟨y0, y1⟩ := wtS_bd a
                      by_cases z1 : 16 < d
                      · rw [if_pos (Or.inl z1)] at hC
                        go_wp2_with fail
                        exact hR.out _ _ ⟨by rw [hC.out] <;> rfl, hB3.out⟩
                      · by_cases z2 : 262144 < wtS a
                        · rw [if_pos (Or.inr z2)] at hC
                          go_wp2_with (go_at_call 20; refine (ref03_Weight a _ _ _ _ _ _ _ _ hA3.out).mono ?_; rintro e w2 ⟨rfl, hb2⟩)
                          exact hR.out _ _ ⟨by rw [hC.out] <;> rfl, hB3.out.trans (hb2.mono hB3.out.size)⟩
                        · rw [if_neg (by omega)] at hC
                          go_wp2_with (go_at_call 20; refine (ref03_Weight a _ _ _ _ _ _ _ _ hA3.out).mono ?_; rintro e w2 ⟨rfl, hb2⟩)
                          exact hR.out _ _ ⟨by rw [hC.out] <;> rfl, hB3.out.trans (hb2.mono hB3.out.size)⟩
            · rw [if_pos (Or.inr q2)] at hf'
              rw [if_pos (by rw [hf'.out]; omega), hf'.out] at hC
              have q2' : decide (0 < on) = true := by simp; omega
              have Q1 := hid q1
              have Q2 := hid q2
              clear q1 q2
              go_wp2_with fail
              refine wp_region_quiet_below (by kernel_rfl) (by kernel_rfl) ?_
              repeat (quiet_step (first | exact CS.out _ _ | exact CC.out _ _))
              refine wpQuiet_nil ?_
              intro _ hw'
              obtain ⟨⟨dq, osq⟩, hw''⟩ := hw'
              subst hw''
              have hb_wq := below_regrown wc dq osq
              generalize grow (redrawn wc dq) osq = wq at hb_wq ⊢
              have hB2 := hid (HB.out.trans (hb_wq.mono HB.out.size))
              clear c0 c1 c2 c3 k0 k1 k2 k3 H1 HB CS CC hb_wq
              go_wp2_with fail
              exact hR.out _ _ ⟨by rw [hC.out] <;> rfl, hB2.out⟩
          · have f1 : ((sz : Int) != cntC a.shape) = true := by simpa using q1
            rw [if_pos (Or.inl q1)] at hf'
            rw [if_pos (by rw [hf'.out]; omega), hf'.out] at hC
            have Q1 := hid q1
            clear q1
            go_wp2_with fail
            refine wp_region_quiet_below (by kernel_rfl) (by kernel_rfl) ?_
            repeat (quiet_step (first | exact CS.out _ _ | exact CC.out _ _))
            refine wpQuiet_nil ?_
            intro _ hw'
            obtain ⟨⟨dq, osq⟩, hw''⟩ := hw'
            subst hw''
            have hb_wq := below_regrown wc dq osq
            generalize grow (redrawn wc dq) osq = wq at hb_wq ⊢
            have hB2 := hid (HB.out.trans (hb_wq.mono HB.out.size))
            clear c0 c1 c2 c3 k0 k1 k2 k3 H1 HB CS CC hb_wq
            go_wp2_with fail
            exact hR.out _ _ ⟨by rw [hC.out] <;> rfl, hB2.out⟩
      · have E := hid (dimsE_form (nn := a.nums.length) (ni := a.items.length) HK.out hd)
        have ed : (dimsE a.shape != 0) = true := by simpa using hd
        rw [if_pos (by rw [E.out]; exact hd)] at hC
        replace hd := hid hd
        go_enter Try.func49, Try.ntmps49
        go_wp2_with (go_at_call 80; refine (ref03_Dims _ _ _ _ _ h0.out.shape).mono ?_; rintro e w' ⟨rfl, rfl⟩)
        exact hR.out _ _ ⟨by rw [hC.out, E.out] <;> rfl, (Below.refl _ _).alloc (Nat.le_refl _) _⟩
    · have hE := hid (formE_kind (k := a.kind) (s := a.shape) (nn := a.nums.length) (ni := a.items.length) (by omega) (by omega) (by omega))
      rw [if_pos (by rw [hE.out]; omega), hE.out] at hC
      by_cases k1 : a.kind < 1
      · clear hk
        go_enter Try.func49, Try.ntmps49
        go_wp2_with fail
        exact hR.out _ _ ⟨by rw [hC.out] <;> rfl, (Below.refl _ _).alloc (Nat.le_refl _) _⟩
      · have k3 : 3 < a.kind := by omega
        clear hk
        go_enter Try.func49, Try.ntmps49
        go_wp2_with fail
        exact hR.out _ _ ⟨by rw [hC.out] <;> rfl, (Below.refl _ _).alloc (Nat.le_refl _) _⟩
set_option maxHeartbeats 1000000 in
theorem ref03_Right (a : Arr) (sa : Option Addr) (sc : Nat) (na : Option Addr) (nc : Nat) (ia : Option Addr) (ic : Nat) (S : Nat → Prop) (w : World) (h : ArrAt w S a sa na ia) :
    Calls Try.prog 21 #[.agg #[.int .i64 a.kind, .slice sa a.shape.length sc, .slice na a.nums.length nc, .slice ia a.items.length ic]] w fun e w' => e = .returned (.int .i64 (rightS a)) ∧ Below w.heap.size w w' := by
  refine calls_post fun R' hR => ?_
  have h0 := hid (h.alloc (.cells #[.int .i64 a.kind, .slice sa a.shape.length sc, .slice na a.nums.length nc, .slice ia a.items.length ic] 27))
  clear h
  go_enter Try.func21, Try.ntmps21
  go_wp2_with (go_at_call 49; refine (ref03_check a _ _ _ _ _ _ _ _ h0.out).mono ?_; rintro e w1 ⟨rfl, hb1⟩)
  exact hR.out _ _ ⟨rfl, below_alloc hb1⟩
end Go.Proofs.Ytdpdcjadedcglaa
