/- Sizes and weights: the functions of package array and of its reference. Conditions: the arrays are read. -/
import Derived.Test.YtmclggonmekanaaA03
set_option linter.unusedVariables false
set_option linter.unusedSimpArgs false
namespace Go.Proofs.Ytmclggonmekanaa
open Go.RowKit
attribute [local go_sem ↓] run_max2 run_min2
attribute [local go_sem] eql_ints_nil eql_arrs_nil
set_option maxHeartbeats 1000000 in
theorem size_array_Size (a : Arr) (sa : Option Addr) (sc : Nat) (na : Option Addr) (nc : Nat) (ia : Option Addr) (ic : Nat) (S : Nat → Prop) (w : World) (h : ArrAt w S a sa na ia) :
    Calls Try.prog 74 #[.agg #[.int .i64 a.kind, .slice sa a.shape.length sc, .slice na a.nums.length nc, .slice ia a.items.length ic]] w fun e w' => e = .returned (.int .i64 (szN a.kind a.nums.length a.items.length : Nat)) ∧ Below w.heap.size w w' := by
  have hn := h.nums.1
  have hl := h.len
  clear h
  generalize a.kind = k
  generalize a.nums.length = nn at hn
  generalize a.items.length = ni at hl
  generalize a.shape.length = ns
  refine calls_post fun R' hR => ?_
  by_cases h1 : k = 1
  · have e1 : (k == 1) = true := by simp [h1]
    have E : Hid (szN k nn ni = nn) := by simp [Hid, szN, h1]
    clear h1
    go_enter Try.func74, Try.ntmps74
    go_wp2_with fail
    exact hR.out _ _ ⟨by rw [E.out] <;> rfl, (Below.refl _ _).alloc (Nat.le_refl _) _⟩
  by_cases h2 : k = 2
  · have e1 : (k == 1) = false := by simp [h1]
    have e2 : (k == 2) = true := by simp [h2]
    have E : Hid (szN k nn ni = nn) := by simp [Hid, szN, h2]
    clear h1 h2
    go_enter Try.func74, Try.ntmps74
    go_wp2_with fail
    exact hR.out _ _ ⟨by rw [E.out] <;> rfl, (Below.refl _ _).alloc (Nat.le_refl _) _⟩
  by_cases h3 : k = 3
  · have e1 : (k == 1) = false := by simp [h1]
    have e2 : (k == 2) = false := by simp [h2]
    have e3 : (k == 3) = true := by simp [h3]
    have E : Hid (szN k nn ni = ni) := by simp [Hid, szN, h3]
    clear h1 h2 h3
    go_enter Try.func74, Try.ntmps74
    go_wp2_with fail
    exact hR.out _ _ ⟨by rw [E.out] <;> rfl, (Below.refl _ _).alloc (Nat.le_refl _) _⟩
  · have e1 : (k == 1) = false := by simp [h1]
    have e2 : (k == 2) = false := by simp [h2]
    have e3 : (k == 3) = false := by simp [h3]
    have E : Hid (szN k nn ni = 0) := by simp [Hid, szN, h1, h2, h3]
    clear h1 h2 h3
    go_enter Try.func74, Try.ntmps74
    go_wp2_with fail
    exact hR.out _ _ ⟨by rw [E.out] <;> rfl, (Below.refl _ _).alloc (Nat.le_refl _) _⟩
set_option maxHeartbeats 1000000 in
theorem size_ref03_Size (a : Arr) (sa : Option Addr) (sc : Nat) (na : Option Addr) (nc : Nat) (ia : Option Addr) (ic : Nat) (S : Nat → Prop) (w : World) (h : ArrAt w S a sa na ia) :
    Calls Try.prog 85 #[.agg #[.int .i64 a.kind, .slice sa a.shape.length sc, .slice na a.nums.length nc, .slice ia a.items.length ic]] w fun e w' => e = .returned (.int .i64 (szN a.kind a.nums.length a.items.length : Nat)) ∧ Below w.heap.size w w' := by
  have hn := h.nums.1
  have hl := h.len
  clear h
  generalize a.kind = k
  generalize a.nums.length = nn at hn
  generalize a.items.length = ni at hl
  generalize a.shape.length = ns
  refine calls_post fun R' hR => ?_
  by_cases h1 : k = 1
  · have e1 : (k == 1) = true := by simp [h1]
    have E : Hid (szN k nn ni = nn) := by simp [Hid, szN, h1]
    clear h1
    go_enter Try.func85, Try.ntmps85
    go_wp2_with fail
    exact hR.out _ _ ⟨by rw [E.out] <;> rfl, (Below.refl _ _).alloc (Nat.le_refl _) _⟩
  by_cases h2 : k = 2
  · have e1 : (k == 1) = false := by simp [h1]
    have e2 : (k == 2) = true := by simp [h2]
    have E : Hid (szN k nn ni = nn) := by simp [Hid, szN, h2]
    clear h1 h2
    go_enter Try.func85, Try.ntmps85
    go_wp2_with fail
    exact hR.out _ _ ⟨by rw [E.out] <;> rfl, (Below.refl _ _).alloc (Nat.le_refl _) _⟩
  by_cases h3 : k = 3
  · have e1 : (k == 1) = false := by simp [h1]
    have e2 : (k == 2) = false := by simp [h2]
    have e3 : (k == 3) = true := by simp [h3]
    have E : Hid (szN k nn ni = ni) := by simp [Hid, szN, h3]
    clear h1 h2 h3
    go_enter Try.func85, Try.ntmps85
    go_wp2_with fail
    exact hR.out _ _ ⟨by rw [E.out] <;> rfl, (Below.refl _ _).alloc (Nat.le_refl _) _⟩
  · have e1 : (k == 1) = false := by simp [h1]
    have e2 : (k == 2) = false := by simp [h2]
    have e3 : (k == 3) = false := by simp [h3]
    have E : Hid (szN k nn ni = 0) := by simp [Hid, szN, h1, h2, h3]
    clear h1 h2 h3
    go_enter Try.func85, Try.ntmps85
    go_wp2_with fail
    exact hR.out _ _ ⟨by rw [E.out] <;> rfl, (Below.refl _ _).alloc (Nat.le_refl _) _⟩
theorem szN3 {k : Int} {nn ni : Nat} (h : k = 3) : szN k nn ni = ni := by simp [szN, h]
theorem szN_le {k : Int} {nn ni : Nat} (hn : nn ≤ 17592186044416) (hi : ni ≤ 1759218604441) : szN k nn ni ≤ 17592186044416 := by unfold szN; (repeat' split) <;> omega
def WtRel (w1 : World) (l : List Arr) (W0 : Int) (u16 u3 : Value) (wr : World) : Prop :=
  ∃ (j : Nat) (m : Int), j ≤ l.length ∧ u16 = .int .i64 j ∧ u3 = .int .i64 m ∧ W0 = wtL (l.drop j) m ∧ 0 ≤ m ∧ m ≤ 262145 ∧ Below w1.heap.size w1 wr
set_option maxHeartbeats 4000000 in
theorem array_Weight (a : Arr) : ∀ (sa : Option Addr) (sc : Nat) (na : Option Addr) (nc : Nat) (ia : Option Addr) (ic : Nat) (S : Nat → Prop) (w : World), ArrAt w S a sa na ia →
    Calls Try.prog 53 #[.agg #[.int .i64 a.kind, .slice sa a.shape.length sc, .slice na a.nums.length nc, .slice ia a.items.length ic]] w fun e w' => e = .returned (.int .i64 (wtS a)) ∧ Below w.heap.size w w' := by
  induction a using Arr.ind with
  | h a IH =>
    intro sa sc na nc ia ic S w h
    have IH := hid IH
    refine calls_post fun R' hR => ?_
    have hW := hid (wtS_eq a)
    have h0 := hid (h.alloc (.cells #[.int .i64 a.kind, .slice sa a.shape.length sc, .slice na a.nums.length nc, .slice ia a.items.length ic] 46))
    have hsz := szN_le (k := a.kind) h.nums.1 h.len
    have hil := h.len
    clear h
    by_cases h3 : a.kind = 3
    · have e3 : (a.kind != 3) = false := by simp [h3]
      rw [if_pos h3, ← szN3 (nn := a.nums.length) (ni := a.items.length) h3] at hW
      have hs3 := hid (szN3 (nn := a.nums.length) (ni := a.items.length) h3)
      clear h3
      go_enter Try.func53, Try.ntmps53
      go_wp2_with (go_at_call 74; refine (size_array_Size a _ _ _ _ _ _ _ _ h0.out).mono ?_; rintro e w1 ⟨rfl, hb1⟩; have c0 : w1.cell? ⟨w.heap.size, 0, none⟩ = some (.int .i64 a.kind) := box_cell hb1 0; have c3 : w1.cell? ⟨w.heap.size, 3, none⟩ = some (.slice ia a.items.length ic) := box_cell hb1 3)
      have hB := hid (below_alloc hb1)
      have HI := hid (h0.out.later hb1).items
      clear hb1 h0
      generalize szN a.kind a.nums.length a.items.length = sz at hW hsz hs3 ⊢
      go_loopw [16, 3] (fun i m wr => WtRel w1 a.items (wtS a) i m wr) (fun i _ _ => a.items.length - (intOf i).toNat)
      case atStart => exact ⟨0, _, Nat.zero_le _, rfl, rfl, hW.out, by omega, by omega, Below.refl _ _⟩
      case round =>
        obtain ⟨j, m, hj, rfl, rfl, hch, m0, m1, hb⟩ := hrel
        have hch := hid hch
        by_cases hlt : j < a.items.length
        · obtain ⟨b, off, sa', sc', na', nc', ja', jc', rfl, hS, hbl, e0, e1, e2, e3', hx⟩ := (HI.out.later hb).at hlt
          have hmem := hid (List.getElem_mem hlt)
          rw [drop_at hlt] at hch
          by_cases c1 : 262144 < m
          · have hmm : m = min m 262145 := by omega
            rw [hmm, wtL_cap (by omega)] at hch
            have hB3 := hid (hB.out.trans (hb.mono hB.out.size))
            have hmv : m = 262145 := by omega
            have hmv' := hid hmv
            clear hmv hmm
            go_wp2_with fail
            exact hR.out _ _ ⟨by rw [hch.out, ← hmv'.out] <;> rfl, hB3.out.alloc (hB3.out.size) _⟩
          · simp only [wtL] at hch
            generalize a.items[j] = x at e0 e1 e2 e3' hx hmem hch
            have hX := hid (hx.alloc (.cells #[.int .i64 x.kind, .slice sa' x.shape.length sc', .slice na' x.nums.length nc', .slice ja' x.items.length jc'] 46))
            obtain ⟨g0, g1⟩ := wtS_bd x
            clear hx
            go_wp2_with fail
            refine (IH.out x hmem.out sa' sc' na' nc' ja' jc' S _ hX.out).mono ?_
            rintro e w2 ⟨rfl, hb2⟩
            go_wp2_with fail
            go_roundw
            case rel => exact ⟨j + 1, _, by omega, by go_num, rfl, hch.out, by omega, by omega, hb.trans ((below_alloc hb2).mono hb.size)⟩
            case measure => simp [intOf]; omega
        · have hje : a.items.drop j = [] := List.drop_eq_nil_of_le (by omega)
          rw [hje] at hch
          simp only [wtL] at hch
          clear hje
          have hB3 := hid (hB.out.trans (hb.mono hB.out.size))
          go_wp2_with fail
          exact hR.out _ _ ⟨by rw [hch.out] <;> rfl, hB3.out⟩
    · have e3 : (a.kind != 3) = true := by simpa using h3
      rw [if_neg h3] at hW
      replace h3 := hid h3
      go_enter Try.func53, Try.ntmps53
      go_wp2_with (go_at_call 74; refine (size_array_Size a _ _ _ _ _ _ _ _ h0.out).mono ?_; rintro e w1 ⟨rfl, hb1⟩; have c0 : w1.cell? ⟨w.heap.size, 0, none⟩ = some (.int .i64 a.kind) := box_cell hb1 0)
      exact hR.out _ _ ⟨by rw [hW.out] <;> rfl, below_alloc hb1⟩
end Go.Proofs.Ytmclggonmekanaa
