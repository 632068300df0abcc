/- The functions of the statements about package reshaping: contracts. Conditions: the arrays are read. -/
import Derived.Test.YtmclggonmekanaaLAW04
set_option linter.unusedVariables false
set_option linter.unusedSimpArgs false
namespace Go.Proofs.Ytmclggonmekanaa
open Go.RowKit Go.Sort
attribute [local go_sem ↓] run_max2 run_min2
attribute [local go_sem] eql_ints_nil eql_arrs_nil
theorem wide_bounds {n d : Int} (h1 : 1 ≤ n) (h2 : n ≤ 70000) (h3 : d ≤ 70000) : 1 ≤ n * max d 1 ∧ n * max d 1 ≤ 4900000000 := by
  have a1 : 1 ≤ max d 1 := by omega
  have a2 : max d 1 ≤ 70000 := by omega
  refine ⟨?_, ?_⟩
  · have := Int.mul_le_mul h1 a1 (by omega) (by omega); omega
  · have := Int.mul_le_mul h2 a2 (by omega) (by omega); omega
set_option maxHeartbeats 4000000 in
theorem law18_Wide (a : Arr) (sa : Option Addr) (ca : Nat) (na : Option Addr) (ma : Nat) (ia : Option Addr) (ja : Nat) (S : Nat → Prop) (w : World) (h : ArrAt w S a sa na ia) : Calls Try.prog 41 #[.agg #[.int .i64 a.kind, .slice sa a.shape.length ca, .slice na a.nums.length ma, .slice ia a.items.length ja]] w (SomeB' w) := by
  refine calls_post fun R' hR => ?_
  have hnl := h.nums.1
  have h0 := hid h
  clear h
  go_enter Try.func41, Try.ntmps41
  go_wp2_with fail
  generalize hEW : (w).alloc (.cells #[.int .i64 a.kind, .slice sa a.shape.length ca, .slice na a.nums.length ma, .slice ia a.items.length ja] 46) = W
  obtain ⟨haW, heW, zW⟩ := boxes1 w hEW
  clear hEW
  go_loopw [3, 4] (fun s i wr => ∃ (k : Nat) (n : Int), k ≤ a.nums.length ∧ i = .int .i64 k ∧ s = .int .i64 n ∧ 1 ≤ n ∧ n ≤ 70000 ∧ wr = W) (fun _ i _ => a.nums.length - (intOf i).toNat)
  case atStart => exact ⟨0, _, Nat.zero_le _, rfl, rfl, by omega, by omega, rfl⟩
  case round =>
    obtain ⟨k, n, hk, rfl, rfl, n1, n2, rfl⟩ := hrel
    have q2 := haW.c2
    by_cases hlt : k < a.nums.length
    · by_cases hlt2 : k < 20
      · obtain ⟨b, off, hna, hbl, hS, hc⟩ := (h0.out.up heW).nums.at hlt
        subst hna
        generalize a.nums.getD k 0 = d at hc
        by_cases c1 : d > 70000
        · go_wp2_with fail
          exact hR.out _ _ ⟨_, rfl, heW⟩
        · have hB := wide_bounds n1 n2 (d := d) (by omega)
          generalize hm : n * max d 1 = m at hB
          by_cases c2 : m > 70000
          · go_wp2_with fail
            exact hR.out _ _ ⟨_, rfl, heW⟩
          · go_wp2_with fail
            go_roundw
            case rel => exact ⟨k + 1, m, by omega, by go_num, by first | rfl | (rw [← hm]), by omega, by omega, by first | rfl | trivial⟩
            case measure => simp [intOf]; omega
      · go_wp2_with fail
        exact hR.out _ _ ⟨_, rfl, heW⟩
    · go_wp2_with fail
      exact hR.out _ _ ⟨_, rfl, heW⟩
/-- the array that is picked from -/
def fromS (y : Arr) : Arr := if y.nums.length + y.items.length = 0 then fillS y else y
def haveN (y : Arr) : Nat := if y.kind = 3 then (fromS y).items.length else (fromS y).nums.length
def modF (h : Nat) (i : Int) : Int := i % (h : Int)
/-- the weight of the first k items -/
def rwS (l : List Arr) (h : Nat) : Nat → Int
  | 0 => 0
  | k + 1 => rwS l h k + (1 + wtS (l.getD (k % h) .zero))
def reshE (x y : Arr) : Int := if rightS x ≠ 0 ∨ rightS y ≠ 0 then 1 else if ndE x ≠ 0 then ndE x else if y.kind = 3 ∧ 262144 < rwS (fromS y).items (haveN y) (cnt x.nums).toNat then 21 else 0
def reshS (x y : Arr) : Arr := if reshE x y = 0 then gathS (fromS y) x.nums (modF (haveN y)) (cnt x.nums).toNat else .zero
theorem reshS_no {x y : Arr} (h : reshE x y ≠ 0) : reshS x y = .zero := if_neg h
theorem reshE_x {x y : Arr} (h : rightS x ≠ 0) : reshE x y = 1 := if_pos (Or.inl h)
theorem reshE_y {x y : Arr} (h : rightS y ≠ 0) : reshE x y = 1 := if_pos (Or.inr h)
theorem reshE_d {x y : Arr} (h : rightS x = 0) (g : rightS y = 0) (d : ndE x ≠ 0) : reshE x y = ndE x := by unfold reshE; rw [if_neg (by simp [h, g]), if_pos d]
theorem reshE_w {x y : Arr} (h : rightS x = 0) (g : rightS y = 0) (d : ndE x = 0) (k : y.kind = 3) (o : 262144 < rwS (fromS y).items (haveN y) (cnt x.nums).toNat) : reshE x y = 21 := by unfold reshE; rw [if_neg (by simp [h, g]), if_neg (by simp [d]), if_pos ⟨k, o⟩]
theorem reshE_0 {x y : Arr} (h : rightS x = 0) (g : rightS y = 0) (d : ndE x = 0) (k : y.kind = 3 → rwS (fromS y).items (haveN y) (cnt x.nums).toNat ≤ 262144) : reshE x y = 0 := by
  unfold reshE; rw [if_neg (by simp [h, g]), if_neg (by simp [d]), if_neg (fun q => by have := k q.1; omega)]
theorem reshS_yes {x y : Arr} (h : reshE x y = 0) : reshS x y = gathS (fromS y) x.nums (modF (haveN y)) (cnt x.nums).toNat := if_pos h
theorem rwS_mono (l : List Arr) (h : Nat) {k n : Nat} (hk : k ≤ n) : rwS l h k + (n - k : Nat) ≤ rwS l h n := by
  induction n with
  | zero => have : k = 0 := by omega
            subst this; simp
  | succ n ih =>
    by_cases e : k = n + 1
    · subst e; simp
    · have := ih (by omega)
      have w0 := (wtS_bd (l.getD (n % h) .zero)).1
      simp only [rwS]
      omega
theorem fill1 {y : Arr} (k : y.kind = 1) : fillS y = .mk 1 [] [0] [] := if_pos k
theorem fill2 {y : Arr} (k : y.kind = 2) : fillS y = .mk 2 [] [32] [] := by unfold fillS; rw [if_neg (by omega), if_pos k]
theorem fill3 {y : Arr} (k : y.kind = 3) : fillS y = .mk 3 [] [] [unitA] := by unfold fillS; rw [if_neg (by omega), if_neg (by omega), if_pos k]
theorem fromS_kind {y : Arr} (h : rightS y = 0) : (fromS y).kind = y.kind := by
  by_cases c : y.nums.length + y.items.length = 0
  · rw [fromS, if_pos c]
    obtain ⟨k, _, _⟩ := right_ok h
    rcases k with k | k | k
    · rw [fill1 k, k]; rfl
    · rw [fill2 k, k]; rfl
    · rw [fill3 k, k]; rfl
  · rw [fromS, if_neg c]
theorem haveN_pos {y : Arr} (h : rightS y = 0) : 0 < haveN y := by
  obtain ⟨k, _, hn⟩ := right_ok h
  by_cases c : y.nums.length + y.items.length = 0
  · have e : fromS y = fillS y := if_pos c
    unfold haveN
    rw [e]
    rcases k with k | k | k
    · rw [if_neg (by omega), fill1 k]; decide
    · rw [if_neg (by omega), fill2 k]; decide
    · rw [if_pos k, fill3 k]; decide
  · have e : fromS y = y := if_neg c
    unfold haveN
    rw [e]
    rcases hn with ⟨k3, _, h2⟩ | ⟨k3, _, h2⟩
    · rw [if_pos k3]; omega
    · rw [if_neg k3]; omega
theorem rwS_bd (l : List Arr) (h : Nat) (k : Nat) : 0 ≤ rwS l h k := by have := rwS_mono l h (Nat.zero_le k); simp only [rwS] at this; omega
end Go.Proofs.Ytmclggonmekanaa
