/- ref03.Of: contract. Conditions: the shape and the array are read. -/
import Derived.Test.YtdpdcjadedcglaaGK
import Derived.Test.YtdpdcjadedcglaaPUT
import Derived.Test.YtdpdcjadedcglaaGI
import Derived.Test.YtdpdcjadedcglaaA17
set_option linter.unusedVariables false
set_option maxRecDepth 20000
set_option linter.unusedSimpArgs false
namespace Go.Proofs.Ytdpdcjadedcglaa
open Go.RowKit Go.Sort
attribute [local go_sem ↓] run_max2 run_min2
attribute [local go_sem] eql_ints_nil eql_arrs_nil
theorem szN_of {y : Arr} (h : rightS y = 0) : szN (fromS y).kind (fromS y).nums.length (fromS y).items.length = haveN y := by
  have hk := fromS_kind h
  obtain ⟨kk, _, _⟩ := right_ok h
  unfold szN haveN
  rw [hk]
  split
  · rw [if_neg (by omega)]
  · rename_i q
    rw [if_pos (by omega), if_pos (by omega)]
theorem szN_no {y : Arr} (h : rightS y = 0) : (((szN y.kind y.nums.length y.items.length : Nat) : Int) == 0) = decide (y.nums.length + y.items.length = 0) := by
  obtain ⟨kk, _, hh⟩ := right_ok h
  unfold szN
  rcases hh with ⟨k, _, q⟩ | ⟨k, _, q⟩
  · rw [if_neg (by omega), if_pos k, Bool.eq_iff_iff, beq_iff_eq, decide_eq_true_iff]; omega
  · rw [if_pos (by omega), Bool.eq_iff_iff, beq_iff_eq, decide_eq_true_iff]; omega
/-- what Put adds for the element of an array -/
theorem putN_at {y : Arr} {k : Int} {nums : List Int} {i : Nat} (hk : k = y.kind) (h : i < szA y) : putN k nums (atS y i) = if y.kind = 3 then nums else nums ++ [y.nums.getD i 0] := by
  by_cases k3 : y.kind = 3
  · rw [putN_A (by omega), if_pos k3]
  · rw [putN_N (by omega), if_neg k3, atS_N (by omega) k3, Int.toNat_natCast]; rfl
theorem putI_at {y : Arr} {k : Int} {items : List Arr} {i : Nat} (hk : k = y.kind) (h : i < szA y) : putI k items (atS y i) = if y.kind = 3 then items ++ [y.items.getD i .zero] else items := by
  by_cases k3 : y.kind = 3
  · rw [putI_A (by omega), if_pos k3, atS_A (by omega) k3, Int.toNat_natCast]; rfl
  · rw [putI_N (by omega), if_neg k3]
theorem at_len (y : Arr) (i : Int) : (atS y i).nums.length ≤ 1 ∧ (atS y i).items.length ≤ 1 := by
  unfold atS
  split
  · simp [Arr.zero, Arr.nums, Arr.items]
  · split <;> simp [Arr.nums, Arr.items]
/-- the numbers, and the items, of the first m elements that Of picks -/
def ofN (F : Arr) (H m : Nat) : List Int := if F.kind = 3 then [] else pickN F.nums (modF H) m
def ofI (F : Arr) (H m : Nat) : List Arr := if F.kind = 3 then pickA F.items (modF H) m else []
theorem of_gath (F : Arr) (s : List Int) (H m : Nat) : gathS F s (modF H) m = .mk F.kind s (ofN F H m) (ofI F H m) := rfl
theorem ofN_succ {F : Arr} {H m : Nat} (hH : szA F = H) (h0 : 0 < H) : putN F.kind (ofN F H m) (atS F ((m % H : Nat) : Int)) = ofN F H (m + 1) := by
  have hix : (modF H m).toNat = m % H := by unfold modF; omega
  rw [putN_at rfl (by rw [hH]; exact Nat.mod_lt _ h0)]
  unfold ofN
  split
  · rfl
  · rw [pickN_succ, hix]
theorem ofI_succ {F : Arr} {H m : Nat} (hH : szA F = H) (h0 : 0 < H) : putI F.kind (ofI F H m) (atS F ((m % H : Nat) : Int)) = ofI F H (m + 1) := by
  have hix : (modF H m).toNat = m % H := by unfold modF; omega
  rw [putI_at rfl (by rw [hH]; exact Nat.mod_lt _ h0)]
  unfold ofI
  split
  · rw [pickA_succ, hix]
  · rfl
theorem ofN_len (F : Arr) (H m : Nat) : (ofN F H m).length ≤ m := by unfold ofN; split <;> simp [pickN_len]
theorem ofI_len (F : Arr) (H m : Nat) : (ofI F H m).length ≤ m := by unfold ofI; split <;> simp [pickA_len]
/-- the weight that Of has counted -/
def ofW (F : Arr) (H n m : Nat) : Int := if F.kind = 3 then rwS F.items H m + ((n : Int) - m) else n
theorem ofW_3 {F : Arr} (k : F.kind = 3) (H n m : Nat) : ofW F H n (m + 1) = ofW F H n m + wtS (F.items.getD (m % H) .zero) := by
  unfold ofW; rw [if_pos k, if_pos k, rwS]; omega
theorem ofW_N {F : Arr} (k : F.kind ≠ 3) (H n m : Nat) : ofW F H n m = n := if_neg k
theorem ofW_le {F : Arr} {H n m : Nat} (hm : m ≤ n) (h : 262144 < ofW F H n m) (hn : n ≤ 65536) : F.kind = 3 ∧ 262144 < rwS F.items H n := by
  unfold ofW at h
  split at h
  · rename_i k
    have := rwS_mono F.items H hm
    exact ⟨k, by omega⟩
  · omega
theorem ofW_n {F : Arr} {H n : Nat} (h : ofW F H n n ≤ 262144) (k : F.kind = 3) : rwS F.items H n ≤ 262144 := by
  unfold ofW at h; rw [if_pos k] at h; omega
end Go.Proofs.Ytdpdcjadedcglaa
