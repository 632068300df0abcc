/- Plain laws of the reference of amending. Conditions: those of each lemma. -/
import Derived.Test.YtcoknjlkhefgpaaP23A
import Derived.Test.YtcoknjlkhefgpaaP23D
set_option linter.unusedVariables false
set_option linter.unusedSimpArgs false
namespace Go.Proofs.Ytcoknjlkhefgpaa
theorem bw_ag {v y : Arr} (F : Flat y) {src : List Int} (hl : src.length = szA y) (h6 : szA y ≤ 65536) : bwE (agA v y src) = agE v y src := by
  unfold bwE agE
  by_cases k : y.kind = 3
  · rw [wtS_k3 (show (agA v y src).kind = 3 from k)]
    have h0 : (resL .zero v.items y.items src).length = src.length := by
      rw [resL_len]
      have : szA y = y.items.length := szA_3 k
      omega
    have h1 : (agA v y src).items = resL .zero v.items y.items src := rfl
    have h2 : agW v y src src.length = (src.length : Int) + sumW (resL .zero v.items y.items src) := by unfold agW; rw [List.take_of_length_le (by omega)]
    rw [h1, h0, h2]
    by_cases c : 262144 < (src.length : Int) + sumW (resL .zero v.items y.items src)
    · rw [if_pos (by omega), if_pos ⟨k, c⟩]
    · rw [if_neg (by omega), if_neg fun q => c q.2]
  · have e : ¬ (y.kind = 3 ∧ 262144 < agW v y src src.length) := fun q => k q.1
    rw [if_neg e, wtS_eq, if_neg (show ¬ (agA v y src).kind = 3 from k)]
    have h1 : (agA v y src).nums = resL 0 v.nums y.nums src := rfl
    have h2 : szN (agA v y src).kind (agA v y src).nums.length (agA v y src).items.length ≤ src.length := by
      unfold szN
      split
      · rw [h1, resL_len]; omega
      · split
        · rename_i q; exact absurd q k
        · exact Nat.zero_le _
    rw [if_neg (by omega)]
theorem bwS_ag {v y : Arr} (F : Flat y) {src : List Int} (hl : src.length = szA y) (h6 : szA y ≤ 65536) : bwS (agA v y src) = agS v y src := by
  unfold bwS agS; rw [bw_ag F hl h6]
/-- how far the values of two cells lie apart -/
def stpA (M n : Nat) : Nat := if M = 0 then n else 0
theorem stp_of {i v y : Arr} (hi : rightS i = 0) (ki : i.kind = 1) (hv : rightS v = 0) (hy : rightS y = 0) (ho : amO i v y = true) {k j : Nat} (hk : k < i.nums.length) (hj : j < celN y) :
    ofM (amM i v y) (celN y) k j < szA v ∧ (if v.shape.length = 0 then 0 else k * stpA (amM i v y) (celN y) + j) = ofM (amM i v y) (celN y) k j ∧ k * stpA (amM i v y) (celN y) + j ≤ 65536 := by
  have hb := of_bd hi ki hv hy ho hk hj
  have hz := szA_le hv
  have hn6 := celN_le (right_ok hy).2.1
  have h0 : v.shape.length = 0 → szA v = 1 := fun q => by
    have := sz_cnt hv
    rw [List.eq_nil_of_length_eq_zero q, cnt_nil] at this
    omega
  refine ⟨hb, ?_, ?_⟩
  · by_cases c : v.shape.length = 0
    · rw [if_pos c]; have := h0 c; omega
    · rw [if_neg c]
      unfold amO at ho
      unfold ofM stpA
      by_cases m0 : amM i v y = 0
      · rw [if_pos m0, if_pos m0]
      · rw [if_neg m0, if_neg m0]
        by_cases m1 : amM i v y = 1
        · rw [if_pos m1]; omega
        · have m2 : amM i v y = 2 := by
            revert m0 m1; unfold amM; split
            · intro h; exact absurd rfl h
            · split
              · intro _ h; exact absurd rfl h
              · intros; rfl
          rw [if_pos m2] at ho
          exact absurd (of_decide_eq_true ho) c
  · unfold stpA
    unfold ofM at hb
    by_cases m0 : amM i v y = 0
    · rw [if_pos m0] at hb ⊢; omega
    · rw [if_neg m0]; omega
end Go.Proofs.Ytcoknjlkhefgpaa
