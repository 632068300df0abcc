/- What the rounds of joining ask: plain lemmas. No program. Conditions: those of each lemma. -/
import Derived.Test.YtdpdcjadedcglaaGI
import Derived.Test.YtdpdcjadedcglaaGK
set_option linter.unusedVariables false
set_option maxRecDepth 20000
set_option linter.unusedSimpArgs false
namespace Go.Proofs.Ytdpdcjadedcglaa
/-- what side.add asks of an array, a number of a block and a block's size -/
structure SidePre (x : Arr) (a b : Nat) : Prop where
  n : b ≤ 65536
  i : a ≤ 65536
  s1 : x.shape.length = 0 → x.nums.length + x.items.length = 1
  k3 : x.kind = 3 → x.nums = []
  kn : x.kind ≠ 3 → x.items = []
  s2 : x.shape.length ≠ 0 → a * b + b ≤ x.nums.length + x.items.length
  l3 : x.nums.length + x.items.length ≤ 65536
theorem right_l3 {x : Arr} (h : rightS x = 0) : x.nums.length + x.items.length ≤ 65536 := by
  have h1 := cnt_len h
  have h2 := cnt_le (right_ok h).2.1
  omega
section
variable {α : Type}
theorem blkL_le (a : List α) (i p : Nat) : (blkL a i p).length ≤ p := by simp [blkL]; omega
theorem joinL_le (p q : Nat) (a b : List α) : ∀ n, (joinL p q a b n).length ≤ n * (p + q)
  | 0 => by simp [joinL]
  | n + 1 => by
    have h1 := joinL_le p q a b n
    have h2 := blkL_le a n p
    have h3 := blkL_le b n q
    rw [joinL, List.length_append, List.length_append, Nat.add_mul]
    omega
end
section
variable {last : Bool} {x y : Arr}
theorem side_pre (h : rightS x = 0) {m p k : Nat} (hp : p ≤ 65536) (hm : m ≤ 65536) (hc : x.shape.length ≠ 0 → (cnt x.shape).toNat = m * p) (hk : k < m) : SidePre x k p := by
  have hl := cnt_len h
  refine ⟨hp, by omega, fun h0 => ?_, fun k3 => ?_, fun k3 => ?_, fun h0 => ?_, right_l3 h⟩
  · rw [List.length_eq_zero_iff.1 h0, cnt_nil] at hl; omega
  · rcases (right_ok h).2.2 with ⟨_, _, q⟩ | ⟨q, _⟩
    · exact List.length_eq_zero_iff.1 q
    · exact absurd k3 q
  · rcases (right_ok h).2.2 with ⟨q, _⟩ | ⟨_, _, q⟩
    · exact absurd q k3
    · exact List.length_eq_zero_iff.1 q
  · have := hc h0
    have h2 : (k + 1) * p ≤ m * p := Nat.mul_le_mul_right p hk
    rw [Nat.add_mul, Nat.one_mul] at h2
    omega
theorem JoinOk.pq (j : JoinOk last x y) : jP last x y ≤ 65536 ∧ jQ last x y ≤ 65536 ∧ jM last x y ≤ 65536 := by
  have g := j.geo
  have h1 := (cnt_le (shapeB_drop g.a (jX last x y))).2
  have h2 := (cnt_le (shapeB_drop g.b (jX last x y))).2
  have h3 := (cnt_le (shapeB_take j.s (jX last x y))).2
  rw [g.pa] at h1
  rw [g.pb] at h2
  rw [← g.m] at h3
  omega
theorem JoinOk.pre (j : JoinOk last x y) {k : Nat} (hk : k < jM last x y) : SidePre x k (jP last x y) ∧ SidePre y k (jQ last x y) := by
  have g := j.geo
  obtain ⟨h1, h2, h3⟩ := j.pq
  refine ⟨side_pre j.x h1 h3 (fun h0 => ?_) hk, side_pre j.y h2 h3 (fun h0 => ?_) hk⟩
  · rw [← g.na, cnt_jA h0]
  · rw [← g.nb, jB_eq, cnt_jA h0]
theorem one_le (h : rightS x = 0) : (x.shape.length = 0 → x.nums.length ≤ 1) ∧ (x.shape.length = 0 → x.items.length ≤ 1) := by
  have hl := cnt_len h
  refine ⟨fun h0 => ?_, fun h0 => ?_⟩
  · rw [List.length_eq_zero_iff.1 h0, cnt_nil] at hl; omega
  · rw [List.length_eq_zero_iff.1 h0, cnt_nil] at hl; omega
def jNN (last : Bool) (x y : Arr) (k : Nat) : List Int := joinL (jP last x y) (jQ last x y) (exL x.shape (cnt (jA last x y)).toNat x.nums) (exL y.shape (cnt (jB last x y)).toNat y.nums) k
def jII (last : Bool) (x y : Arr) (k : Nat) : List Arr := joinL (jP last x y) (jQ last x y) (exL x.shape (cnt (jA last x y)).toNat x.items) (exL y.shape (cnt (jB last x y)).toNat y.items) k
theorem joinA_eq : joinA last x y = .mk x.kind (jS last x y) (jNN last x y (jM last x y)) (jII last x y (jM last x y)) := rfl
theorem JoinOk.step (j : JoinOk last x y) {k : Nat} (hk : k < jM last x y) :
    jNN last x y (k + 1) = (jNN last x y k ++ addL x.shape x.nums k (jP last x y)) ++ addL y.shape y.nums k (jQ last x y) ∧
    jII last x y (k + 1) = (jII last x y k ++ addL x.shape x.items k (jP last x y)) ++ addL y.shape y.items k (jQ last x y) := by
  have g := j.geo
  obtain ⟨o1, o2⟩ := one_le j.x
  obtain ⟨o3, o4⟩ := one_le j.y
  have m1 : k * jP last x y + jP last x y ≤ (cnt (jA last x y)).toNat := by
    rw [g.na]
    have h2 := Nat.mul_le_mul_right (jP last x y) hk
    rw [Nat.succ_mul] at h2
    exact h2
  have m2 : k * jQ last x y + jQ last x y ≤ (cnt (jB last x y)).toNat := by
    rw [g.nb]
    have h2 := Nat.mul_le_mul_right (jQ last x y) hk
    rw [Nat.succ_mul] at h2
    exact h2
  unfold jNN jII
  simp only [joinL]
  rw [blk_ex o1 (fun _ => m1), blk_ex o2 (fun _ => m1), blk_ex o3 (fun _ => m2), blk_ex o4 (fun _ => m2), List.append_assoc, List.append_assoc]
  exact ⟨rfl, rfl⟩
theorem addL_le {α : Type} {s : List Int} {l : List α} (h : s.length = 0 → l.length ≤ 1) (i n : Nat) : (addL s l i n).length ≤ n := by
  unfold addL
  split
  · rename_i c
    rw [repL_len]
    have := Nat.mul_le_mul_left n (h c)
    omega
  · exact blkL_le _ _ _
theorem JoinOk.len (j : JoinOk last x y) {k : Nat} (hk : k < jM last x y) :
    (jNN last x y k).length + jP last x y ≤ 1000000 ∧ (jII last x y k).length + jP last x y ≤ 1000000 ∧ (jNN last x y k ++ addL x.shape x.nums k (jP last x y)).length + jQ last x y ≤ 1000000 ∧ (jII last x y k ++ addL x.shape x.items k (jP last x y)).length + jQ last x y ≤ 1000000 := by
  have g := j.geo
  obtain ⟨h1, h2, h3⟩ := j.pq
  obtain ⟨o1, o2⟩ := one_le j.x
  have ns := g.ns
  have hc := cnt_le j.s
  have l1 := joinL_le (jP last x y) (jQ last x y) (exL x.shape (cnt (jA last x y)).toNat x.nums) (exL y.shape (cnt (jB last x y)).toNat y.nums) k
  have l2 := joinL_le (jP last x y) (jQ last x y) (exL x.shape (cnt (jA last x y)).toNat x.items) (exL y.shape (cnt (jB last x y)).toNat y.items) k
  have l3 := addL_le o1 k (jP last x y)
  have l4 := addL_le o2 k (jP last x y)
  have hb : k * (jP last x y + jQ last x y) ≤ jM last x y * (jP last x y + jQ last x y) := Nat.mul_le_mul_right _ (Nat.le_of_lt hk)
  rw [Nat.mul_add (jM last x y)] at hb
  rw [List.length_append, List.length_append]
  unfold jNN jII
  omega
theorem JoinOk.lens (j : JoinOk last x y) : (jNN last x y (jM last x y)).length ≤ 65536 ∧ (jII last x y (jM last x y)).length ≤ 65536 := by
  have := right_l3 (right_join j)
  rw [joinA_eq] at this
  simp only [Arr.nums, Arr.items] at this
  omega
end
end Go.Proofs.Ytdpdcjadedcglaa
