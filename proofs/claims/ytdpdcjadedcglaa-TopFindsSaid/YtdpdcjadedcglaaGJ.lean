/- A group of texts (GJ), each with its own conditions: those of each lemma. -/
import Derived.Test.YtdpdcjadedcglaaGI
import Derived.Test.YtdpdcjadedcglaaGA
import Derived.Test.YtdpdcjadedcglaaA17
set_option linter.unusedVariables false
set_option maxRecDepth 20000
set_option linter.unusedSimpArgs false
namespace Go.Proofs.Ytdpdcjadedcglaa
section
variable {x y : Arr}
theorem szA_ok (hx : rightS x = 0) : (x.kind = 3 ∧ szA x = x.items.length ∧ x.nums.length = 0) ∨ (x.kind ≠ 3 ∧ szA x = x.nums.length ∧ x.items.length = 0) := by
  obtain ⟨kk, _, hh⟩ := right_ok hx
  rcases hh with ⟨k, _, h⟩ | ⟨k, _, h⟩
  · exact Or.inl ⟨k, szA_3 k, h⟩
  · refine Or.inr ⟨k, ?_, h⟩
    unfold szA szN; rw [if_pos (by omega)]
theorem szA_le (hx : rightS x = 0) : szA x ≤ 65536 := by
  obtain ⟨kk, hs, hh⟩ := right_ok hx
  have := cnt_le hs
  have := szA_ok hx
  omega
structure Parts (x y a : Arr) : Prop where
  r : rightS a = 0
  s : szA a = szA x + szA y
  d : a.shape.getD 0 0 = x.shape.getD 0 0 + y.shape.getD 0 0
  l : a.shape.length = x.shape.length
  f : ∀ i : Nat, i < szA x → atS a i = atS x i
  g : ∀ i : Nat, i < szA y → atS a ((szA x + i : Nat) : Int) = atS y i
  bx : szA x ≤ 65536
  by' : szA y ≤ 65536
  dx : 0 ≤ x.shape.getD 0 0 ∧ x.shape.getD 0 0 ≤ 65536
  dy : 0 ≤ y.shape.getD 0 0 ∧ y.shape.getD 0 0 ≤ 65536
theorem getD_left {α : Type} {a b : List α} {i : Nat} {d : α} (h : i < a.length) : (a ++ b).getD i d = a.getD i d := by
  simp [List.getD_eq_getElem?_getD, List.getElem?_append_left h]
theorem getD_right {α : Type} {a b : List α} {i n : Nat} {d : α} (h : n = a.length) : (a ++ b).getD (n + i) d = b.getD i d := by
  subst h; simp [List.getD_eq_getElem?_getD, List.getElem?_append_right]
theorem dim_bd' {s : List Int} (h : shapeB s = true) {k : Nat} (hk : k < s.length) : 0 ≤ s.getD k 0 ∧ s.getD k 0 ≤ 65536 := by
  obtain ⟨h1, h2, h3⟩ := shapeB_iff.1 h
  have hm : s.getD k 0 ∈ s := by simp [List.getD_eq_getElem?_getD, hk]
  exact ⟨h2 _ hm, Int.le_trans (prodNZ_ge_mem h2 hm) h3⟩
theorem join_parts (h : Eqr x y) (E : joinE false x y = 0) : Parts x y (joinS false x y) := by
  have j := joinOk E
  have e : joinS false x y = joinA false x y := if_pos E
  obtain ⟨n1, n2, n3, n4⟩ := join_first h j
  rw [e]
  have jr := right_join j
  have jk : (joinA false x y).kind = x.kind := rfl
  have kk := j.k
  have sx := szA_ok j.x
  have sy := szA_ok j.y
  have sa := szA_ok jr
  rw [jk, n1, n2, List.length_append, List.length_append] at sa
  have hs : szA (joinA false x y) = szA x + szA y := by omega
  have hp := h.p
  have hpe := h.e
  refine ⟨jr, hs, n3, n4, ?_, ?_, szA_le j.x, szA_le j.y, dim_bd' (right_ok j.x).2.1 (by omega), dim_bd' (right_ok j.y).2.1 (by omega)⟩
  · intro i hi
    by_cases k : x.kind = 3
    · rw [atS_A (a := joinA false x y) (by omega) (by rw [jk]; exact k), atS_A (by omega) k, n2, Int.toNat_natCast, getD_left (by omega)]
    · rw [atS_N (a := joinA false x y) (by omega) (by rw [jk]; exact k), atS_N (by omega) k, n1, Int.toNat_natCast, getD_left (by omega), jk]
  · intro i hi
    by_cases k : x.kind = 3
    · rw [atS_A (a := joinA false x y) (by omega) (by rw [jk]; exact k), atS_A (by omega) (by omega), n2, Int.toNat_natCast, Int.toNat_natCast, getD_right (by omega)]
    · rw [atS_N (a := joinA false x y) (by omega) (by rw [jk]; exact k), atS_N (by omega) (by omega), n1, Int.toNat_natCast, Int.toNat_natCast, getD_right (by omega), jk, kk]
end
/-- a vector of noughts -/
def nilV (n : Nat) : Arr := .mk 1 [(n : Int)] (List.replicate n 0) []
theorem nilV_right {n : Nat} : rightS (nilV n) = 0 ↔ n ≤ 65536 := by
  constructor
  · intro h
    have hs := (right_ok h).2.1
    have := (shapeB_iff.1 hs).2.2
    rw [show (nilV n).shape = [(n : Int)] from rfl] at this
    by_cases h0 : n = 0
    · omega
    · have : prodNZ [(n : Int)] = n := by simp [prodNZ, h0]
      omega
  · intro h
    exact right_nums (shapeB_one (by omega) (by omega)) (by rw [cnt_one, List.length_replicate]) (fun x hx => by
      rw [(List.mem_replicate.1 hx).2]; decide)
theorem nilV_size (n : Nat) : szN (nilV n).kind (nilV n).nums.length (nilV n).items.length = n := by
  show szN 1 (List.replicate n (0 : Int)).length 0 = n
  rw [List.length_replicate]; rfl
theorem nilV_wt {n : Nat} (h : n ≤ 65536) : wtS (nilV n) = n := by
  rw [wt_right (nilV_right.2 h), show (nilV n).nums = List.replicate n (0 : Int) from rfl, show (nilV n).items = [] from rfl, List.length_replicate]
  simp [sumW]
theorem nilV_eqr (n k : Nat) : Eqr (nilV n) (nilV k) := ⟨rfl, by simp [nilV, Arr.shape]⟩
theorem nilV_agr (n k : Nat) : agr (nilV n).shape (nilV k).shape (jx true (nilV n).shape.length) := by
  intro i hi hne
  exfalso
  have h1 : (nilV n).shape.length = 1 := rfl
  have h2 : jx true (nilV n).shape.length = 0 := rfl
  omega
theorem nilV_jS (n k : Nat) : jS true (nilV n) (nilV k) = [((n + k : Nat) : Int)] := by
  rw [(nilV_eqr n k).S, Int.natCast_add]; rfl
theorem nilV_join {n k : Nat} (hn : n ≤ 65536) (hk : k ≤ 65536) : joinE true (nilV n) (nilV k) = if 65536 < n + k then 21 else 0 := by
  rw [(nilV_eqr n k).E0 (nilV_right.2 hn) (nilV_right.2 hk) rfl (nilV_agr n k), nilV_jS, nilV_wt hn, nilV_wt hk]
  by_cases h : 65536 < n + k
  · rw [if_pos h, if_pos (Or.inl ?_)]
    cases hb : shapeB [((n + k : Nat) : Int)] with
    | false => rfl
    | true =>
      have := (shapeB_iff.1 hb).2.2
      have hh : prodNZ [((n + k : Nat) : Int)] = ((n + k : Nat) : Int) := by simp only [prodNZ]; rw [if_neg (by omega)]; omega
      omega
  · rw [if_neg h, if_neg]
    rintro (q | q)
    · rw [shapeB_one (by omega) (by omega)] at q; cases q
    · omega
theorem nilV_joinS {n k : Nat} (hn : n ≤ 65536) (hk : k ≤ 65536) (h : ¬ 65536 < n + k) : szN (joinS true (nilV n) (nilV k)).kind (joinS true (nilV n) (nilV k)).nums.length (joinS true (nilV n) (nilV k)).items.length = n + k := by
  have E : joinE true (nilV n) (nilV k) = 0 := by rw [nilV_join hn hk, if_neg h]
  have e : joinS true (nilV n) (nilV k) = joinA true (nilV n) (nilV k) := if_pos E
  rw [e]
  have r := right_join (joinOk E)
  obtain ⟨_, _, hh⟩ := right_ok r
  have k1 : (joinA true (nilV n) (nilV k)).kind = 1 := rfl
  have sh : (joinA true (nilV n) (nilV k)).shape = [((n + k : Nat) : Int)] := nilV_jS n k
  rw [sh, cnt_one] at hh
  rw [k1] at hh ⊢
  show (joinA true (nilV n) (nilV k)).nums.length = n + k
  omega
end Go.Proofs.Ytdpdcjadedcglaa
namespace Go.Proofs.Ytdpdcjadedcglaa
theorem emp_right {k : Int} {s : List Int} (hk : k = 1 ∨ k = 2 ∨ k = 3) (hs : shapeB s = true) (h0 : (0 : Int) ∈ s) : rightS (.mk k s [] []) = 0 := by
  obtain ⟨h1, h2, h3⟩ := shapeB_iff.1 hs
  refine right_iff.2 ⟨?_, by simp [Arr.nums], by simp [Arr.items], by simp [Arr.nums, Arr.items, sumW]⟩
  show formE k s 0 0 = 0
  have c := cnt_zero h0
  rcases hk with q | q | q
  · rw [formE_last (Or.inl q) (by omega) (any_negB.2 h2) hs, c]; simp
  · rw [formE_last (Or.inr q) (by omega) (any_negB.2 h2) hs, c]; simp
  · rw [formE_last3 q (by omega) (any_negB.2 h2) hs, c]; simp
theorem emp_join {last : Bool} {x : Arr} {s : List Int} (hx : rightS x = 0) (hp : x.shape.length ≠ 0) (hl : s.length = x.shape.length) (hs : shapeB s = true) (h0 : (0 : Int) ∈ s) (ha : agr x.shape s (jx last x.shape.length)) (hz : s.getD (jx last x.shape.length) 0 = 0) :
    (joinE last x (.mk x.kind s [] []) = 0 ∧ joinS last x (.mk x.kind s [] []) = x) ∧ joinE last (.mk x.kind s [] []) x = 0 ∧ joinS last (.mk x.kind s [] []) x = x := by
  have e : Eqr x (.mk x.kind s [] []) := ⟨hl, hp⟩
  have r : rightS (.mk x.kind s [] []) = 0 := emp_right (right_ok hx).1 hs h0
  exact ⟨join_emp_r e hx r rfl ha hz rfl rfl, join_emp_l e hx r rfl ha hz rfl rfl⟩
theorem emp_last {x : Arr} (hx : rightS x = 0) {k : Nat} (hk : x.shape.length = k + 1) :
    (joinE true x (.mk x.kind (x.shape.take k ++ [0]) [] []) = 0 ∧ joinS true x (.mk x.kind (x.shape.take k ++ [0]) [] []) = x) ∧ joinE true (.mk x.kind (x.shape.take k ++ [0]) [] []) x = 0 ∧ joinS true (.mk x.kind (x.shape.take k ++ [0]) [] []) x = x := by
  obtain ⟨h1, h2, h3⟩ := shapeB_iff.1 (right_ok hx).2.1
  have lt : (x.shape.take k).length = k := by simp; omega
  have hj : jx true x.shape.length = k := by unfold jx; rw [if_pos rfl]; omega
  refine emp_join hx (by omega) (by simp; omega) (shapeB_iff.2 ⟨by simp; omega, ?_, ?_⟩) (by simp) ?_ ?_
  · intro d hd
    rcases List.mem_append.1 hd with q | q
    · exact h2 d (List.mem_of_mem_take q)
    · simp at q; omega
  · rw [prodNZ_append]
    have := prodNZ_take_le h2 k
    have h5 : prodNZ [(0 : Int)] = 1 := by decide
    rw [h5]; omega
  · rw [hj]
    intro i hi hne
    rw [getD_left (by omega)]
    simp [List.getD_eq_getElem?_getD, List.getElem?_take, show i < k by omega]
  · rw [hj]
    have := getD_right (a := x.shape.take k) (b := [(0 : Int)]) (i := 0) (d := (0 : Int)) lt.symm
    rw [Nat.add_zero] at this
    rw [this]; rfl
theorem emp_first {x : Arr} (hx : rightS x = 0) (hp : x.shape.length ≠ 0) :
    (joinE false x (.mk x.kind ([0] ++ x.shape.drop 1) [] []) = 0 ∧ joinS false x (.mk x.kind ([0] ++ x.shape.drop 1) [] []) = x) ∧ joinE false (.mk x.kind ([0] ++ x.shape.drop 1) [] []) x = 0 ∧ joinS false (.mk x.kind ([0] ++ x.shape.drop 1) [] []) x = x := by
  obtain ⟨h1, h2, h3⟩ := shapeB_iff.1 (right_ok hx).2.1
  have hj : jx false x.shape.length = 0 := rfl
  refine emp_join hx hp (by simp; omega) (shapeB_iff.2 ⟨by simp; omega, ?_, ?_⟩) (by simp) ?_ ?_
  · intro d hd
    rcases List.mem_append.1 hd with q | q
    · simp at q; omega
    · exact h2 d (List.mem_of_mem_drop q)
  · rw [prodNZ_append]
    have := prodNZ_drop_le h2 1
    have h5 : prodNZ [(0 : Int)] = 1 := by decide
    rw [h5]; omega
  · rw [hj]
    intro i hi hne
    obtain ⟨m, rfl⟩ : ∃ m, i = m + 1 := ⟨i - 1, by omega⟩
    simp [List.getD_eq_getElem?_getD, List.getElem?_drop, Nat.add_comm]
  · rw [hj]; rfl
end Go.Proofs.Ytdpdcjadedcglaa
