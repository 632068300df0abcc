/- Plain laws of reshaping. No program. Conditions: those of each lemma. -/
import Derived.Test.YtmclggonmekanaaRSH
import Derived.Test.YtmclggonmekanaaGLAW
import Derived.Test.YtmclggonmekanaaVALID
set_option linter.unusedVariables false
set_option linter.unusedSimpArgs false
namespace Go.Proofs.Ytmclggonmekanaa
theorem rwS_sum (l : List Arr) (h n : Nat) : rwS l h n = n + sumW (pickA l (modF h) n) := by
  induction n with
  | zero => simp [rwS, pickA, sumW]
  | succ n ih =>
    have hix : (modF h n).toNat = n % h := by unfold modF; omega
    rw [rwS, ih, pickA_succ, sumW_append, hix]
    simp only [sumW]
    omega
theorem modF_id {n : Nat} : ∀ k : Nat, k < n → modF n k = k := fun k hk => by
  unfold modF; exact Int.emod_eq_of_lt (by omega) (by omega)
theorem haveN_of {y : Arr} (h : y.nums.length + y.items.length ≠ 0) (hr : rightS y = 0) : haveN y = y.nums.length + y.items.length ∧ fromS y = y := by
  have e : fromS y = y := if_neg h
  obtain ⟨_, _, hh⟩ := right_ok hr
  refine ⟨?_, e⟩
  unfold haveN
  rw [e]
  rcases hh with ⟨k, _, h2⟩ | ⟨k, _, h2⟩
  · rw [if_pos k]; omega
  · rw [if_neg k]; omega
theorem cnt_len {y : Arr} (hr : rightS y = 0) : cnt y.shape = (y.nums.length : Int) + y.items.length := by
  obtain ⟨_, _, hh⟩ := right_ok hr
  rcases hh with ⟨k, h1, h2⟩ | ⟨k, h1, h2⟩ <;> omega
/-- as many elements as before: the same elements -/
theorem resh_same {x y : Arr} (hx : rightS x = 0) (hy : rightS y = 0) (hk : x.kind = 1) (hl : ¬ 1 < x.shape.length) (hs : shapeB x.nums = true) (hc : cnt x.nums = cnt y.shape) : reshE x y = 0 ∧ reshS x y = .mk y.kind x.nums y.nums y.items := by
  have hn : x.nums.any negB = false := any_negB.2 (shapeB_iff.1 hs).2.1
  have hd : ndE x = 0 := ndE0 hx hk hl hn hs
  obtain ⟨h1, h2, h3, h4⟩ := right_iff.1 hy
  obtain ⟨yk, ys, yy⟩ := formE_zero h1
  have hcl := cnt_len hy
  have hN : (cnt x.nums).toNat = y.nums.length + y.items.length := by omega
  by_cases c : y.nums.length + y.items.length = 0
  · have e0 : reshE x y = 0 := reshE_0 hx hy hd (fun _ => by rw [hN, c]; simp [rwS])
    refine ⟨e0, ?_⟩
    rw [reshS_yes e0, hN, c]
    have hf := fromS_kind hy
    have l1 : y.nums = [] := List.length_eq_zero_iff.1 (by omega)
    have l2 : y.items = [] := List.length_eq_zero_iff.1 (by omega)
    unfold gathS
    rw [hf, l1, l2]
    simp [pickN, pickA]
  · obtain ⟨hh, hf⟩ := haveN_of c hy
    have e0 : reshE x y = 0 := reshE_0 hx hy hd (fun k3 => by
      rw [hN, hh, hf, rwS_sum]
      rcases yy with ⟨_, _, q⟩ | ⟨q, _⟩
      · rw [pickA_congr' (g' := fun k => k) modF_id, pickA_id (by omega)]; omega
      · exact absurd k3 q)
    refine ⟨e0, ?_⟩
    rw [reshS_yes e0, hN, hh, hf, gathS_congr (g' := fun k => k) modF_id]
    unfold gathS
    rcases yy with ⟨k3, q1, q2⟩ | ⟨k3, q1, q2⟩
    · rw [if_pos k3, if_pos k3, pickA_id (by omega), List.length_eq_zero_iff.1 q2]
    · rw [if_neg k3, if_neg k3, pickN_id (by omega), List.length_eq_zero_iff.1 q2]
theorem vec4_right {l : List Int} (hl : l.length ≤ 65536) (hn : ∀ x ∈ l, numB x = true) : rightS (vec4 l) = 0 := right_nums (shapeB_one (by omega) (by omega)) (by rw [cnt_one]) hn
theorem num4_right {n : Int} (h0 : -4611686018427387903 ≤ n) (h1 : n ≤ 4611686018427387903) : rightS (num4 n) = 0 := right_nums shapeB_nil (by rw [cnt_nil]; rfl) (by simp [numB, h0, h1])
theorem shape_numB {s : List Int} (hs : shapeB s = true) : ∀ d ∈ s, numB d = true := fun d hd => by
  have h := shapeB_iff.1 hs
  have h1 := h.2.1 d hd
  have h2 := prodNZ_ge_mem h.2.1 hd
  simp [numB]; omega
theorem num4_nums (n : Int) : (num4 n).nums = [n] := rfl
theorem resh_back {y : Arr} (c : rightS y = 0) :
    reshE (vec4 y.shape) y = 0 ∧ y = reshS (vec4 y.shape) y ∧ reshE (num4 ((y.nums.length : Int) + y.items.length)) y = 0 ∧ reshE (vec4 y.shape) (reshS (num4 ((y.nums.length : Int) + y.items.length)) y) = 0 ∧
      y = reshS (vec4 y.shape) (reshS (num4 ((y.nums.length : Int) + y.items.length)) y) ∧ (reshS (num4 ((y.nums.length : Int) + y.items.length)) y).shape.length = 1 := by
  have hs := (right_ok c).2.1
  have h8 := (shapeB_iff.1 hs).1
  have hcl := cnt_len c
  have hcb := cnt_le hs
  have r1 := vec4_right (by omega) (shape_numB hs)
  have r2 : rightS (num4 ((y.nums.length : Int) + y.items.length)) = 0 := num4_right (by omega) (by omega)
  obtain ⟨e1, g1⟩ := resh_same (x := vec4 y.shape) r1 c rfl (by simp [vec4, Arr.shape]) hs rfl
  have hsn : shapeB [((y.nums.length : Int) + y.items.length)] = true := shapeB_one (by omega) (by omega)
  obtain ⟨e2, g2⟩ := resh_same (x := num4 ((y.nums.length : Int) + y.items.length)) r2 c rfl (by simp [num4, Arr.shape]) hsn (by rw [num4_nums, cnt_one]; omega)
  have rv : rightS (reshS (num4 ((y.nums.length : Int) + y.items.length)) y) = 0 := by
    rw [g2]; exact right_reshape c hsn (by rw [num4_nums, cnt_one]; omega)
  obtain ⟨e3, g3⟩ := resh_same (x := vec4 y.shape) (y := reshS (num4 ((y.nums.length : Int) + y.items.length)) y) r1 rv rfl (by simp [vec4, Arr.shape]) hs (by rw [g2]; rw [show (vec4 y.shape).nums = y.shape from rfl, show (Arr.mk y.kind (num4 ((y.nums.length : Int) + y.items.length)).nums y.nums y.items).shape = [(y.nums.length : Int) + y.items.length] from rfl, cnt_one]; omega)
  refine ⟨e1, ?_, e2, e3, ?_, by rw [g2]; rfl⟩
  · rw [g1]; exact (Arr.eta y).symm
  · rw [g3, g2]; exact (Arr.eta y).symm
/-- a vector, reshaped to p elements -/
theorem resh_vec {l : List Int} {p : Nat} (h0 : l ≠ []) (hl : l.length ≤ 65536) (hn : ∀ x ∈ l, numB x = true) (hp : p ≤ 65536) : reshE (num4 p) (vec4 l) = 0 ∧ reshS (num4 p) (vec4 l) = .mk 1 [(p : Int)] (pickN l (modF l.length) p) [] := by
  have r1 : rightS (num4 p) = 0 := num4_right (by omega) (by omega)
  have r2 := vec4_right hl hn
  have hs : shapeB [(p : Int)] = true := shapeB_one (by omega) (by omega)
  have hd : ndE (num4 p) = 0 := ndE0 r1 rfl (by simp [num4, Arr.shape]) (any_negB.2 (shapeB_iff.1 hs).2.1) hs
  have e0 : reshE (num4 p) (vec4 l) = 0 := reshE_0 r1 r2 hd (fun k => by simp [vec4, Arr.kind] at k)
  have hlen : l.length ≠ 0 := fun e => h0 (List.length_eq_zero_iff.1 e)
  obtain ⟨hh, hf⟩ := haveN_of (y := vec4 l) (by simp [vec4, Arr.nums, Arr.items]; exact h0) r2
  refine ⟨e0, ?_⟩
  rw [reshS_yes e0, hh, hf]
  rw [gathS_N (by simp [vec4, Arr.kind])]
  simp only [vec4, num4, Arr.nums, Arr.items, Arr.kind, List.length_nil, Nat.add_zero]
  rw [cnt_one, Int.toNat_natCast]
theorem resh_twice {l : List Int} {p q : Nat} (h0 : l ≠ []) (hl : l.length ≤ 65536) (hn : ∀ x ∈ l, numB x = true) (hp : p ≤ 65536) (hq : q ≤ p) :
    reshE (num4 q) (reshS (num4 p) (vec4 l)) = 0 ∧ (0 < q → reshS (num4 q) (reshS (num4 p) (vec4 l)) = reshS (num4 q) (vec4 l)) := by
  obtain ⟨e1, g1⟩ := resh_vec h0 hl hn hp
  obtain ⟨e2, g2⟩ := resh_vec h0 hl hn (p := q) (by omega)
  have hlen : l.length ≠ 0 := fun e => h0 (List.length_eq_zero_iff.1 e)
  have r1 : rightS (num4 q) = 0 := num4_right (by omega) (by omega)
  have hs : shapeB [(q : Int)] = true := shapeB_one (by omega) (by omega)
  have ra : rightS (.mk 1 [(p : Int)] (pickN l (modF l.length) p) []) = 0 := right_nums (shapeB_one (by omega) (by omega)) (by rw [cnt_one, pickN_len]) (fun x hx => by
    simp only [pickN, List.mem_map, List.mem_range] at hx
    obtain ⟨k, _, rfl⟩ := hx
    exact hn _ (getD_mem (by unfold modF; have := Int.emod_lt_of_pos (k : Int) (show (0 : Int) < l.length by omega); have := Int.emod_nonneg (k : Int) (show (l.length : Int) ≠ 0 by omega); omega)))
  have hd : ndE (num4 q) = 0 := ndE0 r1 rfl (by simp [num4, Arr.shape]) (any_negB.2 (shapeB_iff.1 hs).2.1) hs
  rw [g1]
  have e3 : reshE (num4 q) (.mk 1 [(p : Int)] (pickN l (modF l.length) p) []) = 0 := reshE_0 r1 ra hd (fun k => by simp [Arr.kind] at k)
  refine ⟨e3, fun hq0 => ?_⟩
  obtain ⟨hh, hf⟩ := haveN_of (y := .mk 1 [(p : Int)] (pickN l (modF l.length) p) []) (by simp [Arr.nums, Arr.items, pickN_len]; omega) ra
  rw [reshS_yes e3, hh, hf, gathS_N (by simp [Arr.kind]), g2]
  simp only [num4, Arr.nums, Arr.items, Arr.kind, List.length_nil, Nat.add_zero, pickN_len]
  rw [cnt_one, Int.toNat_natCast]
  congr 1
  refine List.map_congr_left fun k hk => ?_
  have hk' := List.mem_range.1 hk
  rw [modF_id k (by omega), Int.toNat_natCast, pickN_getD _ _ (by omega)]
end Go.Proofs.Ytmclggonmekanaa
