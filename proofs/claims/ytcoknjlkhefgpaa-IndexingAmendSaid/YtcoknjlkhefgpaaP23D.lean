/- Plain laws of a choice by index lists: its length, its weight, its errors. Conditions: those of each lemma. -/
import Derived.Test.YtcoknjlkhefgpaaP23C
import Derived.Test.YtcoknjlkhefgpaaREF23A
import Derived.Test.YtcoknjlkhefgpaaPCELL
set_option linter.unusedVariables false
set_option linter.unusedSimpArgs false
namespace Go.Proofs.Ytcoknjlkhefgpaa
theorem offR_in : ∀ {s : List Int} {L : List Arr} {t : Int} {z : Int}, 0 ≤ t → (∀ d ∈ s, 0 ≤ d) → t + cnt s ≤ z → chsBad L s = false → ∀ i ∈ offR s (L.map Arr.nums) t, 0 ≤ i ∧ i < z
  | [], L, t, z, h0, _, hz, _, i, hi => by
    simp only [offR, List.mem_singleton] at hi
    rw [cnt_nil] at hz
    omega
  | d :: s, L, t, z, h0, hd, hz, hb, i, hi => by
    rw [offR_cons, List.mem_flatMap] at hi
    obtain ⟨q, hq, hi⟩ := hi
    have hs : ∀ d ∈ s, 0 ≤ d := fun x hx => hd x (List.mem_cons_of_mem _ hx)
    obtain ⟨q0, q1⟩ := chL_in hb (hd d (List.mem_cons_self ..)) hq
    obtain ⟨c, hc⟩ : ∃ c : Nat, cnt s = (c : Int) := ⟨(cnt s).toNat, by have := cnt_nn hs; omega⟩
    rw [cnt_cons1, hc] at hz
    have h1 := Int.mul_le_mul_of_nonneg_right (show q + 1 ≤ d by omega) (Int.natCast_nonneg c)
    rw [Int.add_mul] at h1
    have h2 := Int.mul_nonneg q0 (Int.natCast_nonneg c)
    rw [show (L.map Arr.nums).drop 1 = (L.drop 1).map Arr.nums by simp [List.map_drop]] at hi
    exact offR_in (by rw [hc]; omega) hs (by rw [hc]; omega) (chsBad_tl hb) i hi
theorem offR_len : ∀ {s : List Int} {L : List Arr} {t : Int}, (∀ d ∈ s, 0 ≤ d) → L.length ≤ s.length → (∀ l ∈ L, (l.nums.length : Int) = cnt l.shape) → ((offR s (L.map Arr.nums) t).length : Int) = cnt (L.flatMap Arr.shape ++ s.drop L.length)
  | [], [], t, _, _, _ => by simp [offR, cnt_nil]
  | [], l :: L, t, _, h, _ => by simp at h
  | d :: s, [], t, hd, _, _ => by
    have hs : ∀ d ∈ s, 0 ≤ d := fun x hx => hd x (List.mem_cons_of_mem _ hx)
    obtain ⟨c, hc⟩ : ∃ c : Nat, cnt s = (c : Int) := ⟨(cnt s).toNat, by have := cnt_nn hs; omega⟩
    have h1 : ∀ t, (offR s ([].map Arr.nums) t).length = c := fun t => by
      have := offR_len (s := s) (L := []) (t := t) hs (Nat.zero_le _) (by simp)
      simp only [List.flatMap_nil, List.nil_append, List.length_nil, List.drop_zero, hc] at this
      omega
    rw [offR_cons]
    simp only [List.map_nil, List.drop_nil] at h1 ⊢
    rw [flat_len fun x _ => h1 _]
    simp only [chL, seqI_len, List.flatMap_nil, List.nil_append, List.length_nil, List.drop_zero]
    have := hd d (List.mem_cons_self ..)
    rw [cnt_cons1, hc, Int.natCast_mul, Int.toNat_of_nonneg this]
  | d :: s, l :: L, t, hd, hL, hl => by
    have hs : ∀ d ∈ s, 0 ≤ d := fun x hx => hd x (List.mem_cons_of_mem _ hx)
    have ih := fun t => offR_len (s := s) (L := L) (t := t) hs (by simpa using hL) fun x hx => hl x (List.mem_cons_of_mem _ hx)
    obtain ⟨c, hc⟩ : ∃ c : Nat, cnt (L.flatMap Arr.shape ++ s.drop L.length) = (c : Int) := ⟨(offR s (L.map Arr.nums) 0).length, (ih 0).symm⟩
    have h1 : ∀ t, (offR s (L.map Arr.nums) t).length = c := fun t => by have := ih t; rw [hc] at this; omega
    simp only [List.map_cons]
    rw [offR_cons]
    simp only [List.drop_succ_cons, List.drop_zero]
    rw [flat_len fun x _ => h1 _]
    simp only [chL, List.flatMap_cons, List.length_cons, List.drop_succ_cons, List.append_assoc]
    rw [cnt_app, hc, Int.natCast_mul, hl l (List.mem_cons_self ..)]
theorem chsBad_no : ∀ {L : List Arr} {s : List Int}, (∀ j (hj : j < L.length), L[j].nums.any (outB (s.getD j 0)) = false) → chsBad L s = false
  | [], _, _ => rfl
  | l :: L, s, h => by
    simp only [chsBad, Bool.or_eq_false_iff]
    refine ⟨h 0 (by simp), chsBad_no fun j hj => ?_⟩
    have := h (j + 1) (by simpa using hj)
    simpa [List.getD_eq_getElem?_getD, List.getElem?_drop, Nat.add_comm] using this
theorem chsBad_at : ∀ {L : List Arr} {s : List Int} {j : Nat} (hj : j < L.length), L[j].nums.any (outB (s.getD j 0)) = true → chsBad L s = true
  | [], _, _, hj, _ => by simp at hj
  | l :: L, s, 0, _, h => by simp only [chsBad]; simp only [List.getElem_cons_zero] at h; rw [h]; rfl
  | l :: L, s, j + 1, hj, h => by
    simp only [chsBad]
    rw [chsBad_at (L := L) (s := s.drop 1) (j := j) (by simpa using hj) (by simpa [List.getD_eq_getElem?_getD, List.getElem?_drop, Nat.add_comm] using h), Bool.or_true]
theorem gat_flat {y : Arr} (F : Flat y) (s o : List Int) : Flat (gatA y s o) :=
  ⟨F.k, fun k => by show gatL y.nums o = []; rw [F.n k, gatL_empty], fun k => by show gatL y.items o = []; rw [F.i k, gatL_empty]⟩
theorem gat_len {y : Arr} (F : Flat y) {o : List Int} (ho : ∀ i ∈ o, 0 ≤ i ∧ i < (szA y : Int)) : (y.kind = 3 → (gatL y.items o).length = o.length) ∧ (y.kind ≠ 3 → (gatL y.nums o).length = o.length) := by
  refine ⟨fun k => gatL_len fun i hi => ?_, fun k => gatL_len fun i hi => ?_⟩
  · have := ho i hi; rw [szA_3 k] at this; exact this
  · have := ho i hi
    refine ⟨this.1, ?_⟩
    have := szA_N k (i := i.toNat) (by omega)
    omega
theorem bw_gat {y : Arr} (F : Flat y) {s o : List Int} (ho : ∀ i ∈ o, 0 ≤ i ∧ i < (szA y : Int)) (hl : o.length ≤ 65536) : bwE (gatA y s o) = gatE y o := by
  have hg := gat_len F ho
  unfold bwE gatE
  by_cases k : y.kind = 3
  · rw [wtS_k3 (show (gatA y s o).kind = 3 from k)]
    have h1 : (gatA y s o).items = gatL y.items o := rfl
    rw [h1, hg.1 k]
    by_cases c : 262144 < (o.length : Int) + sumW (gatL y.items o)
    · rw [if_pos (by omega), if_pos ⟨k, c⟩]
    · rw [if_neg (by omega), if_neg fun q => c q.2]
  · have e : ¬ (y.kind = 3 ∧ 262144 < (o.length : Int) + sumW (gatL y.items o)) := fun q => k q.1
    rw [if_neg e, wtS_eq, if_neg (show ¬ (gatA y s o).kind = 3 from k)]
    have h1 : (gatA y s o).nums = gatL y.nums o := rfl
    have h2 : szN (gatA y s o).kind (gatA y s o).nums.length (gatA y s o).items.length ≤ o.length := by
      unfold szN
      split
      · rw [h1]; exact gatL_le _ _
      · split
        · rename_i q; exact absurd q k
        · exact Nat.zero_le _
    rw [if_neg (by omega)]
theorem chs_O {L : List Arr} {y : Arr} (hL : L.length ≤ y.shape.length) (hn : ∀ d ∈ y.shape, 0 ≤ d) : chsO L y = offR y.shape (L.map Arr.nums) ((0 : Nat) : Int) := by
  have := offR_eq y.shape (L.map Arr.nums) 0 (by simpa using hL) hn
  rw [Int.zero_mul] at this
  unfold chsO
  rw [← this]; rfl
theorem chsE_s {L : List Arr} {y : Arr} (s : shapeB (chsSh L y) = false) : chsE L y = 21 := if_pos s
theorem chsE_b {L : List Arr} {y : Arr} (s : shapeB (chsSh L y) = true) (b : chsBad L y.shape = true) : chsE L y = 18 := by
  unfold chsE; rw [if_neg (by simp [s]), if_pos b]
theorem chsE_g {L : List Arr} {y : Arr} (s : shapeB (chsSh L y) = true) (b : chsBad L y.shape = false) : chsE L y = gatE y (chsO L y) := by
  unfold chsE; rw [if_neg (by simp [s]), if_neg (by simp [b])]
theorem chsS_no {L : List Arr} {y : Arr} (h : chsE L y ≠ 0) : chsS L y = .zero := if_neg h
theorem chsS_g {L : List Arr} {y : Arr} (s : shapeB (chsSh L y) = true) (b : chsBad L y.shape = false) : chsS L y = gatS y (chsSh L y) (chsO L y) := by
  unfold chsS gatS; rw [chsE_g s b]
end Go.Proofs.Ytcoknjlkhefgpaa
