/- A group of texts (GI), each with its own conditions: those of each lemma. -/
import Derived.Test.YtdpdcjadedcglaaGC
import Derived.Test.YtdpdcjadedcglaaGF
import Derived.Test.YtdpdcjadedcglaaGH
set_option linter.unusedVariables false
set_option maxRecDepth 20000
set_option linter.unusedSimpArgs false
namespace Go.Proofs.Ytdpdcjadedcglaa
section
variable {α : Type}
/-- block i of p elements -/
def blkL (a : List α) (i p : Nat) : List α := (a.drop (i * p)).take p
/-- n blocks, each of p elements of a and then q of b -/
def joinL (p q : Nat) (a b : List α) : Nat → List α
  | 0 => []
  | n + 1 => joinL p q a b n ++ (blkL a n p ++ blkL b n q)
/-- a list n times -/
def repL (l : List α) : Nat → List α
  | 0 => []
  | n + 1 => repL l n ++ l
def exL (s : List Int) (n : Nat) (l : List α) : List α := if s.length = 0 then repL l n else l
/-- what one block of an argument is -/
def addL (s : List Int) (l : List α) (i n : Nat) : List α := if s.length = 0 then repL l n else blkL l i n
theorem repL_len (l : List α) (n : Nat) : (repL l n).length = n * l.length := by
  induction n with
  | zero => simp [repL]
  | succ n ih => simp [repL, ih, Nat.add_mul]
theorem repL_nil (n : Nat) : repL ([] : List α) n = [] := by
  induction n with
  | zero => rfl
  | succ n ih => simp [repL, ih]
theorem repL_one (e : α) (n : Nat) : repL [e] n = List.replicate n e := by
  induction n with
  | zero => rfl
  | succ n ih => rw [repL, ih, List.replicate_succ', ]
theorem blk_repL {l : List α} (hl : l.length ≤ 1) {i p N : Nat} (h : i * p + p ≤ N) : blkL (repL l N) i p = repL l p := by
  match l, hl with
  | [], _ => simp [repL_nil, blkL]
  | [e], _ =>
    rw [repL_one, repL_one, blkL, List.drop_replicate, List.take_replicate]
    congr 1; omega
theorem blk_ex {s : List Int} {l : List α} (hl : s.length = 0 → l.length ≤ 1) {i p N : Nat} (h : s.length = 0 → i * p + p ≤ N) : blkL (exL s N l) i p = addL s l i p := by
  unfold exL addL
  split
  · rename_i c; exact blk_repL (hl c) (h c)
  · rfl
theorem blkL_len {a : List α} {i p : Nat} (h : i * p + p ≤ a.length) : (blkL a i p).length = p := by
  simp [blkL]; omega
theorem blkL_nil (i p : Nat) : blkL ([] : List α) i p = [] := by simp [blkL]
theorem joinL_nil (p q n : Nat) : joinL p q ([] : List α) [] n = [] := by
  induction n with
  | zero => rfl
  | succ n ih => simp [joinL, ih, blkL_nil]
theorem joinL_len {p q : Nat} {a b : List α} {n : Nat} (ha : n * p ≤ a.length) (hb : n * q ≤ b.length) : (joinL p q a b n).length = n * (p + q) := by
  induction n with
  | zero => simp [joinL]
  | succ n ih =>
    rw [Nat.add_mul, Nat.one_mul] at ha hb
    rw [joinL, List.length_append, List.length_append, ih (by omega) (by omega), blkL_len (by omega), blkL_len (by omega), Nat.add_mul]
    omega
end
theorem blk_take {α : Type} (a : List α) (n p : Nat) : a.take ((n + 1) * p) = a.take (n * p) ++ blkL a n p := by
  rw [Nat.add_mul, Nat.one_mul, List.take_add, blkL]
theorem sumW_joinL (p q : Nat) (a b : List Arr) (n : Nat) : sumW (joinL p q a b n) = sumW (a.take (n * p)) + sumW (b.take (n * q)) := by
  induction n with
  | zero => simp [joinL, sumW]
  | succ n ih => rw [joinL, sumW_append, sumW_append, ih, blk_take, blk_take, sumW_append, sumW_append]; omega
theorem sumW_repL (l : List Arr) (n : Nat) : sumW (repL l n) = n * sumW l := by
  induction n with
  | zero => simp [repL, sumW]
  | succ n ih => rw [repL, sumW_append, ih]; rw [Int.natCast_add, Int.add_mul]; simp
/-- the shape of an extended argument -/
def extSh (s like : List Int) (r ax : Nat) : List Int := if s.length = 0 ∧ like.length = r then like.set ax 1 else if s.length < r then s.take ax ++ 1 :: s.drop ax else s
def jR (x y : Arr) : Nat := max 1 (max x.shape.length y.shape.length)
def jX (last : Bool) (x y : Arr) : Nat := if last then jR x y - 1 else 0
def jA (last : Bool) (x y : Arr) : List Int := extSh x.shape y.shape (jR x y) (jX last x y)
def jB (last : Bool) (x y : Arr) : List Int := extSh y.shape x.shape (jR x y) (jX last x y)
def jS (last : Bool) (x y : Arr) : List Int := (jA last x y).set (jX last x y) ((jA last x y).getD (jX last x y) 0 + (jB last x y).getD (jX last x y) 0)
def exW (x : Arr) (s : List Int) : Int := if x.shape.length = 0 then cnt s * wtS x else wtS x
/-- two shapes differ, but for an axis -/
def difB (a b : List Int) (ax r : Nat) : Bool := (List.range r).any fun i => decide (i ≠ ax ∧ a.getD i 0 ≠ b.getD i 0)
def joinE (last : Bool) (x y : Arr) : Int :=
  if rightS x ≠ 0 ∨ rightS y ≠ 0 then 1 else if x.kind ≠ y.kind then 14
  else if 0 < x.shape.length ∧ 0 < y.shape.length ∧ (y.shape.length + 1 < x.shape.length ∨ x.shape.length + 1 < y.shape.length) then 15
  else if difB (jA last x y) (jB last x y) (jX last x y) (jR x y) = true then 16
  else if shapeB (jS last x y) = false ∨ 262144 < exW x (jA last x y) + exW y (jB last x y) then 21 else 0
/-- the number of blocks, and how long they are -/
def jM (last : Bool) (x y : Arr) : Nat := (cnt ((jS last x y).take (jX last x y))).toNat
def jP (last : Bool) (x y : Arr) : Nat := ((jA last x y).getD (jX last x y) 0 * cnt ((jS last x y).drop (jX last x y + 1))).toNat
def jQ (last : Bool) (x y : Arr) : Nat := ((jB last x y).getD (jX last x y) 0 * cnt ((jS last x y).drop (jX last x y + 1))).toNat
def joinA (last : Bool) (x y : Arr) : Arr :=
  .mk x.kind (jS last x y) (joinL (jP last x y) (jQ last x y) (exL x.shape (cnt (jA last x y)).toNat x.nums) (exL y.shape (cnt (jB last x y)).toNat y.nums) (jM last x y))
    (joinL (jP last x y) (jQ last x y) (exL x.shape (cnt (jA last x y)).toNat x.items) (exL y.shape (cnt (jB last x y)).toNat y.items) (jM last x y))
def joinS (last : Bool) (x y : Arr) : Arr := if joinE last x y = 0 then joinA last x y else .zero
end Go.Proofs.Ytdpdcjadedcglaa
namespace Go.Proofs.Ytdpdcjadedcglaa
theorem prodNZ_app : ∀ (a b : List Int), prodNZ (a ++ b) = prodNZ a * prodNZ b
  | [], b => by simp [prodNZ]
  | d :: a, b => by
    simp only [List.cons_append, prodNZ, prodNZ_app a b]
    split
    · rfl
    · rw [Int.mul_assoc]
theorem cnt_app (a b : List Int) : cnt (a ++ b) = cnt a * cnt b := by
  unfold cnt
  by_cases h1 : (0 : Int) ∈ a
  · simp [h1]
  · by_cases h2 : (0 : Int) ∈ b
    · simp [h2]
    · simp [h1, h2, prodNZ_app]
theorem cnt_cons1 (d : Int) (s : List Int) : cnt (d :: s) = d * cnt s := by
  rw [show d :: s = [d] ++ s from rfl, cnt_app, cnt_one]
theorem cnt_at {s : List Int} {k : Nat} (h : k < s.length) : cnt s = cnt (s.take k) * (s.getD k 0 * cnt (s.drop (k + 1))) := by
  have : s = s.take k ++ (s.getD k 0 :: s.drop (k + 1)) := by
    rw [show s.getD k 0 = s[k] by simp [h]]
    exact (List.take_append_drop k s).symm.trans (by rw [List.drop_eq_getElem_cons h])
  conv => lhs; rw [this]
  rw [cnt_app, cnt_cons1]
theorem cnt_ins {s : List Int} (k : Nat) : cnt (s.take k ++ 1 :: s.drop k) = cnt s := by
  rw [cnt_app, cnt_cons1, Int.one_mul, ← cnt_app, List.take_append_drop]
section
variable {last : Bool} {x y : Arr}
def rankB (x y : Arr) : Prop := 0 < x.shape.length ∧ 0 < y.shape.length ∧ (y.shape.length + 1 < x.shape.length ∨ x.shape.length + 1 < y.shape.length)
theorem jR_comm : jR x y = jR y x := by unfold jR; omega
theorem jX_lt : jX last x y < jR x y := by unfold jX; unfold jR; split <;> omega
theorem ext_len (h : ¬ rankB x y) : (extSh x.shape y.shape (jR x y) (jX last x y)).length = jR x y := by
  have hx := jX_lt (last := last) (x := x) (y := y)
  unfold rankB at h
  unfold extSh
  split
  · rename_i c; simp [c.2]
  · rename_i c
    split
    · rename_i d
      simp only [List.length_append, List.length_take, List.length_cons, List.length_drop]
      unfold jR at *
      omega
    · rename_i d
      unfold jR at *
      omega
theorem ext_ax (h : ¬ rankB x y) (h1 : x.shape.length < jR x y) (h2 : ¬ (x.shape.length = 0 ∧ y.shape.length = jR x y)) : jX last x y ≤ x.shape.length := by
  have hx := jX_lt (last := last) (x := x) (y := y)
  unfold rankB at h
  unfold jR at *
  omega
theorem jX_comm : jX last x y = jX last y x := by unfold jX; rw [jR_comm]
theorem jB_eq : jB last x y = jA last y x := by unfold jB jA; rw [jR_comm, jX_comm]
theorem rankB_comm : rankB x y ↔ rankB y x := by unfold rankB; omega
theorem prodNZ_set1 : ∀ {s : List Int} (k : Nat), (∀ d ∈ s, 0 ≤ d) → prodNZ (s.set k 1) ≤ prodNZ s
  | [], k, _ => by simp
  | d :: s, 0, h => by
    have h1 := prodNZ_pos fun d hd => h d (List.mem_cons_of_mem _ hd)
    have h2 := h d (List.mem_cons_self ..)
    simp only [List.set_cons_zero, prodNZ]
    rw [if_neg (by decide), Int.one_mul]
    split
    · exact Int.le_refl _
    · calc prodNZ s = 1 * prodNZ s := by rw [Int.one_mul]
        _ ≤ d * prodNZ s := Int.mul_le_mul_of_nonneg_right (by omega) (by omega)
  | d :: s, k + 1, h => by
    have h1 := prodNZ_set1 (s := s) k fun d hd => h d (List.mem_cons_of_mem _ hd)
    have h2 := h d (List.mem_cons_self ..)
    simp only [List.set_cons_succ, prodNZ]
    split
    · exact h1
    · exact Int.mul_le_mul_of_nonneg_left h1 (by omega)
theorem prodNZ_ins {s : List Int} (k : Nat) : prodNZ (s.take k ++ 1 :: s.drop k) = prodNZ s := by
  rw [prodNZ_append, prodNZ, if_neg (by decide), Int.one_mul, ← prodNZ_append, List.take_append_drop]
theorem shapeB_ext (hx : shapeB x.shape = true) (hy : shapeB y.shape = true) (h : ¬ rankB x y) : shapeB (jA last x y) = true := by
  have hl := ext_len (last := last) h
  obtain ⟨x1, x2, x3⟩ := shapeB_iff.1 hx
  obtain ⟨y1, y2, y3⟩ := shapeB_iff.1 hy
  have hr : jR x y ≤ 8 := by unfold jR; omega
  rw [shapeB_iff]
  refine ⟨by unfold jA; omega, ?_⟩
  unfold jA extSh
  split
  · refine ⟨fun d hd => ?_, Int.le_trans (prodNZ_set1 _ y2) y3⟩
    rcases List.mem_or_eq_of_mem_set hd with hd | rfl
    · exact y2 d hd
    · omega
  · split
    · refine ⟨fun d hd => ?_, by rw [prodNZ_ins]; exact x3⟩
      rw [List.mem_append, List.mem_cons] at hd
      rcases hd with hd | rfl | hd
      · exact x2 d (List.mem_of_mem_take hd)
      · omega
      · exact x2 d (List.mem_of_mem_drop hd)
    · exact ⟨x2, x3⟩
theorem jA_len (h : ¬ rankB x y) : (jA last x y).length = jR x y := ext_len h
theorem jB_len (h : ¬ rankB x y) : (jB last x y).length = jR x y := by rw [jB_eq, jA_len (fun q => h (rankB_comm.2 q)), jR_comm]
theorem jS_len (h : ¬ rankB x y) : (jS last x y).length = jR x y := by unfold jS; rw [List.length_set, jA_len h]
theorem difB_false {a b : List Int} {ax r : Nat} (h : difB a b ax r = false) {i : Nat} (hi : i < r) (hne : i ≠ ax) : a.getD i 0 = b.getD i 0 := by
  have := List.any_eq_false.1 h i (List.mem_range.2 hi)
  simpa [hne] using this
theorem difB_true {a b : List Int} {ax r i : Nat} (hi : i < r) (hne : i ≠ ax) (h : a.getD i 0 ≠ b.getD i 0) : difB a b ax r = true :=
  List.any_eq_true.2 ⟨i, List.mem_range.2 hi, decide_eq_true ⟨hne, h⟩⟩
theorem difB_none {a b : List Int} {ax r : Nat} (h : ∀ i, i < r → i ≠ ax → a.getD i 0 = b.getD i 0) : difB a b ax r = false := by
  unfold difB
  rw [List.any_eq_false]
  intro i hi
  by_cases c : i = ax
  · simp [c]
  · have := h i (List.mem_range.1 hi) c
    simp only [decide_eq_true_eq]
    rintro ⟨_, q⟩
    exact q this
theorem getD_ext {a b : List Int} (hl : a.length = b.length) (h : ∀ i, i < a.length → a.getD i 0 = b.getD i 0) : a = b := by
  apply List.ext_getElem hl
  intro i h1 h2
  have := h i h1
  simpa [h1, h2] using this
/-- what the shapes of two arrays that are joined have to do with each other -/
structure Geo (last : Bool) (x y : Arr) : Prop where
  a : shapeB (jA last x y) = true
  b : shapeB (jB last x y) = true
  na : (cnt (jA last x y)).toNat = jM last x y * jP last x y
  nb : (cnt (jB last x y)).toNat = jM last x y * jQ last x y
  ns : (cnt (jS last x y)).toNat = jM last x y * jP last x y + jM last x y * jQ last x y
  m : ((jM last x y : Nat) : Int) = cnt ((jS last x y).take (jX last x y))
  p : ((jP last x y : Nat) : Int) = (jA last x y).getD (jX last x y) 0 * cnt ((jS last x y).drop (jX last x y + 1))
  q : ((jQ last x y : Nat) : Int) = (jB last x y).getD (jX last x y) 0 * cnt ((jS last x y).drop (jX last x y + 1))
  ma : cnt ((jA last x y).take (jX last x y)) = cnt ((jS last x y).take (jX last x y))
  pa : cnt ((jA last x y).drop (jX last x y)) = ((jP last x y : Nat) : Int)
  pb : cnt ((jB last x y).drop (jX last x y)) = ((jQ last x y : Nat) : Int)
theorem drop_set_gt (s : List Int) (k : Nat) (d : Int) : (s.set k d).drop (k + 1) = s.drop (k + 1) := by
  rw [List.drop_set]; simp
theorem take_set_le (s : List Int) (k : Nat) (d : Int) : (s.set k d).take k = s.take k := by
  rw [List.take_set]
  rw [List.set_eq_of_length_le]
  simp; omega
theorem cnt_drop_at {s : List Int} {k : Nat} (h : k < s.length) : cnt (s.drop k) = s.getD k 0 * cnt (s.drop (k + 1)) := by
  rw [List.drop_eq_getElem_cons h, cnt_cons1, show s.getD k 0 = s[k] by simp [h]]
theorem geo_aux {A B S : List Int} {ax : Nat} (hS : S = A.set ax (A.getD ax 0 + B.getD ax 0)) (hax : ax < A.length) (lB : B.length = A.length) (hd : ∀ i, i < A.length → i ≠ ax → A.getD i 0 = B.getD i 0) (nA : ∀ d ∈ A, 0 ≤ d) (nB : ∀ d ∈ B, 0 ≤ d) :
    (cnt A).toNat = (cnt (S.take ax)).toNat * (A.getD ax 0 * cnt (S.drop (ax + 1))).toNat ∧ (cnt B).toNat = (cnt (S.take ax)).toNat * (B.getD ax 0 * cnt (S.drop (ax + 1))).toNat ∧
    (cnt S).toNat = (cnt (S.take ax)).toNat * (A.getD ax 0 * cnt (S.drop (ax + 1))).toNat + (cnt (S.take ax)).toNat * (B.getD ax 0 * cnt (S.drop (ax + 1))).toNat ∧
    (((cnt (S.take ax)).toNat : Nat) : Int) = cnt (S.take ax) ∧ (((A.getD ax 0 * cnt (S.drop (ax + 1))).toNat : Nat) : Int) = A.getD ax 0 * cnt (S.drop (ax + 1)) ∧ (((B.getD ax 0 * cnt (S.drop (ax + 1))).toNat : Nat) : Int) = B.getD ax 0 * cnt (S.drop (ax + 1)) ∧
    cnt (A.take ax) = cnt (S.take ax) ∧ cnt (A.drop ax) = (((A.getD ax 0 * cnt (S.drop (ax + 1))).toNat : Nat) : Int) ∧ cnt (B.drop ax) = (((B.getD ax 0 * cnt (S.drop (ax + 1))).toNat : Nat) : Int) := by
  have tS : S.take ax = A.take ax := by rw [hS, take_set_le]
  have dS : S.drop (ax + 1) = A.drop (ax + 1) := by rw [hS, drop_set_gt]
  have tB : B.take ax = A.take ax := by
    apply getD_ext (by simp; omega)
    intro i hi
    simp only [List.length_take] at hi
    have := hd i (by omega) (by omega)
    have h1 : (B.take ax).getD i 0 = B.getD i 0 := by simp [List.getD_eq_getElem?_getD, List.getElem?_take, show i < ax by omega]
    have h2 : (A.take ax).getD i 0 = A.getD i 0 := by simp [List.getD_eq_getElem?_getD, List.getElem?_take, show i < ax by omega]
    rw [h1, h2, this]
  have dB : B.drop (ax + 1) = A.drop (ax + 1) := by
    apply getD_ext (by simp; omega)
    intro i hi
    simp only [List.length_drop] at hi
    have := hd (ax + 1 + i) (by omega) (by omega)
    have h1 : (B.drop (ax + 1)).getD i 0 = B.getD (ax + 1 + i) 0 := by simp [List.getD_eq_getElem?_getD, List.getElem?_drop]
    have h2 : (A.drop (ax + 1)).getD i 0 = A.getD (ax + 1 + i) 0 := by simp [List.getD_eq_getElem?_getD, List.getElem?_drop]
    rw [h1, h2, this]
  have cA := cnt_at (s := A) (k := ax) hax
  have cB := cnt_at (s := B) (k := ax) (by omega)
  have cS := cnt_at (s := S) (k := ax) (by rw [hS]; simp; omega)
  have gS : S.getD ax 0 = A.getD ax 0 + B.getD ax 0 := by
    rw [hS]; simp [List.getD_eq_getElem?_getD, List.getElem?_set, hax]
  have a0 := nA _ (getD_mem hax)
  have b0 := nB _ (getD_mem (show ax < B.length by omega))
  have m0 : 0 ≤ cnt (A.take ax) := cnt_nonneg fun d hd => nA d (List.mem_of_mem_take hd)
  have r0 : 0 ≤ cnt (A.drop (ax + 1)) := cnt_nonneg fun d hd => nA d (List.mem_of_mem_drop hd)
  have dA2 := cnt_drop_at (s := A) (k := ax) hax
  have dB2 := cnt_drop_at (s := B) (k := ax) (by omega)
  rw [tB, dB] at cB
  rw [tS, dS, gS] at cS
  rw [dB] at dB2
  rw [tS, dS, cA, cB, cS, dA2, dB2]
  clear cA cB cS dA2 dB2 tS dS tB dB gS
  generalize cnt (A.take ax) = m at *
  generalize cnt (A.drop (ax + 1)) = r at *
  generalize A.getD ax 0 = p at *
  generalize B.getD ax 0 = q at *
  rw [Int.add_mul]
  have p0 := Int.mul_nonneg a0 r0
  have q0 := Int.mul_nonneg b0 r0
  generalize p * r = pr at *
  generalize q * r = qr at *
  obtain ⟨m', rfl⟩ := Int.eq_ofNat_of_zero_le m0
  obtain ⟨p', rfl⟩ := Int.eq_ofNat_of_zero_le p0
  obtain ⟨q', rfl⟩ := Int.eq_ofNat_of_zero_le q0
  refine ⟨?_, ?_, ?_, ?_, ?_, ?_, ?_, ?_, ?_⟩
  · simp only [Int.toNat_natCast]; rw [← Int.natCast_mul, Int.toNat_natCast]
  · simp only [Int.toNat_natCast]; rw [← Int.natCast_mul, Int.toNat_natCast]
  · simp only [Int.toNat_natCast]; rw [← Int.natCast_add, ← Int.natCast_mul, Int.toNat_natCast, Nat.mul_add]
  all_goals simp
theorem geo (hx : shapeB x.shape = true) (hy : shapeB y.shape = true) (h : ¬ rankB x y) (hd : difB (jA last x y) (jB last x y) (jX last x y) (jR x y) = false) : Geo last x y := by
  have hA := shapeB_ext (last := last) hx hy h
  have hB : shapeB (jB last x y) = true := by rw [jB_eq]; exact shapeB_ext hy hx (fun q => h (rankB_comm.2 q))
  have lA := jA_len (last := last) h
  have lB := jB_len (last := last) h
  have hax := jX_lt (last := last) (x := x) (y := y)
  obtain ⟨g1, g2, g3, g4, g5, g6, g7, g8, g9⟩ := geo_aux (A := jA last x y) (B := jB last x y) (S := jS last x y) (ax := jX last x y) rfl (by omega) (by omega) (fun i hi hne => difB_false hd (by omega) hne) (shapeB_iff.1 hA).2.1 (shapeB_iff.1 hB).2.1
  exact ⟨hA, hB, g1, g2, g3, g4, g5, g6, g7, g8, g9⟩
theorem joinE_x (h : rightS x ≠ 0) : joinE last x y = 1 := if_pos (Or.inl h)
theorem joinE_y (h : rightS y ≠ 0) : joinE last x y = 1 := if_pos (Or.inr h)
theorem joinE_k (h : rightS x = 0) (g : rightS y = 0) (k : x.kind ≠ y.kind) : joinE last x y = 14 := by unfold joinE; rw [if_neg (by simp [h, g]), if_pos k]
theorem joinE_r (h : rightS x = 0) (g : rightS y = 0) (k : x.kind = y.kind) (r : rankB x y) : joinE last x y = 15 := by unfold rankB at r; unfold joinE; rw [if_neg (by simp [h, g]), if_neg (by simp [k]), if_pos r]
theorem joinE_d (h : rightS x = 0) (g : rightS y = 0) (k : x.kind = y.kind) (r : ¬ rankB x y) (d : difB (jA last x y) (jB last x y) (jX last x y) (jR x y) = true) : joinE last x y = 16 := by unfold rankB at r; unfold joinE; rw [if_neg (by simp [h, g]), if_neg (by simp [k]), if_neg r, if_pos d]
theorem joinE_s (h : rightS x = 0) (g : rightS y = 0) (k : x.kind = y.kind) (r : ¬ rankB x y) (d : difB (jA last x y) (jB last x y) (jX last x y) (jR x y) = false) (s : shapeB (jS last x y) = false ∨ 262144 < exW x (jA last x y) + exW y (jB last x y)) : joinE last x y = 21 := by unfold rankB at r; unfold joinE; rw [if_neg (by simp [h, g]), if_neg (by simp [k]), if_neg r, if_neg (by simp [d]), if_pos s]
theorem joinE_0 (h : rightS x = 0) (g : rightS y = 0) (k : x.kind = y.kind) (r : ¬ rankB x y) (d : difB (jA last x y) (jB last x y) (jX last x y) (jR x y) = false) (s : shapeB (jS last x y) = true) (w : ¬ 262144 < exW x (jA last x y) + exW y (jB last x y)) : joinE last x y = 0 := by unfold rankB at r; unfold joinE; rw [if_neg (by simp [h, g]), if_neg (by simp [k]), if_neg r, if_neg (by simp [d]), if_neg (by simp [s, w])]
theorem joinS_no (h : joinE last x y ≠ 0) : joinS last x y = .zero := if_neg h
theorem joinS_yes (h : joinE last x y = 0) : joinS last x y = joinA last x y := if_pos h
end
end Go.Proofs.Ytdpdcjadedcglaa
namespace Go.Proofs.Ytdpdcjadedcglaa
/-- what Of returns -/
def ofE (s : List Int) (y : Arr) : Int := if rightS y ≠ 0 then 1 else if dimsE s ≠ 0 then dimsE s else if y.kind = 3 ∧ 262144 < rwS (fromS y).items (haveN y) (cnt s).toNat then 21 else 0
def ofS (s : List Int) (y : Arr) : Arr := if ofE s y = 0 then gathS (fromS y) s (modF (haveN y)) (cnt s).toNat else .zero
theorem ofE_y {s : List Int} {y : Arr} (h : rightS y ≠ 0) : ofE s y = 1 := if_pos h
theorem ofE_d {s : List Int} {y : Arr} (h : rightS y = 0) (d : dimsE s ≠ 0) : ofE s y = dimsE s := by unfold ofE; rw [if_neg (by simp [h]), if_pos d]
theorem ofE_w {s : List Int} {y : Arr} (h : rightS y = 0) (d : dimsE s = 0) (k : y.kind = 3) (o : 262144 < rwS (fromS y).items (haveN y) (cnt s).toNat) : ofE s y = 21 := by unfold ofE; rw [if_neg (by simp [h]), if_neg (by simp [d]), if_pos ⟨k, o⟩]
theorem ofE_0 {s : List Int} {y : Arr} (h : rightS y = 0) (d : dimsE s = 0) (k : y.kind = 3 → rwS (fromS y).items (haveN y) (cnt s).toNat ≤ 262144) : ofE s y = 0 := by
  unfold ofE; rw [if_neg (by simp [h]), if_neg (by simp [d]), if_neg (fun q => by have := k q.1; omega)]
theorem ofS_no {s : List Int} {y : Arr} (h : ofE s y ≠ 0) : ofS s y = .zero := if_neg h
theorem ofS_yes {s : List Int} {y : Arr} (h : ofE s y = 0) : ofS s y = gathS (fromS y) s (modF (haveN y)) (cnt s).toNat := if_pos h
theorem modF_one (k : Int) : modF 1 k = 0 := by unfold modF; omega
section
variable {x : Arr}
theorem one_of (hr : rightS x = 0) (h0 : x.shape.length = 0) : (x.kind = 3 ∧ x.nums = [] ∧ ∃ z, x.items = [z]) ∨ (x.kind ≠ 3 ∧ x.items = [] ∧ ∃ d, x.nums = [d]) := by
  have hs : x.shape = [] := List.length_eq_zero_iff.1 h0
  obtain ⟨_, _, hh⟩ := right_ok hr
  rw [hs, cnt_nil] at hh
  rcases hh with ⟨k, h1, h2⟩ | ⟨k, h1, h2⟩
  · exact Or.inl ⟨k, List.length_eq_zero_iff.1 h2, List.length_eq_one_iff.1 (by omega)⟩
  · exact Or.inr ⟨k, List.length_eq_zero_iff.1 h2, List.length_eq_one_iff.1 (by omega)⟩
theorem gath_scalar (hr : rightS x = 0) (h0 : x.shape.length = 0) (s : List Int) (N : Nat) : gathS (fromS x) s (modF (haveN x)) N = .mk x.kind s (repL x.nums N) (repL x.items N) := by
  rcases one_of hr h0 with ⟨k, h1, z, h2⟩ | ⟨k, h1, d, h2⟩
  · obtain ⟨hh, hf⟩ := haveN_of (y := x) (by rw [h1, h2]; simp) hr
    rw [hf, show haveN x = 1 by rw [hh, h1, h2]; rfl, gathS_A k, h1, h2, k, repL_nil, repL_one]
    congr 1
    rw [pickA_congr' (g' := fun _ => 0) (fun k _ => modF_one k)]
    simp [pickA, List.map_const']
  · obtain ⟨hh, hf⟩ := haveN_of (y := x) (by rw [h1, h2]; simp) hr
    rw [hf, show haveN x = 1 by rw [hh, h1, h2]; rfl, gathS_N k, h1, h2, repL_nil, repL_one]
    congr 1
    rw [pickN_congr' (g' := fun _ => 0) (fun k _ => modF_one k)]
    simp [pickN, List.map_const']
/-- the weight of a valid array -/
theorem wt_right (hr : rightS x = 0) : wtS x = (x.nums.length : Int) + x.items.length + sumW x.items := by
  obtain ⟨h1, h2, h3, h4⟩ := right_iff.1 hr
  obtain ⟨k, _, hh⟩ := formE_zero h1
  rcases hh with ⟨k3, _, q⟩ | ⟨k3, _, q⟩
  · rw [wtS_k3 k3]; omega
  · rw [wtS_nk3 k3, show szN x.kind x.nums.length x.items.length = x.nums.length from by unfold szN; rw [if_pos (by omega)]]
    have : x.items = [] := List.length_eq_zero_iff.1 q
    rw [this] at h4 ⊢
    simp [sumW] at h4 ⊢
    omega
theorem sumW_pick1 (z : Arr) (n : Nat) : sumW (pickA [z] (modF 1) n) = n * wtS z := by
  rw [pickA_congr' (g' := fun _ => 0) (fun k _ => modF_one k)]
  induction n with
  | zero => simp [pickA, sumW]
  | succ n ih => rw [pickA_succ, sumW_append, ih]; simp [sumW, Int.add_mul]
theorem of_scalar (hr : rightS x = 0) (h0 : x.shape.length = 0) {s : List Int} (hs : shapeB s = true) : ofE s x = if x.kind = 3 ∧ 262144 < exW x s then 21 else 0 := by
  unfold ofE
  have hc := cnt_le hs
  rw [if_neg (by simp [hr]), if_neg (by simp [dimsE_zero.2 hs])]
  rcases one_of hr h0 with ⟨k, h1, z, h2⟩ | ⟨k, h1, d, h2⟩
  · obtain ⟨hh, hf⟩ := haveN_of (y := x) (by rw [h1, h2]; simp) hr
    have : rwS (fromS x).items (haveN x) (cnt s).toNat = exW x s := by
      unfold exW
      rw [if_pos h0, hf, hh, rwS_sum, h1, h2, wt_right hr, h1, h2]
      simp only [List.length_nil, List.length_cons, Nat.zero_add, sumW_pick1, sumW, Int.toNat_of_nonneg hc.1]
      rw [show ((0 : Nat) : Int) + ((1 : Nat) : Int) + (wtS z + 0) = 1 + wtS z by omega, Int.mul_add, Int.mul_one]
    rw [this]
  · rw [if_neg (fun q => k q.1), if_neg (fun q => k q.1)]
end
section
variable {α : Type}
theorem mem_blkL {a : List α} {i p : Nat} {e : α} (h : e ∈ blkL a i p) : e ∈ a := List.mem_of_mem_drop (List.mem_of_mem_take h)
theorem mem_joinL {p q : Nat} {a b : List α} {e : α} : ∀ {n : Nat}, e ∈ joinL p q a b n → e ∈ a ∨ e ∈ b
  | 0, h => by simp [joinL] at h
  | n + 1, h => by
    rw [joinL, List.mem_append, List.mem_append] at h
    rcases h with h | h | h
    · exact mem_joinL h
    · exact Or.inl (mem_blkL h)
    · exact Or.inr (mem_blkL h)
theorem mem_repL {l : List α} {e : α} : ∀ {n : Nat}, e ∈ repL l n → e ∈ l
  | 0, h => by simp [repL] at h
  | n + 1, h => by
    rw [repL, List.mem_append] at h
    rcases h with h | h
    · exact mem_repL h
    · exact h
theorem mem_exL {s : List Int} {n : Nat} {l : List α} {e : α} (h : e ∈ exL s n l) : e ∈ l := by
  unfold exL at h
  split at h
  · exact mem_repL h
  · exact h
theorem joinL_r0 {p : Nat} {a b : List α} : ∀ (n : Nat), joinL p 0 a b n = a.take (n * p)
  | 0 => by simp [joinL]
  | n + 1 => by rw [joinL, joinL_r0 n, blk_take, blkL, blkL]; simp
theorem joinL_l0 {q : Nat} {a b : List α} : ∀ (n : Nat), joinL 0 q a b n = b.take (n * q)
  | 0 => by simp [joinL]
  | n + 1 => by rw [joinL, joinL_l0 n, blk_take, blkL, blkL]; simp
theorem joinL_1 {p q : Nat} {a b : List α} (ha : a.length = p) (hb : b.length = q) : joinL p q a b 1 = a ++ b := by
  simp [joinL, blkL, ← ha, ← hb]
theorem joinL_mono {p q : Nat} {a b : List α} {n m : Nat} (h : n ≤ m) : ∃ t, joinL p q a b m = joinL p q a b n ++ t := by
  induction m with
  | zero => obtain rfl : n = 0 := by omega
            exact ⟨[], by simp⟩
  | succ m ih =>
    by_cases e : n = m + 1
    · subst e; exact ⟨[], by simp⟩
    · obtain ⟨t, ht⟩ := ih (by omega)
      exact ⟨t ++ (blkL a m p ++ blkL b m q), by rw [joinL, ht, List.append_assoc]⟩
/-- block i of what is joined -/
theorem blk_joinL {p q : Nat} {a b : List α} {m i : Nat} (ha : m * p ≤ a.length) (hb : m * q ≤ b.length) (hi : i < m) : blkL (joinL p q a b m) i (p + q) = blkL a i p ++ blkL b i q := by
  obtain ⟨t, ht⟩ := joinL_mono (p := p) (q := q) (a := a) (b := b) (show i + 1 ≤ m by omega)
  have m1 : (i + 1) * p ≤ a.length := Nat.le_trans (Nat.mul_le_mul_right p (by omega)) ha
  have m2 : (i + 1) * q ≤ b.length := Nat.le_trans (Nat.mul_le_mul_right q (by omega)) hb
  rw [Nat.add_mul, Nat.one_mul] at m1 m2
  have hl := joinL_len (p := p) (q := q) (a := a) (b := b) (n := i) (by omega) (by omega)
  have l1 := blkL_len (a := a) (i := i) (p := p) (by omega)
  have l2 := blkL_len (a := b) (i := i) (p := q) (by omega)
  rw [ht, joinL, List.append_assoc]
  unfold blkL at l1 l2 ⊢
  rw [← hl, List.drop_left, List.take_append_of_le_length (by simp only [List.length_append]; omega), List.take_of_length_le (by simp only [List.length_append]; omega)]
theorem joinL_assoc {p q s : Nat} {a b c : List α} {m : Nat} (ha : m * p ≤ a.length) (hb : m * q ≤ b.length) (hc : m * s ≤ c.length) : joinL (p + q) s (joinL p q a b m) c m = joinL p (q + s) a (joinL q s b c m) m := by
  have : ∀ n, n ≤ m → joinL (p + q) s (joinL p q a b m) c n = joinL p (q + s) a (joinL q s b c m) n := by
    intro n
    induction n with
    | zero => intro _; rfl
    | succ n ih =>
      intro hn
      rw [joinL, joinL, ih (by omega), blk_joinL ha hb (by omega), blk_joinL hb hc (by omega), List.append_assoc]
  exact this m (Nat.le_refl _)
end
section
variable {last : Bool} {x y : Arr}
theorem cnt_jA (h : x.shape.length ≠ 0) : cnt (jA last x y) = cnt x.shape := by
  unfold jA extSh
  rw [if_neg (fun q => h q.1)]
  split
  · exact cnt_ins _
  · rfl
theorem exW_eq (hr : rightS x = 0) (hs : shapeB (jA last x y) = true) : exW x (jA last x y) = ((exL x.shape (cnt (jA last x y)).toNat x.nums).length : Int) + (exL x.shape (cnt (jA last x y)).toNat x.items).length + sumW (exL x.shape (cnt (jA last x y)).toNat x.items) := by
  have hc := cnt_le hs
  unfold exW exL
  by_cases h0 : x.shape.length = 0
  · rw [if_pos h0, if_pos h0, if_pos h0, repL_len, repL_len, sumW_repL, wt_right hr, Int.natCast_mul, Int.natCast_mul, Int.toNat_of_nonneg hc.1, Int.mul_add, Int.mul_add]
  · rw [if_neg h0, if_neg h0, if_neg h0, wt_right hr]
theorem exL_lenN (hr : rightS x = 0) : x.kind ≠ 3 → (exL x.shape (cnt (jA last x y)).toNat x.nums).length = (cnt (jA last x y)).toNat ∧ x.items = [] := fun k => by
  unfold exL
  by_cases h0 : x.shape.length = 0
  · rcases one_of hr h0 with ⟨k3, h1, z, h2⟩ | ⟨k3, h1, z, h2⟩
    · exact absurd k3 k
    · rw [if_pos h0, repL_len, h2]; exact ⟨by simp, h1⟩
  · rw [if_neg h0, cnt_jA h0]
    obtain ⟨_, _, hh⟩ := right_ok hr
    rcases hh with ⟨k3, h1, h2⟩ | ⟨k3, h1, h2⟩
    · exact absurd k3 k
    · exact ⟨by omega, List.length_eq_zero_iff.1 h2⟩
theorem exL_lenA (hr : rightS x = 0) : x.kind = 3 → (exL x.shape (cnt (jA last x y)).toNat x.items).length = (cnt (jA last x y)).toNat ∧ x.nums = [] := fun k => by
  unfold exL
  by_cases h0 : x.shape.length = 0
  · rcases one_of hr h0 with ⟨k3, h1, z, h2⟩ | ⟨k3, h1, z, h2⟩
    · rw [if_pos h0, repL_len, h2]; exact ⟨by simp, h1⟩
    · exact absurd k k3
  · rw [if_neg h0, cnt_jA h0]
    obtain ⟨_, _, hh⟩ := right_ok hr
    rcases hh with ⟨k3, h1, h2⟩ | ⟨k3, h1, h2⟩
    · exact ⟨by omega, List.length_eq_zero_iff.1 h2⟩
    · exact absurd k k3
theorem exL_nil {s : List Int} {n : Nat} {α : Type} : exL s n ([] : List α) = [] := by
  unfold exL; split
  · exact repL_nil _
  · rfl
/-- the elements of what is joined, and their weight -/
theorem join_sums (hx : rightS x = 0) (hy : rightS y = 0) (hk : x.kind = y.kind) (g : Geo last x y) :
    (x.kind = 3 → (joinA last x y).nums = [] ∧ (joinA last x y).items.length = (cnt (jS last x y)).toNat) ∧ (x.kind ≠ 3 → (joinA last x y).items = [] ∧ (joinA last x y).nums.length = (cnt (jS last x y)).toNat) ∧
    ((joinA last x y).nums.length : Int) + (joinA last x y).items.length + sumW (joinA last x y).items = exW x (jA last x y) + exW y (jB last x y) := by
  have hB := jB_eq (last := last) (x := x) (y := y)
  have ha := g.a; have hb := g.b; have na := g.na; have nb := g.nb; have ns := g.ns
  have wx := exW_eq (last := last) (y := y) hx ha
  have wy := exW_eq (last := last) (y := x) hy (by rw [← hB]; exact hb)
  rw [← hB] at wy
  rw [wx, wy]
  have e3 := exL_lenA (last := last) (y := y) hx
  have f3 := exL_lenA (last := last) (y := x) hy
  have e1 := exL_lenN (last := last) (y := y) hx
  have f1 := exL_lenN (last := last) (y := x) hy
  rw [← hB] at f3 f1
  rw [show (joinA last x y).nums = joinL (jP last x y) (jQ last x y) (exL x.shape (cnt (jA last x y)).toNat x.nums) (exL y.shape (cnt (jB last x y)).toNat y.nums) (jM last x y) from rfl,
    show (joinA last x y).items = joinL (jP last x y) (jQ last x y) (exL x.shape (cnt (jA last x y)).toNat x.items) (exL y.shape (cnt (jB last x y)).toNat y.items) (jM last x y) from rfl]
  by_cases k : x.kind = 3
  · obtain ⟨e3, ex⟩ := e3 k
    obtain ⟨f3, fx⟩ := f3 (by omega)
    rw [ex, fx, exL_nil, exL_nil, joinL_nil]
    have hl := joinL_len (p := jP last x y) (q := jQ last x y) (a := exL x.shape (cnt (jA last x y)).toNat x.items) (b := exL y.shape (cnt (jB last x y)).toNat y.items) (n := jM last x y) (by omega) (by omega)
    rw [Nat.mul_add] at hl
    refine ⟨fun _ => ⟨rfl, by omega⟩, fun q => absurd k q, ?_⟩
    rw [sumW_joinL, List.take_of_length_le (by omega), List.take_of_length_le (by omega), hl]
    simp only [List.length_nil]
    omega
  · obtain ⟨e1, ex⟩ := e1 k
    obtain ⟨f1, fx⟩ := f1 (by omega)
    rw [ex, fx, exL_nil, exL_nil, joinL_nil]
    have hl := joinL_len (p := jP last x y) (q := jQ last x y) (a := exL x.shape (cnt (jA last x y)).toNat x.nums) (b := exL y.shape (cnt (jB last x y)).toNat y.nums) (n := jM last x y) (by omega) (by omega)
    rw [Nat.mul_add] at hl
    refine ⟨fun q => absurd q k, fun _ => ⟨rfl, by omega⟩, ?_⟩
    simp only [List.length_nil, sumW, hl]
    omega
theorem wt_join (hx : rightS x = 0) (hy : rightS y = 0) (hk : x.kind = y.kind) (g : Geo last x y) : wtS (joinA last x y) = min (exW x (jA last x y) + exW y (jB last x y)) 262145 := by
  obtain ⟨h3, h1, hs⟩ := join_sums hx hy hk g
  obtain ⟨kk, _, _⟩ := right_ok hx
  have hkk : (joinA last x y).kind = x.kind := rfl
  by_cases k : x.kind = 3
  · obtain ⟨h3, _⟩ := h3 k
    rw [wtS_k3 (by rw [hkk]; exact k), ← hs, h3]; simp
  · obtain ⟨h1, _⟩ := h1 k
    rw [wtS_nk3 (by rw [hkk]; exact k), ← hs, h1, hkk]
    rw [show szN x.kind (joinA last x y).nums.length (([] : List Arr).length) = (joinA last x y).nums.length from by unfold szN; rw [if_pos (by omega)]]
    simp [sumW]
structure JoinOk (last : Bool) (a b : Arr) : Prop where
  x : rightS a = 0
  y : rightS b = 0
  k : a.kind = b.kind
  r : ¬ rankB a b
  d : difB (jA last a b) (jB last a b) (jX last a b) (jR a b) = false
  s : shapeB (jS last a b) = true
  w : ¬ 262144 < exW a (jA last a b) + exW b (jB last a b)
theorem joinOk (h : joinE last x y = 0) : JoinOk last x y := by
  have hx : rightS x = 0 := Classical.byContradiction fun q => by rw [joinE_x q] at h; cases h
  have hy : rightS y = 0 := Classical.byContradiction fun q => by rw [joinE_y q] at h; cases h
  have hk : x.kind = y.kind := Classical.byContradiction fun q => by rw [joinE_k hx hy q] at h; cases h
  have hr : ¬ rankB x y := fun q => by rw [joinE_r hx hy hk q] at h; cases h
  have hd : difB (jA last x y) (jB last x y) (jX last x y) (jR x y) = false := by
    cases e : difB (jA last x y) (jB last x y) (jX last x y) (jR x y) with
    | false => rfl
    | true => rw [joinE_d hx hy hk hr e] at h; cases h
  have hs : shapeB (jS last x y) = true := by
    cases e : shapeB (jS last x y) with
    | true => rfl
    | false => rw [joinE_s hx hy hk hr hd (Or.inl e)] at h; cases h
  exact ⟨hx, hy, hk, hr, hd, hs, fun q => by rw [joinE_s hx hy hk hr hd (Or.inr q)] at h; cases h⟩
theorem JoinOk.geo (h : JoinOk last x y) : Geo last x y := Go.Proofs.Ytdpdcjadedcglaa.geo (right_ok h.x).2.1 (right_ok h.y).2.1 h.r h.d
theorem right_join (h : JoinOk last x y) : rightS (joinA last x y) = 0 := by
  have g := h.geo
  obtain ⟨h3, h1, hs⟩ := join_sums h.x h.y h.k g
  obtain ⟨x1, x2, x3, x4⟩ := right_iff.1 h.x
  obtain ⟨y1, y2, y3, y4⟩ := right_iff.1 h.y
  have hc := cnt_le h.s
  have hw := h.w
  obtain ⟨kk, _, _⟩ := formE_zero x1
  rw [right_iff]
  refine ⟨form_of kk h.s ?_, fun n hn => ?_, fun z hz => ?_, by rw [hs]; omega⟩
  · by_cases k : x.kind = 3
    · obtain ⟨h31, h32⟩ := h3 k
      exact Or.inl ⟨k, by rw [h32, show (joinA last x y).shape = jS last x y from rfl]; omega, by rw [h31]; rfl⟩
    · obtain ⟨h31, h32⟩ := h1 k
      exact Or.inr ⟨k, by rw [h32, show (joinA last x y).shape = jS last x y from rfl]; omega, by rw [h31]; rfl⟩
  · rcases mem_joinL hn with q | q
    · exact x2 n (mem_exL q)
    · rw [show (joinA last x y).kind = y.kind from h.k]; exact y2 n (mem_exL q)
  · rcases mem_joinL hz with q | q
    · exact x3 z (mem_exL q)
    · exact y3 z (mem_exL q)
end
end Go.Proofs.Ytdpdcjadedcglaa
namespace Go.Proofs.Ytdpdcjadedcglaa
/-- two lists agree, but for one place -/
def agr (s t : List Int) (k : Nat) : Prop := ∀ i, i < s.length → i ≠ k → s.getD i 0 = t.getD i 0
theorem agr_cut {s t : List Int} {k : Nat} (hl : t.length = s.length) (h : agr s t k) : t.take k = s.take k ∧ t.drop (k + 1) = s.drop (k + 1) := by
  constructor
  · apply getD_ext (by simp; omega)
    intro i hi
    simp only [List.length_take] at hi
    have := h i (by omega) (by omega)
    have h1 : (t.take k).getD i 0 = t.getD i 0 := by simp [List.getD_eq_getElem?_getD, List.getElem?_take, show i < k by omega]
    have h2 : (s.take k).getD i 0 = s.getD i 0 := by simp [List.getD_eq_getElem?_getD, List.getElem?_take, show i < k by omega]
    rw [h1, h2, this]
  · apply getD_ext (by simp; omega)
    intro i hi
    simp only [List.length_drop] at hi
    have := h (k + 1 + i) (by omega) (by omega)
    have h1 : (t.drop (k + 1)).getD i 0 = t.getD (k + 1 + i) 0 := by simp [List.getD_eq_getElem?_getD, List.getElem?_drop]
    have h2 : (s.drop (k + 1)).getD i 0 = s.getD (k + 1 + i) 0 := by simp [List.getD_eq_getElem?_getD, List.getElem?_drop]
    rw [h1, h2, this]
def jx (last : Bool) (r : Nat) : Nat := if last then r - 1 else 0
def shM (s : List Int) (k : Nat) : Nat := (cnt (s.take k)).toNat
def shP (s t : List Int) (k : Nat) : Nat := (t.getD k 0 * cnt (s.drop (k + 1))).toNat
structure Eqr (x y : Arr) : Prop where
  e : y.shape.length = x.shape.length
  p : x.shape.length ≠ 0
section
variable {last : Bool} {x y z : Arr}
theorem jx_lt {r : Nat} (h : r ≠ 0) : jx last r < r := by unfold jx; split <;> omega
theorem Eqr.symm (h : Eqr x y) : Eqr y x := ⟨h.e.symm, by have := h.e; have := h.p; omega⟩
theorem Eqr.R (h : Eqr x y) : jR x y = x.shape.length := by unfold jR; have := h.e; have := h.p; omega
theorem Eqr.A (h : Eqr x y) : jA last x y = x.shape := by unfold jA extSh; rw [h.R, if_neg (fun q => h.p q.1), if_neg (by omega)]
theorem Eqr.B (h : Eqr x y) : jB last x y = y.shape := by rw [jB_eq]; exact h.symm.A
theorem Eqr.X (h : Eqr x y) : jX last x y = jx last x.shape.length := by unfold jX jx; rw [h.R]
theorem Eqr.S (h : Eqr x y) : jS last x y = x.shape.set (jx last x.shape.length) (x.shape.getD (jx last x.shape.length) 0 + y.shape.getD (jx last x.shape.length) 0) := by unfold jS; rw [h.A, h.B, h.X]
theorem Eqr.M (h : Eqr x y) : jM last x y = shM x.shape (jx last x.shape.length) := by unfold jM shM; rw [h.S, h.X, take_set_le]
theorem Eqr.P (h : Eqr x y) : jP last x y = shP x.shape x.shape (jx last x.shape.length) := by unfold jP shP; rw [h.S, h.A, h.X, drop_set_gt]
theorem Eqr.Q (h : Eqr x y) : jQ last x y = shP x.shape y.shape (jx last x.shape.length) := by unfold jQ shP; rw [h.S, h.B, h.X, drop_set_gt]
theorem Eqr.form (h : Eqr x y) : joinA last x y = .mk x.kind (x.shape.set (jx last x.shape.length) (x.shape.getD (jx last x.shape.length) 0 + y.shape.getD (jx last x.shape.length) 0))
    (joinL (shP x.shape x.shape (jx last x.shape.length)) (shP x.shape y.shape (jx last x.shape.length)) x.nums y.nums (shM x.shape (jx last x.shape.length)))
    (joinL (shP x.shape x.shape (jx last x.shape.length)) (shP x.shape y.shape (jx last x.shape.length)) x.items y.items (shM x.shape (jx last x.shape.length))) := by
  unfold joinA
  rw [h.S, h.M, h.P, h.Q]
  unfold exL
  rw [if_neg h.p, if_neg h.p, if_neg h.symm.p, if_neg h.symm.p]
theorem Eqr.W (h : Eqr x y) : exW x (jA last x y) + exW y (jB last x y) = wtS x + wtS y := by unfold exW; rw [if_neg h.p, if_neg h.symm.p]
theorem Eqr.rank (h : Eqr x y) : ¬ rankB x y := fun q => by have := h.e; unfold rankB at q; omega
theorem Eqr.dif (h : Eqr x y) : difB (jA last x y) (jB last x y) (jX last x y) (jR x y) = false ↔ agr x.shape y.shape (jx last x.shape.length) := by
  rw [h.A, h.B, h.X, h.R]
  exact ⟨fun q i hi hne => difB_false q hi hne, fun q => difB_none q⟩
theorem Eqr.E0 (h : Eqr x y) (hx : rightS x = 0) (hy : rightS y = 0) (hk : x.kind = y.kind) (ha : agr x.shape y.shape (jx last x.shape.length)) : joinE last x y = if shapeB (jS last x y) = false ∨ 262144 < wtS x + wtS y then 21 else 0 := by
  by_cases c : shapeB (jS last x y) = false ∨ 262144 < wtS x + wtS y
  · rw [if_pos c, joinE_s hx hy hk h.rank (h.dif.2 ha) (by rw [h.W]; exact c)]
  · rw [if_neg c, joinE_0 hx hy hk h.rank (h.dif.2 ha) (by
      cases e : shapeB (jS last x y) with
      | true => rfl
      | false => exact absurd (Or.inl e) c) (by rw [h.W]; exact fun q => c (Or.inr q))]
theorem set_self {s : List Int} {k : Nat} (h : k < s.length) : s.set k (s.getD k 0) = s := by
  rw [show s.getD k 0 = s[k] by simp [h], List.set_getElem_self]
theorem shp_len {s : List Int} (hs : shapeB s = true) {k : Nat} (h : k < s.length) : shM s k * shP s s k = (cnt s).toNat := by
  have h1 := cnt_at h
  have hn := (shapeB_iff.1 hs).2.1
  have m0 : 0 ≤ cnt (s.take k) := cnt_nonneg fun d hd => hn d (List.mem_of_mem_take hd)
  have r0 : 0 ≤ cnt (s.drop (k + 1)) := cnt_nonneg fun d hd => hn d (List.mem_of_mem_drop hd)
  have p0 := Int.mul_nonneg (hn _ (getD_mem h)) r0
  unfold shM shP
  rw [h1]
  generalize cnt (s.take k) = m at *
  generalize s.getD k 0 * cnt (s.drop (k + 1)) = p at *
  obtain ⟨m', rfl⟩ := Int.eq_ofNat_of_zero_le m0
  obtain ⟨p', rfl⟩ := Int.eq_ofNat_of_zero_le p0
  rw [← Int.natCast_mul, Int.toNat_natCast, Int.toNat_natCast, Int.toNat_natCast]
theorem lens (hx : rightS x = 0) : (x.nums = [] ∨ x.nums.length = (cnt x.shape).toNat) ∧ (x.items = [] ∨ x.items.length = (cnt x.shape).toNat) := by
  obtain ⟨_, _, hh⟩ := right_ok hx
  rcases hh with ⟨_, h1, h2⟩ | ⟨_, h1, h2⟩
  · exact ⟨Or.inl (List.length_eq_zero_iff.1 h2), Or.inr (by omega)⟩
  · exact ⟨Or.inr (by omega), Or.inl (List.length_eq_zero_iff.1 h2)⟩
theorem take_all {α : Type} {l : List α} {n : Nat} (h : l = [] ∨ l.length = n) : l.take n = l := by
  rcases h with rfl | h
  · simp
  · exact List.take_of_length_le (by omega)
/-- an empty axis behind -/
theorem join_emp_r (h : Eqr x y) (hx : rightS x = 0) (hy : rightS y = 0) (hk : x.kind = y.kind) (ha : agr x.shape y.shape (jx last x.shape.length)) (hz : y.shape.getD (jx last x.shape.length) 0 = 0) (yn : y.nums = []) (yi : y.items = []) : joinE last x y = 0 ∧ joinS last x y = x := by
  have hax := jx_lt (last := last) h.p
  have hs := (right_ok hx).2.1
  have hS : jS last x y = x.shape := by rw [h.S, hz, Int.add_zero, set_self hax]
  have wy : wtS y = 0 := by rw [wt_right hy, yn, yi]; rfl
  have wx := (right_iff.1 hx).2.2.2
  have e0 : joinE last x y = 0 := by
    rw [h.E0 hx hy hk ha, if_neg]
    rw [hS, hs, wy, wt_right hx]
    rintro (q | q)
    · cases q
    · omega
  refine ⟨e0, ?_⟩
  obtain ⟨l1, l2⟩ := lens hx
  have hp := shp_len hs hax
  rw [joinS_yes e0, h.form, hz, Int.add_zero, set_self hax]
  rw [show shP x.shape y.shape (jx last x.shape.length) = 0 from by unfold shP; rw [hz]; simp, joinL_r0, joinL_r0, hp, take_all l1, take_all l2, Arr.eta]
theorem Eqr.agr_symm (h : Eqr x y) {k : Nat} (ha : agr x.shape y.shape k) : agr y.shape x.shape k := fun i hi hne => (ha i (by have := h.e; omega) hne).symm
theorem shP_congr {s t u : List Int} {k : Nat} (h : t.drop (k + 1) = s.drop (k + 1)) : shP t u k = shP s u k := by unfold shP; rw [h]
theorem shM_congr {s t : List Int} {k : Nat} (h : t.take k = s.take k) : shM t k = shM s k := by unfold shM; rw [h]
/-- an empty axis ahead -/
theorem join_emp_l (h : Eqr x y) (hx : rightS x = 0) (hy : rightS y = 0) (hk : x.kind = y.kind) (ha : agr x.shape y.shape (jx last x.shape.length)) (hz : y.shape.getD (jx last x.shape.length) 0 = 0) (yn : y.nums = []) (yi : y.items = []) : joinE last y x = 0 ∧ joinS last y x = x := by
  have hax := jx_lt (last := last) h.p
  have hs := (right_ok hx).2.1
  have h' := h.symm
  have ha' := h.agr_symm ha
  rw [← h.e] at hax ha' hz
  have hax2 : jx last y.shape.length < x.shape.length := by rw [h.e]; exact jx_lt h.p
  obtain ⟨t1, t2⟩ := agr_cut (by have := h.e; omega) ha'
  have hS : jS last y x = x.shape := by
    rw [h'.S, hz, Int.zero_add]
    apply getD_ext (by rw [List.length_set, h.e])
    intro i hi
    rw [List.length_set] at hi
    by_cases c : i = jx last y.shape.length
    · subst c; simp [List.getD_eq_getElem?_getD, List.getElem?_set, hi]
    · rw [← ha' i hi c]
      simp [List.getD_eq_getElem?_getD, List.getElem?_set, hi, Ne.symm c]
  have wy : wtS y = 0 := by rw [wt_right hy, yn, yi]; rfl
  have wx := (right_iff.1 hx).2.2.2
  have e0 : joinE last y x = 0 := by
    rw [h'.E0 hy hx hk.symm ha', if_neg]
    rw [hS, hs, wy, wt_right hx]
    rintro (q | q)
    · cases q
    · omega
  refine ⟨e0, ?_⟩
  obtain ⟨l1, l2⟩ := lens hx
  have hp := shp_len hs hax2
  have e2 := joinS_yes e0
  have hsh := (h'.S (last := last)).symm.trans hS
  rw [e2, h'.form, hsh]
  rw [show shP y.shape y.shape (jx last y.shape.length) = 0 from by unfold shP; rw [hz]; simp, joinL_l0, joinL_l0, ← shP_congr t2, ← shM_congr t1, hp, take_all l1, take_all l2, ← hk, Arr.eta]
theorem joinL_assoc' {α : Type} {p q s N1 N2 N3 : Nat} {a b c : List α} {m : Nat} (hp : m * p = N1) (hq : m * q = N2) (hs : m * s = N3) (ha : a = [] ∧ b = [] ∧ c = [] ∨ a.length = N1 ∧ b.length = N2 ∧ c.length = N3) : joinL (p + q) s (joinL p q a b m) c m = joinL p (q + s) a (joinL q s b c m) m := by
  rcases ha with ⟨rfl, rfl, rfl⟩ | ⟨h1, h2, h3⟩
  · rw [joinL_nil, joinL_nil, joinL_nil, joinL_nil]
  · exact joinL_assoc (by omega) (by omega) (by omega)
theorem shP_add {s t u v : List Int} {k : Nat} (hv : v.getD k 0 = t.getD k 0 + u.getD k 0) (ht : 0 ≤ t.getD k 0) (hu : 0 ≤ u.getD k 0) (hs : ∀ d ∈ s, 0 ≤ d) : shP s v k = shP s t k + shP s u k := by
  have r0 : 0 ≤ cnt (s.drop (k + 1)) := cnt_nonneg fun d hd => hs d (List.mem_of_mem_drop hd)
  unfold shP
  rw [hv, Int.add_mul]
  have := Int.mul_nonneg ht r0
  have := Int.mul_nonneg hu r0
  omega
theorem getD_set_eq {s : List Int} {k : Nat} (h : k < s.length) (d : Int) : (s.set k d).getD k 0 = d := by simp [List.getD_eq_getElem?_getD, List.getElem?_set, h]
theorem getD_set_ne {s : List Int} {k i : Nat} (h : i ≠ k) (d : Int) : (s.set k d).getD i 0 = s.getD i 0 := by simp [List.getD_eq_getElem?_getD, List.getElem?_set, Ne.symm h]
theorem set_set_same (s : List Int) (k : Nat) (d e : Int) : (s.set k d).set k e = s.set k e := by simp
theorem join_assoc (h : Eqr x y) (g : Eqr y z) (j1 : JoinOk last x y) (j2 : JoinOk last y z) :
    joinE last (joinA last x y) z = joinE last x (joinA last y z) ∧ joinS last (joinA last x y) z = joinS last x (joinA last y z) := by
  have ra := right_join j1
  have rb := right_join j2
  have ax1 := jx_lt (last := last) h.p
  have sx := (shapeB_iff.1 (right_ok j1.x).2.1).2.1
  have sy := (shapeB_iff.1 (right_ok j1.y).2.1).2.1
  have sz := (shapeB_iff.1 (right_ok j2.y).2.1).2.1
  have ex := (right_ok j1.x).2.1
  have ey := (right_ok j1.y).2.1
  have ez := (right_ok j2.y).2.1
  have a1 := h.dif.1 j1.d
  have a2 := g.dif.1 j2.d
  have le1 := h.e
  have le2 := g.e
  have mA := h.form (last := last)
  have mB := g.form (last := last)
  rw [le1] at a2 mB
  obtain ⟨k, hk⟩ : ∃ k, k = jx last x.shape.length := ⟨_, rfl⟩
  rw [← hk] at ax1 a1 a2 mA mB
  have shA : (joinA last x y).shape = x.shape.set k (x.shape.getD k 0 + y.shape.getD k 0) := by rw [mA]; rfl
  have shB : (joinA last y z).shape = y.shape.set k (y.shape.getD k 0 + z.shape.getD k 0) := by rw [mB]; rfl
  have lA : (joinA last x y).shape.length = x.shape.length := by rw [shA, List.length_set]
  have lB : (joinA last y z).shape.length = x.shape.length := by rw [shB, List.length_set, le1]
  have f1 : Eqr (joinA last x y) z := ⟨by omega, by have := h.p; omega⟩
  have f2 : Eqr x (joinA last y z) := ⟨lB, h.p⟩
  have ag1 : agr (joinA last x y).shape z.shape k := fun i hi hne => by
    rw [shA, getD_set_ne hne, a1 i (by omega) hne, a2 i (by omega) hne]
  have ag2 : agr x.shape (joinA last y z).shape k := fun i hi hne => by
    rw [shB, getD_set_ne hne, a1 i (by omega) hne]
  have kA : (joinA last x y).kind = x.kind := rfl
  have kB : (joinA last y z).kind = y.kind := rfl
  have wA := wt_join j1.x j1.y j1.k j1.geo
  have wB := wt_join j2.x j2.y j2.k j2.geo
  rw [h.W] at wA
  rw [g.W] at wB
  have w1 := j1.w
  have w2 := j2.w
  rw [h.W] at w1
  rw [g.W] at w2
  have hS1 : jS last (joinA last x y) z = x.shape.set k (x.shape.getD k 0 + y.shape.getD k 0 + z.shape.getD k 0) := by
    rw [f1.S, lA, ← hk, shA, getD_set_eq ax1, set_set_same]
  have hS2 : jS last x (joinA last y z) = x.shape.set k (x.shape.getD k 0 + y.shape.getD k 0 + z.shape.getD k 0) := by
    rw [f2.S, ← hk, shB, getD_set_eq (by omega), Int.add_assoc]
  have E1 := f1.E0 (last := last) ra j2.y (by rw [kA, j1.k, j2.k]) (by rw [lA, ← hk]; exact ag1)
  have E2 := f2.E0 (last := last) j1.x rb (by rw [kB, j1.k]) (by rw [← hk]; exact ag2)
  rw [hS1] at E1
  rw [hS2] at E2
  have hE : joinE last (joinA last x y) z = joinE last x (joinA last y z) := by
    rw [E1, E2, wA, wB, show min (wtS x + wtS y) 262145 + wtS z = wtS x + min (wtS y + wtS z) 262145 by omega]
  refine ⟨hE, ?_⟩
  by_cases e0 : joinE last x (joinA last y z) = 0
  case neg => rw [joinS_no (by rw [hE]; exact e0), joinS_no e0]
  rw [joinS_yes (by rw [hE]; exact e0), joinS_yes e0]
  rw [f1.form, f2.form, lA, ← hk]
  obtain ⟨t1, t2⟩ := agr_cut le1 a1
  obtain ⟨t3, t4⟩ := agr_cut le2 a2
  have dA : (joinA last x y).shape.drop (k + 1) = x.shape.drop (k + 1) := by rw [shA, drop_set_gt]
  have tA : (joinA last x y).shape.take k = x.shape.take k := by rw [shA, take_set_le]
  have gA : (joinA last x y).shape.getD k 0 = x.shape.getD k 0 + y.shape.getD k 0 := by rw [shA, getD_set_eq ax1]
  have gB : (joinA last y z).shape.getD k 0 = y.shape.getD k 0 + z.shape.getD k 0 := by rw [shB, getD_set_eq (by omega)]
  have x0 := sx _ (getD_mem ax1)
  have y0 := sy _ (getD_mem (show k < y.shape.length by omega))
  have z0 := sz _ (getD_mem (show k < z.shape.length by omega))
  have nA : (joinA last x y).nums = joinL (shP x.shape x.shape k) (shP x.shape y.shape k) x.nums y.nums (shM x.shape k) := by rw [mA]; rfl
  have iA : (joinA last x y).items = joinL (shP x.shape x.shape k) (shP x.shape y.shape k) x.items y.items (shM x.shape k) := by rw [mA]; rfl
  have nB : (joinA last y z).nums = joinL (shP x.shape y.shape k) (shP x.shape z.shape k) y.nums z.nums (shM x.shape k) := by rw [mB, shP_congr t2, shP_congr t2, shM_congr t1]; rfl
  have iB : (joinA last y z).items = joinL (shP x.shape y.shape k) (shP x.shape z.shape k) y.items z.items (shM x.shape k) := by rw [mB, shP_congr t2, shP_congr t2, shM_congr t1]; rfl
  have p1 : shP (joinA last x y).shape (joinA last x y).shape k = shP x.shape x.shape k + shP x.shape y.shape k := by rw [shP_congr dA]; exact shP_add gA x0 y0 sx
  have p2 : shP (joinA last x y).shape z.shape k = shP x.shape z.shape k := shP_congr dA
  have p3 : shP x.shape (joinA last y z).shape k = shP x.shape y.shape k + shP x.shape z.shape k := shP_add gB y0 z0 sx
  have p4 : shM (joinA last x y).shape k = shM x.shape k := shM_congr tA
  have N1 := shp_len ex ax1
  have N2 := shp_len ey (k := k) (by omega)
  have N3 := shp_len ez (k := k) (by omega)
  rw [shP_congr t2, shM_congr t1] at N2
  rw [shP_congr (t4.trans t2), shM_congr (t3.trans t1)] at N3
  have h1 := joinL_assoc' (a := x.nums) (b := y.nums) (c := z.nums) N1 N2 N3
  have h2 := joinL_assoc' (a := x.items) (b := y.items) (c := z.items) N1 N2 N3
  have kk := right_ok j1.x
  have ky := right_ok j1.y
  have kz := right_ok j2.y
  have jk1 := j1.k
  have jk2 := j2.k
  rw [kA, p1, p2, p3, p4, nA, iA, nB, iB, gA, gB, shA, set_set_same, ← Int.add_assoc]
  rw [h1, h2]
  · rcases kk.2.2 with ⟨k1, q1, q2⟩ | ⟨k1, q1, q2⟩
    · have a := ky.2.2; have b := kz.2.2; right; omega
    · have a := ky.2.2; have b := kz.2.2; left
      exact ⟨List.length_eq_zero_iff.1 (by omega), List.length_eq_zero_iff.1 (by omega), List.length_eq_zero_iff.1 (by omega)⟩
  · rcases kk.2.2 with ⟨k1, q1, q2⟩ | ⟨k1, q1, q2⟩
    · have a := ky.2.2; have b := kz.2.2; left
      exact ⟨List.length_eq_zero_iff.1 (by omega), List.length_eq_zero_iff.1 (by omega), List.length_eq_zero_iff.1 (by omega)⟩
    · have a := ky.2.2; have b := kz.2.2; right; omega
/-- joined along the first axis: one list behind the other -/
theorem join_first (h : Eqr x y) (j : JoinOk false x y) : (joinA false x y).nums = x.nums ++ y.nums ∧ (joinA false x y).items = x.items ++ y.items ∧ (joinA false x y).shape.getD 0 0 = x.shape.getD 0 0 + y.shape.getD 0 0 ∧ (joinA false x y).shape.length = x.shape.length := by
  have hp := h.p
  have hz : jx false x.shape.length = 0 := rfl
  have m := h.form (last := false)
  rw [hz] at m
  have a1 := h.dif.1 j.d
  rw [hz] at a1
  obtain ⟨t1, t2⟩ := agr_cut h.e a1
  have N1 := shp_len (right_ok j.x).2.1 (k := 0) (by omega)
  have N2 := shp_len (right_ok j.y).2.1 (k := 0) (by have := h.e; omega)
  rw [shP_congr t2, shM_congr t1] at N2
  have hM : shM x.shape 0 = 1 := by unfold shM; rw [List.take_zero, cnt_nil]; rfl
  rw [hM, Nat.one_mul] at N1 N2
  have kk := (right_ok j.x).2.2
  have ky := (right_ok j.y).2.2
  have jk := j.k
  rw [m, hM, N1, N2]
  refine ⟨?_, ?_, getD_set_eq (Nat.pos_of_ne_zero hp) _, List.length_set ..⟩
  · rcases kk with ⟨k1, q1, q2⟩ | ⟨k1, q1, q2⟩
    · show joinL _ _ x.nums y.nums 1 = _
      rw [List.length_eq_zero_iff.1 q2, List.length_eq_zero_iff.1 (show y.nums.length = 0 by omega), joinL_nil]; rfl
    · exact joinL_1 (by omega) (by omega)
  · rcases kk with ⟨k1, q1, q2⟩ | ⟨k1, q1, q2⟩
    · exact joinL_1 (by omega) (by omega)
    · show joinL _ _ x.items y.items 1 = _
      rw [List.length_eq_zero_iff.1 q2, List.length_eq_zero_iff.1 (show y.items.length = 0 by omega), joinL_nil]; rfl
end
end Go.Proofs.Ytdpdcjadedcglaa
