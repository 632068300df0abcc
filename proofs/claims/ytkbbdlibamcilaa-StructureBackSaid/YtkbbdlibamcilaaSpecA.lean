/- Plain functions on arrays: validity, size, weight, depth. No program. Conditions: those of each lemma. -/
import Derived.Test.YtkbbdlibamcilaaSpec
set_option linter.unusedVariables false
set_option linter.unusedSimpArgs false
namespace Go.Proofs.Ytkbbdlibamcilaa

def numB (n : Int) : Bool := decide (-4611686018427387903 ≤ n ∧ n ≤ 4611686018427387903)
def chrB (n : Int) : Bool := decide (0 ≤ n ∧ n ≤ 1114111 ∧ (n < 55296 ∨ 57343 < n))
def negB (d : Int) : Bool := decide (d < 0)
/-- is n an element of kind k? -/
def elemB (k n : Int) : Bool := if k = 1 then numB n else if k = 2 then chrB n else true
/-- the first error of everything but the elements -/
def formE (k : Int) (s : List Int) (nn ni : Nat) : Int :=
  if ¬ (k = 1 ∨ k = 2 ∨ k = 3) then 14 else if 8 < s.length then 15 else if s.any negB = true then 16 else if shapeB s = false then 21
  else if k = 3 then (if (ni : Int) ≠ cnt s ∨ nn ≠ 0 then 16 else 0) else (if (nn : Int) ≠ cnt s ∨ ni ≠ 0 then 16 else 0)
/-- what the items leave -/
def chkEnd : Option (Int × Int) → Int × Int × Int
  | none => (17, 0, 0)
  | some r => if 16 < r.1 ∨ 262144 < r.2 then (21, 0, 0) else (0, r.1, r.2)
mutual
/-- the first error, the depth and the weight of an array -/
def chk : Arr → Int × Int × Int
  | .mk k s n l => if formE k s n.length l.length ≠ 0 then (formE k s n.length l.length, 0, 0) else if n.any (fun x => !elemB k x) = true then (17, 0, 0) else
    chkEnd (chkL l 0 ((n.length : Int) + l.length))
def chkL : List Arr → Int → Int → Option (Int × Int)
  | [], d, w => some (d, w)
  | x :: l, d, w => if (chk x).1 ≠ 0 then none else chkL l (max d ((chk x).2.1 + 1)) (min (w + (chk x).2.2) 262145)
end
def rightS (a : Arr) : Int := (chk a).1
theorem chk_eq (a : Arr) : chk a = if formE a.kind a.shape a.nums.length a.items.length ≠ 0 then (formE a.kind a.shape a.nums.length a.items.length, 0, 0) else if a.nums.any (fun x => !elemB a.kind x) = true then (17, 0, 0) else
    chkEnd (chkL a.items 0 ((a.nums.length : Int) + a.items.length)) := by
  cases a; simp only [chk, Arr.kind, Arr.shape, Arr.nums, Arr.items]; rfl
theorem chkL_nn : ∀ {l : List Arr} {d w : Int} {r : Int × Int}, (∀ x ∈ l, 0 ≤ (chk x).2.1 ∧ 0 ≤ (chk x).2.2) → 0 ≤ d → 0 ≤ w → chkL l d w = some r → 0 ≤ r.1 ∧ 0 ≤ r.2
  | [], d, w, r, _, hd, hw, h => by
    simp only [chkL, Option.some.injEq] at h
    subst h; exact ⟨hd, hw⟩
  | x :: l, d, w, r, hx, hd, hw, h => by
    simp only [chkL] at h
    have h1 := hx x (List.mem_cons_self ..)
    split at h
    · cases h
    · exact chkL_nn (fun y hy => hx y (List.mem_cons_of_mem _ hy)) (by omega) (by omega) h
theorem chk_bd (a : Arr) : (0 ≤ (chk a).2.1 ∧ (chk a).2.1 ≤ 16) ∧ (0 ≤ (chk a).2.2 ∧ (chk a).2.2 ≤ 262144) := by
  induction a using Arr.ind with
  | h a ih =>
    rw [chk_eq]
    split
    · simp
    split
    · simp
    cases hr : chkL a.items 0 ((a.nums.length : Int) + a.items.length) with
    | none => simp [chkEnd]
    | some r =>
      simp only [chkEnd]
      have := chkL_nn (fun x hx => ⟨(ih x hx).1.1, (ih x hx).2.1⟩) (by omega) (by omega) hr
      split
      · simp
      · simp; omega
theorem formE_zero {k : Int} {s : List Int} {nn ni : Nat} (h : formE k s nn ni = 0) : (k = 1 ∨ k = 2 ∨ k = 3) ∧ shapeB s = true ∧ ((k = 3 ∧ (ni : Int) = cnt s ∧ nn = 0) ∨ (k ≠ 3 ∧ (nn : Int) = cnt s ∧ ni = 0)) := by
  unfold formE at h
  split at h
  · omega
  · rename_i hk
    split at h
    · omega
    · split at h
      · omega
      · split at h
        · omega
        · rename_i hs
          have hs' : shapeB s = true := by simpa using hs
          split at h
          · rename_i h3
            split at h
            · omega
            · rename_i hh
              exact ⟨Or.inr (Or.inr h3), hs', Or.inl ⟨h3, by omega, by omega⟩⟩
          · rename_i h3
            split at h
            · omega
            · rename_i hh
              exact ⟨by omega, hs', Or.inr ⟨h3, by omega, by omega⟩⟩
theorem formE_kind {k : Int} {s : List Int} {nn ni : Nat} (h1 : k ≠ 1) (h2 : k ≠ 2) (h3 : k ≠ 3) : formE k s nn ni = 14 := by
  unfold formE; rw [if_pos (by omega)]
theorem formE_rank {k : Int} {s : List Int} {nn ni : Nat} (hk : k = 1 ∨ k = 2 ∨ k = 3) (h : 8 < s.length) : formE k s nn ni = 15 := by
  unfold formE; rw [if_neg (by omega), if_pos h]
theorem formE_neg {k : Int} {s : List Int} {nn ni : Nat} (hk : k = 1 ∨ k = 2 ∨ k = 3) (h : ¬ 8 < s.length) (hn : s.any negB = true) : formE k s nn ni = 16 := by
  unfold formE; rw [if_neg (by omega), if_neg h, if_pos hn]
theorem formE_limit {k : Int} {s : List Int} {nn ni : Nat} (hk : k = 1 ∨ k = 2 ∨ k = 3) (h : ¬ 8 < s.length) (hn : s.any negB = false) (hs : shapeB s = false) : formE k s nn ni = 21 := by
  unfold formE; rw [if_neg (by omega), if_neg h, if_neg (by simp [hn]), if_pos hs]
theorem formE_last3 {k : Int} {s : List Int} {nn ni : Nat} (hk : k = 3) (h : ¬ 8 < s.length) (hn : s.any negB = false) (hs : shapeB s = true) : formE k s nn ni = if (ni : Int) ≠ cnt s ∨ nn ≠ 0 then 16 else 0 := by
  unfold formE; rw [if_neg (by omega), if_neg h, if_neg (by simp [hn]), if_neg (by simp [hs]), if_pos hk]
theorem formE_last {k : Int} {s : List Int} {nn ni : Nat} (hk : k = 1 ∨ k = 2) (h : ¬ 8 < s.length) (hn : s.any negB = false) (hs : shapeB s = true) : formE k s nn ni = if (nn : Int) ≠ cnt s ∨ ni ≠ 0 then 16 else 0 := by
  unfold formE; rw [if_neg (by omega), if_neg h, if_neg (by simp [hn]), if_neg (by simp [hs]), if_neg (by omega)]
/-- the number of elements, by kind -/
def szN (k : Int) (nn ni : Nat) : Nat := if k = 1 ∨ k = 2 then nn else if k = 3 then ni else 0
mutual
/-- the weight, at most 262145 -/
def wtS : Arr → Int
  | .mk k _ n l => if k = 3 then wtL l (min (l.length : Int) 262145) else min (szN k n.length l.length : Int) 262145
def wtL : List Arr → Int → Int
  | [], w => w
  | x :: l, w => wtL l (min (w + wtS x) 262145)
end
theorem wtS_eq (a : Arr) : wtS a = if a.kind = 3 then wtL a.items (min (a.items.length : Int) 262145) else min (szN a.kind a.nums.length a.items.length : Int) 262145 := by
  cases a; simp only [wtS, Arr.kind, Arr.nums, Arr.items]; rfl
theorem wtL_nn : ∀ {l : List Arr} {w : Int}, (∀ x ∈ l, 0 ≤ wtS x) → 0 ≤ w → 0 ≤ wtL l w
  | [], w, _, h => by simpa only [wtL] using h
  | x :: l, w, hx, h => by
    simp only [wtL]
    have := hx x (List.mem_cons_self ..)
    exact wtL_nn (fun y hy => hx y (List.mem_cons_of_mem _ hy)) (by omega)
theorem wtL_le : ∀ {l : List Arr} {w : Int}, w ≤ 262145 → wtL l w ≤ 262145
  | [], w, h => by simpa only [wtL] using h
  | x :: l, w, h => by simp only [wtL]; exact wtL_le (by omega)
theorem wtS_bd (a : Arr) : 0 ≤ wtS a ∧ wtS a ≤ 262145 := by
  induction a using Arr.ind with
  | h a ih =>
    rw [wtS_eq]
    split
    · exact ⟨wtL_nn (fun x hx => (ih x hx).1) (by omega), wtL_le (by omega)⟩
    · omega
theorem wtL_cap : ∀ {l : List Arr} {w : Int}, 262145 ≤ w → wtL l (min w 262145) = 262145
  | [], w, h => by simp only [wtL]; omega
  | x :: l, w, h => by
    simp only [wtL]
    have := wtS_bd x
    rw [show min (min w 262145 + wtS x) 262145 = min (262145 + wtS x) 262145 from by omega]
    exact wtL_cap (by omega)
theorem wtL_step (x : Arr) (l : List Arr) {w : Int} (h : 0 ≤ w) : wtL (x :: l) (min w 262145) = wtL l (min (w + wtS x) 262145) := by
  simp only [wtL]
  have := wtS_bd x
  rw [show min (min w 262145 + wtS x) 262145 = min (w + wtS x) 262145 from by omega]
theorem chkL_wt : ∀ {l : List Arr} {d w : Int} {r : Int × Int}, (∀ x ∈ l, (chk x).1 = 0 → (chk x).2.2 = wtS x) → chkL l d w = some r → r.2 = wtL l w
  | [], d, w, r, _, h => by simp only [chkL, Option.some.injEq] at h; subst h; simp only [wtL]
  | x :: l, d, w, r, hx, h => by
    simp only [chkL] at h
    split at h
    · cases h
    · rename_i h0
      have h1 := hx x (List.mem_cons_self ..) (by omega)
      simp only [wtL]
      rw [← h1]
      exact chkL_wt (fun y hy => hx y (List.mem_cons_of_mem _ hy)) h
/-- what is known of an array whose elements have been looked into -/
theorem chk_ok {a : Arr} (h : (chk a).1 = 0) : formE a.kind a.shape a.nums.length a.items.length = 0 ∧ a.nums.any (fun x => !elemB a.kind x) = false ∧ ∃ r, chkL a.items 0 ((a.nums.length : Int) + a.items.length) = some r ∧ ¬ (16 < r.1 ∨ 262144 < r.2) ∧ chk a = (0, r.1, r.2) := by
  rw [chk_eq] at h ⊢
  split at h
  · rename_i h1; exact absurd h h1
  · rename_i h1
    split at h
    · omega
    · rename_i h2
      rw [if_neg h1, if_neg h2]
      cases hr : chkL a.items 0 ((a.nums.length : Int) + a.items.length) with
      | none => rw [hr] at h; simp [chkEnd] at h
      | some r =>
        rw [hr] at h
        simp only [chkEnd] at h ⊢
        split at h
        · omega
        · rename_i h3
          exact ⟨by simpa using h1, by simpa using h2, r, rfl, h3, by rw [if_neg h3]⟩
theorem form_items {k : Int} {s : List Int} {nn ni : Nat} (h : formE k s nn ni = 0) (hk : k ≠ 3) : ni = 0 := by
  obtain ⟨_, _, h1 | h1⟩ := formE_zero h <;> omega
theorem form_len {k : Int} {s : List Int} {nn ni : Nat} (h : formE k s nn ni = 0) : nn + ni ≤ 65536 := by
  obtain ⟨_, h2, h1 | h1⟩ := formE_zero h <;> (have := cnt_le h2; omega)
theorem chk_wtL {a : Arr} (hf : formE a.kind a.shape a.nums.length a.items.length = 0) : wtS a = wtL a.items ((a.nums.length : Int) + a.items.length) := by
  have hl := form_len hf
  rw [wtS_eq]
  obtain ⟨hk, _, ⟨h3, _, h4⟩ | ⟨h3, _, h4⟩⟩ := formE_zero hf
  · rw [if_pos h3, h4]
    congr 1
    omega
  · rw [if_neg h3]
    have : a.items = [] := List.eq_nil_of_length_eq_zero h4
    rw [this]
    simp only [wtL, szN]
    rw [if_pos (by omega)]
    simp
    omega
theorem chk_wt (a : Arr) : (chk a).1 = 0 → (chk a).2.2 = wtS a := by
  induction a using Arr.ind with
  | h a ih =>
    intro h
    obtain ⟨hf, _, r, hr, h3, he⟩ := chk_ok h
    rw [he, chk_wtL hf]
    exact chkL_wt (fun x hx => ih x hx) hr
/-- the product of the positive numbers, at most 65537 -/
def posOf (s : List Int) : List Int := s.map fun d => max d 0
def prodC (s : List Int) : Int := if prodNZ (posOf s) ≤ 65536 then prodNZ (posOf s) else 65537
theorem posOf_nn (s : List Int) : ∀ d ∈ posOf s, 0 ≤ d := by
  intro d hd
  obtain ⟨x, _, rfl⟩ := List.mem_map.1 hd
  omega
theorem posOf_id {s : List Int} (h : ∀ d ∈ s, 0 ≤ d) : posOf s = s := by
  unfold posOf
  conv => rhs; rw [← List.map_id s]
  exact List.map_congr_left fun d hd => by have := h d hd; simp; omega
theorem posOf_take (s : List Int) (k : Nat) : posOf (s.take k) = (posOf s).take k := by simp [posOf]
theorem posOf_getD (s : List Int) (k : Nat) : (posOf s).getD k 0 = max (s.getD k 0) 0 := by
  unfold posOf
  by_cases h : k < s.length
  · simp [h]
  · simp [h]
theorem posOf_len (s : List Int) : (posOf s).length = s.length := by simp [posOf]
/-- the first error of a list of dimensions -/
def dimsE (s : List Int) : Int := if 8 < s.length then 15 else if s.any negB = true then 16 else if 65536 < prodNZ (posOf s) then 21 else 0
/-- the size of a list of dimensions -/
def cntC (s : List Int) : Int := if 0 ∈ s then 0 else prodC s
theorem any_negB {s : List Int} : s.any negB = false ↔ ∀ d ∈ s, 0 ≤ d := by
  simp [negB, List.any_eq_false]
theorem dimsE_zero {s : List Int} : dimsE s = 0 ↔ shapeB s = true := by
  rw [shapeB_iff]
  unfold dimsE
  constructor
  · intro h
    split at h
    · omega
    · split at h
      · omega
      · rename_i h1 h2
        have h2' := any_negB.1 (by simpa using h2)
        rw [posOf_id h2'] at h
        split at h
        · omega
        · exact ⟨by omega, h2', by omega⟩
  · rintro ⟨h1, h2, h3⟩
    have := any_negB.2 h2
    rw [if_neg (by omega), if_neg (by simp [this]), posOf_id h2, if_neg (by omega)]
theorem dimsE_form {k : Int} {s : List Int} {nn ni : Nat} (hk : k = 1 ∨ k = 2 ∨ k = 3) (h : dimsE s ≠ 0) : formE k s nn ni = dimsE s := by
  unfold dimsE at *
  split at h
  · rename_i h1; rw [if_pos h1]; exact formE_rank hk h1
  · rename_i h1
    rw [if_neg h1]
    split at h
    · rename_i h2; rw [if_pos h2]; exact formE_neg hk h1 h2
    · rename_i h2
      rw [if_neg h2]
      split at h
      · rename_i h3
        rw [if_pos h3]
        have h2' : s.any negB = false := by simpa using h2
        refine formE_limit hk h1 h2' (shapeB_false fun h' => ?_)
        rw [posOf_id (any_negB.1 h2')] at h3
        omega
      · omega
theorem cntC_eq {s : List Int} (h : shapeB s = true) : cntC s = cnt s := by
  obtain ⟨h1, h2, h3⟩ := shapeB_iff.1 h
  unfold cntC cnt prodC
  rw [posOf_id h2]
  split
  · rfl
  · first | rfl | rw [if_pos h3]
theorem formE_szN {k : Int} {s : List Int} {nn ni : Nat} (hk : k = 1 ∨ k = 2 ∨ k = 3) (hs : shapeB s = true) : formE k s nn ni = if (szN k nn ni : Int) ≠ cnt s ∨ (if k = 3 then nn else ni) ≠ 0 then 16 else 0 := by
  obtain ⟨h1, h2, h3⟩ := shapeB_iff.1 hs
  have hn := any_negB.2 h2
  rcases hk with hk | hk | hk
  · rw [formE_last (Or.inl hk) (by omega) hn hs]; simp [szN, hk]
  · rw [formE_last (Or.inr hk) (by omega) hn hs]; simp [szN, hk]
  · rw [formE_last3 hk (by omega) hn hs]; simp [szN, hk]
end Go.Proofs.Ytkbbdlibamcilaa
