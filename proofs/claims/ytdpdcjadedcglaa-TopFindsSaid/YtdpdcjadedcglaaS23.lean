/- What indexing computes: plain functions, and their plain laws. No program. Conditions: those of each lemma. -/
import Derived.Test.YtdpdcjadedcglaaS26
set_option linter.unusedVariables false
set_option maxRecDepth 20000
set_option linter.unusedSimpArgs false
namespace Go.Proofs.Ytdpdcjadedcglaa
/-- n is no index of an axis of d -/
def outB (d n : Int) : Bool := decide (n < 0 ∨ d ≤ n)
def seqI (b : Int) (n : Nat) : List Int := (List.range n).map fun k : Nat => b + (k : Int)
/-- the offsets of all combinations of indices, in order -/
def offP : List (List Int) → List Int → Int → List Int
  | [], s, off => seqI (off * cnt s) (cnt s).toNat
  | l :: ls, s, off => l.flatMap fun n => offP ls (s.drop 1) (off * s.getD 0 0 + n)
def offR : List Int → List (List Int) → Int → List Int
  | [], _, at_ => [at_]
  | d :: s, [], at_ => (seqI 0 d.toNat).flatMap fun i => offR s [] (at_ + i * cnt s)
  | _ :: s, l :: ls, at_ => l.flatMap fun i => offR s ls (at_ + i * cnt s)
theorem seqI_succ (b : Int) (n : Nat) : seqI b (n + 1) = seqI b n ++ [b + (n : Int)] := by simp [seqI, List.range_succ]
theorem seqI_zero (b : Int) : seqI b 0 = [] := rfl
theorem seqI_len (b : Int) (n : Nat) : (seqI b n).length = n := by simp [seqI]
theorem mem_seqI {b : Int} {n : Nat} {i : Int} : i ∈ seqI b n ↔ ∃ k : Nat, k < n ∧ i = b + (k : Int) := by
  simp only [seqI, List.mem_map, List.mem_range]
  exact ⟨fun ⟨k, h, e⟩ => ⟨k, h, e.symm⟩, fun ⟨k, h, e⟩ => ⟨k, h, e.symm⟩⟩
theorem seqI_add (b : Int) (n m : Nat) : seqI b (n + m) = seqI b n ++ seqI (b + (n : Int)) m := by
  induction m with
  | zero => simp [seqI_zero]
  | succ m ih => rw [← Nat.add_assoc, seqI_succ, ih, seqI_succ, List.append_assoc]; congr 2; simp; omega
theorem flat_snoc {α β : Type} (l : List α) (x : α) (f : α → List β) : (l ++ [x]).flatMap f = l.flatMap f ++ f x := by simp
theorem seqI_mul (b : Int) (d c : Nat) : (seqI 0 d).flatMap (fun i => seqI ((b + i) * (c : Int)) c) = seqI (b * (c : Int)) (d * c) := by
  induction d with
  | zero => simp [seqI_zero]
  | succ d ih =>
    rw [seqI_succ, flat_snoc, ih, Nat.succ_mul, seqI_add]
    congr 2
    simp only [Int.zero_add, Int.add_mul, Int.natCast_mul]
theorem flat_congr {α β : Type} {l : List α} {f g : α → List β} (h : ∀ x ∈ l, f x = g x) : l.flatMap f = l.flatMap g := by
  induction l with
  | nil => rfl
  | cons x l ih => rw [List.flatMap_cons, List.flatMap_cons, h x (List.mem_cons_self ..), ih fun y hy => h y (List.mem_cons_of_mem _ hy)]
theorem cnt_nn {s : List Int} (h : ∀ d ∈ s, 0 ≤ d) : 0 ≤ cnt s := by
  unfold cnt
  split
  · exact Int.le_refl _
  · have := prodNZ_pos h; omega
theorem offR_eq : ∀ (s : List Int) (ls : List (List Int)) (off : Int), ls.length ≤ s.length → (∀ d ∈ s, 0 ≤ d) → offR s ls (off * cnt s) = offP ls s off
  | [], [], off, _, _ => by simp [offR, offP, cnt_nil, seqI]
  | [], l :: ls, off, h, _ => by simp at h
  | d :: s, [], off, _, hn => by
    have hs : ∀ x ∈ s, 0 ≤ x := fun x hx => hn x (List.mem_cons_of_mem _ hx)
    have hd := hn d (List.mem_cons_self ..)
    have hc := cnt_nn hs
    have e1 : ∀ i : Int, off * cnt (d :: s) + i * cnt s = (off * d + i) * cnt s := fun i => by rw [cnt_cons1, ← Int.mul_assoc, Int.add_mul]
    simp only [offR]
    rw [flat_congr fun i _ => by rw [e1 i, offR_eq s [] (off * d + i) (Nat.zero_le _) hs]]
    simp only [offP]
    obtain ⟨c, hcc⟩ : ∃ c : Nat, cnt s = c := ⟨(cnt s).toNat, by omega⟩
    obtain ⟨e, hee⟩ : ∃ e : Nat, d = e := ⟨d.toNat, by omega⟩
    rw [cnt_cons1, hcc, hee]
    have := seqI_mul (off * (e : Int)) e c
    simp only [Int.toNat_natCast] at this ⊢
    rw [this, Int.mul_assoc]
    rfl
  | d :: s, l :: ls, off, h, hn => by
    have hs : ∀ x ∈ s, 0 ≤ x := fun x hx => hn x (List.mem_cons_of_mem _ hx)
    have e1 : ∀ i : Int, off * cnt (d :: s) + i * cnt s = (off * d + i) * cnt s := fun i => by rw [cnt_cons1, ← Int.mul_assoc, Int.add_mul]
    simp only [offR, offP]
    refine flat_congr fun i _ => ?_
    rw [e1 i, offR_eq s ls (off * d + i) (by simpa using h) hs]
    simp
section
variable {α : Type}
/-- the elements at some offsets -/
def gatL (l : List α) (o : List Int) : List α := o.flatMap fun i => (l.drop i.toNat).take 1
theorem gatL_nil (l : List α) : gatL l [] = [] := rfl
theorem gatL_snoc (l : List α) (o : List Int) (i : Int) : gatL l (o ++ [i]) = gatL l o ++ (l.drop i.toNat).take 1 := flat_snoc _ _ _
theorem gatL_append (l : List α) (o p : List Int) : gatL l (o ++ p) = gatL l o ++ gatL l p := by simp [gatL]
theorem gatL_empty (o : List Int) : gatL ([] : List α) o = [] := by simp [gatL]
theorem gatL_le (l : List α) (o : List Int) : (gatL l o).length ≤ o.length := by
  induction o with
  | nil => simp [gatL]
  | cons i o ih =>
    have : gatL l (i :: o) = (l.drop i.toNat).take 1 ++ gatL l o := by simp [gatL]
    rw [this, List.length_append, List.length_cons]
    simp only [List.length_take]
    omega
theorem gatL_len {l : List α} {o : List Int} (h : ∀ i ∈ o, 0 ≤ i ∧ i < (l.length : Int)) : (gatL l o).length = o.length := by
  induction o with
  | nil => simp [gatL]
  | cons i o ih =>
    have : gatL l (i :: o) = (l.drop i.toNat).take 1 ++ gatL l o := by simp [gatL]
    rw [this, List.length_append, List.length_cons, ih fun j hj => h j (List.mem_cons_of_mem _ hj)]
    have := h i (List.mem_cons_self ..)
    simp only [List.length_take, List.length_drop]
    omega
theorem mem_gatL {l : List α} {o : List Int} {x : α} (h : x ∈ gatL l o) : x ∈ l := by
  simp only [gatL, List.mem_flatMap] at h
  obtain ⟨i, _, hx⟩ := h
  exact List.mem_of_mem_drop (List.mem_of_mem_take hx)
end
def gatA (y : Arr) (s o : List Int) : Arr := .mk y.kind s (gatL y.nums o) (gatL y.items o)
def gatE (y : Arr) (o : List Int) : Int := if y.kind = 3 ∧ 262144 < (o.length : Int) + sumW (gatL y.items o) then 21 else 0
theorem gatL_step {α : Type} {l : List α} {o : List Int} {m t : Nat} (hm : m < o.length) (ht : o.getD m 0 = (t : Int)) (hl : t < l.length) : gatL l (o.take (m + 1)) = gatL l (o.take m) ++ [l[t]] := by
  rw [take_succ_getD hm, gatL_snoc, ht, Int.toNat_natCast]
  congr 1
  rw [List.drop_eq_getElem_cons hl]
  rfl
/-- what a choice of boxes weighs -/
def gatW (y : Arr) (o : List Int) : Int := (o.length : Int) + sumW (gatL y.items o)
theorem gatE_eq (y : Arr) (o : List Int) : gatE y o = if y.kind = 3 ∧ 262144 < gatW y o then 21 else 0 := rfl
theorem gatW_nil (y : Arr) : gatW y [] = 0 := by simp [gatW, gatL, sumW]
theorem gatW_nn (y : Arr) (o : List Int) : 0 ≤ gatW y o := by have := sumW_nn (gatL y.items o); unfold gatW; omega
theorem gatW_app (y : Arr) (o p : List Int) : gatW y (o ++ p) = gatW y o + gatW y p := by
  unfold gatW; rw [gatL_append, sumW_append, List.length_append]; omega
theorem gatW_step {y : Arr} {o : List Int} {m t : Nat} (hm : m < o.length) (ht : o.getD m 0 = (t : Int)) (hl : t < y.items.length) : gatW y (o.take (m + 1)) = gatW y (o.take m) + (1 + wtS y.items[t]) := by
  unfold gatW
  rw [gatL_step hm ht hl, sumW_append, List.length_take, List.length_take]
  simp only [sumW]
  omega
theorem gatW_mono (y : Arr) (o : List Int) (m : Nat) : gatW y (o.take m) ≤ gatW y o := by
  have h := gatW_app y (o.take m) (o.drop m)
  rw [List.take_append_drop] at h
  have := gatW_nn y (o.drop m)
  omega
def gatS (y : Arr) (s o : List Int) : Arr := if gatE y o = 0 then gatA y s o else .zero
theorem gatS_yes {y : Arr} {s o : List Int} (h : gatE y o = 0) : gatS y s o = gatA y s o := if_pos h
theorem gatS_no {y : Arr} {s o : List Int} (h : gatE y o ≠ 0) : gatS y s o = .zero := if_neg h
/-- a choice by index lists -/
def chsSh (ls : List Arr) (y : Arr) : List Int := ls.flatMap Arr.shape ++ y.shape.drop ls.length
def chsBad : List Arr → List Int → Bool
  | [], _ => false
  | l :: ls, s => l.nums.any (outB (s.getD 0 0)) || chsBad ls (s.drop 1)
def chsO (ls : List Arr) (y : Arr) : List Int := offP (ls.map Arr.nums) y.shape 0
def chsE (ls : List Arr) (y : Arr) : Int := if shapeB (chsSh ls y) = false then 21 else if chsBad ls y.shape = true then 18 else gatE y (chsO ls y)
def chsS (ls : List Arr) (y : Arr) : Arr := if chsE ls y = 0 then gatA y (chsSh ls y) (chsO ls y) else .zero
/-- an array with an axis -/
def unsc (y : Arr) : Arr := if y.shape.length = 0 then .mk y.kind [1] y.nums y.items else y
def frmE (x y : Arr) : Int := if rightS x ≠ 0 ∨ rightS y ≠ 0 then 1 else if x.kind ≠ 1 then 14 else chsE [x] (unsc y)
def frmS (x y : Arr) : Arr := if frmE x y = 0 then gatA y (x.shape ++ celL y) (chsO [x] (unsc y)) else .zero
end Go.Proofs.Ytdpdcjadedcglaa
