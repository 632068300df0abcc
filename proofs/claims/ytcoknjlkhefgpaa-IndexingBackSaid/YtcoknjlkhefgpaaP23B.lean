/- Plain laws of amending back: the cells at amended indices are the values, all others are unchanged. Conditions: those of each lemma. -/
import Derived.Test.YtcoknjlkhefgpaaP23L
import Derived.Test.YtcoknjlkhefgpaaP23A
set_option linter.unusedVariables false
set_option linter.unusedSimpArgs false
namespace Go.Proofs.Ytcoknjlkhefgpaa
theorem srcJ_get (f : Nat → Nat) (b e : Nat) : ∀ (j : Nat) (l : List Int), (srcJ f b j l)[e]? = if b ≤ e ∧ e < b + j ∧ e < l.length then some ((f (e - b) : Nat) : Int) else l[e]?
  | 0, l => by rw [if_neg (by omega)]; rfl
  | j + 1, l => by
    unfold srcJ
    rw [List.getElem?_set, srcJ_len, srcJ_get f b e j l]
    by_cases c : b + j = e
    · subst c
      by_cases h : b + j < l.length
      · rw [if_pos rfl, if_pos h, if_pos ⟨by omega, by omega, h⟩, Nat.add_sub_cancel_left]
      · rw [if_pos rfl, if_neg h, if_neg (by omega), List.getElem?_eq_none (by omega)]
    · rw [if_neg c]
      by_cases h : b ≤ e ∧ e < b + j ∧ e < l.length
      · rw [if_pos h, if_pos (by omega)]
      · rw [if_neg h, if_neg (by omega)]
theorem srcK_out (f : Nat → Nat → Nat) (n : Nat) (nums : List Int) (e : Nat) : ∀ (K : Nat) (l : List Int), (∀ k, k < K → ¬ ((nums.getD k 0).toNat * n ≤ e ∧ e < (nums.getD k 0).toNat * n + n)) → (srcK f n nums K l)[e]? = l[e]?
  | 0, _, _ => rfl
  | K + 1, l, h => by
    unfold srcK
    have h1 := h K (by omega)
    rw [srcJ_get, if_neg (by omega), srcK_out f n nums e K l fun k hk => h k (by omega)]
theorem cell_one {p q n j : Nat} (hj : j < n) (h1 : p * n ≤ q * n + j) (h2 : q * n + j < p * n + n) : p = q := by
  rcases Nat.lt_trichotomy p q with h | h | h
  · have := Nat.mul_le_mul_right n (show p + 1 ≤ q by omega)
    rw [Nat.succ_mul] at this; omega
  · exact h
  · have := Nat.mul_le_mul_right n (show q + 1 ≤ p by omega)
    rw [Nat.succ_mul] at this; omega
theorem srcK_in (f : Nat → Nat → Nat) (n : Nat) (nums : List Int) {k j : Nat} (hj : j < n) : ∀ (K : Nat) (l : List Int), k < K → (∀ q, q < K → q ≠ k → (nums.getD q 0).toNat ≠ (nums.getD k 0).toNat) → (nums.getD k 0).toNat * n + j < l.length → (srcK f n nums K l)[(nums.getD k 0).toNat * n + j]? = some ((f k j : Nat) : Int)
  | 0, _, h, _, _ => by omega
  | K + 1, l, hk, hd, hl => by
    unfold srcK
    rw [srcJ_get, srcK_len]
    by_cases c : k = K
    · subst c
      rw [if_pos ⟨by omega, by omega, hl⟩, Nat.add_sub_cancel_left]
    · rw [if_neg, srcK_in f n nums hj K l (by omega) (fun q hq => hd q (by omega)) hl]
      rintro ⟨h1, h2, _⟩
      exact hd K (by omega) (fun e => c e.symm) (cell_one hj h1 h2)
def sumG (g : Int → Int) : List Int → Int
  | [] => 0
  | i :: l => g i + sumG g l
theorem sumG_perm {g : Int → Int} {l m : List Int} (h : l.Perm m) : sumG g l = sumG g m := by
  induction h with
  | nil => rfl
  | cons x _ ih => simp only [sumG, ih]
  | swap x y l => simp only [sumG]; omega
  | trans _ _ a b => exact a.trans b
theorem sumG_snoc (g : Int → Int) (l : List Int) (i : Int) : sumG g (l ++ [i]) = sumG g l + g i := by
  induction l with
  | nil => simp [sumG]
  | cons x l ih => simp only [List.cons_append, sumG, ih]; omega
theorem nodup_sum {g : Int → Int} (g0 : ∀ i, 0 ≤ g i) : ∀ (N : Nat) (o : List Int), o.Nodup → (∀ i ∈ o, 0 ≤ i ∧ i < (N : Int)) → o.length ≤ N ∧ sumG g o ≤ sumG g (seqI 0 N)
  | 0, o, _, h => by
    cases o with
    | nil => simp [sumG, seqI_zero]
    | cons i o => have := h i (List.mem_cons_self ..); omega
  | N + 1, o, hn, h => by
    rw [seqI_succ, sumG_snoc, Int.zero_add]
    have g1 := g0 (N : Int)
    by_cases c : (N : Int) ∈ o
    · have p := List.perm_cons_erase c
      obtain ⟨i1, i2⟩ := nodup_sum g0 N (o.erase (N : Int)) (hn.erase _) fun i hi => by
        have := (hn.mem_erase_iff).1 hi
        have := h i this.2
        omega
      have e1 := p.length_eq
      have e2 := sumG_perm (g := g) p
      simp only [sumG, List.length_cons] at e1 e2
      omega
    · obtain ⟨i1, i2⟩ := nodup_sum g0 N o hn fun i hi => by
        have := h i hi
        have : i ≠ (N : Int) := fun q => c (q ▸ hi)
        omega
      omega
theorem gatW_flat (y : Arr) (f : Int → List Int) (l : List Int) : gatW y (l.flatMap f) = sumG (fun i => gatW y (f i)) l := by
  induction l with
  | nil => simp [sumG, gatW_nil]
  | cons i l ih => rw [List.flatMap_cons, gatW_app, ih]; rfl
/-- the array of indices -/
def atI (l : List Int) : Arr := .mk 1 [(l.length : Int)] l []
def atX (l : List Int) (v : Arr) : Arr := .mk 3 [2] [] [atI l, v]
structure AmOk (l : List Int) (v y : Arr) : Prop where
  ri : rightS (atI l) = 0
  rv : rightS v = 0
  ry : rightS y = 0
  k : v.kind = y.kind
  o : amO (atI l) v y = true
  b : l.any (outB (talN y)) = false
  e : agE v y (amSrc (atI l) v y) = 0
  v : amdS (atX l v) y = agA v y (amSrc (atI l) v y)
theorem amd_ok {l : List Int} {v y : Arr} (h : amdE (atX l v) y = 0) : AmOk l v y := by
  have hv : amdS (atX l v) y = agA v y (amSrc (atI l) v y) := if_pos h
  by_cases c : rightS (atX l v) = 0
  case neg => rw [amdE_r (Or.inl c)] at h; omega
  by_cases d : rightS y = 0
  case neg => rw [amdE_r (Or.inr d)] at h; omega
  have hx := (right_iff.1 c).2.2.1
  rw [amdE_i c d rfl rfl rfl] at h
  have h : amE (atI l) v y = 0 := h
  have ri : rightS (atI l) = 0 := (hx (atI l) (by simp [atX, Arr.items])).1
  have rv : rightS v = 0 := (hx v (by simp [atX, Arr.items])).1
  by_cases k : v.kind = y.kind
  case neg => rw [amE_k (Or.inr k)] at h; omega
  cases o : amO (atI l) v y with
  | false => rw [amE_o rfl k o] at h; omega
  | true =>
  cases b : l.any (outB (talN y)) with
  | true => rw [amE_b rfl k o b] at h; omega
  | false =>
  rw [amE_g rfl k o b] at h
  exact ⟨ri, rv, d, k, o, b, h, hv⟩
theorem resL_mem {α : Type} {d : α} {v y : List α} {src : List Int} (hb : ∀ e, e < src.length → src.getD e 0 < (v.length : Int)) {x : α} (hx : x ∈ resL d v y src) : x ∈ y ∨ x ∈ v := by
  obtain ⟨e, he⟩ := List.mem_iff_getElem?.1 hx
  have hlt : e < (resL d v y src).length := (List.getElem?_eq_some_iff.1 he).1
  rw [resL_len] at hlt
  rw [resL_at (by omega) (by omega)] at he
  injection he with he
  subst he
  split
  · exact Or.inl (List.getElem_mem _)
  · have := hb e (by omega)
    right
    rw [List.getD_eq_getElem?_getD, List.getElem?_eq_getElem (by omega)]
    exact List.getElem_mem _
theorem resL_full {α : Type} {d : α} {v y : List α} {src : List Int} (h : src.length = y.length) : (resL d v y src).length = y.length := by rw [resL_len]; omega
theorem AmOk.right {l : List Int} {v y : Arr} (h : AmOk l v y) : rightS (agA v y (amSrc (atI l) v y)) = 0 := by
  have hl := amSrc_len (atI l) v y
  have hb := amSrc_bd h.ri rfl h.rv h.ry h.o
  have he := h.e
  have hR := right_iff.1 h.ry
  have hV := right_iff.1 h.rv
  have hk := h.k
  generalize amSrc (atI l) v y = src at *
  rcases szA_ok h.ry with ⟨k, q, n⟩ | ⟨k, q, n⟩
  · have ny : y.nums = [] := List.eq_nil_of_length_eq_zero n
    rcases szA_ok h.rv with ⟨_, q2, n2⟩ | ⟨k2, _, _⟩
    case inr => omega
    have li : (resL .zero v.items y.items src).length = y.items.length := resL_full (by omega)
    refine right_iff.2 ⟨?_, ?_, ?_, ?_⟩
    · show formE y.kind y.shape (resL 0 v.nums y.nums src).length (resL .zero v.items y.items src).length = 0
      rw [li, ny, resL_nil]
      rw [ny] at hR
      exact hR.1
    · intro x hx
      have hx : x ∈ resL 0 v.nums y.nums src := hx
      rw [ny, resL_nil] at hx
      cases hx
    · intro x hx
      rcases resL_mem (fun e h => by have := hb e h; omega) hx with r | r
      · exact hR.2.2.1 x r
      · exact hV.2.2.1 x r
    · show ((resL 0 v.nums y.nums src).length : Int) + (resL .zero v.items y.items src).length + sumW (resL .zero v.items y.items src) ≤ 262144
      rw [li, ny, resL_nil]
      unfold agE at he
      by_cases c : 262144 < agW v y src src.length
      · rw [if_pos ⟨k, c⟩] at he; omega
      · unfold agW at c
        rw [List.take_of_length_le (by omega)] at c
        simp
        omega
  · have ni : y.items = [] := List.eq_nil_of_length_eq_zero n
    rcases szA_ok h.rv with ⟨k2, _, _⟩ | ⟨_, q2, n2⟩
    case inl => omega
    have ln : (resL 0 v.nums y.nums src).length = y.nums.length := resL_full (by omega)
    refine right_iff.2 ⟨?_, ?_, ?_, ?_⟩
    · show formE y.kind y.shape (resL 0 v.nums y.nums src).length (resL .zero v.items y.items src).length = 0
      rw [ln, ni, resL_nil]
      rw [ni] at hR
      exact hR.1
    · intro x hx
      rcases resL_mem (fun e h => by have := hb e h; omega) hx with r | r
      · exact hR.2.1 x r
      · have := hV.2.1 x r
        rw [hk] at this
        exact this
    · intro x hx
      have hx : x ∈ resL .zero v.items y.items src := hx
      rw [ni, resL_nil] at hx
      cases hx
    · show ((resL 0 v.nums y.nums src).length : Int) + (resL .zero v.items y.items src).length + sumW (resL .zero v.items y.items src) ≤ 262144
      rw [ln, ni, resL_nil]
      have := hR.2.2.2
      rw [ni] at this
      exact this
theorem AmOk.in {l : List Int} {v y : Arr} (h : AmOk l v y) {n : Int} (hn : n ∈ l) : 0 ≤ n ∧ n < (talM y : Int) := by
  have := outB_no (any_no h.b hn)
  rw [tal_nn (right_ok h.ry).2.1]
  exact this
theorem shapeB_len23 {y : Arr} (hs : shapeB y.shape = true) (hr : y.shape.length ≠ 0) {M : Nat} (h2 : M ≤ talM y) : shapeB ((M : Int) :: celL y) = true := by
  have ht := tal_nn hs
  obtain ⟨a, b, c⟩ := shapeB_iff.1 hs
  have hc := shapeB_iff.1 (celL_ok hs)
  have hp := prodNZ_pos hc.2.1
  refine shapeB_iff.2 ⟨?_, ?_, ?_⟩
  · unfold celL
    rw [List.length_cons, List.length_drop]
    omega
  · intro d hd
    rcases List.mem_cons.1 hd with q | q
    · omega
    · exact hc.2.1 d q
  · have e : prodNZ ((M : Int) :: celL y) = prodNZ [(M : Int)] * prodNZ (celL y) := prodNZ_append [(M : Int)] (celL y)
    rw [e, prodNZ_one]
    by_cases z : (M : Int) = 0
    · rw [if_pos z, Int.one_mul]; exact hc.2.2
    · rw [if_neg z]
      have e2 : talN y * prodNZ (celL y) ≤ 65536 := by
        unfold talN celL at *
        match hy : y.shape with
        | [] => rw [hy] at hr; exact absurd rfl hr
        | d :: s =>
          rw [hy] at c ht
          simp only [List.length_cons, List.getD_cons_zero] at ht ⊢
          rw [if_neg (by omega)] at ht ⊢
          have := prodNZ_append [d] s
          rw [prodNZ_one, if_neg (by omega)] at this
          simp only [List.cons_append, List.nil_append] at this
          rw [this] at c
          simpa using c
      have := Int.mul_le_mul_of_nonneg_right (show (M : Int) ≤ talN y by omega) (show 0 ≤ prodNZ (celL y) by omega)
      omega
/-- the amended array -/
def amdA (l : List Int) (v y : Arr) : Arr := agA v y (amSrc (atI l) v y)
theorem amdA_sh (l : List Int) (v y : Arr) : (amdA l v y).shape = y.shape := rfl
theorem amdA_k (l : List Int) (v y : Arr) : (amdA l v y).kind = y.kind := rfl
theorem amdA_cel (l : List Int) (v y : Arr) : celL (amdA l v y) = celL y := rfl
theorem amdA_celN (l : List Int) (v y : Arr) : celN (amdA l v y) = celN y := rfl
theorem amdA_tal (l : List Int) (v y : Arr) : talN (amdA l v y) = talN y := rfl
theorem AmOk.sz {l : List Int} {v y : Arr} (h : AmOk l v y) : szA (amdA l v y) = szA y := by
  have h1 := sz_tal h.ry
  have h2 := sz_tal h.right
  rw [h1]
  exact h2
theorem AmOk.from {l : List Int} {v y : Arr} (h : AmOk l v y) (hr : y.shape.length ≠ 0) (hn : l.Nodup) : FrOk (atI l) (amdA l v y) := by
  obtain ⟨h1, _⟩ := nodup_sum (g := fun _ => 0) (fun _ => Int.le_refl _) (talM y) l hn fun i hi => h.in hi
  exact ⟨h.ri, h.right, rfl, shapeB_len23 (y := y) (right_ok h.ry).2.1 hr h1, h.b⟩
theorem AmOk.fromE {l : List Int} {v y : Arr} (h : AmOk l v y) (hr : y.shape.length ≠ 0) (hn : l.Nodup) : frmE (atI l) (amdA l v y) = 0 := by
  have F := h.from hr hn
  rw [F.e]
  have hA : gatE (amdA l v y) (seqI 0 (szA (amdA l v y))) = 0 := gatE_all h.right
  have e1 : gatW (amdA l v y) (frO (atI l) (amdA l v y)) ≤ gatW (amdA l v y) (seqI 0 (szA (amdA l v y))) := by
    obtain ⟨_, h2⟩ := nodup_sum (g := fun i => gatW (amdA l v y) (seqI (i * (celN y : Int)) (celN y))) (fun _ => gatW_nn _ _) (talM y) l hn fun i hi => h.in hi
    rw [← gatW_flat, ← gatW_flat] at h2
    have e2 := seqI_mul 0 (talM y) (celN y)
    simp only [Int.zero_add, Int.zero_mul] at e2
    rw [e2, ← sz_tal h.ry, ← h.sz] at h2
    exact h2
  rw [gatE_eq] at hA ⊢
  rw [if_neg]
  rintro ⟨k, q⟩
  rw [if_pos ⟨k, by omega⟩] at hA
  omega
theorem nodup_get {l : List Int} (hn : l.Nodup) {k q : Nat} (hk : k < l.length) (hq : q < l.length) (hne : q ≠ k) : l.getD q 0 ≠ l.getD k 0 := by
  have hp := List.pairwise_iff_getElem.1 hn
  simp only [List.getD_eq_getElem?_getD, List.getElem?_eq_getElem hk, List.getElem?_eq_getElem hq, Option.getD_some]
  rcases Nat.lt_or_gt_of_ne hne with c | c
  · exact hp q k hq hk c
  · exact fun e => hp k q hk hq c e.symm
theorem AmOk.src {l : List Int} {v y : Arr} (h : AmOk l v y) (hn : l.Nodup) (hv : v.shape = (l.length : Int) :: celL y) {k j : Nat} (hk : k < l.length) (hj : j < celN y) :
    ∃ c : Nat, l.getD k 0 = (c : Int) ∧ c * celN y + j < szA y ∧ (amSrc (atI l) v y)[c * celN y + j]? = some ((k * celN y + j : Nat) : Int) := by
  have hM : amM (atI l) v y = 0 := if_pos hv
  have hi : ∀ {q : Nat}, q < l.length → 0 ≤ l.getD q 0 ∧ l.getD q 0 < (talM y : Int) := fun {q} hq => h.in (by
    rw [List.getD_eq_getElem?_getD, List.getElem?_eq_getElem hq]; exact List.getElem_mem _)
  obtain ⟨c, hc⟩ := Int.eq_ofNat_of_zero_le (hi hk).1
  have hc2 := (hi hk).2
  have hlt : c * celN y + j < szA y := by rw [sz_tal h.ry]; exact cell_lt (by omega) hj
  refine ⟨c, hc, hlt, ?_⟩
  have := srcK_in (ofM 0 (celN y)) (celN y) l hj l.length (List.replicate (szA y) (-1)) hk (fun q hq hne => ?_) (by rw [hc, List.length_replicate]; exact hlt)
  · rw [hc] at this
    unfold amSrc
    rw [hM]
    exact this
  · have := nodup_get hn hk hq hne
    have := hi hq
    have := hi hk
    omega
theorem gat_back {α : Type} {d : α} {v y : List α} {src l : List Int} {n : Nat} (hl : src.length = y.length) (hv : v.length = l.length * n)
    (hs : ∀ k j, k < l.length → j < n → ∃ c : Nat, l.getD k 0 = (c : Int) ∧ c * n + j < y.length ∧ src[c * n + j]? = some ((k * n + j : Nat) : Int)) : gatL (resL d v y src) (l.flatMap fun i => seqI (i * (n : Int)) n) = v := by
  have step : ∀ k, k < l.length → ∀ j, j ≤ n → gatL (resL d v y src) (seqI (l.getD k 0 * (n : Int)) j) = (v.drop (k * n)).take j := fun k hk j => by
    induction j with
    | zero => intro _; rfl
    | succ j ih =>
      intro hj
      obtain ⟨c, h1, h2, h3⟩ := hs k j hk (by omega)
      have hp : k * n + j < v.length := by rw [hv]; exact cell_lt hk (by omega)
      rw [seqI_succ, gatL_snoc, ih (by omega), h1]
      have e1 : ((c : Int) * (n : Int) + (j : Int)).toNat = c * n + j := by
        rw [← Int.natCast_mul, ← Int.natCast_add]; exact Int.toNat_natCast _
      rw [e1]
      have hr : c * n + j < (resL d v y src).length := by rw [resL_full hl]; exact h2
      have e2 : (resL d v y src)[c * n + j]? = some v[k * n + j] := by
        rw [resL_at h2 (by omega)]
        have e3 : src.getD (c * n + j) 0 = ((k * n + j : Nat) : Int) := by rw [List.getD_eq_getElem?_getD, h3]; rfl
        rw [e3, if_neg (by omega), Int.toNat_natCast, List.getD_eq_getElem?_getD, List.getElem?_eq_getElem hp]; rfl
      rw [List.drop_eq_getElem_cons hr, List.take_succ_cons, List.take_zero]
      rw [List.getElem?_eq_getElem hr] at e2
      injection e2 with e2
      rw [e2, List.take_add_one, List.getElem?_drop, List.getElem?_eq_getElem hp]; rfl
  have all : ∀ k, k ≤ l.length → gatL (resL d v y src) ((l.take k).flatMap fun i => seqI (i * (n : Int)) n) = v.take (k * n) := fun k => by
    induction k with
    | zero => intro _; simp [gatL]
    | succ k ih =>
      intro hk
      rw [take_succ_getD (show k < l.length by omega), flat_snoc, gatL_append, ih (by omega), step k (by omega) n (Nat.le_refl _), Nat.succ_mul, List.take_add]
  have := all l.length (Nat.le_refl _)
  rw [List.take_length] at this
  rw [this, ← hv, List.take_length]
theorem AmOk.back {l : List Int} {v y : Arr} (h : AmOk l v y) (hr : y.shape.length ≠ 0) (hn : l.Nodup) (hv : v.shape = (l.length : Int) :: celL y) : frmS (atI l) (amdA l v y) = v := by
  have F := h.from hr hn
  have hE := h.fromE hr hn
  rw [F.e] at hE
  rw [F.v, gatS_yes hE]
  have hl := amSrc_len (atI l) v y
  have hsz : szA v = l.length * celN y := by
    have h1 := sz_cnt h.rv
    rw [hv, cnt_cons1, ← celN_eq (right_ok h.ry).2.1, ← Int.natCast_mul] at h1
    omega
  have hs := fun k j (hk : k < l.length) (hj : j < celN y) => h.src hn hv hk hj
  show Arr.mk y.kind ((l.length : Int) :: celL y) (gatL (resL 0 v.nums y.nums (amSrc (atI l) v y)) (l.flatMap fun i => seqI (i * (celN y : Int)) (celN y))) (gatL (resL .zero v.items y.items (amSrc (atI l) v y)) (l.flatMap fun i => seqI (i * (celN y : Int)) (celN y))) = v
  rcases szA_ok h.ry with ⟨k, q, n⟩ | ⟨k, q, n⟩
  · rcases szA_ok h.rv with ⟨_, q2, n2⟩ | ⟨k2, _, _⟩
    case inr => have := h.k; omega
    have e1 := gat_back (d := Arr.zero) (v := v.items) (y := y.items) (src := amSrc (atI l) v y) (l := l) (n := celN y) (by omega) (by omega) (by rw [← q]; exact hs)
    rw [e1, List.eq_nil_of_length_eq_zero n, resL_nil, gatL_empty, ← List.eq_nil_of_length_eq_zero n2, ← h.k, ← hv, Arr.eta]
  · rcases szA_ok h.rv with ⟨k2, _, _⟩ | ⟨_, q2, n2⟩
    case inl => have := h.k; omega
    have e1 := gat_back (d := (0 : Int)) (v := v.nums) (y := y.nums) (src := amSrc (atI l) v y) (l := l) (n := celN y) (by omega) (by omega) (by rw [← q]; exact hs)
    rw [e1, List.eq_nil_of_length_eq_zero n, resL_nil, gatL_empty, ← List.eq_nil_of_length_eq_zero n2, ← h.k, ← hv, Arr.eta]
theorem AmOk.keep {l : List Int} {v y : Arr} (h : AmOk l v y) {e : Nat} (he : e < szA y) (ha : (((e / celN y : Nat) : Int)) ∉ l) : atS (amdA l v y) (e : Int) = atS y (e : Int) := by
  have hl := amSrc_len (atI l) v y
  have hn : 0 < celN y := by
    have := sz_tal h.ry
    rcases Nat.eq_zero_or_pos (celN y) with q | q
    · rw [q, Nat.mul_zero] at this; omega
    · exact q
  have hs : (amSrc (atI l) v y)[e]? = some (-1) := by
    unfold amSrc
    rw [srcK_out]
    · rw [List.getElem?_replicate, if_pos he]
    · intro k hk
      rintro ⟨h1, h2⟩
      have hk : k < l.length := hk
      have hm : l.getD k 0 ∈ l := by rw [List.getD_eq_getElem?_getD, List.getElem?_eq_getElem hk]; exact List.getElem_mem _
      obtain ⟨c, hc⟩ := Int.eq_ofNat_of_zero_le (h.in hm).1
      have h1 : (l.getD k 0).toNat * celN y ≤ e := h1
      have h2 : e < (l.getD k 0).toNat * celN y + celN y := h2
      rw [hc] at h1 h2 hm
      have h1 : c * celN y ≤ e := h1
      have h2 : e < c * celN y + celN y := h2
      have : e / celN y = c := by
        rw [Nat.div_eq_iff hn]
        omega
      exact ha (this ▸ hm)
  have hs2 : (amSrc (atI l) v y).getD e 0 = -1 := by rw [List.getD_eq_getElem?_getD, hs]; rfl
  have hR : ∀ {α : Type} (d : α) (a b : List α), b.length = szA y → (resL d a b (amSrc (atI l) v y)).getD e d = b.getD e d := fun d a b hb => by
    rw [List.getD_eq_getElem?_getD, resL_at (by rw [hb]; exact he) (by rw [hl]; exact he), hs2, if_pos (by decide), List.getD_eq_getElem?_getD, List.getElem?_eq_getElem (by rw [hb]; exact he)]
  unfold atS
  rw [h.sz]
  have h0 : ¬ ((e : Int) < 0 ∨ (szA y : Int) ≤ (e : Int)) := by omega
  rw [if_neg h0, if_neg h0]
  rw [amdA_k, Int.toNat_natCast]
  rcases szA_ok h.ry with ⟨k, q, n⟩ | ⟨k, q, n⟩
  · rw [if_pos k, if_pos k]
    rw [← hR .zero v.items y.items q.symm]
    rfl
  · rw [if_neg k, if_neg k]
    rw [← hR 0 v.nums y.nums q.symm]
    rfl
end Go.Proofs.Ytcoknjlkhefgpaa
