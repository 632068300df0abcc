/- A group of texts (GW), each with its own conditions: those of each lemma. -/
import Derived.Test.YtdpdcjadedcglaaGO
import Derived.Test.YtdpdcjadedcglaaGA
import Derived.Test.YtdpdcjadedcglaaP23P
import Derived.Test.YtdpdcjadedcglaaGJ
set_option linter.unusedVariables false
set_option maxRecDepth 20000
set_option linter.unusedSimpArgs false
namespace Go.Proofs.Ytdpdcjadedcglaa
/-- a comparison that orders the elements of a class -/
structure Ordr {α : Type} (c : α → α → Int) (P : α → Prop) : Prop where
  anti : ∀ x y, P x → P y → c y x = - c x y
  tr : ∀ x y z, P x → P y → P z → c x y ≤ 0 → c y z ≤ 0 → c x z ≤ 0
section
variable {α β : Type} {c : α → α → Int} {P : α → Prop}
theorem Ordr.self (h : Ordr c P) {x : α} (hx : P x) : c x x = 0 := by have := h.anti x x hx hx; omega
/-- what is equal between, is equal to both -/
theorem Ordr.mid (h : Ordr c P) {x y z : α} (hx : P x) (hy : P y) (hz : P z) (h1 : c x y ≤ 0) (h2 : c y z ≤ 0) (h3 : c x z = 0) : c x y = 0 ∧ c y z = 0 := by
  have a1 := h.anti x z hx hz
  have a2 := h.anti y z hy hz
  have a3 := h.anti x y hx hy
  have t1 := h.tr z x y hz hx hy (by omega) h1
  have t2 := h.tr y z x hy hz hx h2 (by omega)
  omega
theorem Ordr.pull (h : Ordr c P) (f : β → α) {Q : β → Prop} (hf : ∀ x, Q x → P (f x)) : Ordr (fun x y => c (f x) (f y)) Q :=
  ⟨fun x y hx hy => h.anti _ _ (hf x hx) (hf y hy), fun x y z hx hy hz => h.tr _ _ _ (hf x hx) (hf y hy) (hf z hz)⟩
/-- one comparison, then another where the first does not part the two -/
def thenC (c d : α → α → Int) (x y : α) : Int := if c x y ≠ 0 then c x y else d x y
theorem Ordr.then (h : Ordr c P) {d : α → α → Int} (h1 : ∀ x y, P x → P y → c x y = 0 → d y x = - d x y) (h2 : ∀ x y z, P x → P y → P z → c x y = 0 → c y z = 0 → d x y ≤ 0 → d y z ≤ 0 → d x z ≤ 0) : Ordr (thenC c d) P := by
  refine ⟨fun x y hx hy => ?_, fun x y z hx hy hz => ?_⟩
  · have a := h.anti x y hx hy
    unfold thenC
    by_cases e : c x y = 0
    · rw [if_neg (by omega), if_neg (by omega), h1 x y hx hy e]
    · rw [if_pos (by omega), if_pos (by omega), a]
  · unfold thenC
    intro q1 q2
    have l1 : c x y ≤ 0 := by split at q1 <;> omega
    have l2 : c y z ≤ 0 := by split at q2 <;> omega
    have l3 := h.tr x y z hx hy hz l1 l2
    by_cases e : c x z = 0
    · obtain ⟨e1, e2⟩ := h.mid hx hy hz l1 l2 e
      rw [if_neg (by omega)] at q1 q2 ⊢
      exact h2 x y z hx hy hz e1 e2 q1 q2
    · rw [if_pos e]; exact l3
/-- lists, from their heads on -/
def lexL (c : α → α → Int) : List α → List α → Int
  | [], [] => 0
  | [], _ :: _ => -1
  | _ :: _, [] => 1
  | x :: l, y :: m => if c x y ≠ 0 then c x y else lexL c l m
theorem Ordr.lex (h : Ordr c P) : Ordr (lexL c) (fun l => ∀ x ∈ l, P x) := by
  refine ⟨?_, ?_⟩
  · intro l
    induction l with
    | nil => intro m _ _; cases m <;> simp [lexL]
    | cons x l ih =>
      intro m hl hm
      cases m with
      | nil => simp [lexL]
      | cons y m =>
        have a := h.anti x y (hl x (List.mem_cons_self ..)) (hm y (List.mem_cons_self ..))
        simp only [lexL]
        by_cases e : c x y = 0
        · rw [if_neg (by omega), if_neg (by omega)]
          exact ih m (fun z hz => hl z (List.mem_cons_of_mem _ hz)) (fun z hz => hm z (List.mem_cons_of_mem _ hz))
        · rw [if_pos (by omega), if_pos (by omega), a]
  · intro l
    induction l with
    | nil =>
      intro m k _ _ _ q1 q2
      cases k with
      | nil => simp [lexL]
      | cons z k => simp [lexL]
    | cons x l ih =>
      intro m k hl hm hk q1 q2
      cases m with
      | nil => simp [lexL] at q1
      | cons y m =>
        cases k with
        | nil => simp [lexL] at q2
        | cons z k =>
          have px := hl x (List.mem_cons_self ..)
          have py := hm y (List.mem_cons_self ..)
          have pz := hk z (List.mem_cons_self ..)
          simp only [lexL] at q1 q2 ⊢
          have l1 : c x y ≤ 0 := by split at q1 <;> omega
          have l2 : c y z ≤ 0 := by split at q2 <;> omega
          have l3 := h.tr x y z px py pz l1 l2
          by_cases e : c x z = 0
          · obtain ⟨e1, e2⟩ := h.mid px py pz l1 l2 e
            rw [if_neg (by omega)] at q1 q2 ⊢
            exact ih m k (fun z hz => hl z (List.mem_cons_of_mem _ hz)) (fun z hz => hm z (List.mem_cons_of_mem _ hz)) (fun z hz => hk z (List.mem_cons_of_mem _ hz)) q1 q2
          · rw [if_pos e]; exact l3
/-- equal lists are equal, element by element -/
theorem lexL_zero {l m : List α} (h : lexL c l m = 0) : l.length = m.length ∧ ∀ (k : Nat) (x y : α), l[k]? = some x → m[k]? = some y → c x y = 0 := by
  induction l generalizing m with
  | nil =>
    cases m with
    | nil => exact ⟨rfl, fun k x y h => by simp at h⟩
    | cons y m => simp [lexL] at h
  | cons x l ih =>
    cases m with
    | nil => simp [lexL] at h
    | cons y m =>
      simp only [lexL] at h
      have e : c x y = 0 := by
        by_cases q : c x y = 0
        · exact q
        · rw [if_pos q] at h; exact h
      rw [if_neg (by omega)] at h
      obtain ⟨h1, h2⟩ := ih h
      refine ⟨by simp [h1], fun k a b ha hb => ?_⟩
      cases k with
      | zero => simp at ha hb; subst ha; subst hb; exact e
      | succ k => exact h2 k a b (by simpa using ha) (by simpa using hb)
end
theorem cmpI_ord (P : Int → Prop) : Ordr cmpI P := ⟨fun x y _ _ => by unfold cmpI; split <;> split <;> omega, fun x y z _ _ _ => by unfold cmpI; intro h1 h2; split at h1 <;> split at h2 <;> split <;> (try split at h1) <;> (try split at h2) <;> (try split) <;> omega⟩
theorem cmpI_zero {a b : Int} (h : cmpI a b = 0) : a = b := by unfold cmpI at h; split at h <;> (try split at h) <;> omega
theorem cmpL_lex : ∀ (s t : List Int), cmpL s t = lexL cmpI s t
  | [], [] => rfl
  | [], _ :: _ => rfl
  | _ :: _, [] => rfl
  | x :: s, y :: t => by simp only [cmpL, lexL]; rw [cmpL_lex s t]
theorem cmpL_ord : Ordr cmpL (fun _ => True) := by
  have h := (cmpI_ord (fun _ => True)).lex
  exact ⟨fun x y _ _ => by rw [cmpL_lex, cmpL_lex]; exact h.anti x y (fun _ _ => trivial) (fun _ _ => trivial), fun x y z _ _ _ => by rw [cmpL_lex, cmpL_lex, cmpL_lex]; exact h.tr x y z (fun _ _ => trivial) (fun _ _ => trivial) (fun _ _ => trivial)⟩
theorem cmpL_zero {s t : List Int} (h : cmpL s t = 0) : s = t := by
  rw [cmpL_lex] at h
  obtain ⟨h1, h2⟩ := lexL_zero h
  refine List.ext_getElem h1 fun k h3 h4 => cmpI_zero (h2 k _ _ (List.getElem?_eq_getElem h3) (List.getElem?_eq_getElem h4))
theorem Ordr.congr {α : Type} {c d : α → α → Int} {P : α → Prop} (h : Ordr d P) (e : ∀ x y, P x → P y → c x y = d x y) : Ordr c P :=
  ⟨fun x y hx hy => by rw [e x y hx hy, e y x hy hx]; exact h.anti x y hx hy, fun x y z hx hy hz => by rw [e x y hx hy, e y z hy hz, e x z hx hz]; exact h.tr x y z hx hy hz⟩
/-- the first number that is not 0, from place k on, of r places; else z -/
def fst0 (f : Nat → Int) : Nat → Nat → Int → Int
  | 0, _, z => z
  | r + 1, k, z => if f k ≠ 0 then f k else fst0 f r (k + 1) z
theorem fst0_zero {f : Nat → Int} : ∀ {r k : Nat} {z : Int}, fst0 f r k z = 0 → z = 0 ∧ ∀ t, k ≤ t → t < k + r → f t = 0
  | 0, k, z, h => ⟨h, fun t h1 h2 => by omega⟩
  | r + 1, k, z, h => by
    simp only [fst0] at h
    by_cases q : f k = 0
    · rw [if_neg (by omega)] at h
      obtain ⟨h1, h2⟩ := fst0_zero h
      refine ⟨h1, fun t ht1 ht2 => ?_⟩
      by_cases e : t = k
      · rw [e]; exact q
      · exact h2 t (by omega) (by omega)
    · rw [if_pos q] at h; exact absurd h q
theorem lexL_range {α : Type} (c : α → α → Int) (p q : Nat → α) : ∀ (d e k : Nat), lexL c ((List.range' k d).map p) ((List.range' k e).map q) = fst0 (fun t => c (p t) (q t)) (min d e) k (cmpI (d : Int) (e : Int))
  | 0, 0, k => by simp [lexL, fst0, cmpI]
  | 0, e + 1, k => by
    rw [List.range'_succ]
    simp only [List.range'_zero, List.map_nil, List.map_cons, lexL, Nat.zero_min, fst0, cmpI]
    rw [if_pos (by omega)]
  | d + 1, 0, k => by
    rw [List.range'_succ]
    simp only [List.range'_zero, List.map_nil, List.map_cons, lexL, Nat.min_zero, fst0, cmpI]
    rw [if_neg (by omega), if_pos (by omega)]
  | d + 1, e + 1, k => by
    rw [List.range'_succ, List.range'_succ, List.map_cons, List.map_cons, lexL, lexL_range c p q d e (k + 1), show min (d + 1) (e + 1) = min d e + 1 by omega, fst0]
    have : cmpI ((d + 1 : Nat) : Int) ((e + 1 : Nat) : Int) = cmpI (d : Int) (e : Int) := by unfold cmpI; split <;> split <;> (try split) <;> (try split) <;> omega
    rw [this]
def cN (s : List Int) : Nat := (cnt s).toNat
/-- the contents of two arrays of one rank, from places i and j on -/
def cellsC (lf : Nat → Nat → Int) : List Int → List Int → Nat → Nat → Int
  | d :: s, e :: t, i, j => fst0 (fun k => cellsC lf s t (i + k * cN s) (j + k * cN t)) (min d e).toNat 0 (cmpI d e)
  | _, _, i, j => lf i j
theorem cN_cons {d : Int} {s : List Int} (hd : 0 ≤ d) (hs : ∀ x ∈ s, 0 ≤ x) : cN (d :: s) = d.toNat * cN s := by
  unfold cN
  have := cnt_nn hs
  rw [cnt_cons1]
  obtain ⟨x, rfl⟩ := Int.eq_ofNat_of_zero_le hd
  obtain ⟨y, hy⟩ := Int.eq_ofNat_of_zero_le this
  rw [hy]
  simp only [Int.ofNat_eq_natCast, Int.toNat_natCast, ← Int.natCast_mul]
theorem cellsC_zero {lf : Nat → Nat → Int} : ∀ {s : List Int} {i j : Nat}, (∀ d ∈ s, 0 ≤ d) → cellsC lf s s i j = 0 → ∀ e, e < cN s → lf (i + e) (j + e) = 0
  | [], i, j, _, h, e, he => by
    have : cN [] = 1 := by unfold cN; rw [cnt_nil]; rfl
    have e0 : e = 0 := by omega
    subst e0
    exact h
  | d :: s, i, j, hd, h, e, he => by
    have hs : ∀ x ∈ s, 0 ≤ x := fun x hx => hd x (List.mem_cons_of_mem _ hx)
    rw [cN_cons (hd d (List.mem_cons_self ..)) hs] at he
    simp only [cellsC] at h
    obtain ⟨_, h2⟩ := fst0_zero h
    have hc : 0 < cN s := by
      rcases Nat.eq_zero_or_pos (cN s) with q | q
      · rw [q] at he; omega
      · exact q
    have hk : e / cN s < d.toNat := Nat.div_lt_of_lt_mul (by rw [Nat.mul_comm]; exact he)
    have h3 := h2 (e / cN s) (Nat.zero_le _) (by omega)
    have h4 := cellsC_zero hs h3 (e % cN s) (Nat.mod_lt _ hc)
    have h5 : e / cN s * cN s + e % cN s = e := by rw [Nat.mul_comm]; exact Nat.div_add_mod e (cN s)
    rw [Nat.add_assoc, Nat.add_assoc, h5] at h4
    exact h4
/-- places in arrays: an array, the shape of what lies there, where it begins -/
abbrev Pos := Arr × List Int × Nat
def posC (lfp : Arr × Nat → Arr × Nat → Int) (p q : Pos) : Int := cellsC (fun i j => lfp (p.1, i) (q.1, j)) p.2.1 q.2.1 p.2.2 q.2.2
def PosM (Q : Arr × Nat → Prop) (m : Nat) (p : Pos) : Prop := p.2.1.length = m ∧ (∀ d ∈ p.2.1, 0 ≤ d) ∧ ∀ e, e < cN p.2.1 → Q (p.1, p.2.2 + e)
def kids (p : Pos) : List Pos := match p with
  | (a, d :: s, i) => (List.range' 0 d.toNat).map fun k => (a, s, i + k * cN s)
  | (_, [], _) => []
theorem posC_ord {lfp : Arr × Nat → Arr × Nat → Int} {Q : Arr × Nat → Prop} (h : Ordr lfp Q) : ∀ m, Ordr (posC lfp) (PosM Q m)
  | 0 => by
    refine (h.pull (fun p : Pos => (p.1, p.2.2)) (Q := PosM Q 0) fun p hp => ?_).congr fun p q hp hq => ?_
    · have hs : p.2.1 = [] := List.eq_nil_of_length_eq_zero hp.1
      have := hp.2.2 0 (by rw [hs]; unfold cN; rw [cnt_nil]; decide)
      exact this
    · have h1 : p.2.1 = [] := List.eq_nil_of_length_eq_zero hp.1
      have h2 : q.2.1 = [] := List.eq_nil_of_length_eq_zero hq.1
      unfold posC
      rw [h1, h2]
      rfl
  | m + 1 => by
    refine (((posC_ord h m).lex).pull kids (Q := PosM Q (m + 1)) fun p hp => ?_).congr fun p q hp hq => ?_
    · obtain ⟨a, s, i⟩ := p
      obtain ⟨h1, h2, h3⟩ := hp
      match s, h1, h2, h3 with
      | d :: s, h1, h2, h3 =>
        have hs : ∀ x ∈ s, 0 ≤ x := fun x hx => h2 x (List.mem_cons_of_mem _ hx)
        intro z hz
        simp only [kids, List.mem_map] at hz
        obtain ⟨k, hk, rfl⟩ := hz
        rw [List.mem_range'_1] at hk
        refine ⟨by simpa using h1, hs, fun e he => ?_⟩
        have hcc : cN (d :: s) = d.toNat * cN s := cN_cons (h2 d (List.mem_cons_self ..)) hs
        have := cell_lt (show k < d.toNat by omega) (show e < cN s from he)
        have := h3 (k * cN s + e) (by show _ < cN (d :: s); rw [hcc]; exact this)
        simpa [Nat.add_assoc] using this
    · obtain ⟨a, s, i⟩ := p
      obtain ⟨b, t, j⟩ := q
      obtain ⟨h1, h2, h3⟩ := hp
      obtain ⟨g1, g2, g3⟩ := hq
      match s, t, h1, h2, h3, g1, g2, g3 with
      | d :: s, e :: t, h1, h2, h3, g1, g2, g3 =>
        have hd := h2 d (List.mem_cons_self ..)
        have he := g2 e (List.mem_cons_self ..)
        show cellsC _ (d :: s) (e :: t) i j = lexL (posC lfp) (kids (a, d :: s, i)) (kids (b, e :: t, j))
        simp only [kids]
        rw [lexL_range]
        simp only [cellsC]
        rw [show (min d e).toNat = min d.toNat e.toNat by omega, show ((d.toNat : Nat) : Int) = d by omega, show ((e.toNat : Nat) : Int) = e by omega]
        rfl
theorem Ordr.sub {α : Type} {c : α → α → Int} {P Q : α → Prop} (h : Ordr c P) (q : ∀ x, Q x → P x) : Ordr c Q := ⟨fun x y hx hy => h.anti x y (q x hx) (q y hy), fun x y z hx hy hz => h.tr x y z (q x hx) (q y hy) (q z hz)⟩
theorem Ordr.thenK {α : Type} {c d : α → α → Int} {P : α → Prop} (h : Ordr c P) (hd : ∀ x0, P x0 → Ordr d (fun y => P y ∧ c x0 y = 0)) : Ordr (thenC c d) P :=
  h.then (fun x y hx hy e => (hd x hx).anti x y ⟨hx, h.self hx⟩ ⟨hy, e⟩) fun x y z hx hy hz e1 e2 => by
    have t1 := h.tr x y z hx hy hz (by omega) (by omega)
    have a1 := h.anti x y hx hy
    have a2 := h.anti y z hy hz
    have a3 := h.anti x z hx hz
    have t2 := h.tr z y x hz hy hx (by omega) (by omega)
    exact (hd x hx).tr x y z ⟨hx, h.self hx⟩ ⟨hy, e1⟩ ⟨hz, by omega⟩
/-- what lies at two places -/
def lfF (cmp : Arr → Arr → Int) (p q : Arr × Nat) : Int := if p.1.kind = 3 then cmp (p.1.items.getD p.2 .zero) (q.1.items.getD q.2 .zero) else cmpI (p.1.nums.getD p.2 0) (q.1.nums.getD q.2 0)
def conF (cmp : Arr → Arr → Int) (a b : Arr) : Int := if a.kind ≠ b.kind ∨ a.shape.length ≠ b.shape.length then 0 else cellsC (fun i j => lfF cmp (a, i) (b, j)) a.shape b.shape 0 0
/-- the order of arrays, of depth below f -/
def cmpF : Nat → Arr → Arr → Int
  | 0 => fun _ _ => 0
  | f + 1 => fun a b => cmp4 a b (conF (cmpF f) a b)
def OkF (f : Nat) (a : Arr) : Prop := rightS a = 0 ∧ depA a < f
theorem dep_le (a : Arr) : 0 ≤ depA a ∧ depA a ≤ 16 := (chk_bd a).1
theorem okF17 {a : Arr} (h : rightS a = 0) : OkF 17 a := ⟨h, by have := (dep_le a).2; omega⟩
theorem dep_item {a x : Arr} (h : rightS a = 0) (hx : x ∈ a.items) : depA x + 1 ≤ depA a := by
  have hi := (right_iff.1 h).2.2.1
  obtain ⟨_, _, r, h1, _, h2⟩ := chk_ok h
  have hw : (a.nums.length : Int) + a.items.length ≤ 262145 := by
    have := (right_iff.1 h).2.2.2
    have := sumW_nn a.items
    omega
  have e := chkL_some (l := a.items) (d := 0) (w := (a.nums.length : Int) + a.items.length) (fun x hx => (hi x hx).1) (by omega)
  rw [show min ((a.nums.length : Int) + a.items.length) 262145 = (a.nums.length : Int) + a.items.length by omega, h1] at e
  injection e with e
  have : depA a = maxD a.items 0 := by unfold depA; rw [h2, e]
  rw [this]
  exact (maxD_le.1 (Int.le_refl _)).2 x hx
theorem okF_item {f : Nat} {a x : Arr} (h : OkF (f + 1) a) (hx : x ∈ a.items) : OkF f x := ⟨((right_iff.1 h.1).2.2.1 x hx).1, by have := dep_item h.1 hx; have := h.2; omega⟩
/-- a place that holds an element -/
def InA (f : Nat) (K : Int) (p : Arr × Nat) : Prop := OkF f p.1 ∧ p.1.kind = K ∧ p.2 < szA p.1
theorem shape_nn {a : Arr} (h : rightS a = 0) : ∀ d ∈ a.shape, 0 ≤ d := (shapeB_iff.1 (right_ok h).2.1).2.1
theorem lfF_ord {f : Nat} (h : Ordr (cmpF f) (OkF f)) (K : Int) : Ordr (lfF (cmpF f)) (InA (f + 1) K) := by
  by_cases k : K = 3
  · refine (h.pull (fun p : Arr × Nat => p.1.items.getD p.2 .zero) (Q := InA (f + 1) K) fun p hp => ?_).congr fun p q hp hq => ?_
    · have hl : p.2 < p.1.items.length := by have := hp.2.2; rw [szA_3 (hp.2.1.trans k)] at this; exact this
      have : p.1.items.getD p.2 .zero = p.1.items[p.2] := by simp [List.getD_eq_getElem?_getD, hl]
      rw [this]
      exact okF_item hp.1 (List.getElem_mem hl)
    · unfold lfF; rw [if_pos (hp.2.1.trans k)]
  · refine ((cmpI_ord (fun _ => True)).pull (fun p : Arr × Nat => p.1.nums.getD p.2 0) (Q := InA (f + 1) K) fun p hp => trivial).congr fun p q hp hq => ?_
    unfold lfF; rw [if_neg (by rw [hp.2.1]; exact k)]
theorem conF_ord {f : Nat} (h : Ordr (cmpF f) (OkF f)) (K : Int) (m : Nat) : Ordr (conF (cmpF f)) (fun a => OkF (f + 1) a ∧ a.kind = K ∧ a.shape.length = m) := by
  refine ((posC_ord (lfF_ord h K) m).pull (fun a : Arr => ((a, a.shape, 0) : Pos)) (Q := fun a => OkF (f + 1) a ∧ a.kind = K ∧ a.shape.length = m) fun a ha => ⟨ha.2.2, shape_nn ha.1.1, fun e he => ⟨ha.1, ha.2.1, ?_⟩⟩).congr fun a b ha hb => ?_
  · have := sz_cnt ha.1.1
    have he' : e < cN a.shape := he
    unfold cN at he'
    show 0 + e < szA a
    omega
  · unfold conF; rw [if_neg (by rw [ha.2.1, hb.2.1, ha.2.2, hb.2.2]; simp)]; rfl
theorem cmp4_then (g : Arr → Arr → Int) (a b : Arr) : cmp4 a b (g a b) = thenC (fun a b => cmpI a.kind b.kind) (thenC (fun a b => cmpI (a.shape.length : Int) (b.shape.length : Int)) (thenC g (fun a b => cmpL a.shape b.shape))) a b := by
  simp only [cmp4, orL, thenC]
  split
  · rfl
  · split
    · rfl
    · split
      · rfl
      · split <;> omega
theorem cmpF_ord : ∀ f, Ordr (cmpF f) (OkF f)
  | 0 => ⟨fun x y hx => absurd hx.2 (by have := (dep_le x).1; omega), fun x y z hx => absurd hx.2 (by have := (dep_le x).1; omega)⟩
  | f + 1 => by
    refine Ordr.congr ?_ fun a b _ _ => cmp4_then (conF (cmpF f)) a b
    refine Ordr.thenK ((cmpI_ord (fun _ => True)).pull (fun a : Arr => a.kind) fun _ _ => trivial) fun x0 h0 => ?_
    refine Ordr.thenK ((cmpI_ord (fun _ => True)).pull (fun a : Arr => (a.shape.length : Int)) fun _ _ => trivial) fun x1 h1 => ?_
    refine Ordr.thenK ((conF_ord (cmpF_ord f) x0.kind x1.shape.length).sub fun y hy => ⟨hy.1.1, (cmpI_zero hy.1.2).symm, by have := cmpI_zero hy.2; omega⟩) fun x2 h2 => ?_
    exact cmpL_ord.pull (fun a : Arr => a.shape) fun _ _ => trivial
theorem orL4_zero {a b c d : Int} (h : orL [a, b, c, d] = 0) : a = 0 ∧ b = 0 ∧ c = 0 ∧ d = 0 := by
  simp only [orL] at h
  by_cases h1 : a = 0 <;> by_cases h2 : b = 0 <;> by_cases h3 : c = 0 <;> by_cases h4 : d = 0 <;> simp [h1, h2, h3, h4] at h ⊢
theorem ext_getD {α : Type} {l m : List α} (z : α) (h : l.length = m.length) (e : ∀ k, k < l.length → l.getD k z = m.getD k z) : l = m :=
  List.ext_getElem h fun k h1 h2 => by have := e k h1; simpa [List.getD_eq_getElem?_getD, h1, h2] using this
/-- what is equal in the order is equal -/
theorem cmpF_zero : ∀ {f : Nat} {a b : Arr}, OkF f a → OkF f b → cmpF f a b = 0 → a = b
  | 0, a, b, ha, _, _ => absurd ha.2 (by have := (dep_le a).1; omega)
  | f + 1, a, b, ha, hb, h => by
    obtain ⟨h1, h2, h3, h4⟩ := orL4_zero (show orL [_, _, _, _] = 0 from h)
    have k := cmpI_zero h1
    have s := cmpL_zero h4
    unfold conF at h3
    rw [if_neg (by rw [k, s]; simp), ← s] at h3
    have hc := cellsC_zero (shape_nn ha.1) h3
    have na := sz_cnt ha.1
    have nb := sz_cnt hb.1
    rw [← s] at nb
    have hcn : cN a.shape = szA a := by unfold cN; omega
    rw [hcn] at hc
    have hsz : szA a = szA b := by omega
    rw [← a.eta, ← b.eta, k, s]
    rcases szA_ok ha.1 with ⟨k3, e1, e2⟩ | ⟨k3, e1, e2⟩
    · rcases szA_ok hb.1 with ⟨k3', e1', e2'⟩ | ⟨k3', e1', e2'⟩
      · rw [List.eq_nil_of_length_eq_zero e2, List.eq_nil_of_length_eq_zero e2']
        congr 1
        refine ext_getD .zero (by omega) fun j hj => ?_
        have := hc j (by omega)
        simp only [Nat.zero_add] at this
        unfold lfF at this
        rw [if_pos k3] at this
        have hj2 : j < b.items.length := by omega
        have g1 : a.items.getD j .zero ∈ a.items := by simp [List.getD_eq_getElem?_getD, hj]
        have g2 : b.items.getD j .zero ∈ b.items := by simp [List.getD_eq_getElem?_getD, hj2]
        exact cmpF_zero (okF_item ha g1) (okF_item hb g2) this
      · exact absurd (k ▸ k3) k3'
    · rcases szA_ok hb.1 with ⟨k3', e1', e2'⟩ | ⟨k3', e1', e2'⟩
      · exact absurd (k.trans k3') k3
      · rw [List.eq_nil_of_length_eq_zero e2, List.eq_nil_of_length_eq_zero e2']
        congr 1
        refine ext_getD 0 (by omega) fun j hj => ?_
        have := hc j (by omega)
        simp only [Nat.zero_add] at this
        unfold lfF at this
        rw [if_neg k3] at this
        exact cmpI_zero this
end Go.Proofs.Ytdpdcjadedcglaa
namespace Go.Proofs.Ytdpdcjadedcglaa
/-- l' holds in [a, b) what l holds there; elsewhere they are alike -/
structure SegP (a b : Nat) (l l' : List Int) : Prop where
  len : l'.length = l.length
  out : ∀ i, (i < a ∨ b ≤ i) → l'.getD i 0 = l.getD i 0
  old : ∀ i, a ≤ i → i < b → ∃ j, a ≤ j ∧ j < b ∧ l'.getD i 0 = l.getD j 0
  all : ∀ j, a ≤ j → j < b → ∃ i, a ≤ i ∧ i < b ∧ l'.getD i 0 = l.getD j 0
def swp (l : List Int) (i j : Nat) : List Int := (l.set i (l.getD j 0)).set j (l.getD i 0)
def SrtS (c : Int → Int → Int) (l : List Int) (a b : Nat) : Prop := ∀ i j, a ≤ i → i < j → j < b → c (l.getD i 0) (l.getD j 0) ≤ 0
def AllP (P : Int → Prop) (l : List Int) : Prop := ∀ k, k < l.length → P (l.getD k 0)
section
variable {a b i j k s : Nat} {l m r : List Int} {c : Int → Int → Int} {P : Int → Prop}
theorem SegP.refl (a b : Nat) (l : List Int) : SegP a b l l := ⟨rfl, fun _ _ => rfl, fun i h1 h2 => ⟨i, h1, h2, rfl⟩, fun i h1 h2 => ⟨i, h1, h2, rfl⟩⟩
theorem SegP.trans (h : SegP a b l m) (g : SegP a b m r) : SegP a b l r := by
  refine ⟨g.len.trans h.len, fun i hi => (g.out i hi).trans (h.out i hi), fun i h1 h2 => ?_, fun j h1 h2 => ?_⟩
  · obtain ⟨j, g1, g2, g3⟩ := g.old i h1 h2
    obtain ⟨k, f1, f2, f3⟩ := h.old j g1 g2
    exact ⟨k, f1, f2, g3.trans f3⟩
  · obtain ⟨k, g1, g2, g3⟩ := h.all j h1 h2
    obtain ⟨q, f1, f2, f3⟩ := g.all k g1 g2
    exact ⟨q, f1, f2, f3.trans g3⟩
theorem SegP.wide {a' b' : Nat} (h : SegP a b l m) (ha : a' ≤ a) (hb : b ≤ b') : SegP a' b' l m := by
  refine ⟨h.len, fun i hi => h.out i (by omega), fun i h1 h2 => ?_, fun j h1 h2 => ?_⟩
  · by_cases q : a ≤ i ∧ i < b
    · obtain ⟨j, g1, g2, g3⟩ := h.old i q.1 q.2; exact ⟨j, by omega, by omega, g3⟩
    · exact ⟨i, h1, h2, h.out i (by omega)⟩
  · by_cases q : a ≤ j ∧ j < b
    · obtain ⟨i, g1, g2, g3⟩ := h.all j q.1 q.2; exact ⟨i, by omega, by omega, g3⟩
    · exact ⟨j, h1, h2, h.out j (by omega)⟩
theorem SegP.allP (h : SegP a b l m) (hb : b ≤ l.length) (hp : AllP P l) : AllP P m := fun k hk => by
  by_cases q : a ≤ k ∧ k < b
  · obtain ⟨j, g1, g2, g3⟩ := h.old k q.1 q.2; rw [g3]; exact hp j (by omega)
  · rw [h.out k (by omega)]; exact hp k (by have := h.len; omega)
theorem swp_len (l : List Int) (i j : Nat) : (swp l i j).length = l.length := by simp [swp]
theorem swp_get (hi : i < l.length) (hj : j < l.length) (k : Nat) : (swp l i j).getD k 0 = if k = j then l.getD i 0 else if k = i then l.getD j 0 else l.getD k 0 := by
  unfold swp
  simp only [List.getD_eq_getElem?_getD, List.getElem?_set, List.length_set]
  by_cases h1 : k = j
  · subst h1; simp [hj]
  · by_cases h2 : k = i
    · subst h2; simp [h1, hi, Ne.symm h1]
    · simp [h1, h2, Ne.symm h1, Ne.symm h2]
theorem swp_i (hi : i < l.length) (hj : j < l.length) : (swp l i j).getD i 0 = l.getD j 0 := by
  rw [swp_get hi hj]
  by_cases h : i = j
  · rw [if_pos h, h]
  · rw [if_neg h, if_pos rfl]
theorem swp_j (hi : i < l.length) (hj : j < l.length) : (swp l i j).getD j 0 = l.getD i 0 := by rw [swp_get hi hj, if_pos rfl]
theorem swp_o (hi : i < l.length) (hj : j < l.length) (h1 : k ≠ i) (h2 : k ≠ j) : (swp l i j).getD k 0 = l.getD k 0 := by rw [swp_get hi hj, if_neg h2, if_neg h1]
theorem SegP.swp (hi : a ≤ i ∧ i < b) (hj : a ≤ j ∧ j < b) (hb : b ≤ l.length) : SegP a b l (swp l i j) := by
  have h1 : i < l.length := by omega
  have h2 : j < l.length := by omega
  refine ⟨swp_len l i j, fun k hk => swp_o h1 h2 (by omega) (by omega), fun k hk1 hk2 => ?_, fun k hk1 hk2 => ?_⟩
  · by_cases q1 : k = j
    · subst q1; exact ⟨i, hi.1, hi.2, swp_j h1 h2⟩
    · by_cases q2 : k = i
      · subst q2; exact ⟨j, hj.1, hj.2, swp_i h1 h2⟩
      · exact ⟨k, hk1, hk2, swp_o h1 h2 q2 q1⟩
  · by_cases q1 : k = j
    · subst q1; exact ⟨i, hi.1, hi.2, swp_i h1 h2⟩
    · by_cases q2 : k = i
      · subst q2; exact ⟨j, hj.1, hj.2, swp_j h1 h2⟩
      · exact ⟨k, hk1, hk2, swp_o h1 h2 q2 q1⟩
theorem SrtS.sub {a' b' : Nat} (h : SrtS c l a b) (ha : a ≤ a') (hb : b' ≤ b) : SrtS c l a' b' := fun i j h1 h2 h3 => h i j (by omega) h2 (by omega)
theorem SrtS.one (h : b ≤ a + 1) : SrtS c l a b := fun i j h1 h2 h3 => by omega
theorem SrtS.eq (h : SrtS c l a b) (e : ∀ k, a ≤ k → k < b → m.getD k 0 = l.getD k 0) : SrtS c m a b := fun i j h1 h2 h3 => by rw [e i h1 (by omega), e j (by omega) h3]; exact h i j h1 h2 h3
/-! insertion: the element at j goes left -/
structure InsI (c : Int → Int → Int) (l : List Int) (a i j : Nat) : Prop where
  oth : ∀ p q, a ≤ p → p < q → q ≤ i → p ≠ j → q ≠ j → c (l.getD p 0) (l.getD q 0) ≤ 0
  up : ∀ q, j < q → q ≤ i → c (l.getD j 0) (l.getD q 0) ≤ 0
theorem InsI.start (h : SrtS c l a i) : InsI c l a i i := ⟨fun p q h1 h2 h3 h4 h5 => h p q h1 h2 (by omega), fun q h1 h2 => by omega⟩
theorem InsI.step (h : InsI c l a i j) (hj : a < j) (hji : j ≤ i) (hl : i < l.length) (hc : c (l.getD j 0) (l.getD (j - 1) 0) < 0) : InsI c (swp l j (j - 1)) a i (j - 1) := by
  have h1 : j < l.length := by omega
  have h2 : j - 1 < l.length := by omega
  refine ⟨fun p q g1 g2 g3 g4 g5 => ?_, fun q g1 g2 => ?_⟩
  · by_cases e1 : p = j
    · subst e1
      rw [swp_i h1 h2, swp_o h1 h2 (by omega) (by omega)]
      exact h.oth _ q (by omega) (by omega) g3 (by omega) (by omega)
    · rw [swp_o h1 h2 e1 g4]
      by_cases e2 : q = j
      · subst e2
        rw [swp_i h1 h2]
        exact h.oth p _ g1 (by omega) (by omega) e1 (by omega)
      · rw [swp_o h1 h2 e2 g5]
        exact h.oth p q g1 g2 g3 e1 e2
  · rw [swp_j h1 h2]
    by_cases e2 : q = j
    · subst e2; rw [swp_i h1 h2]; omega
    · rw [swp_o h1 h2 e2 (by omega)]; exact h.up q (by omega) g2
theorem InsI.done (h : InsI c l a i j) (hO : Ordr c P) (hP : AllP P l) (hl : i < l.length) (hj : a ≤ j) (hji : j ≤ i) (hc : j = a ∨ ¬ c (l.getD j 0) (l.getD (j - 1) 0) < 0) : SrtS c l a (i + 1) := by
  intro p q g1 g2 g3
  by_cases e1 : p = j
  · subst e1; exact h.up q g2 (by omega)
  · by_cases e2 : q = j
    · subst e2
      rcases hc with hc | hc
      · omega
      · have a1 := hO.anti _ _ (hP q (by omega)) (hP (q - 1) (by omega))
        by_cases e3 : p = q - 1
        · rw [e3]; omega
        · exact hO.tr _ _ _ (hP p (by omega)) (hP (q - 1) (by omega)) (hP q (by omega)) (h.oth p (q - 1) g1 (by omega) (by omega) (by omega) (by omega)) (by omega)
    · exact h.oth p q g1 g2 (by omega) e1 e2
/-! the element at k goes through [a, b) to its place; all others are in order -/
structure InsR (c : Int → Int → Int) (l : List Int) (a b s k : Nat) : Prop where
  oth : ∀ p q, a ≤ p → p < q → q < b → p ≠ k → q ≠ k → c (l.getD p 0) (l.getD q 0) ≤ 0
  lo : ∀ p, a ≤ p → p < s → p ≠ k → c (l.getD p 0) (l.getD k 0) ≤ 0
  hi : ∀ q, s ≤ q → q < b → q ≠ k → c (l.getD k 0) (l.getD q 0) ≤ 0
/-- to the right: s is where the place's right neighbours begin -/
theorem InsR.right (h : InsR c l a b s k) (hk : a ≤ k) (hs : k + 1 < s) (hb : s ≤ b) (hl : b ≤ l.length) : InsR c (Go.Proofs.Ytdpdcjadedcglaa.swp l k (k + 1)) a b s (k + 1) := by
  have h1 : k < l.length := by omega
  have h2 : k + 1 < l.length := by omega
  refine ⟨fun p q g1 g2 g3 g4 g5 => ?_, fun p g1 g2 g3 => ?_, fun q g1 g2 g3 => ?_⟩
  · by_cases e1 : p = k
    · subst e1
      rw [swp_i h1 h2, swp_o h1 h2 (by omega) g5]
      exact h.oth _ q (by omega) (by omega) g3 (by omega) (by omega)
    · rw [swp_o h1 h2 e1 g4]
      by_cases e2 : q = k
      · subst e2
        rw [swp_i h1 h2]
        exact h.oth p _ g1 (by omega) (by omega) e1 (by omega)
      · rw [swp_o h1 h2 e2 g5]
        exact h.oth p q g1 g2 g3 e1 e2
  · rw [swp_j h1 h2]
    by_cases e1 : p = k
    · subst e1; rw [swp_i h1 h2]; exact h.lo _ (by omega) (by omega) (by omega)
    · rw [swp_o h1 h2 e1 g3]; exact h.lo p g1 g2 e1
  · rw [swp_j h1 h2, swp_o h1 h2 (by omega) g3]
    exact h.hi q g1 g2 (by omega)
/-- to the left -/
theorem InsR.left (h : InsR c l a b s k) (hk : s < k) (ha : a ≤ s) (hkb : k < b) (hl : b ≤ l.length) : InsR c (Go.Proofs.Ytdpdcjadedcglaa.swp l k (k - 1)) a b s (k - 1) := by
  have h1 : k < l.length := by omega
  have h2 : k - 1 < l.length := by omega
  refine ⟨fun p q g1 g2 g3 g4 g5 => ?_, fun p g1 g2 g3 => ?_, fun q g1 g2 g3 => ?_⟩
  · by_cases e1 : p = k
    · subst e1
      rw [swp_i h1 h2, swp_o h1 h2 (by omega) g5]
      exact h.oth _ q (by omega) (by omega) g3 (by omega) (by omega)
    · rw [swp_o h1 h2 e1 g4]
      by_cases e2 : q = k
      · subst e2
        rw [swp_i h1 h2]
        exact h.oth p _ g1 (by omega) (by omega) e1 (by omega)
      · rw [swp_o h1 h2 e2 g5]
        exact h.oth p q g1 g2 g3 e1 e2
  · rw [swp_j h1 h2, swp_o h1 h2 (by omega) g3]
    exact h.lo p g1 g2 (by omega)
  · rw [swp_j h1 h2]
    by_cases e1 : q = k
    · subst e1; rw [swp_i h1 h2]; exact h.hi _ (by omega) (by omega) (by omega)
    · rw [swp_o h1 h2 e1 g3]; exact h.hi q g1 g2 e1
theorem InsR.doneR (h : InsR c l a b s k) (hs : s = k + 1) : SrtS c l a b := by
  intro p q g1 g2 g3
  by_cases e1 : p = k
  · subst e1; exact h.hi q (by omega) g3 (by omega)
  · by_cases e2 : q = k
    · subst e2; exact h.lo p g1 (by omega) (by omega)
    · exact h.oth p q g1 g2 g3 e1 e2
theorem InsR.doneL (h : InsR c l a b k k) : SrtS c l a b := by
  intro p q g1 g2 g3
  by_cases e1 : p = k
  · subst e1; exact h.hi q (by omega) g3 (by omega)
  · by_cases e2 : q = k
    · subst e2; exact h.lo p g1 (by omega) (by omega)
    · exact h.oth p q g1 g2 g3 e1 e2
/-- data[a] into data[a + 1 : b]: what lies ahead of s precedes it -/
theorem InsR.atA (hS : SrtS c l (a + 1) b) (h1 : ∀ t, a + 1 ≤ t → t < s → c (l.getD t 0) (l.getD a 0) < 0) (h2 : ∀ t, s ≤ t → t < b → c (l.getD a 0) (l.getD t 0) ≤ 0) : InsR c l a b s a :=
  ⟨fun p q g1 g2 g3 g4 g5 => hS p q (by omega) g2 g3, fun p g1 g2 g3 => by have := h1 p (by omega) g2; omega, fun q g1 g2 g3 => h2 q g1 g2⟩
/-- data[m] into data[a : m] -/
theorem InsR.atM {mm : Nat} (hb : b = mm + 1) (hS : SrtS c l a mm) (h1 : ∀ t, a ≤ t → t < s → c (l.getD t 0) (l.getD mm 0) ≤ 0) (h2 : ∀ t, s ≤ t → t < mm → c (l.getD mm 0) (l.getD t 0) < 0) (hs : s ≤ mm) : InsR c l a b s mm :=
  ⟨fun p q g1 g2 g3 g4 g5 => hS p q g1 g2 (by omega), fun p g1 g2 g3 => h1 p g1 (by omega), fun q g1 g2 g3 => by have := h2 q g1 (by omega); omega⟩
/-! rotation -/
/-- two blocks of n, from x and from y on, exchanged -/
structure SwpR (l l' : List Int) (x y n : Nat) : Prop where
  len : l'.length = l.length
  lo : ∀ t, t < n → l'.getD (x + t) 0 = l.getD (y + t) 0
  hi : ∀ t, t < n → l'.getD (y + t) 0 = l.getD (x + t) 0
  out : ∀ k, ¬ (x ≤ k ∧ k < x + n) → ¬ (y ≤ k ∧ k < y + n) → l'.getD k 0 = l.getD k 0
theorem SwpR.zero (l : List Int) (x y : Nat) : SwpR l l x y 0 := ⟨rfl, fun t h => by omega, fun t h => by omega, fun _ _ _ => rfl⟩
theorem SwpR.step {x y n : Nat} (h : SwpR l m x y n) (hxy : x + n < y) (hy : y + n < l.length) : SwpR l (Go.Proofs.Ytdpdcjadedcglaa.swp m (x + n) (y + n)) x y (n + 1) := by
  have hm := h.len
  have h1 : x + n < m.length := by omega
  have h2 : y + n < m.length := by omega
  refine ⟨(swp_len m _ _).trans hm, fun t ht => ?_, fun t ht => ?_, fun k g1 g2 => ?_⟩
  · by_cases e : t = n
    · subst e; rw [swp_i h1 h2]; exact h.out _ (by omega) (by omega)
    · rw [swp_o h1 h2 (by omega) (by omega)]; exact h.lo t (by omega)
  · by_cases e : t = n
    · subst e; rw [swp_j h1 h2]; exact h.out _ (by omega) (by omega)
    · rw [swp_o h1 h2 (by omega) (by omega)]; exact h.hi t (by omega)
  · rw [swp_o h1 h2 (by omega) (by omega)]; exact h.out k (by omega) (by omega)
/-- [x, m) and [m, y) exchanged -/
structure RotP (l l' : List Int) (x m y : Nat) : Prop where
  len : l'.length = l.length
  lo : ∀ t, t < y - m → l'.getD (x + t) 0 = l.getD (m + t) 0
  hi : ∀ t, t < m - x → l'.getD (x + (y - m) + t) 0 = l.getD (x + t) 0
  out : ∀ k, ¬ (x ≤ k ∧ k < y) → l'.getD k 0 = l.getD k 0
theorem RotP.longer {l l1 l2 : List Int} {m i j : Nat} (h : SwpR l l1 (m - i) m j) (hi : i ≤ m) (hij : j < i) (g : RotP l1 l2 (m - (i - j)) m (m + j)) : RotP l l2 (m - i) m (m + j) := by
  refine ⟨g.len.trans h.len, fun t ht => ?_, fun t ht => ?_, fun k hk => ?_⟩
  · rw [g.out _ (by omega)]; exact h.lo t (by omega)
  · by_cases e : t < j
    · have := g.lo t (by omega)
      rw [show m - i + (m + j - m) + t = m - (i - j) + t by omega, this]
      exact h.hi t e
    · have := g.hi (t - j) (by omega)
      rw [show m - i + (m + j - m) + t = m - (i - j) + (m + j - m) + (t - j) by omega, this, h.out _ (by omega) (by omega)]
      congr 1; omega
  · rw [g.out k (by omega)]; exact h.out k (by omega) (by omega)
theorem RotP.shorter {l l1 l2 : List Int} {m i j : Nat} (h : SwpR l l1 (m - i) (m + j - i) i) (hi : i ≤ m) (hij : i < j) (g : RotP l1 l2 (m - i) m (m + (j - i))) : RotP l l2 (m - i) m (m + j) := by
  refine ⟨g.len.trans h.len, fun t ht => ?_, fun t ht => ?_, fun k hk => ?_⟩
  · by_cases e : t < j - i
    · rw [g.lo t (by omega)]; exact h.out _ (by omega) (by omega)
    · have := g.hi (t - (j - i)) (by omega)
      rw [show m - i + t = m - i + (m + (j - i) - m) + (t - (j - i)) by omega, this]
      rw [h.lo _ (by omega)]
      congr 1; omega
  · rw [g.out _ (by omega)]
    rw [show m - i + (m + j - m) + t = m + j - i + t by omega]
    exact h.hi t (by omega)
  · rw [g.out k (by omega)]; exact h.out k (by omega) (by omega)
theorem RotP.same {l l1 : List Int} {m i : Nat} (h : SwpR l l1 (m - i) m i) (hi : i ≤ m) : RotP l l1 (m - i) m (m + i) := by
  refine ⟨h.len, fun t ht => h.lo t (by omega), fun t ht => ?_, fun k hk => h.out k (by omega) (by omega)⟩
  rw [show m - i + (m + i - m) + t = m + t by omega]; exact h.hi t (by omega)
theorem RotP.idL (l : List Int) (m y : Nat) : RotP l l m m y := ⟨rfl, fun t _ => rfl, fun t h => by omega, fun _ _ => rfl⟩
theorem RotP.idR (l : List Int) (x m : Nat) : RotP l l x m m := ⟨rfl, fun t h => by omega, fun t h => by rw [Nat.sub_self, Nat.add_zero], fun _ _ => rfl⟩
theorem RotP.seg {x y mm : Nat} (h : RotP l m x mm y) (h1 : x ≤ mm) (h2 : mm ≤ y) : SegP x y l m := by
  refine ⟨h.len, fun i hi => h.out i (by omega), fun i g1 g2 => ?_, fun j g1 g2 => ?_⟩
  · by_cases e : i < x + (y - mm)
    · refine ⟨mm + (i - x), by omega, by omega, ?_⟩
      have := h.lo (i - x) (by omega)
      rw [← this]; congr 1; omega
    · refine ⟨x + (i - x - (y - mm)), by omega, by omega, ?_⟩
      have := h.hi (i - x - (y - mm)) (by omega)
      rw [← this]; congr 1; omega
  · by_cases e : mm ≤ j
    · refine ⟨x + (j - mm), by omega, by omega, ?_⟩
      rw [h.lo (j - mm) (by omega)]; congr 1; omega
    · refine ⟨x + (y - mm) + (j - x), by omega, by omega, ?_⟩
      rw [h.hi (j - x) (by omega)]; congr 1; omega
end
end Go.Proofs.Ytdpdcjadedcglaa
namespace Go.Proofs.Ytdpdcjadedcglaa
section
variable {a b i j k s m : Nat} {l l1 l2 l3 : List Int} {c : Int → Int → Int} {P : Int → Prop}
theorem Ordr.le_lt {α : Type} {c : α → α → Int} {P : α → Prop} (h : Ordr c P) {x y z : α} (hx : P x) (hy : P y) (hz : P z) (h1 : c x y ≤ 0) (h2 : c y z < 0) : c x z < 0 := by
  have a1 := h.anti y z hy hz
  have a2 := h.anti x z hx hz
  have t1 := h.tr x y z hx hy hz h1 (by omega)
  rcases Int.lt_or_le (c x z) 0 with q | q
  · exact q
  · have := h.tr z x y hz hx hy (by omega) h1
    omega
theorem Ordr.lt_le {α : Type} {c : α → α → Int} {P : α → Prop} (h : Ordr c P) {x y z : α} (hx : P x) (hy : P y) (hz : P z) (h1 : c x y < 0) (h2 : c y z ≤ 0) : c x z < 0 := by
  have a1 := h.anti x y hx hy
  have a2 := h.anti x z hx hz
  have t1 := h.tr x y z hx hy hz (by omega) h2
  rcases Int.lt_or_le (c x z) 0 with q | q
  · exact q
  · have := h.tr y z x hy hz hx h2 (by omega)
    omega
theorem SrtS.le (hO : Ordr c P) (hP : AllP P l) (hb : b ≤ l.length) (h : SrtS c l a b) {i j : Nat} (h1 : a ≤ i) (h2 : i ≤ j) (h3 : j < b) : c (l.getD i 0) (l.getD j 0) ≤ 0 := by
  by_cases e : i = j
  · subst e; have := hO.self (hP i (by omega)); omega
  · exact h i j h1 (by omega) h3
/-- what precedes x lies ahead of what does not -/
theorem srt_down (hO : Ordr c P) (hP : AllP P l) (hb : b ≤ l.length) (h : SrtS c l a b) {x : Int} (hx : P x) {k : Nat} (h1 : a ≤ k) (h2 : k < b) (hc : c (l.getD k 0) x < 0) : ∀ t, a ≤ t → t < k + 1 → c (l.getD t 0) x < 0 := fun t g1 g2 =>
  hO.le_lt (hP t (by omega)) (hP k (by omega)) hx (h.le hO hP hb g1 (by omega) h2) hc
theorem srt_up (hO : Ordr c P) (hP : AllP P l) (hb : b ≤ l.length) (h : SrtS c l a b) {x : Int} (hx : P x) {k : Nat} (h1 : a ≤ k) (h2 : k < b) (hc : ¬ c (l.getD k 0) x < 0) : ∀ t, k ≤ t → t < b → ¬ c (l.getD t 0) x < 0 := fun t g1 g2 q => by
  have := hO.le_lt (hP k (by omega)) (hP t (by omega)) hx (h.le hO hP hb h1 g1 g2) q
  omega
theorem srt_down2 (hO : Ordr c P) (hP : AllP P l) (hb : b ≤ l.length) (h : SrtS c l a b) {x : Int} (hx : P x) {k : Nat} (h1 : a ≤ k) (h2 : k < b) (hc : ¬ c x (l.getD k 0) < 0) : ∀ t, a ≤ t → t < k + 1 → ¬ c x (l.getD t 0) < 0 := fun t g1 g2 q => by
  have := hO.lt_le hx (hP t (by omega)) (hP k (by omega)) q (h.le hO hP hb g1 (by omega) h2)
  omega
theorem srt_up2 (hO : Ordr c P) (hP : AllP P l) (hb : b ≤ l.length) (h : SrtS c l a b) {x : Int} (hx : P x) {k : Nat} (h1 : a ≤ k) (h2 : k < b) (hc : c x (l.getD k 0) < 0) : ∀ t, k ≤ t → t < b → c x (l.getD t 0) < 0 := fun t g1 g2 =>
  hO.lt_le hx (hP k (by omega)) (hP t (by omega)) hc (h.le hO hP hb h1 g1 g2)
theorem Ordr.ge {α : Type} {c : α → α → Int} {P : α → Prop} (h : Ordr c P) {x y : α} (hx : P x) (hy : P y) (q : ¬ c x y < 0) : c y x ≤ 0 := by have := h.anti x y hx hy; omega
/-- the symmetric search: places t of [s0, r0), p - t beyond m -/
structure SymB (c : Int → Int → Int) (l : List Int) (a m b p s0 r0 s r : Nat) : Prop where
  rng : a ≤ s0 ∧ s0 ≤ s ∧ s ≤ r ∧ r ≤ r0 ∧ r0 ≤ m ∧ r0 + m ≤ p + 1 ∧ p < b + s0
  lo : ∀ t, s0 ≤ t → t < s → ¬ c (l.getD (p - t) 0) (l.getD t 0) < 0
  hi : ∀ t, r ≤ t → t < r0 → c (l.getD (p - t) 0) (l.getD t 0) < 0
theorem SymB.up {p s0 r0 r t0 : Nat} (hO : Ordr c P) (hP : AllP P l) (hl : b ≤ l.length) (S1 : SrtS c l a m) (S2 : SrtS c l m b) (h : SymB c l a m b p s0 r0 s r) (h1 : s ≤ t0) (h2 : t0 < r) (hc : ¬ c (l.getD (p - t0) 0) (l.getD t0 0) < 0) : SymB c l a m b p s0 r0 (t0 + 1) r := by
  obtain ⟨q1, q2, q3, q4, q5, q6, q7⟩ := h.rng
  refine ⟨by omega, fun t g1 g2 q => hc ?_, h.hi⟩
  have e1 := S1.le hO hP (by omega) (i := t) (j := t0) (by omega) (by omega) (by omega)
  have e2 := S2.le hO hP hl (i := p - t0) (j := p - t) (by omega) (by omega) (by omega)
  exact hO.lt_le (hP _ (by omega)) (hP _ (by omega)) (hP _ (by omega)) (hO.le_lt (hP _ (by omega)) (hP _ (by omega)) (hP _ (by omega)) e2 q) e1
theorem SymB.down {p s0 r0 r t0 : Nat} (hO : Ordr c P) (hP : AllP P l) (hl : b ≤ l.length) (S1 : SrtS c l a m) (S2 : SrtS c l m b) (h : SymB c l a m b p s0 r0 s r) (h1 : s ≤ t0) (h2 : t0 < r) (hc : c (l.getD (p - t0) 0) (l.getD t0 0) < 0) : SymB c l a m b p s0 r0 s t0 := by
  obtain ⟨q1, q2, q3, q4, q5, q6, q7⟩ := h.rng
  refine ⟨by omega, h.lo, fun t g1 g2 => ?_⟩
  have e1 := S1.le hO hP (by omega) (i := t0) (j := t) (by omega) (by omega) (by omega)
  have e2 := S2.le hO hP hl (i := p - t) (j := p - t0) (by omega) (by omega) (by omega)
  exact hO.lt_le (hP _ (by omega)) (hP _ (by omega)) (hP _ (by omega)) (hO.le_lt (hP _ (by omega)) (hP _ (by omega)) (hP _ (by omega)) e2 hc) e1
/-- behind the rotation: two halves, each of two sorted parts; the left precedes the right -/
structure Half (c : Int → Int → Int) (l : List Int) (a s d e b : Nat) : Prop where
  p1 : SrtS c l a s
  p2 : SrtS c l s d
  p3 : SrtS c l d e
  p4 : SrtS c l e b
  cr : ∀ x y, a ≤ x → x < d → d ≤ y → y < b → c (l.getD x 0) (l.getD y 0) ≤ 0
theorem half_of {d e n s0 r0 : Nat} (hO : Ordr c P) (hP : AllP P l) (hl : b ≤ l.length) (S1 : SrtS c l a m) (S2 : SrtS c l m b) (ha : a < m) (hm : m < b) (hd : d = (a + b) / 2) (hn : n = d + m) (h : SymB c l a m b (n - 1) s0 r0 s s)
    (hs0 : (d < m → s0 = n - b ∧ r0 = d) ∧ (¬ d < m → s0 = a ∧ r0 = m)) (he : e = n - s) (hR : RotP l l1 s m e) : Half c l1 a s d e b := by
  obtain ⟨q1, q2, q3, q4, q5, q6, q7⟩ := h.rng
  have lo1 : ∀ x, s ≤ x → x < d → l1.getD x 0 = l.getD (m + (x - s)) 0 := fun x g1 g2 => by rw [← hR.lo (x - s) (by omega)]; congr 1; omega
  have hi1 : ∀ x, d ≤ x → x < e → l1.getD x 0 = l.getD (s + (x - d)) 0 := fun x g1 g2 => by rw [← hR.hi (x - d) (by omega)]; congr 1; omega
  refine ⟨fun i j g1 g2 g3 => ?_, fun i j g1 g2 g3 => ?_, fun i j g1 g2 g3 => ?_, fun i j g1 g2 g3 => ?_, fun x y g1 g2 g3 g4 => ?_⟩
  · rw [hR.out i (by omega), hR.out j (by omega)]; exact S1 i j g1 g2 (by omega)
  · rw [lo1 i g1 (by omega), lo1 j (by omega) g3]; exact S2 _ _ (by omega) (by omega) (by omega)
  · rw [hi1 i g1 (by omega), hi1 j (by omega) g3]; exact S1 _ _ (by omega) (by omega) (by omega)
  · rw [hR.out i (by omega), hR.out j (by omega)]; exact S2 i j (by omega) g2 g3
  · by_cases cx : x < s
    · rw [hR.out x (by omega)]
      by_cases cy : y < e
      · rw [hi1 y g3 cy]; exact S1.le hO hP (by omega) g1 (by omega) (by omega)
      · rw [hR.out y (by omega)]
        have k1 := h.lo (s - 1) (by rcases Nat.lt_or_ge d m with q | q; exact (by have := hs0.1 q; omega); exact (by have := hs0.2 (by omega); omega)) (by omega)
        rw [show n - 1 - (s - 1) = e by omega] at k1
        have k2 := hO.ge (hP _ (by omega)) (hP _ (by omega)) k1
        have k3 := S1.le hO hP (by omega) (i := x) (j := s - 1) g1 (by omega) (by omega)
        have k4 := S2.le hO hP hl (i := e) (j := y) (by omega) (by omega) g4
        exact hO.tr _ _ _ (hP _ (by omega)) (hP e (by omega)) (hP _ (by omega)) (hO.tr _ _ _ (hP _ (by omega)) (hP (s - 1) (by omega)) (hP _ (by omega)) k3 k2) k4
    · rw [lo1 x (by omega) g2]
      by_cases cy : y < e
      · rw [hi1 y g3 cy]
        have k1 := h.hi s (Nat.le_refl _) (by rcases Nat.lt_or_ge d m with q | q; exact (by have := hs0.1 q; omega); exact (by have := hs0.2 (by omega); omega))
        rw [show n - 1 - s = e - 1 by omega] at k1
        have k3 := S2.le hO hP hl (i := m + (x - s)) (j := e - 1) (by omega) (by omega) (by omega)
        have k4 := S1.le hO hP (by omega) (i := s) (j := s + (y - d)) (by omega) (by omega) (by omega)
        exact hO.tr _ _ _ (hP _ (by omega)) (hP s (by omega)) (hP _ (by omega)) (hO.tr _ _ _ (hP _ (by omega)) (hP (e - 1) (by omega)) (hP _ (by omega)) k3 (by omega)) k4
      · rw [hR.out y (by omega)]; exact S2.le hO hP hl (by omega) (by omega) g4
/-- two sorted halves, the left ahead of the right -/
theorem half_done {d e : Nat} (h : Half c l1 a s d e b) (had : a ≤ d) (hdb : d ≤ b) (p1 : SegP a d l1 l2) (s1 : SrtS c l2 a d) (p2 : SegP d b l2 l3) (s2 : SrtS c l3 d b) : SrtS c l3 a b := by
  intro i j g1 g2 g3
  by_cases c1 : j < d
  · rw [p2.out i (by omega), p2.out j (by omega)]; exact s1 i j g1 g2 c1
  · by_cases c2 : i < d
    · obtain ⟨j', f1, f2, f3⟩ := p2.old j (by omega) g3
      obtain ⟨i', e1, e2, e3⟩ := p1.old i g1 c2
      rw [p2.out i (by omega), f3, e3, p1.out j' (by omega)]
      exact h.cr i' j' e1 e2 f1 f2
    · exact s2 i j (by omega) g2 g3
/-! blocks -/
/-- in each block of n places, up to u, the elements are in order -/
def BlkS (c : Int → Int → Int) (l : List Int) (n u v : Nat) : Prop := ∀ i j, u ≤ i → i < j → j < v → i / n = j / n → c (l.getD i 0) (l.getD j 0) ≤ 0
theorem blkS_all {n u : Nat} (h : BlkS c l n 0 u) (hu : u ≤ n) : SrtS c l 0 u := fun i j h1 h2 h3 => h i j h1 h2 h3 (by rw [Nat.div_eq_of_lt (by omega), Nat.div_eq_of_lt (by omega)])
theorem div_blk {n q i : Nat} (hn : 0 < n) (h1 : q * n ≤ i) (h2 : i < (q + 1) * n) : i / n = q := by
  have e1 : q ≤ i / n := (Nat.le_div_iff_mul_le hn).2 h1
  have e2 : i / n < q + 1 := (Nat.div_lt_iff_lt_mul hn).2 h2
  omega
/-- one more block -/
theorem BlkS.grow {n q v : Nat} (hn : 0 < n) (h : BlkS c l1 n 0 (q * n)) (p : SegP (q * n) v l1 l2) (s : SrtS c l2 (q * n) v) (hv : v ≤ (q + 1) * n) : BlkS c l2 n 0 v := fun i j h1 h2 h3 h4 => by
  by_cases c1 : q * n ≤ i
  · exact s i j c1 h2 h3
  · by_cases c2 : j < q * n
    · rw [p.out i (by omega), p.out j (by omega)]; exact h i j h1 h2 c2 h4
    · rw [div_blk hn (by omega) (by omega : j < (q + 1) * n)] at h4
      have : i / n < q := (Nat.div_lt_iff_lt_mul hn).2 (by omega)
      omega
theorem BlkS.seg {n q u v x y : Nat} (hn : 0 < n) (h : BlkS c l n u v) (h1 : u ≤ x) (h2 : y ≤ v) (h3 : q * n ≤ x) (h4 : y ≤ (q + 1) * n) : SrtS c l x y := fun i j g1 g2 g3 =>
  h i j (by omega) g2 (by omega) (by rw [div_blk hn (q := q) (by omega) (by omega), div_blk hn (q := q) (by omega) (by omega)])
theorem BlkS.drop {n u v x y : Nat} (h : BlkS c l1 n u v) (p : SegP x y l1 l2) (hy : y ≤ v) : BlkS c l2 n (max u y) v := fun i j h1 h2 h3 h4 => by
  rw [p.out i (by omega), p.out j (by omega)]; exact h i j (by omega) h2 h3 h4
theorem BlkS.eq {n u v x y : Nat} (h : BlkS c l1 n u v) (p : SegP x y l1 l2) (hx : v ≤ x ∨ y ≤ u) : BlkS c l2 n u v := fun i j h1 h2 h3 h4 => by
  rw [p.out i (by omega), p.out j (by omega)]; exact h i j h1 h2 h3 h4
end
end Go.Proofs.Ytdpdcjadedcglaa
