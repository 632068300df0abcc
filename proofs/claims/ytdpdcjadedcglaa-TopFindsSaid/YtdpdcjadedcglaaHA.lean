/- A group of texts (HA), each with its own conditions: those of each lemma. -/
import Derived.Test.YtdpdcjadedcglaaGZ
import Derived.Test.YtdpdcjadedcglaaGX
import Derived.Test.YtdpdcjadedcglaaORDC
import Derived.Test.YtdpdcjadedcglaaGC
import Derived.Test.YtdpdcjadedcglaaP23P
import Derived.Test.YtdpdcjadedcglaaRETC
import Derived.Test.YtdpdcjadedcglaaGQ
import Derived.Test.YtdpdcjadedcglaaPTAK
set_option linter.unusedVariables false
set_option maxRecDepth 20000
set_option linter.unusedSimpArgs false
namespace Go.Proofs.Ytdpdcjadedcglaa
open Go.RowKit Go.Sort
attribute [local go_sem ↓] run_max2 run_min2
attribute [local go_sem] eql_ints_nil eql_arrs_nil
/-- the order of the arrays of a list, by their numbers -/
def cxS (l : List Arr) (p q : Int) : Int := cmpF 17 (l.getD p.toNat .zero) (l.getD q.toNat .zero)
def InR (n : Nat) (p : Int) : Prop := 0 ≤ p ∧ p.toNat < n
theorem getD_memA {l : List Arr} {k : Nat} (h : k < l.length) : l.getD k .zero ∈ l := by simp [List.getD_eq_getElem?_getD, h]
theorem cxS_ord {l : List Arr} (h : ∀ x ∈ l, rightS x = 0) : Ordr (cxS l) (InR l.length) := (cmpF_ord 17).pull (fun p : Int => l.getD p.toNat .zero) fun p hp => okF17 (h _ (getD_memA hp.2))
theorem cels_cell {w : World} {T : Nat → Prop} {so : Option Addr} {vs : List CelV} (h : CelsAt w T so vs) {k : Nat} (hk : k < vs.length) {x : CelV} (hx : x = vs[k]) : ∃ b off, so = some ⟨b, off, none⟩ ∧ w.cell? ⟨b, off + k * 4, none⟩ = some (.int .i64 x.x.kind) ∧ w.cell? ⟨b, off + k * 4 + 1, none⟩ = some (.slice x.s x.x.shape.length x.x.shape.length) ∧
    w.cell? ⟨b, off + k * 4 + 2, none⟩ = some (.slice x.n x.x.nums.length x.x.nums.length) ∧ w.cell? ⟨b, off + k * 4 + 3, none⟩ = some (.slice x.i x.x.items.length x.x.items.length) ∧ ArrG w T x.x x.s x.n x.i := by
  subst hx
  obtain ⟨b, off, e, _, _, hc, hg⟩ := h k hk
  exact ⟨b, off, e, hc 0 _ rfl, hc 1 _ rfl, hc 2 _ rfl, hc 3 _ rfl, hg⟩
set_option maxRecDepth 100000 in
set_option maxHeartbeats 4000000 in
theorem order_listcmp (vs : List CelV) (so : Option Addr) (sc : Nat) (S : Nat → Prop) (w : World) (h : CelsAt w S so vs) (hr : ∀ x ∈ vs.map CelV.x, rightS x = 0) (p q : Int) (hp : InR (vs.map CelV.x).length p) (hq : InR (vs.map CelV.x).length q) :
    Calls Try.prog 94 #[.slice so vs.length sc, .int .i64 p, .int .i64 q] w fun e w' => e = .returned (.int .i64 (cxS (vs.map CelV.x) p q)) ∧ Below w.heap.size w w' := by
  refine calls_post fun R' hR => ?_
  have E := hid (Env.start w (fun _ => True))
  obtain ⟨i, rfl⟩ : ∃ i : Nat, p = (i : Int) := ⟨p.toNat, by have := hp.1; omega⟩
  obtain ⟨j, rfl⟩ : ∃ i : Nat, q = (i : Int) := ⟨q.toNat, by have := hq.1; omega⟩
  have hi : i < vs.length := by have := hp.2; simp at this; exact this
  have hj : j < vs.length := by have := hq.2; simp at this; exact this
  clear hp hq
  obtain ⟨x, hx⟩ : ∃ x, x = vs[i] := ⟨_, rfl⟩
  obtain ⟨y, hy⟩ : ∃ x, x = vs[j] := ⟨_, rfl⟩
  have hrx : rightS x.x = 0 := hr _ (List.mem_map.2 ⟨x, hx ▸ List.getElem_mem hi, rfl⟩)
  have hry : rightS y.x = 0 := hr _ (List.mem_map.2 ⟨y, hy ▸ List.getElem_mem hj, rfl⟩)
  have hcm := hid (order_compareF 17 x.x y.x (okF17 hrx) (okF17 hry))
  obtain ⟨cv, hcv⟩ : ∃ v, v = cmpF 17 x.x y.x := ⟨_, rfl⟩
  have hval : cxS (vs.map CelV.x) (i : Int) (j : Int) = cv := by
    unfold cxS
    rw [hcv, hx, hy]
    simp [List.getD_eq_getElem?_getD, hi, hj]
  rw [hval] at hR
  obtain ⟨b1, o1, e1, x0, x1, x2, x3, gx⟩ := cels_cell h hi hx
  obtain ⟨b2, o2, e2, y0, y1, y2, y3, gy⟩ := cels_cell h hj hy
  rw [e1] at e2
  injection e2 with e2
  injection e2 with e2 e3
  subst e1
  subst e2
  subst e3
  obtain ⟨n, hn⟩ : ∃ n, n = vs.length := ⟨_, rfl⟩
  rw [← hn] at hi hj ⊢
  have hi2 : (i : Int) < (n : Int) := by omega
  have hj2 : (j : Int) < (n : Int) := by omega
  replace hx := hid hx
  replace hy := hid hy
  replace hn := hid hn
  replace hcv := hid hcv
  replace hval := hid hval
  replace gx := hid gx
  replace gy := hid gy
  clear h hr hrx hry
  go_enter Try.func94, Try.ntmps94
  go_upto_region 1 with fail
  obtain ⟨T, hT1, hT2, hT3⟩ := E.out.tw
  refine wp_region_mono (Sees w [(⟨b1, o1 + i * 4, none⟩, .int .i64 x.x.kind), (⟨b1, o1 + i * 4 + 1, none⟩, .slice x.s x.x.shape.length x.x.shape.length), (⟨b1, o1 + i * 4 + 2, none⟩, .slice x.n x.x.nums.length x.x.nums.length), (⟨b1, o1 + i * 4 + 3, none⟩, .slice x.i x.x.items.length x.x.items.length), (⟨b1, o1 + j * 4, none⟩, .int .i64 y.x.kind), (⟨b1, o1 + j * 4 + 1, none⟩, .slice y.s y.x.shape.length y.x.shape.length), (⟨b1, o1 + j * 4 + 2, none⟩, .slice y.n y.x.nums.length y.x.nums.length), (⟨b1, o1 + j * 4 + 3, none⟩, .slice y.i y.x.items.length y.x.items.length)]) [8] (fun k v u u' => match k with | 8 => v = .int .i64 cv | _ => False) (fun _ _ h e => h.up e) (Sees.start (all_cons (x0) (all_cons (x1) (all_cons (x2) (all_cons (x3) (all_cons (y0) (all_cons (y1) (all_cons (y2) (all_cons (y3) (all_nil)))))))))) (by kernel_rfl) (by kernel_rfl) ?_
  repeat (first | (refine m_plain (v := ?_) (by rfl) (by rfl) ?_ ?_; rotate_left; (intro wz hSw; obtain ⟨-, hSc⟩ := hSw; (try simp only [List.forall_mem_cons, List.forall_mem_nil, and_true] at hSc); go_simp; (first | done | with_reducible rfl)); (intro K hK; (try simp only [Act.put, List.setIfInBounds_toArray, List.set_cons_zero, List.set_cons_succ]); refine hK _ _ ?_; clear hK K)) | (refine m_skip (by rfl) (by rfl) ?_; (intro K hK; (try simp only [Act.put, List.setIfInBounds_toArray, List.set_cons_zero, List.set_cons_succ]); refine hK _ _ ?_; clear hK K)))
  refine m_make (by rfl) (by rfl) ?_ ?_
  · intro wz hSw hdep R hRz
    obtain ⟨hSe, hSc⟩ := hSw
    (try simp only [List.forall_mem_cons, List.forall_mem_nil, and_true] at hSc)
    unfold does
    (go_simp; refine Calls.mono (hcm.out _ _ _ _ _ _ _ _ _ _ _ _ S wz (gx.out.up hSe) (gy.out.up hSe) ⟨Nat.le_refl _, Nat.le_refl _, Nat.le_refl _⟩ ⟨Nat.le_refl _, Nat.le_refl _, Nat.le_refl _⟩) ?_; rintro e wq ⟨rfl, hqb⟩; rw [← hcv.out]; exact ⟨_, rfl, hRz.out _ _ ⟨hqb, rfl⟩⟩)
  intro v8 u8 x8 hG8 K hK
  have hF8 := hG8.fact
  (try dsimp only at hF8)
  subst hF8
  (try simp only [Act.put, List.setIfInBounds_toArray, List.set_cons_zero, List.set_cons_succ]); refine hK _ _ ?_; clear hK K
  repeat (first | (refine m_plain (v := ?_) (by rfl) (by rfl) ?_ ?_; rotate_left; (intro wz hSw; obtain ⟨-, hSc⟩ := hSw; (try simp only [List.forall_mem_cons, List.forall_mem_nil, and_true] at hSc); go_simp; (first | done | with_reducible rfl)); (intro K hK; (try simp only [Act.put, List.setIfInBounds_toArray, List.set_cons_zero, List.set_cons_succ]); refine hK _ _ ?_; clear hK K)) | (refine m_skip (by rfl) (by rfl) ?_; (intro K hK; (try simp only [Act.put, List.setIfInBounds_toArray, List.set_cons_zero, List.set_cons_succ]); refine hK _ _ ?_; clear hK K)))
  refine m_nil ?_
  intro wf hSf hAf
  have ef := hid (E.out.up hSf.1).ext
  clear hSf hAf
  go_wp2_with fail
  exact hR.out _ _ ⟨rfl, ef.out⟩
/-- the numbers of a list's arrays, in their order -/
structure Ords (l : List Arr) (σ : List Int) : Prop where
  len : σ.length = l.length
  seg : SegP 0 l.length (rngL l.length) σ
  srt : SrtS (cxS l) σ 0 l.length
def RetO (w : World) (S : Nat → Prop) (l : List Arr) (e : Ending) (w' : World) : Prop :=
  ∃ ro rc σ, e = .returned (.slice ro σ.length rc) ∧ Ords l σ ∧ IntsAt w' (fun b => S b ∨ w.heap.size ≤ b) ro σ ∧ Below w.heap.size w w'
theorem rngL_get {n k : Nat} (h : k < n) : (rngL n).getD k 0 = (k : Int) := by simp [rngL, List.getD_eq_getElem?_getD, h]
set_option maxRecDepth 100000 in
set_option maxHeartbeats 4000000 in
theorem order_Sorted (vs : List CelV) (so : Option Addr) (sc : Nat) (S : Nat → Prop) (w : World) (h : CelsAt w S so vs) (hr : ∀ x ∈ vs.map CelV.x, rightS x = 0) (hl : vs.length ≤ 1000000) :
    Calls Try.prog 73 #[.slice so vs.length sc] w (RetO w S (vs.map CelV.x)) := by
  refine calls_post fun R' hR => ?_
  have E := hid (Env.start w S)
  replace E := hid (E.out.addCels (h.mono (T' := fun b => S b ∧ b < w.heap.size) fun b hb hs => ⟨hs, hb⟩) fun b _ hb => E.out.old hb)
  replace E := hid E.out.row0I
  (try simp only [List.cons_append, List.nil_append, List.set_cons_zero, List.set_cons_succ] at E)
  clear h
  have hr0 := hid hr
  clear hr
  go_enter Try.func73, Try.ntmps73
  go_wp2_with fail
  go_loopw [3, 8] (fun o r wr => ∃ (k : Nat) (ao : Option Addr) (ac : Nat), k ≤ vs.length ∧ o = .slice ao (rngL k).length ac ∧ r = .int .i64 k ∧ Env w S wr [celsF so vs, .rowI ao ac (rngL k)]) (fun _ r _ => vs.length - (intOf r).toNat)
  case atStart => exact ⟨0, none, 0, Nat.zero_le _, rfl, rfl, E.out⟩
  case round =>
    clear E
    obtain ⟨k, ao, ac, hk, rfl, rfl, E⟩ := hrel
    replace E := hid E
    by_cases hlt : k < vs.length
    case pos =>
      obtain ⟨x, hx⟩ : ∃ x, x = vs[k] := ⟨_, rfl⟩
      obtain ⟨b1, o1, e1, x0, x1, x2, x3, gx⟩ := cels_cell (E.out.celsF 0 rfl) hlt hx
      have hrx := hid (hr0.out x.x (List.mem_map.2 ⟨x, hx ▸ List.getElem_mem hlt, rfl⟩))
      replace E := hid (E.out.addArr gx.arr (fun _ _ h => h))
      (try simp only [List.cons_append, List.nil_append, List.set_cons_zero, List.set_cons_succ] at E)
      clear gx
      subst e1
      have hst := hid (rngL_succ k)
      have hln := rngL_len k
      obtain ⟨cur, hcur⟩ : ∃ c, c = rngL k := ⟨_, rfl⟩
      rw [← hcur] at E hst hln ⊢
      have tt0 : (0 : Int) ≤ (k : Int) := by omega
      have tt1 : (k : Int) < (vs.length : Int) := by omega
      replace hcur := hid hcur
      replace hln := hid hln
      replace hx := hid hx
      go_upto_region 5 with (refine wpl_store4 rfl (.tmp 5) (.tmp 12) rfl _ rfl rfl ((E.out.alloc _).hdr 3 rfl) ?_; intro V HV CV; replace E := hid ((E.out.alloc _).chg 3 rfl CV HV); clear CV HV; (try simp only [List.cons_append, List.nil_append, List.set_cons_zero, List.set_cons_succ] at E))
      clear x0 x1 x2 x3
      obtain ⟨q30, q31, q32, q33⟩ := (E.out.hdr 3 rfl).all
      go_wp2_with fail
      clear q30 q31 q32 q33
      refine (array_Right x.x _ _ _ _ _ _ _ _ (E.out.arr 2 rfl)).mono ?_
      rintro e w1 ⟨rfl, hb⟩
      replace E := hid (E.out.up hb)
      clear hb
      rw [hrx.out]
      go_wp2_with (at_builtin; replace E := hid (E.out.lit [(k : Int)] (show (1 : Nat) ≤ 17592186044416 by decide)); (try simp only [List.cons_append, List.nil_append, List.set_cons_zero, List.set_cons_succ] at E); refine wplE_appI E.out 1 rfl rfl (.tmp 16) (.tmp 18) rfl rfl _ _ 1 [(k : Int)] rfl (E.out.ints 4 rfl) (by simp only [List.length_cons, List.length_nil]; have := hln.out; omega) ?_; intro V2 a1 k1 E1; clear E; have E := hid E1; clear E1; (try simp only [List.cons_append, List.nil_append, List.set_cons_zero, List.set_cons_succ] at E))
      go_roundw
      case rel => exact ⟨k + 1, a1, k1, by omega, by rw [hst.out]; simp, by go_num, by rw [hst.out]; exact E.out.sub (by simp)⟩
      case measure => simp [intOf]; omega
    case neg =>
      obtain rfl : k = vs.length := by omega
      replace E := hid (E.out.perm (List.Perm.swap _ _ _))
      have hln := rngL_len vs.length
      have hmn : (vs.map CelV.x).length = vs.length := by simp
      have hK : CmpK (cxS (vs.map CelV.x)) (InR (vs.map CelV.x).length) (.slice so vs.length sc) ao ac w S [celsF so vs] := fun l' wz e p q hp hq => order_listcmp vs so sc _ wz (e.celsF 1 rfl) hr0.out p q hp hq
      have hA : AllP (InR (vs.map CelV.x).length) (rngL vs.length) := fun j hj => by rw [rngL_get (by omega)]; exact ⟨by omega, by omega⟩
      have hc := slices_SortStable (cxS_ord hr0.out) (.slice so vs.length sc) ao ac w S [celsF so vs] hK (rngL vs.length) wr E.out hA (by omega)
      have hret : ∀ σ w2, SegP 0 (rngL vs.length).length (rngL vs.length) σ → SrtS (cxS (vs.map CelV.x)) σ 0 (rngL vs.length).length → Env w S w2 [.rowI ao ac σ, celsF so vs] → RetO w S (vs.map CelV.x) (.returned (.slice ao (rngL vs.length).length ac)) w2 := fun σ w2 p q e => by
        refine ⟨ao, ac, σ, by rw [p.len], ⟨by rw [p.len]; omega, by rw [hmn]; rw [hln] at p; exact p, by rw [hmn]; rw [hln] at q; exact q⟩, ((e.doneI 0 rfl (by have := p.len; omega)).ints 0 rfl).mono fun b _ h => h.1, e.ext⟩
      replace hc := hid hc
      replace hret := hid hret
      replace hmn := hid hmn
      replace hln := hid hln
      clear hK hA
      go_wp2_with fail
      refine hc.out.mono ?_
      rintro e' w2 ⟨rfl, σ, p2, q2, E2⟩
      have hfin := hid (hret.out σ w2 p2 q2 E2)
      clear p2 q2 E2 E hc hret
      go_wp2_with fail
      exact hR.out _ _ hfin.out
end Go.Proofs.Ytdpdcjadedcglaa
namespace Go.Proofs.Ytdpdcjadedcglaa
open Go.RowKit Go.Sort
attribute [local go_sem ↓] run_max2 run_min2
attribute [local go_sem] eql_ints_nil eql_arrs_nil
/-- the comparison of number p's array with a query -/
def ctS (l : List Arr) (q : Arr) (p : Int) : Int := cmpF 17 (l.getD p.toNat .zero) q
def posS (l : List Arr) (σ : List Int) (q : Arr) : Nat := σ.countP (fun p => decide (ctS l q p < 0))
/-- what find says -/
def findS (l : List Arr) (σ : List Int) (q : Arr) : Int := if posS l σ q < σ.length ∧ ctS l q (σ.getD (posS l σ q) 0) = 0 then σ.getD (posS l σ q) 0 else (l.length : Int)
theorem countP_bd (f : Int → Bool) : ∀ (σ : List Int) (i : Nat), i ≤ σ.length → (∀ t, t < i → f (σ.getD t 0) = true) → (∀ t, i ≤ t → t < σ.length → f (σ.getD t 0) = false) → σ.countP f = i
  | [], i, hi, _, _ => by simp at hi; simp [hi]
  | a :: r, 0, _, _, h2 => by
    rw [List.countP_eq_zero]
    intro x hx
    obtain ⟨t, ht, rfl⟩ := List.getElem_of_mem hx
    have := h2 t (Nat.zero_le _) ht
    rw [List.getD_eq_getElem?_getD, List.getElem?_eq_getElem ht] at this
    simp at this
    simp [this]
  | a :: r, i + 1, hi, h1, h2 => by
    have ha : f a = true := by simpa using h1 0 (Nat.succ_pos _)
    rw [List.countP_cons_of_pos ha, countP_bd f r i (by simpa using hi) (fun t ht => by simpa using h1 (t + 1) (by omega)) (fun t h3 h4 => by simpa using h2 (t + 1) (by omega) (by simpa using h4))]
theorem posS_of {l : List Arr} {σ : List Int} {q : Arr} {i : Nat} (h : i ≤ σ.length) (h1 : ∀ t, t < i → ctS l q (σ.getD t 0) < 0) (h2 : ∀ t, i ≤ t → t < σ.length → ¬ ctS l q (σ.getD t 0) < 0) : posS l σ q = i :=
  countP_bd _ σ i h (fun t ht => decide_eq_true (h1 t ht)) (fun t ht1 ht2 => decide_eq_false (h2 t ht1 ht2))
set_option maxRecDepth 100000 in
set_option maxHeartbeats 4000000 in
theorem search_find1 (vs : List CelV) (so : Option Addr) (sc : Nat) (bx : Nat) (q : Arr) (sq : Option Addr) (cq : Nat) (nq : Option Addr) (mq : Nat) (iq : Option Addr) (jq : Nat) (S : Nat → Prop) (w : World) (h0 : w.cell? ⟨bx, 0, none⟩ = some (.slice so vs.length sc)) (h : CelsAt w S so vs) (hr : ∀ x ∈ vs.map CelV.x, rightS x = 0) (gq : ArrG w S q sq nq iq) (rq : rightS q = 0) (kq : capsOk q cq mq jq) (p : Int) (hp : InR (vs.map CelV.x).length p) :
    Calls Try.prog 75 #[.int .i64 p, .agg #[.int .i64 q.kind, .slice sq q.shape.length cq, .slice nq q.nums.length mq, .slice iq q.items.length jq], .pointer (some ⟨bx, 0, none⟩)] w fun e w' => e = .returned (.int .i64 (ctS (vs.map CelV.x) q p)) ∧ Below w.heap.size w w' := by
  refine calls_post fun R' hR => ?_
  obtain ⟨i, rfl⟩ : ∃ i : Nat, p = (i : Int) := ⟨p.toNat, by have := hp.1; omega⟩
  have hi : i < vs.length := by have := hp.2; simp at this; exact this
  clear hp
  obtain ⟨x, hx⟩ : ∃ x, x = vs[i] := ⟨_, rfl⟩
  have hrx : Hid (rightS x.x = 0) := hid (hr _ (List.mem_map.2 ⟨x, hx ▸ List.getElem_mem hi, rfl⟩))
  obtain ⟨cv, hcv⟩ : ∃ v, v = cmpF 17 x.x q := ⟨_, rfl⟩
  have hval : ctS (vs.map CelV.x) q (i : Int) = cv := by
    unfold ctS
    rw [hcv, hx]
    simp [List.getD_eq_getElem?_getD, hi]
  rw [hval] at hR
  obtain ⟨b1, o1, e1, x0, x1, x2, x3, gx⟩ := cels_cell h hi hx
  subst e1
  obtain ⟨n, hn⟩ : ∃ n, n = vs.length := ⟨_, rfl⟩
  rw [← hn] at hi h0
  have hi2 : (i : Int) < (n : Int) := by omega
  replace hx := hid hx
  replace hn := hid hn
  replace hcv := hid hcv
  replace hval := hid hval
  replace gx := hid gx
  replace gq := hid gq
  replace kq := hid kq
  have rq0 := hid rq
  clear h hr rq
  go_enter Try.func75, Try.ntmps75
  go_upto_region 1 with fail
  generalize hEW : (w).alloc (.cells #[.int .i64 q.kind, .slice sq q.shape.length cq, .slice nq q.nums.length mq, .slice iq q.items.length jq] 27) = W
  have E := hid (env1 w S hEW)
  clear hEW
  have eW := E.out.ext
  have y0 := up_cell h0 eW
  have y1 := up_cell x0 eW
  have y2 := up_cell x1 eW
  have y3 := up_cell x2 eW
  have y4 := up_cell x3 eW
  obtain ⟨T, hT1, hT2, hT3⟩ := E.out.tw
  refine wp_region_mono (Sees W [(⟨bx, 0, none⟩, .slice (some ⟨b1, o1, none⟩) n sc), (⟨b1, o1 + i * 4, none⟩, .int .i64 x.x.kind), (⟨b1, o1 + i * 4 + 1, none⟩, .slice x.s x.x.shape.length x.x.shape.length), (⟨b1, o1 + i * 4 + 2, none⟩, .slice x.n x.x.nums.length x.x.nums.length), (⟨b1, o1 + i * 4 + 3, none⟩, .slice x.i x.x.items.length x.x.items.length), (⟨w.heap.size, 0, none⟩, .int .i64 q.kind), (⟨w.heap.size, 1, none⟩, .slice sq q.shape.length cq), (⟨w.heap.size, 2, none⟩, .slice nq q.nums.length mq), (⟨w.heap.size, 3, none⟩, .slice iq q.items.length jq)]) [6] (fun k v u u' => match k with | 6 => v = .int .i64 cv | _ => False) (fun _ _ h e => h.up e) (Sees.start (all_cons (y0) (all_cons (y1) (all_cons (y2) (all_cons (y3) (all_cons (y4) (all_cons ((E.out.hdr 0 rfl).c0) (all_cons ((E.out.hdr 0 rfl).c1) (all_cons ((E.out.hdr 0 rfl).c2) (all_cons ((E.out.hdr 0 rfl).c3) (all_nil))))))))))) (by kernel_rfl) (by kernel_rfl) ?_
  repeat (first | (refine m_plain (v := ?_) (by rfl) (by rfl) ?_ ?_; rotate_left; (intro wz hSw; obtain ⟨-, hSc⟩ := hSw; (try simp only [List.forall_mem_cons, List.forall_mem_nil, and_true] at hSc); go_simp; (first | done | with_reducible rfl)); (intro K hK; (try simp only [Act.put, List.setIfInBounds_toArray, List.set_cons_zero, List.set_cons_succ]); refine hK _ _ ?_; clear hK K)) | (refine m_skip (by rfl) (by rfl) ?_; (intro K hK; (try simp only [Act.put, List.setIfInBounds_toArray, List.set_cons_zero, List.set_cons_succ]); refine hK _ _ ?_; clear hK K)))
  refine m_make (by rfl) (by rfl) ?_ ?_
  · intro wz hSw hdep R hRz
    obtain ⟨hSe, hSc⟩ := hSw
    (try simp only [List.forall_mem_cons, List.forall_mem_nil, and_true] at hSc)
    unfold does
    (go_simp; refine Calls.mono (order_CompareF x.x _ _ _ _ _ _ q _ _ _ _ _ _ S wz (gx.out.up (Below.trans eW (Below.mono hSe E.out.size))) (gq.out.up (Below.trans eW (Below.mono hSe E.out.size))) hrx.out rq0.out ⟨Nat.le_refl _, Nat.le_refl _, Nat.le_refl _⟩ kq.out) ?_; rintro e wq ⟨rfl, hqb⟩; rw [← hcv.out]; exact ⟨_, rfl, hRz.out _ _ ⟨hqb, rfl⟩⟩)
  intro v6 u6 x6 hG6 K hK
  have hF6 := hG6.fact
  (try dsimp only at hF6)
  subst hF6
  (try simp only [Act.put, List.setIfInBounds_toArray, List.set_cons_zero, List.set_cons_succ]); refine hK _ _ ?_; clear hK K
  repeat (first | (refine m_plain (v := ?_) (by rfl) (by rfl) ?_ ?_; rotate_left; (intro wz hSw; obtain ⟨-, hSc⟩ := hSw; (try simp only [List.forall_mem_cons, List.forall_mem_nil, and_true] at hSc); go_simp; (first | done | with_reducible rfl)); (intro K hK; (try simp only [Act.put, List.setIfInBounds_toArray, List.set_cons_zero, List.set_cons_succ]); refine hK _ _ ?_; clear hK K)) | (refine m_skip (by rfl) (by rfl) ?_; (intro K hK; (try simp only [Act.put, List.setIfInBounds_toArray, List.set_cons_zero, List.set_cons_succ]); refine hK _ _ ?_; clear hK K)))
  refine m_nil ?_
  intro wf hSf hAf
  have ef := hid (E.out.up hSf.1).ext
  clear hSf hAf
  go_wp2_with fail
  exact hR.out _ _ ⟨rfl, ef.out⟩
set_option maxRecDepth 100000 in
set_option maxHeartbeats 4000000 in
theorem slices_BSearch (ct : Int → Int) (PP : Int → Prop) (σ : List Int) (ro : Option Addr) (rc : Nat) (bx : Nat) (q : Arr) (sq : Option Addr) (cq : Nat) (nq : Option Addr) (mq : Nat) (iq : Option Addr) (jq : Nat) (S : Nat → Prop) (w : World) (hσ : IntsAt w S ro σ) (hl : σ.length ≤ 1000000) (hP : ∀ k, k < σ.length → PP (σ.getD k 0))
    (hm : ∀ i j, i ≤ j → j < σ.length → ct (σ.getD j 0) < 0 → ct (σ.getD i 0) < 0)
    (hc : ∀ wz, Ext w wz → ∀ p, PP p → Calls Try.prog 75 #[.int .i64 p, .agg #[.int .i64 q.kind, .slice sq q.shape.length cq, .slice nq q.nums.length mq, .slice iq q.items.length jq], .pointer (some ⟨bx, 0, none⟩)] wz fun e w' => e = .returned (.int .i64 (ct p)) ∧ Below wz.heap.size wz w') :
    Calls Try.prog 74 #[.slice ro σ.length rc, .agg #[.int .i64 q.kind, .slice sq q.shape.length cq, .slice nq q.nums.length mq, .slice iq q.items.length jq], .func (.func 75) #[] #[.pointer (some ⟨bx, 0, none⟩)]] w fun e w' => ∃ (i : Nat) (ok : Bool), e = .returned (.tuple #[.int .i64 (i : Int), .bool ok]) ∧ i ≤ σ.length ∧ (∀ t, t < i → ct (σ.getD t 0) < 0) ∧ (∀ t, i ≤ t → t < σ.length → ¬ ct (σ.getD t 0) < 0) ∧ (ok = true ↔ i < σ.length ∧ ct (σ.getD i 0) = 0) ∧ Below w.heap.size w w' := by
  refine calls_post fun R' hR => ?_
  have hs0 := hid hσ
  obtain ⟨n, hn⟩ : ∃ n, n = σ.length := ⟨_, rfl⟩
  rw [← hn] at hl hP hm hR ⊢
  replace hn := hid hn
  replace hP := hid hP
  replace hm := hid hm
  replace hc := hid hc
  clear hσ
  go_enter Try.func74, Try.ntmps74
  go_upto_region 1 with fail
  generalize hEW : (w).alloc (.cells #[.int .i64 q.kind, .slice sq q.shape.length cq, .slice nq q.nums.length mq, .slice iq q.items.length jq] 27) = W
  have E := hid (env1 w S hEW)
  clear hEW
  replace E := hid (E.out.argI hs0.out)
  (try simp only [List.cons_append, List.nil_append, List.set_cons_zero, List.set_cons_succ] at E)
  go_wp2_with fail
  go_loopw [9, 10] (fun p r wr => ∃ i j : Nat, p = .int .i64 i ∧ r = .int .i64 j ∧ i ≤ j ∧ j ≤ n ∧ (∀ t, t < i → ct (σ.getD t 0) < 0) ∧ (∀ t, j ≤ t → t < n → ¬ ct (σ.getD t 0) < 0) ∧ Env w S wr [.obj w.heap.size (.cells #[.int .i64 q.kind, .slice sq q.shape.length cq, .slice nq q.nums.length mq, .slice iq q.items.length jq] 27 (0, 0)), .ints σ ro]) (fun p r _ => (intOf r).toNat - (intOf p).toNat)
  case atStart => exact ⟨0, n, rfl, rfl, Nat.zero_le _, Nat.le_refl _, fun t ht => by omega, fun t _ _ => by omega, E.out⟩
  case round =>
    clear E
    obtain ⟨i, j, rfl, rfl, q1, q2, q4, q5, E⟩ := hrel
    replace E := hid E
    by_cases hlt : i < j
    case pos =>
      obtain ⟨h, hh⟩ : ∃ h, h = (i + j) / 2 := ⟨_, rfl⟩
      have wh : ((i : Int) + (j : Int)) / 2 = (h : Int) := by omega
      have hhb : i ≤ h ∧ h < j := by omega
      obtain ⟨b1, o1, e1, _, _, c1⟩ := (E.out.ints 1 rfl).at (k := h) (by have := hn.out; omega)
      obtain ⟨vh, hvh⟩ : ∃ v, v = σ.getD h 0 := ⟨_, rfl⟩
      have ph : Hid (PP vh) := hid (by rw [hvh]; exact hP.out h (by omega))
      obtain ⟨cv, hcv⟩ : ∃ v, v = ct vh := ⟨_, rfl⟩
      rw [← hvh] at c1
      subst e1
      have g2 : (h : Int) < (n : Int) := by omega
      replace hh := hid hh
      by_cases hneg : cv < 0
      case pos =>
        have hnew : Hid (∀ t, t < h + 1 → ct (σ.getD t 0) < 0) := hid fun t ht => hm.out t h (by omega) (by omega) (by rw [← hvh, ← hcv]; exact hneg)
        replace q4 := hid q4
        replace q5 := hid q5
        replace hvh := hid hvh
        replace hcv := hid hcv
        go_upto_region 5 with fail
        obtain ⟨T, hT1, hT2, hT3⟩ := E.out.tw
        refine wp_region_mono (Sees wr [(⟨b1, o1 + h, none⟩, .int .i64 vh), (⟨w.heap.size, 0, none⟩, .int .i64 q.kind), (⟨w.heap.size, 1, none⟩, .slice sq q.shape.length cq), (⟨w.heap.size, 2, none⟩, .slice nq q.nums.length mq), (⟨w.heap.size, 3, none⟩, .slice iq q.items.length jq)]) [6] (fun k v u u' => match k with | 6 => v = .int .i64 cv | _ => False) (fun _ _ h e => h.up e) (Sees.start (all_cons (c1) (all_cons ((E.out.hdr 0 rfl).c0) (all_cons ((E.out.hdr 0 rfl).c1) (all_cons ((E.out.hdr 0 rfl).c2) (all_cons ((E.out.hdr 0 rfl).c3) (all_nil))))))) (by kernel_rfl) (by kernel_rfl) ?_
        repeat (first | (refine m_plain (v := ?_) (by rfl) (by rfl) ?_ ?_; rotate_left; (intro wz hSw; obtain ⟨-, hSc⟩ := hSw; (try simp only [List.forall_mem_cons, List.forall_mem_nil, and_true] at hSc); go_simp; (first | done | with_reducible rfl)); (intro K hK; (try simp only [Act.put, List.setIfInBounds_toArray, List.set_cons_zero, List.set_cons_succ]); refine hK _ _ ?_; clear hK K)) | (refine m_skip (by rfl) (by rfl) ?_; (intro K hK; (try simp only [Act.put, List.setIfInBounds_toArray, List.set_cons_zero, List.set_cons_succ]); refine hK _ _ ?_; clear hK K)))
        refine m_make (by rfl) (by rfl) ?_ ?_
        · intro wz hSw hdep R hRz
          obtain ⟨hSe, hSc⟩ := hSw
          (try simp only [List.forall_mem_cons, List.forall_mem_nil, and_true] at hSc)
          unfold does
          (go_simp; refine Calls.mono (hc.out wz (Below.trans E.out.ext (Below.mono hSe E.out.size)) vh ph.out) ?_; rintro e wq ⟨rfl, hqb⟩; rw [← hcv.out]; exact ⟨_, rfl, hRz.out _ _ ⟨hqb, rfl⟩⟩)
        intro v6 u6 x6 hG6 K hK
        have hF6 := hG6.fact
        (try dsimp only at hF6)
        subst hF6
        (try simp only [Act.put, List.setIfInBounds_toArray, List.set_cons_zero, List.set_cons_succ]); refine hK _ _ ?_; clear hK K
        repeat (first | (refine m_plain (v := ?_) (by rfl) (by rfl) ?_ ?_; rotate_left; (intro wz hSw; obtain ⟨-, hSc⟩ := hSw; (try simp only [List.forall_mem_cons, List.forall_mem_nil, and_true] at hSc); go_simp; (first | done | with_reducible rfl)); (intro K hK; (try simp only [Act.put, List.setIfInBounds_toArray, List.set_cons_zero, List.set_cons_succ]); refine hK _ _ ?_; clear hK K)) | (refine m_skip (by rfl) (by rfl) ?_; (intro K hK; (try simp only [Act.put, List.setIfInBounds_toArray, List.set_cons_zero, List.set_cons_succ]); refine hK _ _ ?_; clear hK K)))
        refine m_nil ?_
        intro wf hSf hAf
        replace E := hid (E.out.up hSf.1)
        clear hSf hAf c1
        go_wp2_with fail
        go_roundw
        case rel => exact ⟨h + 1, j, by go_num, rfl, by omega, q2, hnew.out, q5.out, E.out⟩
        case measure => simp [intOf]; omega
      case neg =>
        have hnew : Hid (∀ t, h ≤ t → t < n → ¬ ct (σ.getD t 0) < 0) := hid fun t ht1 ht2 hq => hneg (by rw [hcv, hvh]; exact hm.out h t ht1 ht2 hq)
        replace q4 := hid q4
        replace q5 := hid q5
        replace hvh := hid hvh
        replace hcv := hid hcv
        go_upto_region 5 with fail
        obtain ⟨T, hT1, hT2, hT3⟩ := E.out.tw
        refine wp_region_mono (Sees wr [(⟨b1, o1 + h, none⟩, .int .i64 vh), (⟨w.heap.size, 0, none⟩, .int .i64 q.kind), (⟨w.heap.size, 1, none⟩, .slice sq q.shape.length cq), (⟨w.heap.size, 2, none⟩, .slice nq q.nums.length mq), (⟨w.heap.size, 3, none⟩, .slice iq q.items.length jq)]) [6] (fun k v u u' => match k with | 6 => v = .int .i64 cv | _ => False) (fun _ _ h e => h.up e) (Sees.start (all_cons (c1) (all_cons ((E.out.hdr 0 rfl).c0) (all_cons ((E.out.hdr 0 rfl).c1) (all_cons ((E.out.hdr 0 rfl).c2) (all_cons ((E.out.hdr 0 rfl).c3) (all_nil))))))) (by kernel_rfl) (by kernel_rfl) ?_
        repeat (first | (refine m_plain (v := ?_) (by rfl) (by rfl) ?_ ?_; rotate_left; (intro wz hSw; obtain ⟨-, hSc⟩ := hSw; (try simp only [List.forall_mem_cons, List.forall_mem_nil, and_true] at hSc); go_simp; (first | done | with_reducible rfl)); (intro K hK; (try simp only [Act.put, List.setIfInBounds_toArray, List.set_cons_zero, List.set_cons_succ]); refine hK _ _ ?_; clear hK K)) | (refine m_skip (by rfl) (by rfl) ?_; (intro K hK; (try simp only [Act.put, List.setIfInBounds_toArray, List.set_cons_zero, List.set_cons_succ]); refine hK _ _ ?_; clear hK K)))
        refine m_make (by rfl) (by rfl) ?_ ?_
        · intro wz hSw hdep R hRz
          obtain ⟨hSe, hSc⟩ := hSw
          (try simp only [List.forall_mem_cons, List.forall_mem_nil, and_true] at hSc)
          unfold does
          (go_simp; refine Calls.mono (hc.out wz (Below.trans E.out.ext (Below.mono hSe E.out.size)) vh ph.out) ?_; rintro e wq ⟨rfl, hqb⟩; rw [← hcv.out]; exact ⟨_, rfl, hRz.out _ _ ⟨hqb, rfl⟩⟩)
        intro v6 u6 x6 hG6 K hK
        have hF6 := hG6.fact
        (try dsimp only at hF6)
        subst hF6
        (try simp only [Act.put, List.setIfInBounds_toArray, List.set_cons_zero, List.set_cons_succ]); refine hK _ _ ?_; clear hK K
        repeat (first | (refine m_plain (v := ?_) (by rfl) (by rfl) ?_ ?_; rotate_left; (intro wz hSw; obtain ⟨-, hSc⟩ := hSw; (try simp only [List.forall_mem_cons, List.forall_mem_nil, and_true] at hSc); go_simp; (first | done | with_reducible rfl)); (intro K hK; (try simp only [Act.put, List.setIfInBounds_toArray, List.set_cons_zero, List.set_cons_succ]); refine hK _ _ ?_; clear hK K)) | (refine m_skip (by rfl) (by rfl) ?_; (intro K hK; (try simp only [Act.put, List.setIfInBounds_toArray, List.set_cons_zero, List.set_cons_succ]); refine hK _ _ ?_; clear hK K)))
        refine m_nil ?_
        intro wf hSf hAf
        replace E := hid (E.out.up hSf.1)
        clear hSf hAf c1
        go_wp2_with fail
        go_roundw
        case rel => exact ⟨i, h, rfl, rfl, by omega, by omega, q4.out, hnew.out, E.out⟩
        case measure => simp [intOf]; omega
    case neg =>
      obtain rfl : i = j := by omega
      replace q4 := hid q4
      replace q5 := hid q5
      by_cases hin : i < n
      case neg =>
        have g1 : ¬ (i : Int) < (n : Int) := by omega
        go_upto_region 8 with fail
        refine wp_region_mono (Sees wr []) [] (fun k v u u' => match k with  | _ => False) (fun _ _ h e => h.up e) (Sees.start (all_nil)) (by kernel_rfl) (by kernel_rfl) ?_
        repeat (first | (refine m_plain (v := ?_) (by rfl) (by rfl) ?_ ?_; rotate_left; (intro wz hSw; obtain ⟨-, hSc⟩ := hSw; (try simp only [List.forall_mem_cons, List.forall_mem_nil, and_true] at hSc); go_simp; (first | done | with_reducible rfl)); (intro K hK; (try simp only [Act.put, List.setIfInBounds_toArray, List.set_cons_zero, List.set_cons_succ]); refine hK _ _ ?_; clear hK K)) | (refine m_skip (by rfl) (by rfl) ?_; (intro K hK; (try simp only [Act.put, List.setIfInBounds_toArray, List.set_cons_zero, List.set_cons_succ]); refine hK _ _ ?_; clear hK K)))
        refine m_nil ?_
        intro wf hSf hAf
        have ef := hid (E.out.up hSf.1).ext
        clear hSf hAf
        go_wp2_with fail
        exact hR.out _ _ ⟨i, false, rfl, q2, q4.out, q5.out, ⟨fun q => (by cases q), fun q => absurd q.1 hin⟩, ef.out⟩
      case pos =>
        obtain ⟨b1, o1, e1, _, _, c1⟩ := (E.out.ints 1 rfl).at (k := i) (by have := hn.out; omega)
        obtain ⟨vh, hvh⟩ : ∃ v, v = σ.getD i 0 := ⟨_, rfl⟩
        have ph : Hid (PP vh) := hid (by rw [hvh]; exact hP.out i (by omega))
        obtain ⟨cv, hcv⟩ : ∃ v, v = ct vh := ⟨_, rfl⟩
        rw [← hvh] at c1
        subst e1
        have g2 : (i : Int) < (n : Int) := by omega
        have hok : Hid ((cv == 0) = true ↔ i < n ∧ ct (σ.getD i 0) = 0) := hid (by rw [← hvh, ← hcv]; simp [hin])
        obtain ⟨ok, hokv⟩ : ∃ ok, ok = (cv == 0) := ⟨_, rfl⟩
        have hokw : (cv == 0) = ok := hokv.symm
        rw [← hokv] at hok
        replace hokv := hid hokv
        replace hvh := hid hvh
        replace hcv := hid hcv
        go_upto_region 8 with fail
        obtain ⟨T, hT1, hT2, hT3⟩ := E.out.tw
        refine wp_region_mono (Sees wr [(⟨b1, o1 + i, none⟩, .int .i64 vh), (⟨w.heap.size, 0, none⟩, .int .i64 q.kind), (⟨w.heap.size, 1, none⟩, .slice sq q.shape.length cq), (⟨w.heap.size, 2, none⟩, .slice nq q.nums.length mq), (⟨w.heap.size, 3, none⟩, .slice iq q.items.length jq)]) [11] (fun k v u u' => match k with | 11 => v = .int .i64 cv | _ => False) (fun _ _ h e => h.up e) (Sees.start (all_cons (c1) (all_cons ((E.out.hdr 0 rfl).c0) (all_cons ((E.out.hdr 0 rfl).c1) (all_cons ((E.out.hdr 0 rfl).c2) (all_cons ((E.out.hdr 0 rfl).c3) (all_nil))))))) (by kernel_rfl) (by kernel_rfl) ?_
        repeat (first | (refine m_plain (v := ?_) (by rfl) (by rfl) ?_ ?_; rotate_left; (intro wz hSw; obtain ⟨-, hSc⟩ := hSw; (try simp only [List.forall_mem_cons, List.forall_mem_nil, and_true] at hSc); go_simp; (first | done | with_reducible rfl)); (intro K hK; (try simp only [Act.put, List.setIfInBounds_toArray, List.set_cons_zero, List.set_cons_succ]); refine hK _ _ ?_; clear hK K)) | (refine m_skip (by rfl) (by rfl) ?_; (intro K hK; (try simp only [Act.put, List.setIfInBounds_toArray, List.set_cons_zero, List.set_cons_succ]); refine hK _ _ ?_; clear hK K)))
        refine m_make (by rfl) (by rfl) ?_ ?_
        · intro wz hSw hdep R hRz
          obtain ⟨hSe, hSc⟩ := hSw
          (try simp only [List.forall_mem_cons, List.forall_mem_nil, and_true] at hSc)
          unfold does
          (go_simp; refine Calls.mono (hc.out wz (Below.trans E.out.ext (Below.mono hSe E.out.size)) vh ph.out) ?_; rintro e wq ⟨rfl, hqb⟩; rw [← hcv.out]; exact ⟨_, rfl, hRz.out _ _ ⟨hqb, rfl⟩⟩)
        intro v11 u11 x11 hG11 K hK
        have hF11 := hG11.fact
        (try dsimp only at hF11)
        subst hF11
        (try simp only [Act.put, List.setIfInBounds_toArray, List.set_cons_zero, List.set_cons_succ]); refine hK _ _ ?_; clear hK K
        repeat (first | (refine m_plain (v := ?_) (by rfl) (by rfl) ?_ ?_; rotate_left; (intro wz hSw; obtain ⟨-, hSc⟩ := hSw; (try simp only [List.forall_mem_cons, List.forall_mem_nil, and_true] at hSc); go_simp; (first | done | with_reducible rfl)); (intro K hK; (try simp only [Act.put, List.setIfInBounds_toArray, List.set_cons_zero, List.set_cons_succ]); refine hK _ _ ?_; clear hK K)) | (refine m_skip (by rfl) (by rfl) ?_; (intro K hK; (try simp only [Act.put, List.setIfInBounds_toArray, List.set_cons_zero, List.set_cons_succ]); refine hK _ _ ?_; clear hK K)))
        refine m_nil ?_
        intro wf hSf hAf
        have ef := hid (E.out.up hSf.1).ext
        clear hSf hAf c1
        go_wp2_with fail
        exact hR.out _ _ ⟨i, ok, rfl, q2, q4.out, q5.out, hok.out, ef.out⟩
end Go.Proofs.Ytdpdcjadedcglaa
namespace Go.Proofs.Ytdpdcjadedcglaa
theorem sumW_drop (l : List Arr) (n : Nat) : sumW (l.drop n) ≤ sumW l := by
  have h := sumW_append (l.take n) (l.drop n)
  rw [List.take_append_drop] at h
  have := sumW_nn (l.take n)
  omega
theorem sumW_take (l : List Arr) (n : Nat) : sumW (l.take n) ≤ sumW l := by
  have h := sumW_append (l.take n) (l.drop n)
  rw [List.take_append_drop] at h
  have := sumW_nn (l.drop n)
  omega
/-- a major cell is right -/
theorem cel_right {y : Arr} (h : rightS y = 0) {i : Nat} (hi : i < talM y) : rightS (celA y i) = 0 := by
  obtain ⟨k, hs, hlen⟩ := right_ok h
  obtain ⟨_, he, hit, hw⟩ := right_iff.1 h
  obtain ⟨b3, bN⟩ := blk_lens h
  refine right_iff.2 ⟨form_of k (celL_ok hs) ?_, fun n hn => he n (mem_blkL hn), fun x hx => hit x (mem_blkL hx), ?_⟩
  · rcases hlen with ⟨k3, _, _⟩ | ⟨k3, _, _⟩
    · refine Or.inl ⟨k3, ?_, ?_⟩
      · show ((blkL y.items i (celN y)).length : Int) = _
        rw [(b3 k3).1 i hi]; exact celN_eq hs
      · show (blkL y.nums i (celN y)).length = 0
        rw [(b3 k3).2 i]; rfl
    · refine Or.inr ⟨k3, ?_, ?_⟩
      · show ((blkL y.nums i (celN y)).length : Int) = _
        rw [(bN k3).1 i hi]; exact celN_eq hs
      · show (blkL y.items i (celN y)).length = 0
        rw [(bN k3).2 i]; rfl
  · show ((blkL y.nums i (celN y)).length : Int) + (blkL y.items i (celN y)).length + sumW (blkL y.items i (celN y)) ≤ 262144
    have h1 : (blkL y.nums i (celN y)).length ≤ y.nums.length := by unfold blkL; simp only [List.length_take, List.length_drop]; omega
    have h2 : (blkL y.items i (celN y)).length ≤ y.items.length := by unfold blkL; simp only [List.length_take, List.length_drop]; omega
    have h3 : sumW (blkL y.items i (celN y)) ≤ sumW y.items := Int.le_trans (sumW_take _ _) (sumW_drop _ _)
    omega
theorem cels_right {y : Arr} (h : rightS y = 0) (hn : 0 < y.shape.length) : ∀ x ∈ celsN y (talM y), rightS x = 0 := fun x hx => by
  simp only [celsN, List.mem_map, List.mem_range] at hx
  obtain ⟨i, hi, rfl⟩ := hx
  exact cel_right h hi
end Go.Proofs.Ytdpdcjadedcglaa
namespace Go.Proofs.Ytdpdcjadedcglaa
open Go.RowKit Go.Sort
attribute [local go_sem ↓] run_max2 run_min2
attribute [local go_sem] eql_ints_nil eql_arrs_nil
theorem Ords.inR {l : List Arr} {σ : List Int} (h : Ords l σ) : ∀ k, k < σ.length → InR l.length (σ.getD k 0) := fun k hk => by
  have hl := h.len
  obtain ⟨j, _, hj, e⟩ := h.seg.old k (Nat.zero_le _) (by omega)
  rw [e, rngL_get hj]
  exact ⟨by omega, by omega⟩
theorem Ords.mono {l : List Arr} {σ : List Int} (h : Ords l σ) (hr : ∀ x ∈ l, rightS x = 0) {q : Arr} (rq : rightS q = 0) : ∀ i j, i ≤ j → j < σ.length → ctS l q (σ.getD j 0) < 0 → ctS l q (σ.getD i 0) < 0 := fun i j h1 h2 h3 => by
  by_cases e : i = j
  · rw [e]; exact h3
  · have hl := h.len
    have hs := h.srt i j (Nat.zero_le _) (by omega) (by omega)
    exact (cmpF_ord 17).le_lt (okF17 (hr _ (getD_memA (h.inR i (by omega)).2))) (okF17 (hr _ (getD_memA (h.inR j h2).2))) (okF17 rq) hs h3
set_option maxRecDepth 100000 in
set_option maxHeartbeats 4000000 in
theorem search_find (vs : List CelV) (so : Option Addr) (sc : Nat) (σ : List Int) (ro : Option Addr) (rc : Nat) (q : Arr) (sq : Option Addr) (cq : Nat) (nq : Option Addr) (mq : Nat) (iq : Option Addr) (jq : Nat) (S : Nat → Prop) (w : World) (h : CelsAt w S so vs) (hr : ∀ x ∈ vs.map CelV.x, rightS x = 0) (hσ : IntsAt w S ro σ) (hO : Ords (vs.map CelV.x) σ) (hl : vs.length ≤ 1000000) (gq : ArrG w S q sq nq iq) (rq : rightS q = 0) (kq : capsOk q cq mq jq) :
    Calls Try.prog 44 #[.agg #[.slice so vs.length sc, .slice ro σ.length rc], .agg #[.int .i64 q.kind, .slice sq q.shape.length cq, .slice nq q.nums.length mq, .slice iq q.items.length jq]] w fun e w' => e = .returned (.int .i64 (findS (vs.map CelV.x) σ q)) ∧ Below w.heap.size w w' := by
  refine calls_post fun R' hR => ?_
  have hol := hO.len
  have hmn : (vs.map CelV.x).length = vs.length := by simp
  have hbs := hid (fun (bx : Nat) (W : World) (e : Ext w W) (k0 : W.cell? ⟨bx, 0, none⟩ = some (.slice so vs.length sc)) =>
    slices_BSearch (ctS (vs.map CelV.x) q) (InR (vs.map CelV.x).length) σ ro rc bx q sq cq nq mq iq jq S W (hσ.up e) (by omega) hO.inR (hO.mono hr rq) fun wz ez p hp => search_find1 vs so sc bx q sq cq nq mq iq jq S wz (up_cell k0 ez) (h.up (e.trans ez)) hr (gq.up (e.trans ez)) rq kq p hp)
  have hat := hid (fun (i : Nat) (h1 : i ≤ σ.length) (h2 : ∀ t, t < i → ctS (vs.map CelV.x) q (σ.getD t 0) < 0) (h3 : ∀ t, i ≤ t → t < σ.length → ¬ ctS (vs.map CelV.x) q (σ.getD t 0) < 0) => (show findS (vs.map CelV.x) σ q = if i < σ.length ∧ ctS (vs.map CelV.x) q (σ.getD i 0) = 0 then σ.getD i 0 else (vs.length : Int) from by unfold findS; rw [posS_of h1 h2 h3, hmn]))
  have hs0 := hid hσ
  clear h hr hσ hO gq rq kq
  replace hol := hid hol
  replace hmn := hid hmn
  go_enter Try.func44, Try.ntmps44
  go_upto_region 1 with fail
  generalize hEW : ((w).alloc (.cells #[.slice so vs.length sc, .slice ro σ.length rc] 64)).alloc (.cells #[.int .i64 q.kind, .slice sq q.shape.length cq, .slice nq q.nums.length mq, .slice iq q.items.length jq] 27) = W
  have E := hid (env2 w S hEW)
  clear hEW
  replace E := hid (E.out.argI hs0.out)
  (try simp only [List.cons_append, List.nil_append, List.set_cons_zero, List.set_cons_succ] at E)
  have o0 := E.out.obj 0 rfl
  have k0 : W.cell? ⟨w.heap.size, 0, none⟩ = some (.slice so vs.length sc) := by rw [cell_of_row _ _ _ _ _ _ o0]; rfl
  have k1 : W.cell? ⟨w.heap.size, 1, none⟩ = some (.slice ro σ.length rc) := by rw [cell_of_row _ _ _ _ _ _ o0]; rfl
  clear o0
  obtain ⟨q10, q11, q12, q13⟩ := (E.out.hdr 1 rfl).all
  go_wp2_with fail
  clear q10 q11 q12 q13
  refine (hbs.out w.heap.size W E.out.ext k0).mono ?_
  rintro e w1 ⟨i, ok, rfl, h1, h2, h3, h4, hb⟩
  have hv := hat.out i h1 h2 h3
  have k0 := up_cell k0 hb
  have k1 := up_cell k1 hb
  replace E := hid (E.out.up hb)
  clear hb h2 h3
  cases ok with
  | false =>
    have hv2 : Hid (findS (vs.map CelV.x) σ q = (vs.length : Int)) := hid (by rw [hv, if_neg (fun q => by have := h4.2 q; cases this)])
    clear hv h4
    go_wp2_with fail
    exact hR.out _ _ ⟨by rw [hv2.out] <;> rfl, E.out.ext⟩
  | true =>
    have h5 := h4.1 rfl
    have hv2 : Hid (findS (vs.map CelV.x) σ q = σ.getD i 0) := hid (by rw [hv, if_pos h5])
    obtain ⟨b1, o1, e1, _, _, c1⟩ := (E.out.ints 2 rfl).at (k := i) h5.1
    have g2 : (i : Int) < (σ.length : Int) := by have := h5.1; omega
    clear hv h4 h5
    subst e1
    go_wp2_with fail
    exact hR.out _ _ ⟨by rw [hv2.out] <;> rfl, E.out.ext⟩
section
variable {ops : Array Oper} {rest : List Oper} {o : Oper} {a : Act} {Q : Exit → Act → World → Prop} {w : World}
theorem wpl_storeX (hgd : o.guard = none) (p x : Operand) (ho : o.op = .store 64 p x) (b : Nat) {s r : Option Addr} {sl sc rl rc : Nat} {u0 u1 : Value} (hp : a.eval p = .pointer (some ⟨b, 0, none⟩)) (hx : a.eval x = .agg #[.slice s sl sc, .slice r rl rc]) (hh : w.heap[b]? = some (.cells #[u0, u1] 64 (0, 0)))
    (h : ∀ V, V.heap[b]? = some (.cells #[.slice s sl sc, .slice r rl rc] 64 (0, 0)) → Chg w V b → wpList Try.prog ops Q rest (a.put o.dst undef) V) : wpList Try.prog ops Q (o :: rest) a w := by
  refine wpList_plain hgd fun K hK => ?_
  have h1 := heap_setCell_same w b 0 _ _ (.slice s sl sc) hh
  have h2 := heap_setCell_same _ b 1 _ _ (.slice r rl rc) h1
  have := hK _ _ (h _ (by simpa using h2) ((chg_setCell _ _ _ _).trans (chg_setCell _ _ _ _)))
  unfold Oper.wp execOp
  simp only [ho, hp, hx]
  have d0 : w.cell? ⟨b, 0, none⟩ = some u0 := by rw [cell_of_row _ _ _ _ _ _ hh]; rfl
  have d1 : w.cell? ⟨b, 1, none⟩ = some u1 := by rw [cell_of_row _ _ _ _ _ _ hh]; rfl
  have f : ∀ o, w.frozen? ⟨b, o, none⟩ = false := fun o => frozen_of_row w b o _ _ hh
  simp [go_sem, d0, d1, f]
  exact this
end
theorem end_idx {fn : Func} {p : Tmp} (hres : fn.results = #[.cell p 64]) {w : World} {b : Nat} {tmps : Array Value} {u v : Value} (h : w.heap[b]? = some (.cells #[u, v] 64 (0, 0))) (hp : tmps.getD p undef = .pointer (some ⟨b, 0, none⟩)) :
    (results fn tmps).run Try.prog w = .ok (.agg #[u, v]) w :=
  results_cell_row hres tmps w b _ _ _ _ hp h Try.underlying64 rfl (by kernel_rfl)
/-- the cells of an array, and their order -/
def RetX (w : World) (S : Nat → Prop) (y : Arr) (e : Ending) (w' : World) : Prop :=
  ∃ so sc vs ro rc σ, e = .returned (.agg #[.slice so (List.length (α := CelV) vs) sc, .slice ro (List.length (α := Int) σ) rc]) ∧ vs.map CelV.x = celsN y (talM y) ∧ Ords (celsN y (talM y)) σ ∧ CelsAt w' (fun b => S b ∨ w.heap.size ≤ b) so vs ∧ IntsAt w' (fun b => S b ∨ w.heap.size ≤ b) ro σ ∧ Below w.heap.size w w'
set_option maxRecDepth 100000 in
set_option maxHeartbeats 4000000 in
theorem search_indexed (y : Arr) (sy : Option Addr) (cy : Nat) (ny : Option Addr) (my : Nat) (iy : Option Addr) (jy : Nat) (S : Nat → Prop) (w : World) (h : ArrAt w S y sy ny iy) (hr : rightS y = 0) (hn : 0 < y.shape.length) (hc : y.shape.length ≤ cy ∧ y.nums.length ≤ my ∧ y.items.length ≤ jy) :
    Calls Try.prog 43 #[.agg #[.int .i64 y.kind, .slice sy y.shape.length cy, .slice ny y.nums.length my, .slice iy y.items.length jy]] w (RetX w S y) := by
  refine calls_post fun R' hR => ?_
  have h0 := hid h
  have hr0 := hid hr
  have hn0 := hid hn
  have hc0 := hid hc
  have ht := hid (tal_le (right_ok hr).2.1)
  clear h hr hn hc
  go_enter Try.func43, Try.ntmps43
  go_upto_region 1 with fail
  generalize hEW : ((w).alloc (.cells #[.int .i64 y.kind, .slice sy y.shape.length cy, .slice ny y.nums.length my, .slice iy y.items.length jy] 27)).alloc (.cells #[.slice none 0 0, .slice none 0 0] 64) = W
  have E := hid (env2 w S hEW)
  clear hEW
  replace E := hid (E.out.arg h0.out)
  (try simp only [List.cons_append, List.nil_append, List.set_cons_zero, List.set_cons_succ] at E)
  obtain ⟨q00, q01, q02, q03⟩ := (E.out.hdr 0 rfl).all
  go_wp2_with fail
  clear q00 q01 q02 q03
  refine (cell_CellsG y _ _ _ _ _ _ (-1) _ _ (E.out.arr 2 rfl) hr0.out hn0.out (Or.inr rfl) hc0.out).mono ?_
  rintro e w1 ⟨lo, lc, vs, rfl, hlc, hvs, hI, hb⟩
  replace E := hid ((E.out.up hb).addCels hI (fun b _ hq => E.out.res (Ext.refl _) hq))
  (try simp only [List.cons_append, List.nil_append, List.set_cons_zero, List.set_cons_succ] at E)
  have hvl : Hid (vs.length ≤ 1000000) := hid (by have := ht.out; rw [← List.length_map (f := CelV.x), hvs, celsN_len]; omega)
  have hvr : Hid (∀ x ∈ vs.map CelV.x, rightS x = 0) := hid (by rw [hvs]; exact cels_right hr0.out hn0.out)
  replace hvs := hid hvs
  replace hlc := hid hlc
  clear hb hI
  go_wp2_with fail
  refine (order_Sorted vs lo lc _ _ (E.out.celsF 3 rfl) hvr.out hvl.out).mono ?_
  rintro e w2 ⟨ro, rc, σ, rfl, hO, hI, hb⟩
  replace E := hid ((E.out.up hb).addInts hI (fun b _ hq => E.out.res (Ext.refl _) hq))
  (try simp only [List.cons_append, List.nil_append, List.set_cons_zero, List.set_cons_succ] at E)
  clear hb hI
  rw [hvs.out] at hO
  replace hO := hid hO
  go_wp2_with (refine wpl_storeX rfl (.tmp 2) (.tmp 9) rfl _ rfl rfl (E.out.obj 1 rfl) ?_; intro V HV CV; replace E := hid (E.out.chg 1 rfl CV HV))
  exact bodyPost_ret (end_idx rfl HV rfl) rfl (hR.out _ _ ⟨_, _, vs, _, _, σ, rfl, hvs.out, hO.out, (E.out.celsF 3 rfl).mono fun b _ h => h.1, (E.out.ints 4 rfl).mono fun b _ h => h.1, E.out.ext⟩)
set_option maxRecDepth 100000 in
set_option maxHeartbeats 4000000 in
theorem cell_Frame (y : Arr) (sy : Option Addr) (cy : Nat) (ny : Option Addr) (my : Nat) (iy : Option Addr) (jy : Nat) (S : Nat → Prop) (w : World) (h : ArrAt w S y sy ny iy) (hr : rightS y = 0) (hn : 0 < y.shape.length) (hc : y.shape.length ≤ cy) :
    Calls Try.prog 76 #[.agg #[.int .i64 y.kind, .slice sy y.shape.length cy, .slice ny y.nums.length my, .slice iy y.items.length jy], .int .i64 ((y.shape.length : Int) - 1)] w fun e w' => ∃ ao cap, e = .returned (.slice ao 1 cap) ∧ OwnI w' w.heap.size ao cap [(talM y : Int)] ∧ Below w.heap.size w w' := by
  refine calls_post fun R' hR => ?_
  have h0 := hid h
  have hr0 := hid hr
  have hsh := (right_ok hr).2.1
  have hl8 : y.shape.length ≤ 1000 := by have := (shapeB_iff.1 hsh).1; omega
  have hcons := tal_cons hsh (by omega)
  have hhd : ∀ w T, IntsAt w T sy y.shape → IntsAt w T sy [(talM y : Int)] := fun w T q => by
    have := q.take 1
    rw [hcons] at this
    exact this
  clear hcons
  have hwr : IntKind.i64.wrap ((y.shape.length : Int) - ((y.shape.length : Int) - 1)) = 1 := by rw [IntWalk.i64_in _ (by omega)]; omega
  clear h hr hsh
  go_enter Try.func76, Try.ntmps76
  go_upto_region 1 with fail
  generalize hEW : (w).alloc (.cells #[.int .i64 y.kind, .slice sy y.shape.length cy, .slice ny y.nums.length my, .slice iy y.items.length jy] 27) = W
  have E := hid (env1 w S hEW)
  clear hEW
  replace E := hid (E.out.arg h0.out)
  (try simp only [List.cons_append, List.nil_append, List.set_cons_zero, List.set_cons_succ] at E)
  replace E := hid (E.out.addInts (hhd _ _ (E.out.arr 1 rfl).shape) (fun _ _ h => h))
  (try simp only [List.cons_append, List.nil_append, List.set_cons_zero, List.set_cons_succ] at E)
  clear hhd
  obtain ⟨q00, q01, q02, q03⟩ := (E.out.hdr 0 rfl).all
  go_wp2_with fail
  clear q00 q01 q02 q03
  refine (array_Right y _ _ _ _ _ _ _ _ (E.out.arr 1 rfl)).mono ?_
  rintro e w1 ⟨rfl, hb⟩
  replace E := hid (E.out.up hb)
  clear hb
  rw [hr0.out]
  obtain ⟨q00, q01, q02, q03⟩ := (E.out.hdr 0 rfl).all
  have c1 : (1 : Int) ≤ (cy : Int) := by omega
  go_upto_region 3 with fail
  refine wp_region_mono (Sees w1 [(⟨w.heap.size, 0, none⟩, .int .i64 y.kind), (⟨w.heap.size, 1, none⟩, .slice sy y.shape.length cy), (⟨w.heap.size, 2, none⟩, .slice ny y.nums.length my), (⟨w.heap.size, 3, none⟩, .slice iy y.items.length jy)]) [9, 12] (fun k v u u' => match k with | 9 => v = .int .i64 ((y.shape.length : Int) - 1) | 12 => ∃ ao cap, v = .slice ao 1 cap ∧ OwnI u' u.heap.size ao cap [(talM y : Int)] | _ => False) (fun _ _ h e => h.up e) (Sees.start (all_cons ((E.out.hdr 0 rfl).c0) (all_cons ((E.out.hdr 0 rfl).c1) (all_cons ((E.out.hdr 0 rfl).c2) (all_cons ((E.out.hdr 0 rfl).c3) (all_nil)))))) (by kernel_rfl) (by kernel_rfl) ?_
  repeat (first | (refine m_plain (v := ?_) (by rfl) (by rfl) ?_ ?_; rotate_left; (intro wz hSw; obtain ⟨-, hSc⟩ := hSw; (try simp only [List.forall_mem_cons, List.forall_mem_nil, and_true] at hSc); go_simp; (first | done | with_reducible rfl)); (intro K hK; (try simp only [Act.put, List.setIfInBounds_toArray, List.set_cons_zero, List.set_cons_succ]); refine hK _ _ ?_; clear hK K)) | (refine m_skip (by rfl) (by rfl) ?_; (intro K hK; (try simp only [Act.put, List.setIfInBounds_toArray, List.set_cons_zero, List.set_cons_succ]); refine hK _ _ ?_; clear hK K)))
  refine m_make (by rfl) (by rfl) ?_ ?_
  · intro wz hSw hdep R hRz
    obtain ⟨hSe, hSc⟩ := hSw
    (try simp only [List.forall_mem_cons, List.forall_mem_nil, and_true] at hSc)
    unfold does
    (go_simp; refine Calls.mono (cell_Rank ((y.shape.length : Int) - 1) (y.shape.length : Int) wz ⟨⟨by omega, by omega⟩, Or.inl rfl⟩) ?_; rintro e wq ⟨rfl, rfl⟩; exact ⟨_, rfl, hRz.out _ _ ⟨Ext.refl _, rfl⟩⟩)
  intro v9 u9 x9 hG9 K hK
  have hF9 := hG9.fact
  (try dsimp only at hF9)
  subst hF9
  (try simp only [Act.put, List.setIfInBounds_toArray, List.set_cons_zero, List.set_cons_succ]); refine hK _ _ ?_; clear hK K
  repeat (first | (refine m_plain (v := ?_) (by rfl) (by rfl) ?_ ?_; rotate_left; (intro wz hSw; obtain ⟨-, hSc⟩ := hSw; (try simp only [List.forall_mem_cons, List.forall_mem_nil, and_true] at hSc); go_simp; (first | done | with_reducible rfl)); (intro K hK; (try simp only [Act.put, List.setIfInBounds_toArray, List.set_cons_zero, List.set_cons_succ]); refine hK _ _ ?_; clear hK K)) | (refine m_skip (by rfl) (by rfl) ?_; (intro K hK; (try simp only [Act.put, List.setIfInBounds_toArray, List.set_cons_zero, List.set_cons_succ]); refine hK _ _ ?_; clear hK K)))
  refine m_make (by rfl) (by rfl) ?_ ?_
  · intro wz hSw hdep R hRz
    obtain ⟨hSe, hSc⟩ := hSw
    (try simp only [List.forall_mem_cons, List.forall_mem_nil, and_true] at hSc)
    unfold does
    (go_simp; refine Calls.mono (slices_Clone [(talM y : Int)] _ _ _ wz ((E.out.ints 2 rfl).up hSe)) ?_; rintro e wq ⟨ta, tc, rfl, hq, hqb⟩; exact ⟨_, rfl, hRz.out _ _ ⟨hqb, ta, tc, rfl, hq⟩⟩)
  intro v12 u12 x12 hG12 K hK
  have hF12 := hG12.fact
  (try dsimp only at hF12)
  obtain ⟨ta, tc, rfl, ht⟩ := hF12
  (try simp only [Act.put, List.setIfInBounds_toArray, List.set_cons_zero, List.set_cons_succ]); refine hK _ _ ?_; clear hK K
  repeat (first | (refine m_plain (v := ?_) (by rfl) (by rfl) ?_ ?_; rotate_left; (intro wz hSw; obtain ⟨-, hSc⟩ := hSw; (try simp only [List.forall_mem_cons, List.forall_mem_nil, and_true] at hSc); go_simp; (first | done | with_reducible rfl)); (intro K hK; (try simp only [Act.put, List.setIfInBounds_toArray, List.set_cons_zero, List.set_cons_succ]); refine hK _ _ ?_; clear hK K)) | (refine m_skip (by rfl) (by rfl) ?_; (intro K hK; (try simp only [Act.put, List.setIfInBounds_toArray, List.set_cons_zero, List.set_cons_succ]); refine hK _ _ ?_; clear hK K)))
  refine m_nil ?_
  intro wf hSf hAf
  have hO := hid ((OwnI.up ht (hAf 12 _ rfl)).base (Nat.le_trans E.out.size (Below.size hG12.s.1)))
  replace E := hid (E.out.up hSf.1)
  clear hSf hAf hG9 hG12 ht
  go_wp2_with fail
  exact hR.out _ _ ⟨ta, tc, rfl, hO.out, E.out.ext⟩
end Go.Proofs.Ytdpdcjadedcglaa
namespace Go.Proofs.Ytdpdcjadedcglaa
open Go.RowKit Go.Sort
attribute [local go_sem ↓] run_max2 run_min2
attribute [local go_sem] eql_ints_nil eql_arrs_nil
theorem end_arrS {fn : Func} {a p q : Tmp} (hres : fn.results = #[.cell p 27, .tmp a, .tmp q]) {w : World} {b : Nat} {tmps : Array Value} {k s n i : Value} (h : Hdr w b k s n i) (hp : tmps.getD p undef = .pointer (some ⟨b, 0, none⟩)) {u v : Value} (ha : tmps.getD a undef = u) (hq : tmps.getD q undef = v) :
    (results fn tmps).run Try.prog w = .ok (.tuple #[.agg #[k, s, n, i], u, v]) w := by
  have hp' : tmps[p]?.getD undef = .pointer (some ⟨b, 0, none⟩) := by simpa using hp
  have hq' : tmps[q]?.getD undef = v := by simpa using hq
  have ha' : tmps[a]?.getD undef = u := by simpa using ha
  simp [results, hres, hp', hq', ha', asAddr, run_loadVar_row w b _ _ _ _ _ h Try.underlying27 rfl (by kernel_rfl)]
theorem cels_arr {w : World} {T : Nat → Prop} {so : Option Addr} {vs : List CelV} (h : CelsAt w T so vs) {k : Nat} (hk : k < vs.length) {x : CelV} (hx : x = vs[k]) : ArrG w T x.x x.s x.n x.i := by
  obtain ⟨_, _, _, _, _, _, _, g⟩ := cels_cell h hk hx
  exact g
/-- what find says of the first m cells of y -/
def fndN (z y : Arr) (σ : List Int) (m : Nat) : List Int := ((celsN y (talM y)).take m).map (findS (celsN z (talM z)) σ)
theorem fndN_len {z y : Arr} {σ : List Int} {m : Nat} (h : m ≤ talM y) : (fndN z y σ m).length = m := by
  unfold fndN; rw [List.length_map, List.length_take, celsN_len]; omega
theorem fndN_succ {z y : Arr} {σ : List Int} {m : Nat} (h : m < talM y) : fndN z y σ (m + 1) = fndN z y σ m ++ [findS (celsN z (talM z)) σ (celA y m)] := by
  have hl : m < (celsN y (talM y)).length := by rw [celsN_len]; exact h
  unfold fndN
  rw [← List.take_append_getElem hl, List.map_append]
  simp [celsN]
def RetS (w : World) (S : Nat → Prop) (z y : Arr) (e : Ending) (w' : World) : Prop :=
  ∃ fo fc no nc σ, e = .returned (.tuple #[.agg #[.int .i64 1, .slice fo 1 fc, .slice no (talM y) nc, .slice none 0 0], .int .i64 (talM z : Int), .int .i64 0]) ∧ Ords (celsN z (talM z)) σ ∧ 1 ≤ fc ∧ OwnI w' w.heap.size no nc (fndN z y σ (talM y)) ∧ IntsAt w' (fun b => (S b ∨ w.heap.size ≤ b) ∧ rowOf no ≠ some b) fo [(talM y : Int)] ∧ Below w.heap.size w w'
set_option maxRecDepth 100000 in
set_option maxHeartbeats 8000000 in
theorem search_search (z : Arr) (sz : Option Addr) (cz : Nat) (nz : Option Addr) (mz : Nat) (iz : Option Addr) (jz : Nat) (y : Arr) (sy : Option Addr) (cy : Nat) (ny : Option Addr) (my : Nat) (iy : Option Addr) (jy : Nat) (S : Nat → Prop) (w : World) (h : ArrAt w S z sz nz iz) (g : ArrAt w S y sy ny iy) (rz : rightS z = 0) (ry : rightS y = 0) (hl : z.shape.length = y.shape.length) (hn : 0 < y.shape.length) (hcz : capsOk z cz mz jz) (hcy : capsOk y cy my jy) :
    Calls Try.prog 45 #[.agg #[.int .i64 z.kind, .slice sz z.shape.length cz, .slice nz z.nums.length mz, .slice iz z.items.length jz], .agg #[.int .i64 y.kind, .slice sy y.shape.length cy, .slice ny y.nums.length my, .slice iy y.items.length jy]] w (RetS w S z y) := by
  refine calls_post fun R' hR => ?_
  have h0 := hid h
  have g0 := hid g
  have rz0 := hid rz
  have ry0 := hid ry
  have hn0 := hid hn
  have hcz0 := hid hcz
  have hcy0 := hid hcy
  have hnz : Hid (0 < z.shape.length) := hid (by omega)
  have hl8 : y.shape.length ≤ 8 := (shapeB_iff.1 (right_ok ry).2.1).1
  have htz := hid (tal_le (right_ok rz).2.1)
  have hty := hid (tal_le (right_ok ry).2.1)
  have wr1 : IntKind.i64.wrap ((z.shape.length : Int) - 1) = (y.shape.length : Int) - 1 := by rw [IntWalk.i64_in _ (by omega)]; omega
  have mx : max ((y.shape.length : Int) - 1) 0 = (y.shape.length : Int) - 1 := by omega
  have lt1 : ¬ (y.shape.length : Int) < (y.shape.length : Int) - 1 := by omega
  replace hl := hid hl
  clear h g rz ry hn hcz hcy
  go_enter Try.func45, Try.ntmps45
  go_upto_region 1 with fail
  generalize hEW : (((w).alloc (.cells #[.int .i64 z.kind, .slice sz z.shape.length cz, .slice nz z.nums.length mz, .slice iz z.items.length jz] 27)).alloc (.cells #[.int .i64 y.kind, .slice sy y.shape.length cy, .slice ny y.nums.length my, .slice iy y.items.length jy] 27)).alloc (.cells #[.int .i64 0, .slice none 0 0, .slice none 0 0, .slice none 0 0] 27) = W
  have E := hid (env3 w S hEW)
  clear hEW
  replace E := hid ((E.out.arg h0.out).arg g0.out)
  (try simp only [List.cons_append, List.nil_append, List.set_cons_zero, List.set_cons_succ] at E)
  obtain ⟨q00, q01, q02, q03⟩ := (E.out.hdr 0 rfl).all
  obtain ⟨q10, q11, q12, q13⟩ := (E.out.hdr 1 rfl).all
  go_wp2_with fail
  clear q00 q01 q02 q03 q10 q11 q12 q13
  refine (array_Right z _ _ _ _ _ _ _ _ (E.out.arr 3 rfl)).mono ?_
  rintro e w1 ⟨rfl, hb⟩
  replace E := hid (E.out.up hb)
  clear hb
  rw [rz0.out]
  obtain ⟨q00, q01, q02, q03⟩ := (E.out.hdr 0 rfl).all
  obtain ⟨q10, q11, q12, q13⟩ := (E.out.hdr 1 rfl).all
  go_wp2_with fail
  clear q00 q01 q02 q03 q10 q11 q12 q13
  refine (array_Right y _ _ _ _ _ _ _ _ (E.out.arr 4 rfl)).mono ?_
  rintro e w2 ⟨rfl, hb⟩
  replace E := hid (E.out.up hb)
  clear hb
  rw [ry0.out]
  obtain ⟨q00, q01, q02, q03⟩ := (E.out.hdr 0 rfl).all
  obtain ⟨q10, q11, q12, q13⟩ := (E.out.hdr 1 rfl).all
  go_wp2_with fail
  clear wr1 mx lt1
  clear q00 q01 q02 q03 q10 q11 q12 q13
  refine (search_indexed z _ _ _ _ _ _ _ w2 (E.out.arr 3 rfl) rz0.out hnz.out hcz0.out).mono ?_
  rintro e w3 ⟨so, sc, vs, ro, rc, σ, rfl, hvs, hO, hI, hJ, hb⟩
  replace E := hid (((E.out.up hb).addCels hI (fun b _ hq => E.out.res (Ext.refl _) hq)).addInts hJ (fun b _ hq => E.out.res (Ext.refl _) hq))
  (try simp only [List.cons_append, List.nil_append, List.set_cons_zero, List.set_cons_succ] at E)
  have hvl : Hid (vs.length = talM z) := hid (by rw [← List.length_map (f := CelV.x), hvs, celsN_len])
  have hvr : Hid (∀ x ∈ vs.map CelV.x, rightS x = 0) := hid (by rw [hvs]; exact cels_right rz0.out hnz.out)
  replace hvs := hid hvs
  replace hO := hid hO
  clear hb hI hJ
  go_upto_region 7 with (refine wpl_storeX rfl (.tmp 8) (.tmp 33) rfl _ rfl rfl ((E.out.alloc _).obj 7 rfl) ?_; intro V HV CV; replace E := hid ((E.out.alloc _).chg 7 rfl CV HV); clear CV HV; (try simp only [List.cons_append, List.nil_append, List.set_cons_zero, List.set_cons_succ] at E))
  generalize w3.heap.size = bi at E ⊢
  obtain ⟨q10, q11, q12, q13⟩ := (E.out.hdr 1 rfl).all
  go_wp2_with fail
  clear q10 q11 q12 q13
  refine (cell_Frame y _ _ _ _ _ _ _ V (E.out.arr 4 rfl) ry0.out hn0.out hcy0.out.1).mono ?_
  rintro e w4 ⟨fo, fc, rfl, hF, hb⟩
  have hfc := hid hF.cap
  replace E := hid ((E.out.up hb).addInts (hF.ints (by simp)) (fun b _ hq => E.out.fresh (Ext.refl _) hq.1))
  (try simp only [List.cons_append, List.nil_append, List.set_cons_zero, List.set_cons_succ] at E)
  clear hb hF
  go_upto_region 8 with (refine wpl_store4 rfl (.tmp 9) (.tmp 37) rfl _ rfl rfl ((E.out.alloc _).hdr 9 rfl) ?_; intro V2 HV CV; replace E := hid ((E.out.alloc _).chg 9 rfl CV HV); clear CV HV; (try simp only [List.cons_append, List.nil_append, List.set_cons_zero, List.set_cons_succ] at E))
  generalize w4.heap.size = po at E ⊢
  obtain ⟨q10, q11, q12, q13⟩ := (E.out.hdr 1 rfl).all
  go_wp2_with fail
  clear q10 q11 q12 q13
  refine (cell_CellsG y _ _ _ _ _ _ ((y.shape.length : Int) - 1) _ V2 (E.out.arr 4 rfl) ry0.out hn0.out (Or.inl rfl) hcy0.out).mono ?_
  rintro e w5 ⟨qo, qc, qs, rfl, hlc, hqs, hI, hb⟩
  replace E := hid ((E.out.up hb).addCels hI (fun b _ hq => E.out.res (Ext.refl _) hq))
  (try simp only [List.cons_append, List.nil_append, List.set_cons_zero, List.set_cons_succ] at E)
  replace E := hid E.out.row0I
  (try simp only [List.cons_append, List.nil_append, List.set_cons_zero, List.set_cons_succ] at E)
  have hql : qs.length = talM y := by rw [← List.length_map (f := CelV.x), hqs, celsN_len]
  have hqx : Hid (∀ k (hk : k < qs.length), (qs[k]).x = celA y k) := hid fun k hk => by
    have h1 : (qs.map CelV.x)[k]? = some (qs[k]).x := by simp [hk]
    rw [hqs] at h1
    simp only [celsN, List.getElem?_map] at h1
    rw [List.getElem?_range (by omega)] at h1
    simpa using h1.symm
  clear hb hI hlc hqs
  replace hql := hid hql
  go_wp2_with fail
  go_loopw [42] (fun r wr => ∃ (k : Nat) (na : Option Addr) (nc : Nat), k ≤ qs.length ∧ r = .int .i64 k ∧ Env w S wr [.obj w.heap.size (.cells #[.int .i64 z.kind, .slice sz z.shape.length cz, .slice nz z.nums.length mz, .slice iz z.items.length jz] 27 (0, 0)), .obj (w.heap.size + 1) (.cells #[.int .i64 y.kind, .slice sy y.shape.length cy, .slice ny y.nums.length my, .slice iy y.items.length jy] 27 (0, 0)), .obj (w.heap.size + 1 + 1) (.cells #[.int .i64 0, .slice none 0 0, .slice none 0 0, .slice none 0 0] 27 (0, 0)), .arr z sz nz iz, .arr y sy ny iy, celsF so vs, .ints σ ro, .obj bi (.cells #[.slice so vs.length sc, .slice ro σ.length rc] 64 (0, 0)), .ints [(talM y : Int)] fo, .obj po (.cells #[.int .i64 1, .slice fo 1 fc, .slice na (fndN z y σ k).length nc, .slice none 0 0] 27 (0, 0)), celsF qo qs, .rowI na nc (fndN z y σ k)]) (fun r _ => qs.length - (intOf r).toNat)
  case atStart => exact ⟨0, none, 0, Nat.zero_le _, rfl, E.out⟩
  case round =>
    clear E
    obtain ⟨k, na, nc, hk, rfl, E⟩ := hrel
    replace E := hid E
    by_cases hlt : k < qs.length
    case pos =>
      obtain ⟨x, hx⟩ : ∃ x, x = qs[k] := ⟨_, rfl⟩
      have hxc : x.x = celA y k := by rw [hx]; exact hqx.out k hlt
      have hxr : Hid (rightS x.x = 0) := hid (by rw [hxc]; exact cel_right ry0.out (by have := hql.out; omega))
      obtain ⟨d, hd⟩ : ∃ d, d = findS (celsN z (talM z)) σ x.x := ⟨_, rfl⟩
      have hst : Hid (fndN z y σ (k + 1) = fndN z y σ k ++ [d]) := hid (by rw [fndN_succ (by have := hql.out; omega), hd, hxc])
      have hln : (fndN z y σ k).length = k := fndN_len (by have := hql.out; omega)
      obtain ⟨cur, hcur⟩ : ∃ c, c = fndN z y σ k := ⟨_, rfl⟩
      rw [← hcur] at E hst hln
      obtain ⟨b1, o1, e1, x0, x1, x2, x3, gx⟩ := cels_cell (E.out.celsF 10 rfl) hlt hx
      clear gx
      have hk6 : Hid (k < qs.length ∧ k < 65536) := hid (by have := hql.out; have := hty.out; omega)
      have tt0 : (0 : Int) ≤ (k : Int) := by omega
      have tt1 : (k : Int) < (qs.length : Int) := by omega
      have wk : IntKind.i64.wrap ((k : Int) + 1) = (k : Int) + 1 := IntWalk.i64_in _ (by have := hk6.out; omega)
      replace hxc := hid hxc
      replace hcur := hid hcur
      replace hln := hid hln
      have hdv : Hid (findS (vs.map CelV.x) σ x.x = d) := hid (by rw [hvs.out, hd])
      replace hd := hid hd
      subst e1
      replace hx := hid hx
      have hltk := hid hlt
      go_upto_region 11 with (refine wpl_store4 rfl (.tmp 11) (.tmp 45) rfl _ rfl rfl ((E.out.alloc _).hdr 12 rfl) ?_; intro V3 HV CV; replace E := hid ((E.out.alloc _).chg 12 rfl CV HV); clear CV HV; (try simp only [List.cons_append, List.nil_append, List.set_cons_zero, List.set_cons_succ] at E))
      clear x0 x1 x2 x3
      generalize wr.heap.size = bq at E ⊢
      have gq := hid (cels_arr (E.out.celsF 10 rfl) hltk.out hx.out)
      have oi := E.out.obj 7 rfl
      have k0 : V3.cell? ⟨bi, 0, none⟩ = some (.slice so vs.length sc) := by rw [cell_of_row _ _ _ _ _ _ oi]; rfl
      have k1 : V3.cell? ⟨bi, 1, none⟩ = some (.slice ro σ.length rc) := by rw [cell_of_row _ _ _ _ _ _ oi]; rfl
      clear oi
      obtain ⟨q90, q91, q92, q93⟩ := (E.out.hdr 9 rfl).all
      obtain ⟨q120, q121, q122, q123⟩ := (E.out.hdr 12 rfl).all
      obtain ⟨T, hT1, hT2, hT3⟩ := E.out.tw
      refine wp_region_mono_tail 6 (Sees V3 [(⟨po, 2, none⟩, .slice na cur.length nc), (⟨bi, 0, none⟩, .slice so vs.length sc), (⟨bi, 1, none⟩, .slice ro σ.length rc), (⟨bq, 0, none⟩, .int .i64 x.x.kind), (⟨bq, 1, none⟩, .slice x.s x.x.shape.length x.x.shape.length), (⟨bq, 2, none⟩, .slice x.n x.x.nums.length x.x.nums.length), (⟨bq, 3, none⟩, .slice x.i x.x.items.length x.x.items.length)]) [4, 5] (fun k v u u' => match k with | 4 => v = .int .i64 d | 5 => v = .slice (some ⟨u.heap.size, 0, none⟩) 1 1 ∧ u' = u.alloc (.cells (([d] : List Int).map (Value.int .i64)).toArray 3) | _ => False) (fun _ _ h e => h.up e) (Sees.start (all_cons (q92) (all_cons (k0) (all_cons (k1) (all_cons (q120) (all_cons (q121) (all_cons (q122) (all_cons (q123) (all_nil))))))))) (by kernel_rfl) (by kernel_rfl) ?_
      simp only [List.take_succ_cons, List.take_zero, List.drop_succ_cons, List.drop_zero]
      repeat (first | (refine m_plain (v := ?_) (by rfl) (by rfl) ?_ ?_; rotate_left; (intro wz hSw; obtain ⟨-, hSc⟩ := hSw; (try simp only [List.forall_mem_cons, List.forall_mem_nil, and_true] at hSc); go_simp; (first | done | with_reducible rfl)); (intro K hK; (try simp only [Act.put, List.setIfInBounds_toArray, List.set_cons_zero, List.set_cons_succ]); refine hK _ _ ?_; clear hK K)) | (refine m_skip (by rfl) (by rfl) ?_; (intro K hK; (try simp only [Act.put, List.setIfInBounds_toArray, List.set_cons_zero, List.set_cons_succ]); refine hK _ _ ?_; clear hK K)))
      refine m_make (by rfl) (by rfl) ?_ ?_
      · intro wz hSw hdep R hRz
        obtain ⟨hSe, hSc⟩ := hSw
        (try simp only [List.forall_mem_cons, List.forall_mem_nil, and_true] at hSc)
        unfold does
        (go_simp; refine Calls.mono (search_find vs so sc σ ro rc x.x _ _ _ _ _ _ _ wz ((E.out.celsF 5 rfl).up hSe) hvr.out ((E.out.ints 6 rfl).up hSe) (hvs.out ▸ hO.out) (by have := hvl.out; have := htz.out; omega) (gq.out.up hSe) hxr.out ⟨Nat.le_refl _, Nat.le_refl _, Nat.le_refl _⟩) ?_; rintro e wq ⟨rfl, hqb⟩; rw [hdv.out]; exact ⟨_, rfl, hRz.out _ _ ⟨hqb, rfl⟩⟩)
      intro v4 u4 x4 hG4 K hK
      have hF4 := hG4.fact
      (try dsimp only at hF4)
      subst hF4
      (try simp only [Act.put, List.setIfInBounds_toArray, List.set_cons_zero, List.set_cons_succ]); refine hK _ _ ?_; clear hK K
      repeat (first | (refine m_plain (v := ?_) (by rfl) (by rfl) ?_ ?_; rotate_left; (intro wz hSw; obtain ⟨-, hSc⟩ := hSw; (try simp only [List.forall_mem_cons, List.forall_mem_nil, and_true] at hSc); go_simp; (first | done | with_reducible rfl)); (intro K hK; (try simp only [Act.put, List.setIfInBounds_toArray, List.set_cons_zero, List.set_cons_succ]); refine hK _ _ ?_; clear hK K)) | (refine m_skip (by rfl) (by rfl) ?_; (intro K hK; (try simp only [Act.put, List.setIfInBounds_toArray, List.set_cons_zero, List.set_cons_succ]); refine hK _ _ ?_; clear hK K)))
      refine m_make (by rfl) (by rfl) ?_ ?_
      · intro wz hSw hdep R hRz
        obtain ⟨hSe, hSc⟩ := hSw
        (try simp only [List.forall_mem_cons, List.forall_mem_nil, and_true] at hSc)
        unfold does
        (go_simp; exact hRz.out _ _ ⟨ext_alloc _ _, rfl, rfl⟩)
      intro v5 u5 x5 hG5 K hK
      have hF5 := hG5.fact
      (try dsimp only at hF5)
      obtain ⟨rfl, rfl⟩ := hF5
      (try simp only [Act.put, List.setIfInBounds_toArray, List.set_cons_zero, List.set_cons_succ]); refine hK _ _ ?_; clear hK K
      repeat (first | (refine m_plain (v := ?_) (by rfl) (by rfl) ?_ ?_; rotate_left; (intro wz hSw; obtain ⟨-, hSc⟩ := hSw; (try simp only [List.forall_mem_cons, List.forall_mem_nil, and_true] at hSc); go_simp; (first | done | with_reducible rfl)); (intro K hK; (try simp only [Act.put, List.setIfInBounds_toArray, List.set_cons_zero, List.set_cons_succ]); refine hK _ _ ?_; clear hK K)) | (refine m_skip (by rfl) (by rfl) ?_; (intro K hK; (try simp only [Act.put, List.setIfInBounds_toArray, List.set_cons_zero, List.set_cons_succ]); refine hK _ _ ?_; clear hK K)))
      refine m_nil ?_
      intro wf hSf hAf
      have oF := hid (lit_at (l := [d]) (hAf 5 _ rfl) (by simp))
      replace E := hid (E.out.up hSf.1)
      clear hSf hAf hG5 k0 k1
      clear q90 q91 q92 q93 q120 q121 q122 q123
      refine wplE_addN E.out 9 11 rfl rfl (by decide) rfl rfl rfl (.tmp 47) (.tmp 51) (.tmp 9) (.tmp 53) (.tmp 52) rfl rfl rfl _ _ 1 [d] rfl rfl oF.out (by have := hln.out; have := hk6.out; simp only [List.length_cons, List.length_nil]; omega) (fun _ => rfl) (fun _ _ => rfl) (fun _ _ => rfl) ?_
      intro V4 na' nc' E'
      clear E oF
      have E := hid E'
      clear E'
      go_wp2_with fail
      go_roundw
      case rel => exact ⟨k + 1, na', nc', hk6.out.1, by have := hk6.out; go_num, by rw [hst.out]; exact E.out.sub (by simp)⟩
      case measure => have := hk6.out; simp [intOf]; omega
    case neg =>
      have hkq : k = talM y := by have := hql.out; omega
      have hln : Hid ((fndN z y σ k).length = talM y) := hid (by rw [fndN_len (by omega), hkq])
      have hcu : Hid (fndN z y σ k = fndN z y σ (talM y)) := hid (by rw [hkq])
      obtain ⟨cur, hcur⟩ : ∃ c, c = fndN z y σ k := ⟨_, rfl⟩
      rw [← hcur] at E hln hcu
      replace hcur := hid hcur
      replace hkq := hid hkq
      have oi := E.out.obj 7 rfl
      have k0 : wr.cell? ⟨bi, 0, none⟩ = some (.slice so vs.length sc) := by rw [cell_of_row _ _ _ _ _ _ oi]; rfl
      clear oi
      obtain ⟨q90, q91, q92, q93⟩ := (E.out.hdr 9 rfl).all
      obtain ⟨q20, q21, q22, q23⟩ := (E.out.hdr 2 rfl).all
      have nf := (E.out.hdr 2 rfl).f
      have ne1 : ¬ bi = w.heap.size + 1 + 1 := by
        have := E.out.nd
        simp only [blks, Fact.blk, List.cons_append, List.nil_append, List.nodup_cons, List.mem_cons, not_or] at this
        omega
      have ne2 : ¬ w.heap.size + 1 + 1 = bi := fun q => ne1 q.symm
      go_upto_region 13 with fail
      go_region
      have HV0 := (E.out.hdr 2 rfl).set4 (.int .i64 1) (.slice fo 1 fc) (.slice na cur.length nc) (.slice none 0 0)
      have HV := HV0.up (ext_drawn _)
      replace E := hid ((E.out.chg 2 rfl (chg_set4 wr (w.heap.size + 1 + 1) _ _ _ _) HV0).up (ext_drawn _))
      clear HV0 k0 q20 q21 q22 q23 nf ne1 ne2
      clear q90 q91 q92 q93
      (try simp only [List.cons_append, List.nil_append, List.set_cons_zero, List.set_cons_succ] at E)
      generalize (World.setCell _ _ _).drew = V at E HV ⊢
      go_wp2_with fail
      refine bodyPost_ret (end_arrS rfl HV rfl rfl rfl) rfl (hR.out _ _ ?_)
      have hOw := E.out.rowI 11 rfl
      rw [hcu.out] at hOw
      refine ⟨fo, fc, na, nc, σ, by rw [hln.out, hvl.out] <;> rfl, hO.out, hfc.out, hOw, (E.out.ints 8 rfl).mono fun b _ hb => ⟨hb.1, fun q => hb.2 (mem_blks.2 ⟨.rowI na nc cur, by simp, by simp [Fact.blk, q]⟩)⟩, E.out.ext⟩
end Go.Proofs.Ytdpdcjadedcglaa
namespace Go.Proofs.Ytdpdcjadedcglaa
open Go.RowKit Go.Sort
attribute [local go_sem ↓] run_max2 run_min2
attribute [local go_sem] eql_ints_nil eql_arrs_nil
theorem tst_row {w0 w : World} {S : Nat → Prop} {L : List Fact} {no : Option Addr} {nc : Nat} {ns : List Int} {b : Nat} (h : Tst w0 S L b) (q : rowOf no ≠ some b) : Tst w0 S (L ++ [.rowI no nc ns]) b :=
  ⟨h.1, fun hm => by
    rw [blks_append] at hm
    simp only [blks, Fact.blk, List.append_nil, List.mem_append, Option.mem_toList, Option.mem_def] at hm
    rcases hm with hm | hm
    · exact h.2 hm
    · exact q hm⟩
set_option maxRecDepth 100000 in
set_option maxHeartbeats 4000000 in
theorem search_Find (z : Arr) (sz : Option Addr) (cz : Nat) (nz : Option Addr) (mz : Nat) (iz : Option Addr) (jz : Nat) (y : Arr) (sy : Option Addr) (cy : Nat) (ny : Option Addr) (my : Nat) (iy : Option Addr) (jy : Nat) (S : Nat → Prop) (w : World) (h : ArrAt w S z sz nz iz) (g : ArrAt w S y sy ny iy) (rz : rightS z = 0) (ry : rightS y = 0) (hl : z.shape.length = y.shape.length) (hn : 0 < y.shape.length) (hcz : capsOk z cz mz jz) (hcy : capsOk y cy my jy) : Calls Try.prog 15 #[.agg #[.int .i64 z.kind, .slice sz z.shape.length cz, .slice nz z.nums.length mz, .slice iz z.items.length jz], .agg #[.int .i64 y.kind, .slice sy y.shape.length cy, .slice ny y.nums.length my, .slice iy y.items.length jy]] w fun e w' => ∃ σ, Ords (celsN z (talM z)) σ ∧ RetAEC w (fun b => S b ∨ w.heap.size ≤ b) (.mk 1 [(talM y : Int)] (fndN z y σ (talM y)) []) 0 e w' := by
  refine calls_post fun R' hR => ?_
  have h0 := hid h
  have g0 := hid g
  have rz0 := hid rz
  have ry0 := hid ry
  have hl0 := hid hl
  have hn0 := hid hn
  have hcz0 := hid hcz
  have hcy0 := hid hcy
  have hty := hid (tal_le (right_ok ry).2.1)
  clear h g rz ry hl hn hcz hcy
  go_enter Try.func15, Try.ntmps15
  go_upto_region 1 with fail
  generalize hEW : (((w).alloc (.cells #[.int .i64 z.kind, .slice sz z.shape.length cz, .slice nz z.nums.length mz, .slice iz z.items.length jz] 27)).alloc (.cells #[.int .i64 y.kind, .slice sy y.shape.length cy, .slice ny y.nums.length my, .slice iy y.items.length jy] 27)).alloc (.cells #[.int .i64 0, .slice none 0 0, .slice none 0 0, .slice none 0 0] 27) = W
  have E := hid (env3 w S hEW)
  clear hEW
  replace E := hid ((E.out.arg h0.out).arg g0.out)
  (try simp only [List.cons_append, List.nil_append, List.set_cons_zero, List.set_cons_succ] at E)
  obtain ⟨q00, q01, q02, q03⟩ := (E.out.hdr 0 rfl).all
  obtain ⟨q10, q11, q12, q13⟩ := (E.out.hdr 1 rfl).all
  go_wp2_with fail
  clear q00 q01 q02 q03 q10 q11 q12 q13
  refine (search_search z _ _ _ _ _ _ y _ _ _ _ _ _ _ W (E.out.arr 3 rfl) (E.out.arr 4 rfl) rz0.out ry0.out hl0.out hn0.out hcz0.out hcy0.out).mono ?_
  rintro e w1 ⟨fo, fc, no, nc, σ, rfl, hO, hfc, hOw, hI, hb⟩
  replace E := hid ((E.out.addRowI hOw hb).addInts hI fun b _ hq => tst_row (w := w1) (E.out.res (Ext.refl _) hq.1) hq.2)
  (try simp only [List.cons_append, List.nil_append, List.set_cons_zero, List.set_cons_succ] at E)
  have hln : Hid ((fndN z y σ (talM y)).length = talM y) := hid (fndN_len (Nat.le_refl _))
  clear hb hI
  have hcp := hid (OwnI.cap hOw)
  replace hO := hid hO
  replace hfc := hid hfc
  clear hOw
  obtain ⟨ns, hns⟩ : ∃ ns, ns = fndN z y σ (talM y) := ⟨_, rfl⟩
  rw [← hns] at E hln hcp
  replace hns := hid hns
  go_upto_region 2 with (refine wpl_store4 rfl (.tmp 6) (.tmp 13) rfl _ rfl rfl ((E.out.alloc _).hdr 7 rfl) ?_; intro V HV CV; replace E := hid ((E.out.alloc _).chg 7 rfl CV HV); clear CV HV; (try simp only [List.cons_append, List.nil_append, List.set_cons_zero, List.set_cons_succ] at E))
  generalize w1.heap.size = po at E ⊢
  replace E := hid (E.out.doneI 5 rfl (by have := hln.out; have := hty.out; omega))
  (try simp only [List.cons_append, List.nil_append, List.set_cons_zero, List.set_cons_succ] at E)
  obtain ⟨q70, q71, q72, q73⟩ := (E.out.hdr 7 rfl).all
  go_wp2_with (refine wpl_store4 rfl (.tmp 4) (.tmp 16) rfl _ rfl rfl (E.out.hdr 2 rfl) ?_; intro V2 HV CV; replace E := hid (E.out.chg 2 rfl CV HV))
  refine bodyPost_ret (end_arr2 rfl HV rfl rfl) rfl (hR.out _ _ ⟨σ, hO.out, ?_⟩)
  have e1 := (E.out.ints 5 rfl)
  have e2 := (E.out.ints 6 rfl)
  rw [← hns.out]
  exact ⟨fo, fc, no, nc, none, 0, by simp [Arr.kind, Arr.shape, Arr.nums, Arr.items, hln.out], ArrAt.iff.2 ⟨e2.mono fun b _ h => h.1, e1.mono fun b _ h => h.1, by simp [Arr.items], by simp [Arr.items, ItemsAt]⟩, E.out.ext, by simpa [Arr.shape] using hfc.out, by simpa [Arr.nums] using hcp.out, by simp [Arr.items]⟩
theorem ones_step {ns : List Int} {m : Nat} (h : m < ns.length) : ((List.replicate m (1 : Int) ++ ns.drop m).set m 0).set m 1 = List.replicate (m + 1) (1 : Int) ++ ns.drop (m + 1) := by
  rw [List.set_set, List.set_append_right _ _ (by simp), List.length_replicate, Nat.sub_self, List.drop_eq_getElem_cons h, List.set_cons_zero, List.replicate_succ', List.append_assoc]
  rfl
theorem ones_get {ns : List Int} {m : Nat} (h : m < ns.length) : (List.replicate m (1 : Int) ++ ns.drop m).getD m 0 = ns.getD m 0 := by
  rw [List.getD_eq_getElem?_getD, List.getElem?_append_right (by simp), List.length_replicate, Nat.sub_self, List.drop_eq_getElem_cons h]
  simp [List.getD_eq_getElem?_getD, h]
set_option maxRecDepth 100000 in
set_option maxHeartbeats 4000000 in
theorem search_In (z : Arr) (sz : Option Addr) (cz : Nat) (nz : Option Addr) (mz : Nat) (iz : Option Addr) (jz : Nat) (y : Arr) (sy : Option Addr) (cy : Nat) (ny : Option Addr) (my : Nat) (iy : Option Addr) (jy : Nat) (S : Nat → Prop) (w : World) (h : ArrAt w S z sz nz iz) (g : ArrAt w S y sy ny iy) (rz : rightS z = 0) (ry : rightS y = 0) (hl : z.shape.length = y.shape.length) (hn : 0 < y.shape.length) (hcz : capsOk z cz mz jz) (hcy : capsOk y cy my jy) (hF : ∀ σ, Ords (celsN z (talM z)) σ → ∀ v ∈ fndN z y σ (talM y), v < (talM z : Int)) : Calls Try.prog 16 #[.agg #[.int .i64 y.kind, .slice sy y.shape.length cy, .slice ny y.nums.length my, .slice iy y.items.length jy], .agg #[.int .i64 z.kind, .slice sz z.shape.length cz, .slice nz z.nums.length mz, .slice iz z.items.length jz]] w (RetAEC w (fun b => S b ∨ w.heap.size ≤ b) (.mk 1 [(talM y : Int)] (List.replicate (talM y) 1) []) 0) := by
  refine calls_post fun R' hR => ?_
  have h0 := hid h
  have g0 := hid g
  have rz0 := hid rz
  have ry0 := hid ry
  have hl0 := hid hl
  have hn0 := hid hn
  have hcz0 := hid hcz
  have hcy0 := hid hcy
  have hty := hid (tal_le (right_ok ry).2.1)
  clear h g rz ry hl hn hcz hcy
  replace hF := hid hF
  go_enter Try.func16, Try.ntmps16
  go_upto_region 1 with fail
  generalize hEW : (((w).alloc (.cells #[.int .i64 y.kind, .slice sy y.shape.length cy, .slice ny y.nums.length my, .slice iy y.items.length jy] 27)).alloc (.cells #[.int .i64 z.kind, .slice sz z.shape.length cz, .slice nz z.nums.length mz, .slice iz z.items.length jz] 27)).alloc (.cells #[.int .i64 0, .slice none 0 0, .slice none 0 0, .slice none 0 0] 27) = W
  have E := hid (env3 w S hEW)
  clear hEW
  replace E := hid ((E.out.arg g0.out).arg h0.out)
  (try simp only [List.cons_append, List.nil_append, List.set_cons_zero, List.set_cons_succ] at E)
  obtain ⟨q00, q01, q02, q03⟩ := (E.out.hdr 0 rfl).all
  obtain ⟨q10, q11, q12, q13⟩ := (E.out.hdr 1 rfl).all
  go_wp2_with fail
  clear q00 q01 q02 q03 q10 q11 q12 q13
  refine (search_search z _ _ _ _ _ _ y _ _ _ _ _ _ _ W (E.out.arr 4 rfl) (E.out.arr 3 rfl) rz0.out ry0.out hl0.out hn0.out hcz0.out hcy0.out).mono ?_
  rintro e w1 ⟨fo, fc, no, nc, σ, rfl, hO, hfc, hOw, hI, hb⟩
  replace E := hid ((E.out.addRowI hOw hb).addInts hI fun b _ hq => tst_row (w := w1) (E.out.res (Ext.refl _) hq.1) hq.2)
  (try simp only [List.cons_append, List.nil_append, List.set_cons_zero, List.set_cons_succ] at E)
  have hln : Hid ((fndN z y σ (talM y)).length = talM y) := hid (fndN_len (Nat.le_refl _))
  clear hb hI
  have hcp := hid (OwnI.cap hOw)
  have hv := hF.out σ hO
  replace hfc := hid hfc
  clear hOw hO
  obtain ⟨ns, hns⟩ : ∃ ns, ns = fndN z y σ (talM y) := ⟨_, rfl⟩
  rw [← hns] at E hln hcp hv
  replace hns := hid hns
  replace hv := hid hv
  go_upto_region 2 with (refine wpl_store4 rfl (.tmp 6) (.tmp 15) rfl _ rfl rfl ((E.out.alloc _).hdr 7 rfl) ?_; intro V HV CV; replace E := hid ((E.out.alloc _).chg 7 rfl CV HV); clear CV HV; (try simp only [List.cons_append, List.nil_append, List.set_cons_zero, List.set_cons_succ] at E))
  generalize w1.heap.size = po at E ⊢
  obtain ⟨q70, q71, q72, q73⟩ := (E.out.hdr 7 rfl).all
  go_wp2_with fail
  clear q70 q71 q72 q73
  go_loopw [21] (fun r wr => ∃ m : Nat, m ≤ talM y ∧ r = .int .i64 m ∧ Env w S wr [.obj w.heap.size (.cells #[.int .i64 y.kind, .slice sy y.shape.length cy, .slice ny y.nums.length my, .slice iy y.items.length jy] 27 (0, 0)), .obj (w.heap.size + 1) (.cells #[.int .i64 z.kind, .slice sz z.shape.length cz, .slice nz z.nums.length mz, .slice iz z.items.length jz] 27 (0, 0)), .obj (w.heap.size + 1 + 1) (.cells #[.int .i64 0, .slice none 0 0, .slice none 0 0, .slice none 0 0] 27 (0, 0)), .arr y sy ny iy, .arr z sz nz iz, .rowI no nc (List.replicate m 1 ++ ns.drop m), .ints [(talM y : Int)] fo, .obj po (.cells #[.int .i64 1, .slice fo 1 fc, .slice no (talM y) nc, .slice none 0 0] 27 (0, 0))]) (fun r _ => talM y - (intOf r).toNat)
  case atStart => exact ⟨0, Nat.zero_le _, rfl, E.out⟩
  case round =>
    clear E
    obtain ⟨m, hm, rfl, E⟩ := hrel
    replace E := hid E
    by_cases hlt : m < talM y
    case pos =>
      have hlt2 : m < ns.length := by have := hln.out; omega
      have hst := hid (ones_step hlt2)
      have hgt := ones_get hlt2
      have hcl : (List.replicate m (1 : Int) ++ ns.drop m).length = talM y := by rw [List.length_append, List.length_replicate, List.length_drop]; have := hln.out; omega
      obtain ⟨v, hvv⟩ : ∃ v, v = ns.getD m 0 := ⟨_, rfl⟩
      have hvn : v < (talM z : Int) := by
        have hmem : v ∈ ns := by rw [hvv]; simp [List.getD_eq_getElem?_getD, hlt2]
        exact hv.out v hmem
      rw [← hvv] at hgt
      obtain ⟨cur, hcur⟩ : ∃ c, c = List.replicate m (1 : Int) ++ ns.drop m := ⟨_, rfl⟩
      rw [← hcur] at E hst hgt hcl
      obtain ⟨g, hao, _, _, _⟩ := (E.out.rowI 5 rfl).cellAt (k := m) (by omega)
      subst hao
      obtain ⟨c1, f1⟩ := (E.out.rowI 5 rfl).cellG (k := m) (by omega)
      rw [hgt] at c1
      have hmy := hid (show m < talM y ∧ m < 65536 ∧ m < cur.length from ⟨hlt, by have := hty.out; omega, by omega⟩)
      have wk : IntKind.i64.wrap ((m : Int) + 1) = (m : Int) + 1 := IntWalk.i64_in _ (by have := hmy.out; omega)
      have tt0 : (0 : Int) ≤ (m : Int) := by omega
      have tt1 : (m : Int) < (talM y : Int) := by omega
      replace hvv := hid hvv
      replace hcur := hid hcur
      replace hcl := hid hcl
      replace hgt := hid hgt
      obtain ⟨q70, q71, q72, q73⟩ := (E.out.hdr 7 rfl).all
      go_upto_region 6 with (refine wplE_setI E.out 5 rfl rfl (.tmp 29) (.const (.int .i64 0)) rfl m hmy.out.2.2 0 (fun g e => by injection e with e; injection e with e; subst e; rfl) rfl ?_; intro V1 E1; clear E; have E := hid E1; clear E1; (try simp only [List.cons_append, List.nil_append, List.set_cons_zero, List.set_cons_succ] at E))
      clear q70 q71 q72 q73
      obtain ⟨q70, q71, q72, q73⟩ := (E.out.hdr 7 rfl).all
      clear c1 f1
      go_wp2_with (refine wplE_setI E.out 5 rfl rfl (.tmp 36) (.const (.int .i64 1)) rfl m (by have := hmy.out.2.2; simpa using this) 1 (fun g e => by injection e with e; injection e with e; subst e; rfl) rfl ?_; intro V2 E1; clear E; have E := hid E1; clear E1; (try simp only [List.cons_append, List.nil_append, List.set_cons_zero, List.set_cons_succ] at E))
      go_roundw
      case rel => exact ⟨m + 1, hmy.out.1, by go_num, by rw [← hst.out]; exact E.out⟩
      case measure => have := hmy.out; simp [intOf]; omega
    case neg =>
      have hmy : m = talM y := by omega
      have hz : Hid (List.replicate m (1 : Int) ++ ns.drop m = List.replicate (talM y) 1) := hid (by rw [hmy, List.drop_of_length_le (by have := hln.out; omega)]; simp)
      rw [hz.out] at E
      replace E := hid (E.out.doneI 5 rfl (by rw [List.length_replicate]; have := hty.out; omega))
      (try simp only [List.cons_append, List.nil_append, List.set_cons_zero, List.set_cons_succ] at E)
      replace hmy := hid hmy
      obtain ⟨q70, q71, q72, q73⟩ := (E.out.hdr 7 rfl).all
      go_wp2_with (refine wpl_store4 rfl (.tmp 4) (.tmp 38) rfl _ rfl rfl (E.out.hdr 2 rfl) ?_; intro V2 HV CV; replace E := hid (E.out.chg 2 rfl CV HV))
      refine bodyPost_ret (end_arr2 rfl HV rfl rfl) rfl (hR.out _ _ ?_)
      have e1 := (E.out.ints 5 rfl)
      have e2 := (E.out.ints 6 rfl)
      have hcp2 : talM y ≤ nc := by have := hcp.out; have := hln.out; omega
      exact ⟨fo, fc, no, nc, none, 0, by simp [Arr.kind, Arr.shape, Arr.nums, Arr.items], ArrAt.iff.2 ⟨e2.mono fun b _ h => h.1, e1.mono fun b _ h => h.1, by simp [Arr.items], by simp [Arr.items, ItemsAt]⟩, E.out.ext, by simpa [Arr.shape] using hfc.out, by simpa [Arr.nums] using hcp2, by simp [Arr.items]⟩
end Go.Proofs.Ytdpdcjadedcglaa
namespace Go.Proofs.Ytdpdcjadedcglaa
open Go.RowKit Go.Sort
attribute [local go_sem ↓] run_max2 run_min2
attribute [local go_sem] eql_ints_nil eql_arrs_nil
/-- cell i is kept: no cell ahead of it is found in its stead -/
def kpL (y : Arr) (σ : List Int) (m : Nat) : List Nat := (List.range m).filter fun i => decide (¬ findS (celsN y (talM y)) σ (celA y i) < (i : Int))
def unN (y : Arr) (σ : List Int) (m : Nat) : List Int := (kpL y σ m).flatMap fun i => (celA y i).nums
def unI (y : Arr) (σ : List Int) (m : Nat) : List Arr := (kpL y σ m).flatMap fun i => (celA y i).items
def uniS (y : Arr) (σ : List Int) : Arr := .mk y.kind (((kpL y σ (talM y)).length : Int) :: celL y) (unN y σ (talM y)) (unI y σ (talM y))
section
variable {y : Arr} {σ : List Int} {m : Nat}
theorem kpL_yes (h : ¬ findS (celsN y (talM y)) σ (celA y m) < (m : Int)) : kpL y σ (m + 1) = kpL y σ m ++ [m] := by
  unfold kpL; rw [List.range_succ, List.filter_append]; simp; omega
theorem kpL_no (h : findS (celsN y (talM y)) σ (celA y m) < (m : Int)) : kpL y σ (m + 1) = kpL y σ m := by
  unfold kpL; rw [List.range_succ, List.filter_append]; simp [h]
theorem kpL_len : (kpL y σ m).length ≤ m := by
  have := List.length_filter_le (fun i : Nat => decide (¬ findS (celsN y (talM y)) σ (celA y i) < (i : Int))) (List.range m)
  rw [List.length_range] at this
  exact this
theorem cel_l3 (hr : rightS y = 0) (i : Nat) : (celA y i).nums.length ≤ 65536 ∧ (celA y i).items.length ≤ 65536 := by
  have := right_l3 hr
  have h1 : (blkL y.nums i (celN y)).length ≤ y.nums.length := by unfold blkL; simp only [List.length_take, List.length_drop]; omega
  have h2 : (blkL y.items i (celN y)).length ≤ y.items.length := by unfold blkL; simp only [List.length_take, List.length_drop]; omega
  constructor
  · show (blkL y.nums i (celN y)).length ≤ _; omega
  · show (blkL y.items i (celN y)).length ≤ _; omega
theorem flat_le {α : Type} (f : Nat → List α) (hf : ∀ i, (f i).length ≤ 65536) : ∀ l : List Nat, (l.flatMap f).length ≤ l.length * 65536
  | [] => by simp
  | i :: l => by
    have := flat_le f hf l
    have := hf i
    simp only [List.flatMap_cons, List.length_append, List.length_cons]
    omega
theorem unN_len (hr : rightS y = 0) : (unN y σ m).length ≤ m * 65536 := by
  have h1 := flat_le (fun i => (celA y i).nums) (fun i => (cel_l3 hr i).1) (kpL y σ m)
  have h2 := Nat.mul_le_mul_right 65536 (kpL_len (y := y) (σ := σ) (m := m))
  exact Nat.le_trans h1 h2
theorem unI_len (hr : rightS y = 0) : (unI y σ m).length ≤ m * 65536 := by
  have h1 := flat_le (fun i => (celA y i).items) (fun i => (cel_l3 hr i).2) (kpL y σ m)
  have h2 := Nat.mul_le_mul_right 65536 (kpL_len (y := y) (σ := σ) (m := m))
  exact Nat.le_trans h1 h2
end
/-- a literal slice of one number that may be written -/
theorem Env.litRow {w0 w : World} {S : Nat → Prop} {L : List Fact} (E : Env w0 S w L) (j : Nat) {g : Nat} {v : Int} (h : L[j]? = some (.obj g (.cells #[.int .i64 v] 3 (0, 0)))) : Env w0 S w (L.set j (.rowI (some ⟨g, 0, none⟩) 1 [v])) := by
  have hl := E.lt j h
  refine E.turn j h E.ext (Nat.le_refl _) (fun _ _ _ => rfl) (fun b hb => Or.inl (by simpa [Fact.blk, rowOf] using hb)) (by simp [Fact.blk, rowOf]) ?_
  exact ⟨rfl, Or.inr ⟨g, 1, #[.int .i64 v], rfl, hl.1, E.obj j h, Nat.le_refl _, by unfold maxLen; omega, rfl, by simp⟩⟩
set_option maxRecDepth 100000 in
set_option maxHeartbeats 8000000 in
theorem search_Unique (y : Arr) (sy : Option Addr) (cy : Nat) (ny : Option Addr) (my : Nat) (iy : Option Addr) (jy : Nat) (S : Nat → Prop) (w : World) (h : ArrAt w S y sy ny iy) (ry : rightS y = 0) (hn : 0 < y.shape.length) (hcy : capsOk y cy my jy) :
    Calls Try.prog 14 #[.agg #[.int .i64 y.kind, .slice sy y.shape.length cy, .slice ny y.nums.length my, .slice iy y.items.length jy]] w fun e w' => ∃ σ, Ords (celsN y (talM y)) σ ∧ RetAEC w (fun b => S b ∨ w.heap.size ≤ b) (uniS y σ) 0 e w' := by
  refine calls_post fun R' hR => ?_
  have h0 := hid h
  have ry0 := hid ry
  have hn0 := hid hn
  have hcy0 := hid hcy
  have hsh := (right_ok ry).2.1
  have hl8 : Hid (y.shape.length ≤ 8) := hid (shapeB_iff.1 hsh).1
  have hty := hid (tal_le hsh)
  obtain ⟨ta0, tc, hr1, hr2, hr3⟩ := cut_tail y sy cy hn hcy.1
  have hti := hid (hr2 _ _ (ArrAt.shape h))
  clear h ry hn hcy hsh hr2 hr3
  go_enter Try.func14, Try.ntmps14
  go_upto_region 1 with fail
  generalize hEW : ((w).alloc (.cells #[.int .i64 y.kind, .slice sy y.shape.length cy, .slice ny y.nums.length my, .slice iy y.items.length jy] 27)).alloc (.cells #[.int .i64 0, .slice none 0 0, .slice none 0 0, .slice none 0 0] 27) = W
  have E := hid (env2 w S hEW)
  clear hEW
  replace E := hid (E.out.arg h0.out)
  (try simp only [List.cons_append, List.nil_append, List.set_cons_zero, List.set_cons_succ] at E)
  obtain ⟨q00, q01, q02, q03⟩ := (E.out.hdr 0 rfl).all
  go_wp2_with fail
  clear q00 q01 q02 q03
  refine (array_Right y _ _ _ _ _ _ _ _ (E.out.arr 2 rfl)).mono ?_
  rintro e w1 ⟨rfl, hb⟩
  replace E := hid (E.out.up hb)
  clear hb
  rw [ry0.out]
  obtain ⟨q00, q01, q02, q03⟩ := (E.out.hdr 0 rfl).all
  go_wp2_with fail
  clear q00 q01 q02 q03
  refine (search_indexed y _ _ _ _ _ _ _ w1 (E.out.arr 2 rfl) ry0.out hn0.out hcy0.out).mono ?_
  rintro e w3 ⟨so, sc, vs, ro, rc, σ, rfl, hvs, hO, hI, hJ, hb⟩
  replace E := hid (((E.out.up hb).addCels hI (fun b _ hq => E.out.res (Ext.refl _) hq)).addInts hJ (fun b _ hq => E.out.res (Ext.refl _) hq))
  (try simp only [List.cons_append, List.nil_append, List.set_cons_zero, List.set_cons_succ] at E)
  have hvl : Hid (vs.length = talM y) := hid (by rw [← List.length_map (f := CelV.x), hvs, celsN_len])
  have hvr : Hid (∀ x ∈ vs.map CelV.x, rightS x = 0) := hid (by rw [hvs]; exact cels_right ry0.out hn0.out)
  have hqx : Hid (∀ k (hk : k < vs.length), (vs[k]).x = celA y k) := hid fun k hk => by
    have h1 : (vs.map CelV.x)[k]? = some (vs[k]).x := by simp [hk]
    rw [hvs] at h1
    simp only [celsN, List.getElem?_map] at h1
    rw [List.getElem?_range (by have := hvl.out; omega)] at h1
    simpa using h1.symm
  replace hvs := hid hvs
  replace hO := hid hO
  clear hb hI hJ
  go_upto_region 4 with (refine wpl_storeX rfl (.tmp 4) (.tmp 13) rfl _ rfl rfl ((E.out.alloc _).obj 5 rfl) ?_; intro V HV CV; replace E := hid ((E.out.alloc _).chg 5 rfl CV HV); clear CV HV; (try simp only [List.cons_append, List.nil_append, List.set_cons_zero, List.set_cons_succ] at E))
  generalize w3.heap.size = bi at E ⊢
  obtain ⟨q00, q01, q02, q03⟩ := (E.out.hdr 0 rfl).all
  go_upto_region 5 with fail
  clear q00 q01 q02 q03
  replace E := hid ((E.out.alloc (.cells #[.int .i64 0] 3)).alloc (.cells #[.int .i64 y.kind, .slice (some ⟨V.heap.size, 0, none⟩) 1 1, .slice none 0 0, .slice none 0 0] 27))
  simp only [size_alloc'] at E
  (try simp only [List.cons_append, List.nil_append, List.set_cons_zero, List.set_cons_succ] at E)
  generalize (V.alloc (.cells #[.int .i64 0] 3)).alloc (.cells #[.int .i64 y.kind, .slice (some ⟨V.heap.size, 0, none⟩) 1 1, .slice none 0 0, .slice none 0 0] 27) = V2 at E ⊢
  generalize V.heap.size = lo at E ⊢
  generalize lo + 1 = po at E ⊢
  replace E := hid (E.out.litRow 6 rfl)
  (try simp only [List.cons_append, List.nil_append, List.set_cons_zero, List.set_cons_succ] at E)
  obtain ⟨q00, q01, q02, q03⟩ := (E.out.hdr 0 rfl).all
  go_upto_if 21 with fail
  go_cut [] (fun wc => ∃ (sh : Option Addr) (hc : Nat), Env w S wc [.obj w.heap.size (.cells #[.int .i64 y.kind, .slice sy y.shape.length cy, .slice ny y.nums.length my, .slice iy y.items.length jy] 27 (0, 0)), .obj (w.heap.size + 1) (.cells #[.int .i64 0, .slice none 0 0, .slice none 0 0, .slice none 0 0] 27 (0, 0)), .arr y sy ny iy, celsF so vs, .ints σ ro, .obj bi (.cells #[.slice so vs.length sc, .slice ro σ.length rc] 64 (0, 0)), .rowI sh hc (0 :: celL y), .obj po (.cells #[.int .i64 y.kind, .slice sh y.shape.length hc, .slice none 0 0, .slice none 0 0] 27 (0, 0))])
  case first =>
    as_aux_lemma =>
    by_cases c1 : 1 < y.shape.length
    case neg =>
      have hs1 : Hid (y.shape.length = 1) := hid (by have := hn0.out; omega)
      have hcl : Hid (celL y = []) := hid (by unfold celL; exact List.drop_of_length_le (by have := hs1.out; omega))
      have c2 : ¬ (1 : Int) < (y.shape.length : Int) := by omega
      go_wp2_with fail
      go_meet
      case rel => exact ⟨some ⟨lo, 0, none⟩, 1, by rw [hcl.out]; have := E.out; rw [hs1.out] at *; exact this⟩
    case pos =>
      have c2 : (1 : Int) < (y.shape.length : Int) := by omega
      have hcl : Hid ((0 :: celL y).length = y.shape.length) := hid (by unfold celL; simp; omega)
      have hlt : Hid ((celL y).length ≤ 8) := hid (by unfold celL; have := hl8.out; simp; omega)
      replace E := hid (E.out.argI hti.out)
      (try simp only [List.cons_append, List.nil_append, List.set_cons_zero, List.set_cons_succ] at E)
      obtain ⟨q70, q71, q72, q73⟩ := (E.out.hdr 7 rfl).all
      go_upto_region 6 with fail
      refine wp_region_mono_tail 5 (Sees V2 [(⟨w.heap.size, 1, none⟩, .slice sy y.shape.length cy), (⟨po, 1, none⟩, .slice (some ⟨lo, 0, none⟩) 1 1)]) [] (fun k v u u' => match k with  | _ => False) (fun _ _ h e => h.up e) (Sees.start (all_cons (q01) (all_cons (q71) (all_nil)))) (by kernel_rfl) (by kernel_rfl) ?_
      simp only [List.take_succ_cons, List.take_zero, List.drop_succ_cons, List.drop_zero]
      repeat (first | (refine m_plain (v := ?_) (by rfl) (by rfl) ?_ ?_; rotate_left; (intro wz hSw; obtain ⟨-, hSc⟩ := hSw; (try simp only [List.forall_mem_cons, List.forall_mem_nil, and_true] at hSc); go_simp; (first | done | with_reducible rfl)); (intro K hK; (try simp only [Act.put, List.setIfInBounds_toArray, List.set_cons_zero, List.set_cons_succ]); refine hK _ _ ?_; clear hK K)) | (refine m_skip (by rfl) (by rfl) ?_; (intro K hK; (try simp only [Act.put, List.setIfInBounds_toArray, List.set_cons_zero, List.set_cons_succ]); refine hK _ _ ?_; clear hK K)))
      refine m_nil ?_
      intro wf hSf hAf
      replace E := hid (E.out.up hSf.1)
      clear hSf hAf
      clear q70 q71 q72 q73
      refine wplE_appI E.out 6 rfl (by rfl) (.tmp 23) (.tmp 26) (by rfl) (by rfl) _ _ _ (celL y) (by rfl) (E.out.ints 8 rfl) (by have := hlt.out; simp only [List.length_cons, List.length_nil]; omega) ?_
      intro V3 a1 k1 E1
      clear E
      have E := hid E1
      clear E1
      (try simp only [List.cons_append, List.nil_append, List.set_cons_zero, List.set_cons_succ] at E)
      go_wp2_with (refine wpl_store1 rfl (.tmp 28) (.tmp 27) rfl _ rfl rfl (E.out.hdr 7 rfl) ?_; intro V4 HV CV; replace E := hid (E.out.chg 7 rfl CV HV); clear CV HV; (try simp only [List.cons_append, List.nil_append, List.set_cons_zero, List.set_cons_succ] at E))
      go_meet
      case rel =>
        replace E := hid (E.out.sub (List.take_sublist 8 _))
        simp only [List.take_succ_cons, List.take_zero] at E
        rw [show (celL y).length + 1 = y.shape.length by have := hcl.out; simpa using this] at E
        exact ⟨a1, k1, E.out⟩
  case rest =>
  clear E hr1 hti
  clear q00 q01 q02 q03
  obtain ⟨sh, hc, E⟩ := hcut
  replace E := hid E
  replace E := hid (E.out.row0I)
  (try simp only [List.cons_append, List.nil_append, List.set_cons_zero, List.set_cons_succ] at E)
  replace E := hid (E.out.row0A)
  (try simp only [List.cons_append, List.nil_append, List.set_cons_zero, List.set_cons_succ] at E)
  have oi := E.out.obj 5 rfl
  have k0 : wc.cell? ⟨bi, 0, none⟩ = some (.slice so vs.length sc) := by rw [cell_of_row _ _ _ _ _ _ oi]; rfl
  clear oi
  go_wp2_with fail
  clear k0
  go_loopw [32] (fun r wr => ∃ (m : Nat) (na : Option Addr) (nc : Nat) (ia : Option Addr) (ic : Nat), m ≤ vs.length ∧ r = .int .i64 m ∧ Env w S wr [.obj w.heap.size (.cells #[.int .i64 y.kind, .slice sy y.shape.length cy, .slice ny y.nums.length my, .slice iy y.items.length jy] 27 (0, 0)), .obj (w.heap.size + 1) (.cells #[.int .i64 0, .slice none 0 0, .slice none 0 0, .slice none 0 0] 27 (0, 0)), .arr y sy ny iy, celsF so vs, .ints σ ro, .obj bi (.cells #[.slice so vs.length sc, .slice ro σ.length rc] 64 (0, 0)), .rowI sh hc (((kpL y σ m).length : Int) :: celL y), .obj po (.cells #[.int .i64 y.kind, .slice sh y.shape.length hc, .slice na (unN y σ m).length nc, .slice ia (unI y σ m).length ic] 27 (0, 0)), .rowI na nc (unN y σ m), .rowA ia ic (unI y σ m)]) (fun r _ => vs.length - (intOf r).toNat)
  case atStart => exact ⟨0, none, 0, none, 0, Nat.zero_le _, rfl, E.out⟩
  case round =>
    clear E
    obtain ⟨m, na, nc, ia, ic, hm, rfl, E⟩ := hrel
    replace E := hid E
    by_cases hlt : m < vs.length
    case pos =>
      obtain ⟨x, hx⟩ : ∃ x, x = vs[m] := ⟨_, rfl⟩
      have hxc : x.x = celA y m := by rw [hx]; exact hqx.out m hlt
      have hxr : Hid (rightS x.x = 0) := hid (by rw [hxc]; exact cel_right ry0.out (by have := hvl.out; omega))
      obtain ⟨d, hd⟩ : ∃ d, d = findS (celsN y (talM y)) σ x.x := ⟨_, rfl⟩
      have hdv : Hid (findS (vs.map CelV.x) σ x.x = d) := hid (by rw [hvs.out, hd])
      obtain ⟨cnt, hcnt⟩ : ∃ c, c = ((kpL y σ m).length : Int) := ⟨_, rfl⟩
      obtain ⟨curN, hcN⟩ : ∃ c, c = unN y σ m := ⟨_, rfl⟩
      obtain ⟨curI, hcI⟩ : ∃ c, c = unI y σ m := ⟨_, rfl⟩
      have hcb : Hid (0 ≤ cnt ∧ cnt ≤ 65536 ∧ curN.length ≤ 4294967296 ∧ curI.length ≤ 4294967296 ∧ x.x.nums.length ≤ 65536 ∧ x.x.items.length ≤ 65536) := hid (by
        have h1 := kpL_len (y := y) (σ := σ) (m := m)
        have h2 := unN_len (σ := σ) (m := m) ry0.out
        have h3 := unI_len (σ := σ) (m := m) ry0.out
        have h4 := cel_l3 ry0.out m
        have := hvl.out
        have := hty.out
        rw [hcnt, hcN, hcI, hxc]
        omega)
      have hno : Hid (d < (m : Int) → ((kpL y σ (m + 1)).length : Int) = cnt ∧ unN y σ (m + 1) = curN ∧ unI y σ (m + 1) = curI) := hid (fun q => by
        rw [hd, hxc] at q
        rw [hcnt, hcN, hcI]
        unfold unN unI
        rw [kpL_no q]
        exact ⟨rfl, rfl, rfl⟩)
      have hyes : Hid (¬ d < (m : Int) → ((kpL y σ (m + 1)).length : Int) = cnt + 1 ∧ unN y σ (m + 1) = curN ++ x.x.nums ∧ unI y σ (m + 1) = curI ++ x.x.items) := hid (fun q => by
        rw [hd, hxc] at q
        rw [hcnt, hcN, hcI, hxc]
        unfold unN unI
        rw [kpL_yes q]
        exact ⟨by simp, by simp, by simp⟩)
      rw [← hcnt, ← hcN, ← hcI] at E
      obtain ⟨b1, o1, e1, x0, x1, x2, x3, gx⟩ := cels_cell (E.out.celsF 3 rfl) hlt hx
      clear gx
      have hk6 : Hid (m < vs.length ∧ m < 65536) := hid (by have := hvl.out; have := hty.out; omega)
      have wk : IntKind.i64.wrap ((m : Int) + 1) = (m : Int) + 1 := IntWalk.i64_in _ (by have := hk6.out; omega)
      have tt0 : (0 : Int) ≤ (m : Int) := by omega
      have tt1 : (m : Int) < (vs.length : Int) := by omega
      replace hxc := hid hxc
      replace hd := hid hd
      replace hcnt := hid hcnt
      replace hcN := hid hcN
      replace hcI := hid hcI
      subst e1
      replace hx := hid hx
      have hltk := hid hlt
      go_upto_region 10 with (refine wpl_store4 rfl (.tmp 7) (.tmp 36) rfl _ rfl rfl ((E.out.alloc _).hdr 10 rfl) ?_; intro V3 HV CV; replace E := hid ((E.out.alloc _).chg 10 rfl CV HV); clear CV HV; (try simp only [List.cons_append, List.nil_append, List.set_cons_zero, List.set_cons_succ] at E))
      clear x0 x1 x2 x3
      generalize wr.heap.size = bq at E ⊢
      have gq := hid (cels_arr (E.out.celsF 3 rfl) hltk.out hx.out)
      have oi := E.out.obj 5 rfl
      have k0 : V3.cell? ⟨bi, 0, none⟩ = some (.slice (some ⟨b1, o1, none⟩) vs.length sc) := by rw [cell_of_row _ _ _ _ _ _ oi]; rfl
      have k1 : V3.cell? ⟨bi, 1, none⟩ = some (.slice ro σ.length rc) := by rw [cell_of_row _ _ _ _ _ _ oi]; rfl
      clear oi
      obtain ⟨q100, q101, q102, q103⟩ := (E.out.hdr 10 rfl).all
      go_wp2_with fail
      clear k0 k1
      clear q100 q101 q102 q103
      refine (search_find vs _ sc σ ro rc x.x _ _ _ _ _ _ _ V3 (E.out.celsF 3 rfl) hvr.out (E.out.ints 4 rfl) (hvs.out ▸ hO.out) (by have := hvl.out; have := hty.out; omega) gq.out hxr.out ⟨Nat.le_refl _, Nat.le_refl _, Nat.le_refl _⟩).mono ?_
      rintro e w4 ⟨rfl, hb⟩
      rw [hdv.out]
      replace E := hid (E.out.up hb)
      clear hb gq
      by_cases hdm : d < (m : Int)
      case pos =>
        as_aux_lemma =>
        have hst := hid (hno.out (by omega))
        go_wp2_with fail
        go_roundw
        case rel => exact ⟨m + 1, na, nc, ia, ic, hk6.out.1, by have := hk6.out; go_num, by rw [hst.out.1, hst.out.2.1, hst.out.2.2]; exact E.out.sub (by simp)⟩
        case measure => have := hk6.out; simp [intOf]; omega
      case neg =>
        as_aux_lemma =>
        have hst := hid (hyes.out (by omega))
        obtain ⟨gs, hgs, _, _, _⟩ := (E.out.rowI 6 rfl).cellAt (k := 0) (by simp)
        subst hgs
        obtain ⟨c1, f1⟩ := (E.out.rowI 6 rfl).cellG (k := 0) (by simp)
        simp only [List.getD_cons_zero] at c1
        have wc1 : IntKind.i64.wrap (cnt + 1) = cnt + 1 := IntWalk.i64_in _ (by have := hcb.out; omega)
        have hpos : Hid (0 < y.shape.length) := hn0
        have hp2 : (0 : Int) < (y.shape.length : Int) := by have := hpos.out; omega
        replace E := hid (E.out.addArr (cels_arr (E.out.celsF 3 rfl) hltk.out hx.out).arr (fun _ _ h => h))
        (try simp only [List.cons_append, List.nil_append, List.set_cons_zero, List.set_cons_succ] at E)
        obtain ⟨q70, q71, q72, q73⟩ := (E.out.hdr 7 rfl).all
        go_upto_region 12 with (refine wplE_setI E.out 6 rfl rfl (.tmp 47) (.tmp 46) rfl 0 (by simp) (cnt + 1) (fun g e => by injection e with e; injection e with e; subst e; rfl) rfl ?_; intro V4 E1; clear E; have E := hid E1; clear E1; (try simp only [List.cons_append, List.nil_append, List.set_cons_zero, List.set_cons_succ] at E))
        clear q70 q71 q72 q73
        clear c1 f1
        obtain ⟨q70, q71, q72, q73⟩ := (E.out.hdr 7 rfl).all
        obtain ⟨q100, q101, q102, q103⟩ := (E.out.hdr 10 rfl).all
        go_upto_region 13 with (at_builtin; refine wplE_addN E.out 7 8 rfl rfl (by decide) rfl rfl rfl (.tmp 49) (.tmp 51) (.tmp 5) (.tmp 53) (.tmp 52) rfl rfl rfl _ _ _ x.x.nums rfl rfl (E.out.arr 11 rfl).nums (by have := hcb.out; omega) (fun _ => rfl) (fun _ _ => rfl) (fun _ _ => rfl) ?_; intro V5 na' nc' E1; clear E; have E := hid E1; clear E1; (try simp only [List.cons_append, List.nil_append, List.set_cons_zero, List.set_cons_succ] at E))
        clear q70 q71 q72 q73 q100 q101 q102 q103
        obtain ⟨q70, q71, q72, q73⟩ := (E.out.hdr 7 rfl).all
        obtain ⟨q100, q101, q102, q103⟩ := (E.out.hdr 10 rfl).all
        go_wp2_with (at_builtin; refine wplE_addA E.out 7 9 rfl rfl (by decide) rfl rfl rfl (.tmp 55) (.tmp 57) (.tmp 5) (.tmp 59) (.tmp 58) rfl rfl rfl _ _ _ x.x.items rfl rfl (E.out.arr 11 rfl).items (fun _ _ q => q) (by have := hcb.out; omega) (fun _ => rfl) (fun _ _ => rfl) (fun _ _ => rfl) ?_; intro V6 ia' ic' E1; clear E; have E := hid E1; clear E1; (try simp only [List.cons_append, List.nil_append, List.set_cons_zero, List.set_cons_succ] at E))
        go_roundw
        case rel => exact ⟨m + 1, na', nc', ia', ic', hk6.out.1, by have := hk6.out; go_num, by rw [hst.out.1, hst.out.2.1, hst.out.2.2]; exact E.out.sub (by simp)⟩
        case measure => have := hk6.out; simp [intOf]; omega
    case neg =>
      as_aux_lemma =>
      have hmv : m = talM y := by have := hvl.out; omega
      rw [hmv] at E
      have hb1 : Hid ((unN y σ (talM y)).length ≤ 4294967296 ∧ (unI y σ (talM y)).length ≤ 4294967296) := hid (by
        have h2 := unN_len (σ := σ) (m := talM y) ry0.out
        have h3 := unI_len (σ := σ) (m := talM y) ry0.out
        have := hty.out
        omega)
      have hcl : Hid ((((kpL y σ (talM y)).length : Int) :: celL y).length = y.shape.length) := hid (by unfold celL; have := hn0.out; simp; omega)
      have cp1 := hid (OwnI.cap (E.out.rowI 6 rfl))
      have cp2 := hid (OwnI.cap (E.out.rowI 8 rfl))
      have cp3 := hid (OwnA.cap (E.out.rowA 9 rfl))
      replace E := hid (E.out.doneI 6 rfl (by have := hcl.out; have := hl8.out; omega))
      (try simp only [List.cons_append, List.nil_append, List.set_cons_zero, List.set_cons_succ] at E)
      replace E := hid (E.out.doneI 8 rfl (by have := hb1.out; omega))
      (try simp only [List.cons_append, List.nil_append, List.set_cons_zero, List.set_cons_succ] at E)
      replace E := hid (E.out.doneA 9 rfl)
      (try simp only [List.cons_append, List.nil_append, List.set_cons_zero, List.set_cons_succ] at E)
      obtain ⟨u, hu⟩ : ∃ u, u = uniS y σ := ⟨_, rfl⟩
      replace hmv := hid hmv
      obtain ⟨q70, q71, q72, q73⟩ := (E.out.hdr 7 rfl).all
      go_wp2_with (refine wpl_store4 rfl (.tmp 2) (.tmp 61) rfl _ rfl rfl (E.out.hdr 1 rfl) ?_; intro V2 HV CV; replace E := hid (E.out.chg 1 rfl CV HV))
      refine bodyPost_ret (end_arr2 rfl HV rfl rfl) rfl (hR.out _ _ ⟨σ, hO.out, ?_⟩)
      have e1 := (E.out.ints 6 rfl)
      have e2 := (E.out.ints 8 rfl)
      have e3 := (E.out.items 9 rfl)
      refine ⟨sh, hc, na, nc, ia, ic, by rw [← hcl.out]; rfl, ArrAt.iff.2 ⟨e1.mono fun b _ h => h.1, e2.mono fun b _ h => h.1, by have := hb1.out; show (unI y σ (talM y)).length ≤ _; omega, e3.mono fun b _ h => h.1⟩, E.out.ext, cp1.out, cp2.out, cp3.out⟩
end Go.Proofs.Ytdpdcjadedcglaa
namespace Go.Proofs.Ytdpdcjadedcglaa
theorem bd_ex (f : Nat → Prop) [DecidablePred f] : ∀ n : Nat, ∃ i, i ≤ n ∧ (∀ t, t < i → f t) ∧ (i < n → ¬ f i)
  | 0 => ⟨0, Nat.le_refl _, fun t h => by omega, fun h => by omega⟩
  | n + 1 => by
    obtain ⟨i, h1, h2, h3⟩ := bd_ex f n
    by_cases c : i < n
    · exact ⟨i, by omega, h2, fun _ => h3 c⟩
    · obtain rfl : i = n := by omega
      by_cases d : f i
      · exact ⟨i + 1, Nat.le_refl _, fun t ht => by
          by_cases e : t = i
          · rw [e]; exact d
          · exact h2 t (by omega), fun q => by omega⟩
      · exact ⟨i, by omega, h2, fun _ => d⟩
/-- what lies in the list is found -/
theorem find_in {l : List Arr} {σ : List Int} {q : Arr} (hr : ∀ x ∈ l, rightS x = 0) (hO : Ords l σ) (hq : q ∈ l) : ∃ r : Nat, findS l σ q = (r : Int) ∧ r < l.length ∧ l.getD r .zero = q := by
  have rq := hr q hq
  obtain ⟨i, h1, h2, h3⟩ := bd_ex (fun t => ctS l q (σ.getD t 0) < 0) σ.length
  have h4 : ∀ t, i ≤ t → t < σ.length → ¬ ctS l q (σ.getD t 0) < 0 := fun t g1 g2 g3 => h3 (by omega) (hO.mono hr rq i t g1 g2 g3)
  have hp := posS_of h1 h2 h4
  obtain ⟨j, hj, rfl⟩ := List.getElem_of_mem hq
  obtain ⟨p, _, hp2, hp3⟩ := hO.seg.all j (Nat.zero_le _) hj
  rw [rngL_get hj] at hp3
  have hl := hO.len
  have hjg : l.getD j .zero = l[j] := by simp [List.getD_eq_getElem?_getD, hj]
  have hz : ctS l l[j] (σ.getD p 0) = 0 := by
    rw [hp3]
    unfold ctS
    rw [Int.toNat_natCast, hjg]
    exact (cmpF_ord 17).self (okF17 rq)
  have hip : i ≤ p := by
    rcases Nat.lt_or_ge p i with c | c
    · have := h2 p c; rw [hz] at this; exact absurd this (by omega)
    · exact c
  have hin := hO.inR i (by omega)
  have h0 : ctS l l[j] (σ.getD i 0) = 0 := by
    have hn := h4 i (Nat.le_refl _) (by omega)
    by_cases e : i = p
    · rw [e]; exact hz
    · have hs := hO.srt i p (Nat.zero_le _) (by omega) (by omega)
      unfold cxS at hs
      rw [hp3, Int.toNat_natCast, hjg] at hs
      unfold ctS at hn ⊢
      omega
  refine ⟨(σ.getD i 0).toNat, ?_, hin.2, ?_⟩
  · unfold findS
    rw [hp, if_pos ⟨by omega, h0⟩]
    have := hin.1
    omega
  · exact cmpF_zero (okF17 (hr _ (getD_memA hin.2))) (okF17 rq) h0
section
variable {y : Arr} {σ : List Int}
theorem cels_get {y : Arr} {m i : Nat} (h : i < m) : (celsN y m).getD i .zero = celA y i := by simp [celsN, List.getD_eq_getElem?_getD, h]
theorem cel_mem {y : Arr} {m i : Nat} (h : i < m) : celA y i ∈ celsN y m := List.mem_map.2 ⟨i, List.mem_range.2 h, rfl⟩
theorem kp_mem {i m : Nat} (h : i ∈ kpL y σ m) : i < m := List.mem_range.1 (List.mem_filter.1 h).1
/-- each cell is among those that are kept -/
theorem kept (h : rightS y = 0) (hn : 0 < y.shape.length) (hO : Ords (celsN y (talM y)) σ) {i : Nat} (hi : i < talM y) : ∃ j, j < (kpL y σ (talM y)).length ∧ celA y ((kpL y σ (talM y)).getD j 0) = celA y i := by
  obtain ⟨r, h1, h2, h3⟩ := find_in (cels_right h hn) hO (cel_mem hi)
  rw [celsN_len] at h2
  rw [cels_get h2] at h3
  have hm : r ∈ kpL y σ (talM y) := List.mem_filter.2 ⟨List.mem_range.2 h2, by rw [h3, h1]; simp⟩
  obtain ⟨j, hj, hjr⟩ := List.getElem_of_mem hm
  exact ⟨j, hj, by rw [List.getD_eq_getElem?_getD, List.getElem?_eq_getElem hj, Option.getD_some, hjr]; exact h3⟩
theorem blk_flat {α : Type} {f : Nat → List α} {p : Nat} : ∀ {ks : List Nat}, (∀ i ∈ ks, (f i).length = p) → ∀ {j : Nat}, j < ks.length → blkL (ks.flatMap f) j p = f (ks.getD j 0)
  | [], _, j, hj => by simp at hj
  | k :: ks, h, 0, hj => by
    have hk := h k (List.mem_cons_self ..)
    unfold blkL
    rw [List.flatMap_cons, Nat.zero_mul, List.drop_zero, ← hk, List.take_left]
    simp
  | k :: ks, h, j + 1, hj => by
    have hk := h k (List.mem_cons_self ..)
    have ih := blk_flat (fun i hi => h i (List.mem_cons_of_mem _ hi)) (j := j) (by simpa using hj)
    have e : (k :: ks).getD (j + 1) 0 = ks.getD j 0 := by simp [List.getD_eq_getElem?_getD]
    rw [e, ← ih]
    unfold blkL
    rw [List.flatMap_cons, Nat.succ_mul, Nat.add_comm, ← List.drop_drop, ← hk, List.drop_left]
theorem flat_nil {α : Type} {f : Nat → List α} {ks : List Nat} (h : ∀ i ∈ ks, f i = []) : ks.flatMap f = [] := List.flatMap_eq_nil_iff.2 h
theorem flat_lenA {α : Type} {f : Nat → List α} {p : Nat} : ∀ {ks : List Nat}, (∀ i ∈ ks, (f i).length = p) → (ks.flatMap f).length = ks.length * p
  | [], _ => by simp
  | k :: ks, h => by
    rw [List.flatMap_cons, List.length_append, h k (List.mem_cons_self ..), flat_lenA fun i hi => h i (List.mem_cons_of_mem _ hi), List.length_cons, Nat.succ_mul, Nat.add_comm]
theorem flat_blks {α : Type} (L : List α) (c : Nat) : ∀ n, (List.range n).flatMap (fun i => blkL L i c) = L.take (n * c)
  | 0 => by simp
  | n + 1 => by rw [List.range_succ, List.flatMap_append, flat_blks L c n, blk_take]; simp
theorem sumW_filter (f : Nat → List Arr) (p : Nat → Bool) : ∀ n, sumW (((List.range n).filter p).flatMap f) ≤ sumW ((List.range n).flatMap f)
  | 0 => by simp
  | n + 1 => by
    rw [List.range_succ, List.filter_append, List.flatMap_append, List.flatMap_append, sumW_append, sumW_append]
    have := sumW_filter f p n
    have h1 := sumW_nn (f n)
    by_cases c : p n = true
    · simp [c]; exact this
    · simp [c, sumW]; omega
theorem uni_tal : talM (uniS y σ) = (kpL y σ (talM y)).length := by simp [talM, talN, uniS, Arr.shape]
theorem uni_cl : celL (uniS y σ) = celL y := by simp [celL, uniS, Arr.shape]
theorem uni_cn : celN (uniS y σ) = celN y := by unfold celN; rw [uni_cl]
theorem uni_N (h : rightS y = 0) (k : y.kind ≠ 3) : ∀ i ∈ kpL y σ (talM y), (celA y i).nums.length = celN y := fun i hi => ((blk_lens h).2 k).1 i (kp_mem hi)
theorem uni_I (h : rightS y = 0) (k : y.kind = 3) : ∀ i ∈ kpL y σ (talM y), (celA y i).items.length = celN y := fun i hi => ((blk_lens h).1 k).1 i (kp_mem hi)
theorem uni_N0 (h : rightS y = 0) (k : y.kind = 3) : ∀ i, (celA y i).nums = [] := fun i => ((blk_lens h).1 k).2 i
theorem uni_I0 (h : rightS y = 0) (k : y.kind ≠ 3) : ∀ i, (celA y i).items = [] := fun i => ((blk_lens h).2 k).2 i
theorem uni_cel (h : rightS y = 0) {j : Nat} (hj : j < (kpL y σ (talM y)).length) : celA (uniS y σ) j = celA y ((kpL y σ (talM y)).getD j 0) := by
  have e : celA (uniS y σ) j = .mk y.kind (celL y) (blkL (unN y σ (talM y)) j (celN y)) (blkL (unI y σ (talM y)) j (celN y)) := by
    unfold celA; rw [uni_cl, uni_cn]; rfl
  rw [e]
  by_cases k : y.kind = 3
  · have h1 : unN y σ (talM y) = [] := flat_nil fun i _ => uni_N0 h k i
    have h2 : blkL (unI y σ (talM y)) j (celN y) = (celA y ((kpL y σ (talM y)).getD j 0)).items := blk_flat (f := fun i => (celA y i).items) (uni_I h k) hj
    rw [h1, h2, blkL_nil]
    have this : blkL y.nums ((kpL y σ (talM y)).getD j 0) (celN y) = [] := uni_N0 h k ((kpL y σ (talM y)).getD j 0)
    unfold celA
    rw [this]
    rfl
  · have h1 : unI y σ (talM y) = [] := flat_nil fun i _ => uni_I0 h k i
    have h2 : blkL (unN y σ (talM y)) j (celN y) = (celA y ((kpL y σ (talM y)).getD j 0)).nums := blk_flat (f := fun i => (celA y i).nums) (uni_N h k) hj
    rw [h1, h2, blkL_nil]
    have this : blkL y.items ((kpL y σ (talM y)).getD j 0) (celN y) = [] := uni_I0 h k ((kpL y σ (talM y)).getD j 0)
    unfold celA
    rw [this]
    rfl
theorem uni_right (h : rightS y = 0) (hn : 0 < y.shape.length) : rightS (uniS y σ) = 0 := by
  obtain ⟨k, hs, hlen⟩ := right_ok h
  obtain ⟨_, he, hit, hw⟩ := right_iff.1 h
  have hkl : (kpL y σ (talM y)).length ≤ talM y := kpL_len
  have hz := sz_tal h
  have hle := Nat.mul_le_mul_right (celN y) hkl
  have hcn : (cnt (((kpL y σ (talM y)).length : Int) :: celL y)) = (((kpL y σ (talM y)).length * celN y : Nat) : Int) := by rw [cnt_cons1, ← celN_eq hs, Int.natCast_mul]
  have hsb : shapeB (((kpL y σ (talM y)).length : Int) :: celL y) = true := shapeB_first hs (by omega) hkl
  by_cases k3 : y.kind = 3
  · have h1 : unN y σ (talM y) = [] := flat_nil fun i _ => uni_N0 h k3 i
    have h2 : (unI y σ (talM y)).length = (kpL y σ (talM y)).length * celN y := flat_lenA (f := fun i => (celA y i).items) (uni_I h k3)
    refine right_iff.2 ⟨form_of k hsb (Or.inl ⟨k3, ?_, ?_⟩), fun n hn => ?_, fun x hx => ?_, ?_⟩
    · show ((unI y σ (talM y)).length : Int) = _
      rw [h2]; exact hcn.symm
    · show (unN y σ (talM y)).length = 0
      rw [h1]; rfl
    · have : n ∈ unN y σ (talM y) := hn
      rw [h1] at this; cases this
    · have : x ∈ unI y σ (talM y) := hx
      obtain ⟨i, _, hi⟩ := List.mem_flatMap.1 this
      exact hit x (mem_blkL hi)
    · show ((unN y σ (talM y)).length : Int) + (unI y σ (talM y)).length + sumW (unI y σ (talM y)) ≤ 262144
      have h3 : sumW (unI y σ (talM y)) ≤ sumW y.items := by
        refine Int.le_trans (sumW_filter (fun i => (celA y i).items) _ (talM y)) ?_
        have e : (List.range (talM y)).flatMap (fun i => (celA y i).items) = y.items.take (talM y * celN y) := flat_blks y.items (celN y) (talM y)
        rw [e]
        exact sumW_take _ _
      rw [szA_3 k3] at hz
      rw [h1, h2]
      simp only [List.length_nil]
      omega
  · have h1 : unI y σ (talM y) = [] := flat_nil fun i _ => uni_I0 h k3 i
    have h2 : (unN y σ (talM y)).length = (kpL y σ (talM y)).length * celN y := flat_lenA (f := fun i => (celA y i).nums) (uni_N h k3)
    refine right_iff.2 ⟨form_of k hsb (Or.inr ⟨k3, ?_, ?_⟩), fun n hn => ?_, fun x hx => ?_, ?_⟩
    · show ((unN y σ (talM y)).length : Int) = _
      rw [h2]; exact hcn.symm
    · show (unI y σ (talM y)).length = 0
      rw [h1]; rfl
    · have : n ∈ unN y σ (talM y) := hn
      obtain ⟨i, _, hi⟩ := List.mem_flatMap.1 this
      exact he n (mem_blkL hi)
    · have : x ∈ unI y σ (talM y) := hx
      rw [h1] at this; cases this
    · show ((unN y σ (talM y)).length : Int) + (unI y σ (talM y)).length + sumW (unI y σ (talM y)) ≤ 262144
      have := szA_le h
      rw [h1, h2]
      simp only [List.length_nil, sumW]
      omega
/-- each cell of the array is found among those that are kept -/
theorem uni_find (h : rightS y = 0) (hn : 0 < y.shape.length) (hO : Ords (celsN y (talM y)) σ) {τ : List Int} (hT : Ords (celsN (uniS y σ) (talM (uniS y σ))) τ) {q : Arr} (hq : q ∈ celsN y (talM y)) :
    ∃ r : Nat, findS (celsN (uniS y σ) (talM (uniS y σ))) τ q = (r : Int) ∧ r < talM (uniS y σ) ∧ celA (uniS y σ) r = q := by
  have hru := uni_right (σ := σ) h hn
  have hnu : 0 < (uniS y σ).shape.length := by simp [uniS, Arr.shape]
  simp only [celsN, List.mem_map, List.mem_range] at hq
  obtain ⟨i, hi, rfl⟩ := hq
  obtain ⟨j, hj, e⟩ := kept h hn hO hi
  have hm : celA y i ∈ celsN (uniS y σ) (talM (uniS y σ)) := by
    rw [← e, ← uni_cel h hj]; exact cel_mem (by rw [uni_tal]; exact hj)
  obtain ⟨r, h1, h2, h3⟩ := find_in (cels_right hru hnu) hT hm
  rw [celsN_len] at h2
  rw [cels_get h2] at h3
  exact ⟨r, h1, h2, h3⟩
theorem gat_flat {α : Type} (L : List α) (c : Nat) : ∀ ns : List Int, (∀ n ∈ ns, 0 ≤ n) → gatL L (ns.flatMap fun i => seqI (i * (c : Int)) c) = ns.flatMap fun n => blkL L n.toNat c
  | [], _ => by simp [gatL]
  | n :: ns, h => by
    rw [List.flatMap_cons, List.flatMap_cons, gatL_append, gat_flat L c ns fun m hm => h m (List.mem_cons_of_mem _ hm)]
    congr 1
    obtain ⟨k, rfl⟩ := Int.eq_ofNat_of_zero_le (h n (List.mem_cons_self ..))
    exact gatL_blk L k c
theorem flat_congrA {α β : Type} {f g : α → List β} {l : List α} (h : ∀ x ∈ l, f x = g x) : l.flatMap f = l.flatMap g := by
  induction l with
  | nil => rfl
  | cons x l ih => rw [List.flatMap_cons, List.flatMap_cons, h x (List.mem_cons_self ..), ih fun z hz => h z (List.mem_cons_of_mem _ hz)]
/-- selecting from the unique cells by what find says is the array -/
theorem uni_law (h : rightS y = 0) (hn : 0 < y.shape.length) (hO : Ords (celsN y (talM y)) σ) {τ : List Int} (hT : Ords (celsN (uniS y σ) (talM (uniS y σ))) τ) :
    (∀ v ∈ fndN (uniS y σ) y τ (talM y), v < (talM (uniS y σ) : Int)) ∧ frmE (.mk 1 [(talM y : Int)] (fndN (uniS y σ) y τ (talM y)) []) (uniS y σ) = 0 ∧ frmS (.mk 1 [(talM y : Int)] (fndN (uniS y σ) y τ (talM y)) []) (uniS y σ) = y := by
  have hs := (right_ok h).2.1
  have ht := tal_le hs
  have hru := uni_right (σ := σ) h hn
  have hsu := (right_ok hru).2.1
  have htu := tal_le hsu
  have hf : fndN (uniS y σ) y τ (talM y) = (celsN y (talM y)).map (findS (celsN (uniS y σ) (talM (uniS y σ))) τ) := by
    unfold fndN; rw [List.take_of_length_le (by rw [celsN_len]; omega)]
  have hmem : ∀ v ∈ fndN (uniS y σ) y τ (talM y), ∃ r : Nat, v = (r : Int) ∧ r < talM (uniS y σ) := fun v hv => by
    rw [hf] at hv
    obtain ⟨q, hq, rfl⟩ := List.mem_map.1 hv
    obtain ⟨r, h1, h2, _⟩ := uni_find h hn hO hT hq
    exact ⟨r, h1, h2⟩
  have hlen : (fndN (uniS y σ) y τ (talM y)).length = talM y := fndN_len (Nat.le_refl _)
  have hvec : Arr.mk 1 [(talM y : Int)] (fndN (uniS y σ) y τ (talM y)) [] = vecA (fndN (uniS y σ) y τ (talM y)) := by unfold vecA; rw [hlen]
  have hsh : [(talM y : Int)] ++ celL (uniS y σ) = y.shape := by rw [uni_cl, tal_cons hs (by omega)]; simp [celL]
  have FO : FrOk (.mk 1 [(talM y : Int)] (fndN (uniS y σ) y τ (talM y)) []) (uniS y σ) := ⟨by
      rw [hvec]
      refine vec_right (by omega) fun n hn => ?_
      obtain ⟨r, rfl, hr⟩ := hmem n hn
      show numB _ = true
      simp [numB]
      omega, hru, rfl, by show shapeB ([(talM y : Int)] ++ celL (uniS y σ)) = true; rw [hsh]; exact hs, by
      rw [List.any_eq_false]
      intro n hn
      obtain ⟨r, rfl, hr⟩ := hmem n hn
      have := tal_nn hsu
      simp [outB]
      omega⟩
  have hflat : ∀ {α : Type} (L : Arr → List α), (∀ i, i < talM (uniS y σ) → blkL (L (uniS y σ)) i (celN y) = L (celA (uniS y σ) i)) → (∀ i, L (celA y i) = blkL (L y) i (celN y)) → gatL (L (uniS y σ)) (frO (.mk 1 [(talM y : Int)] (fndN (uniS y σ) y τ (talM y)) []) (uniS y σ)) = (L y).take (talM y * celN y) := fun L hL hL2 => by
    have e : frO (.mk 1 [(talM y : Int)] (fndN (uniS y σ) y τ (talM y)) []) (uniS y σ) = (fndN (uniS y σ) y τ (talM y)).flatMap fun i => seqI (i * (celN y : Int)) (celN y) := by
      unfold frO; rw [uni_cn]; rfl
    rw [e, gat_flat _ _ _ fun n hn => by obtain ⟨r, rfl, _⟩ := hmem n hn; omega]
    rw [hf, List.flatMap_map]
    rw [flat_congrA (g := fun q => L q) fun q hq => by
      obtain ⟨r, h1, h2, h3⟩ := uni_find h hn hO hT hq
      rw [h1, Int.toNat_natCast, hL r h2, h3]]
    unfold celsN
    rw [List.flatMap_map, ← flat_blks]
    exact flat_congrA fun i _ => hL2 i
  have gN := hflat Arr.nums (fun i hi => by unfold celA; rw [uni_cn]; rfl) (fun i => rfl)
  have gI := hflat Arr.items (fun i hi => by unfold celA; rw [uni_cn]; rfl) (fun i => rfl)
  have hz := sz_tal h
  have tN : y.nums.take (talM y * celN y) = y.nums := List.take_of_length_le (by
    rcases szA_ok h with ⟨k, e1, e2⟩ | ⟨k, e1, e2⟩ <;> omega)
  have tI : y.items.take (talM y * celN y) = y.items := List.take_of_length_le (by
    rcases szA_ok h with ⟨k, e1, e2⟩ | ⟨k, e1, e2⟩ <;> omega)
  rw [tN] at gN
  rw [tI] at gI
  have hgE : gatE (uniS y σ) (frO (.mk 1 [(talM y : Int)] (fndN (uniS y σ) y τ (talM y)) []) (uniS y σ)) = 0 := by
    unfold gatE
    refine if_neg fun q => ?_
    obtain ⟨k3, q⟩ := q
    have k3' : y.kind = 3 := k3
    rw [gI, frO_len] at q
    have e3 : (Arr.mk 1 [(talM y : Int)] (fndN (uniS y σ) y τ (talM y)) []).nums.length = talM y := hlen
    rw [e3, uni_cn, ← hz, szA_3 k3'] at q
    have := (right_iff.1 h).2.2.2
    omega
  refine ⟨fun v hv => by obtain ⟨r, rfl, hr⟩ := hmem v hv; omega, by rw [FO.e]; exact hgE, ?_⟩
  rw [FO.v, gatS_yes hgE]
  unfold gatA
  rw [gN, gI]
  show Arr.mk y.kind ([(talM y : Int)] ++ celL (uniS y σ)) y.nums y.items = y
  rw [hsh, Arr.eta]
end
end Go.Proofs.Ytdpdcjadedcglaa
