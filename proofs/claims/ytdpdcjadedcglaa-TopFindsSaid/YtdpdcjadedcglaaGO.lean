/- A group of texts (GO), each with its own conditions: those of each lemma. -/
import Derived.Test.YtdpdcjadedcglaaA17
import Derived.Test.YtdpdcjadedcglaaTOPA
set_option linter.unusedVariables false
set_option maxRecDepth 20000
set_option linter.unusedSimpArgs false
namespace Go.Proofs.Ytdpdcjadedcglaa
open Go.RowKit Go.Sort
attribute [local go_sem ↓] run_max2 run_min2
attribute [local go_sem] eql_ints_nil eql_arrs_nil
def cmpI (a b : Int) : Int := if a < b then -1 else if b < a then 1 else 0
def orL : List Int → Int
  | [] => 0
  | x :: l => if x ≠ 0 then x else orL l
def cmpL : List Int → List Int → Int
  | [], [] => 0
  | [], _ :: _ => -1
  | _ :: _, [] => 1
  | x :: l, y :: m => if cmpI x y ≠ 0 then cmpI x y else cmpL l m
theorem cmp_CompareI (a b : Int) (w : World) : Calls Try.prog 99 #[.int .i64 a, .int .i64 b] w fun e w' => e = .returned (.int .i64 (cmpI a b)) ∧ w' = w := by
  refine calls_post fun R' hR => ?_
  by_cases h : a < b
  · have hv : Hid (cmpI a b = -1) := hid (by simp [cmpI, h])
    go_enter Try.func99, Try.ntmps99
    go_wp2
    exact hR.out _ _ ⟨by rw [hv.out] <;> rfl, rfl⟩
  · by_cases g : b < a
    · have hv : Hid (cmpI a b = 1) := hid (by simp [cmpI, h, g])
      go_enter Try.func99, Try.ntmps99
      go_wp2
      exact hR.out _ _ ⟨by rw [hv.out] <;> rfl, rfl⟩
    · have hv : Hid (cmpI a b = 0) := hid (by simp [cmpI, h, g])
      go_enter Try.func99, Try.ntmps99
      go_wp2
      exact hR.out _ _ ⟨by rw [hv.out] <;> rfl, rfl⟩
theorem cmp_CompareK (a b : Int) (w : World) : Calls Try.prog 98 #[.int .i64 a, .int .i64 b] w fun e w' => e = .returned (.int .i64 (cmpI a b)) ∧ w' = w := by
  refine calls_post fun R' hR => ?_
  by_cases h : a < b
  · have hv : Hid (cmpI a b = -1) := hid (by simp [cmpI, h])
    go_enter Try.func98, Try.ntmps98
    go_wp2
    exact hR.out _ _ ⟨by rw [hv.out] <;> rfl, rfl⟩
  · by_cases g : b < a
    · have hv : Hid (cmpI a b = 1) := hid (by simp [cmpI, h, g])
      go_enter Try.func98, Try.ntmps98
      go_wp2
      exact hR.out _ _ ⟨by rw [hv.out] <;> rfl, rfl⟩
    · have hv : Hid (cmpI a b = 0) := hid (by simp [cmpI, h, g])
      go_enter Try.func98, Try.ntmps98
      go_wp2
      exact hR.out _ _ ⟨by rw [hv.out] <;> rfl, rfl⟩
theorem orL_drop {l : List Int} {k : Nat} (h : k < l.length) : orL (l.drop k) = if l.getD k 0 ≠ 0 then l.getD k 0 else orL (l.drop (k + 1)) := by
  rw [List.drop_eq_getElem_cons h]
  simp [orL, List.getD_eq_getElem?_getD, h]
theorem cmpL_drop {s t : List Int} {k : Nat} (h : k < s.length) (g : k < t.length) : cmpL (s.drop k) (t.drop k) = if cmpI (s.getD k 0) (t.getD k 0) ≠ 0 then cmpI (s.getD k 0) (t.getD k 0) else cmpL (s.drop (k + 1)) (t.drop (k + 1)) := by
  rw [List.drop_eq_getElem_cons h, List.drop_eq_getElem_cons g]
  simp [cmpL, List.getD_eq_getElem?_getD, h, g]
theorem cmpL_end {s t : List Int} {k : Nat} (h : s.length ≤ k) : cmpL (s.drop k) (t.drop k) = if k < t.length then -1 else 0 := by
  rw [List.drop_of_length_le h]
  by_cases g : k < t.length
  · rw [List.drop_eq_getElem_cons g, if_pos g]; rfl
  · rw [List.drop_of_length_le (by omega), if_neg g]; rfl
theorem cmpL_over {s t : List Int} {k : Nat} (h : k < s.length) (g : t.length ≤ k) : cmpL (s.drop k) (t.drop k) = 1 := by
  rw [List.drop_of_length_le g, List.drop_eq_getElem_cons h]; rfl
set_option maxHeartbeats 2000000 in
theorem cmp_Or (l : List Int) (lo : Option Addr) (lc : Nat) (S : Nat → Prop) (w : World) (h : IntsAt w S lo l) : Calls Try.prog 97 #[.slice lo l.length lc] w fun e w' => e = .returned (.int .i64 (orL l)) ∧ w' = w := by
  refine calls_post fun R' hR => ?_
  have hl := h.1
  have h0 := hid h
  clear h
  go_enter Try.func97, Try.ntmps97
  go_wp2_with fail
  go_loopw [8] (fun i wr => ∃ k : Nat, k ≤ l.length ∧ i = .int .i64 k ∧ wr = w ∧ orL l = orL (l.drop k)) (fun i _ => l.length - (intOf i).toNat)
  case atStart => exact ⟨0, Nat.zero_le _, rfl, rfl, rfl⟩
  case round =>
    obtain ⟨k, hk, rfl, rfl, hv⟩ := hrel
    by_cases hlt : k < l.length
    case pos =>
      obtain ⟨b, off, e, hb, hS, hc⟩ := h0.out.at hlt
      rw [orL_drop hlt] at hv
      generalize l.getD k 0 = d at hc hv
      by_cases hd : d = 0
      case pos =>
        rw [if_neg (by simp [hd])] at hv
        replace hv := hid hv
        have hdb : (d != 0) = false := by simp [hd]
        replace hd := hid hd
        subst e
        go_wp2_with fail
        go_roundw
        case rel => exact ⟨k + 1, by omega, by go_num, by first | rfl | trivial, hv.out⟩
        case measure => simp [intOf]; omega
      case neg =>
        rw [if_pos hd] at hv
        replace hv := hid hv
        have hdb : (d != 0) = true := by simp [hd]
        replace hd := hid hd
        subst e
        go_wp2_with fail
        exact hR.out _ _ ⟨by rw [hv.out] <;> rfl, rfl⟩
    case neg =>
      rw [List.drop_of_length_le (by omega)] at hv
      replace hv := hid hv
      go_wp2_with fail
      exact hR.out _ _ ⟨by rw [hv.out] <;> rfl, rfl⟩
set_option maxHeartbeats 4000000 in
theorem slices_Compare (s t : List Int) (so : Option Addr) (sc : Nat) (bo : Option Addr) (tc : Nat) (S : Nat → Prop) (w : World) (h : IntsAt w S so s) (g : IntsAt w S bo t) : Calls Try.prog 101 #[.slice so s.length sc, .slice bo t.length tc] w fun e w' => e = .returned (.int .i64 (cmpL s t)) ∧ w' = w := by
  refine calls_post fun R' hR => ?_
  have hl := h.1
  have gl := g.1
  have h0 := hid h
  have g0 := hid g
  clear h g
  go_enter Try.func101, Try.ntmps101
  go_wp2_with fail
  go_loopw [11] (fun i wr => ∃ k : Nat, k ≤ s.length ∧ k ≤ t.length ∧ i = .int .i64 k ∧ wr = w ∧ cmpL s t = cmpL (s.drop k) (t.drop k)) (fun i _ => s.length - (intOf i).toNat)
  case atStart => exact ⟨0, Nat.zero_le _, Nat.zero_le _, rfl, rfl, rfl⟩
  case round =>
    obtain ⟨k, hk, hk2, rfl, rfl, hv⟩ := hrel
    by_cases hlt : k < s.length
    case pos =>
      obtain ⟨b, off, e, hb, hS, hc⟩ := h0.out.at hlt
      by_cases hlt2 : k < t.length
      case pos =>
        obtain ⟨b2, off2, e2, hb2, hS2, hc2⟩ := g0.out.at hlt2
        rw [cmpL_drop hlt hlt2] at hv
        generalize s.getD k 0 = d at hc hv
        generalize t.getD k 0 = d2 at hc2 hv
        by_cases hd : cmpI d d2 = 0
        case pos =>
          rw [if_neg (by simp [hd])] at hv
          replace hv := hid hv
          have hdb : (cmpI d d2 != 0) = false := by simp [hd]
          replace hd := hid hd
          subst e
          subst e2
          go_wp2_with (go_at_call 99; refine (cmp_CompareI d d2 _).mono ?_; rintro e w' ⟨rfl, rfl⟩)
          go_roundw
          case rel => exact ⟨k + 1, by omega, by omega, by go_num, by first | rfl | trivial, hv.out⟩
          case measure => simp [intOf]; omega
        case neg =>
          rw [if_pos hd] at hv
          replace hv := hid hv
          have hdb : (cmpI d d2 != 0) = true := by simp [hd]
          replace hd := hid hd
          subst e
          subst e2
          go_wp2_with (go_at_call 99; refine (cmp_CompareI d d2 _).mono ?_; rintro e w' ⟨rfl, rfl⟩)
          exact hR.out _ _ ⟨by rw [hv.out] <;> rfl, rfl⟩
      case neg =>
        rw [cmpL_over hlt (by omega)] at hv
        replace hv := hid hv
        subst e
        go_wp2_with fail
        exact hR.out _ _ ⟨by rw [hv.out] <;> rfl, rfl⟩
    case neg =>
      rw [cmpL_end (by omega)] at hv
      by_cases hlt2 : k < t.length
      case pos =>
        rw [if_pos hlt2] at hv
        replace hv := hid hv
        go_wp2_with fail
        exact hR.out _ _ ⟨by rw [hv.out] <;> rfl, rfl⟩
      case neg =>
        rw [if_neg hlt2] at hv
        replace hv := hid hv
        go_wp2_with fail
        exact hR.out _ _ ⟨by rw [hv.out] <;> rfl, rfl⟩
end Go.Proofs.Ytdpdcjadedcglaa
namespace Go.Proofs.Ytdpdcjadedcglaa
open Go.RowKit Go.Sort
attribute [local go_sem ↓] run_max2 run_min2
attribute [local go_sem] eql_ints_nil eql_arrs_nil
def cmp4 (a b : Arr) (c : Int) : Int := orL [cmpI a.kind b.kind, cmpI (a.shape.length : Int) (b.shape.length : Int), c, cmpL a.shape b.shape]
set_option maxRecDepth 100000 in
set_option maxHeartbeats 4000000 in
theorem order_compareOf (a : Arr) (sa : Option Addr) (ca : Nat) (na : Option Addr) (ma : Nat) (ia : Option Addr) (ja : Nat) (b : Arr) (sb : Option Addr) (cb : Nat) (nb : Option Addr) (mb : Nat) (ib : Option Addr) (jb : Nat) (c : Int) (S : Nat → Prop) (w : World) (h : ArrAt w S a sa na ia) (g : ArrAt w S b sb nb ib)
    (hcon : ∀ (T : Nat → Prop) (wz : World), ArrAt wz T a sa na ia → ArrAt wz T b sb nb ib → Calls Try.prog 100 #[.agg #[.int .i64 a.kind, .slice sa a.shape.length ca, .slice na a.nums.length ma, .slice ia a.items.length ja], .agg #[.int .i64 b.kind, .slice sb b.shape.length cb, .slice nb b.nums.length mb, .slice ib b.items.length jb]] wz fun e w' => e = .returned (.int .i64 c) ∧ Below wz.heap.size wz w') :
    Calls Try.prog 84 #[.agg #[.int .i64 a.kind, .slice sa a.shape.length ca, .slice na a.nums.length ma, .slice ia a.items.length ja], .agg #[.int .i64 b.kind, .slice sb b.shape.length cb, .slice nb b.nums.length mb, .slice ib b.items.length jb]] w fun e w' => e = .returned (.int .i64 (cmp4 a b c)) ∧ Below w.heap.size w w' := by
  refine calls_post fun R' hR => ?_
  have h0 := hid h
  have g0 := hid g
  replace hcon := hid hcon
  clear h g
  obtain ⟨r, hr⟩ : ∃ r, r = cmp4 a b c := ⟨_, rfl⟩
  have hr2 : Hid (orL [cmpI a.kind b.kind, cmpI (a.shape.length : Int) (b.shape.length : Int), c, cmpL a.shape b.shape] = r) := hid hr.symm
  rw [← hr] at hR
  replace hr := hid hr
  obtain ⟨q1, h1⟩ : ∃ q, q = cmpI a.kind b.kind := ⟨_, rfl⟩
  obtain ⟨q2, h2⟩ : ∃ q, q = cmpI (a.shape.length : Int) (b.shape.length : Int) := ⟨_, rfl⟩
  obtain ⟨q4, h4⟩ : ∃ q, q = cmpL a.shape b.shape := ⟨_, rfl⟩
  rw [← h1, ← h2, ← h4] at hr2
  replace h1 := hid h1.symm
  replace h2 := hid h2.symm
  replace h4 := hid h4.symm
  go_enter Try.func84, Try.ntmps84
  go_upto_region 1 with (fail)
  generalize hEW : ((w).alloc (.cells #[.int .i64 a.kind, .slice sa a.shape.length ca, .slice na a.nums.length ma, .slice ia a.items.length ja] 27)).alloc (.cells #[.int .i64 b.kind, .slice sb b.shape.length cb, .slice nb b.nums.length mb, .slice ib b.items.length jb] 27) = W
  have E := hid (env2 w S hEW)
  clear hEW
  replace E := hid ((E.out.arg h0.out).arg g0.out)
  (try simp only [List.cons_append, List.nil_append, List.set_cons_zero, List.set_cons_succ] at E)
  generalize w.heap.size + 1 = p1 at E ⊢
  obtain ⟨q00, q01, q02, q03⟩ := (E.out.hdr 0 rfl).all
  obtain ⟨q10, q11, q12, q13⟩ := (E.out.hdr 1 rfl).all
  obtain ⟨T, hT1, hT2, hT3⟩ := E.out.tw
  refine wp_region_mono (Sees W [(⟨w.heap.size, 0, none⟩, .int .i64 a.kind), (⟨w.heap.size, 1, none⟩, .slice sa a.shape.length ca), (⟨w.heap.size, 2, none⟩, .slice na a.nums.length ma), (⟨w.heap.size, 3, none⟩, .slice ia a.items.length ja), (⟨p1, 0, none⟩, .int .i64 b.kind), (⟨p1, 1, none⟩, .slice sb b.shape.length cb), (⟨p1, 2, none⟩, .slice nb b.nums.length mb), (⟨p1, 3, none⟩, .slice ib b.items.length jb)]) [4, 11, 14, 19, 20, 21] (fun k v u u' => match k with | 4 => v = .int .i64 q1 | 11 => v = .int .i64 q2 | 14 => v = .int .i64 c | 19 => v = .int .i64 q4 | 20 => v = .slice (some ⟨u.heap.size, 0, none⟩) 4 4 ∧ u' = u.alloc (.cells (([q1, q2, c, q4] : List Int).map (Value.int .i64)).toArray 3) | 21 => v = .int .i64 r | _ => False) (fun _ _ h e => h.up e) (Sees.start (all_cons ((E.out.hdr 0 rfl).c0) (all_cons ((E.out.hdr 0 rfl).c1) (all_cons ((E.out.hdr 0 rfl).c2) (all_cons ((E.out.hdr 0 rfl).c3) (all_cons ((E.out.hdr 1 rfl).c0) (all_cons ((E.out.hdr 1 rfl).c1) (all_cons ((E.out.hdr 1 rfl).c2) (all_cons ((E.out.hdr 1 rfl).c3) (all_nil)))))))))) (by kernel_rfl) (by kernel_rfl) ?_
  repeat (first | (refine m_plain (v := ?_) (by rfl) (by rfl) ?_ ?_; rotate_left; (intro wz hSw; obtain ⟨-, hSc⟩ := hSw; (try simp only [List.forall_mem_cons, List.forall_mem_nil, and_true] at hSc); go_simp; (first | done | with_reducible rfl)); (intro K hK; (try simp only [Act.put, List.setIfInBounds_toArray, List.set_cons_zero, List.set_cons_succ]); refine hK _ _ ?_; clear hK K)) | (refine m_skip (by rfl) (by rfl) ?_; (intro K hK; (try simp only [Act.put, List.setIfInBounds_toArray, List.set_cons_zero, List.set_cons_succ]); refine hK _ _ ?_; clear hK K)))
  refine m_make (by rfl) (by rfl) ?_ ?_
  · intro wz hSw hdep R hRz
    obtain ⟨hSe, hSc⟩ := hSw
    (try simp only [List.forall_mem_cons, List.forall_mem_nil, and_true] at hSc)
    unfold does
    (go_simp; refine Calls.mono (cmp_CompareK a.kind b.kind wz) ?_; rintro e wq ⟨rfl, rfl⟩; rw [h1.out]; exact ⟨_, rfl, hRz.out _ _ ⟨Ext.refl _, rfl⟩⟩)
  intro v4 u4 x4 hG4 K hK
  have hF4 := hG4.fact
  (try dsimp only at hF4)
  subst hF4
  (try simp only [Act.put, List.setIfInBounds_toArray, List.set_cons_zero, List.set_cons_succ]); refine hK _ _ ?_; clear hK K
  repeat (first | (refine m_plain (v := ?_) (by rfl) (by rfl) ?_ ?_; rotate_left; (intro wz hSw; obtain ⟨-, hSc⟩ := hSw; (try simp only [List.forall_mem_cons, List.forall_mem_nil, and_true] at hSc); go_simp; (first | done | with_reducible rfl)); (intro K hK; (try simp only [Act.put, List.setIfInBounds_toArray, List.set_cons_zero, List.set_cons_succ]); refine hK _ _ ?_; clear hK K)) | (refine m_skip (by rfl) (by rfl) ?_; (intro K hK; (try simp only [Act.put, List.setIfInBounds_toArray, List.set_cons_zero, List.set_cons_succ]); refine hK _ _ ?_; clear hK K)))
  refine m_make (by rfl) (by rfl) ?_ ?_
  · intro wz hSw hdep R hRz
    obtain ⟨hSe, hSc⟩ := hSw
    (try simp only [List.forall_mem_cons, List.forall_mem_nil, and_true] at hSc)
    unfold does
    (go_simp; refine Calls.mono (cmp_CompareI (a.shape.length : Int) (b.shape.length : Int) wz) ?_; rintro e wq ⟨rfl, rfl⟩; rw [h2.out]; exact ⟨_, rfl, hRz.out _ _ ⟨Ext.refl _, rfl⟩⟩)
  intro v11 u11 x11 hG11 K hK
  have hF11 := hG11.fact
  (try dsimp only at hF11)
  subst hF11
  (try simp only [Act.put, List.setIfInBounds_toArray, List.set_cons_zero, List.set_cons_succ]); refine hK _ _ ?_; clear hK K
  repeat (first | (refine m_plain (v := ?_) (by rfl) (by rfl) ?_ ?_; rotate_left; (intro wz hSw; obtain ⟨-, hSc⟩ := hSw; (try simp only [List.forall_mem_cons, List.forall_mem_nil, and_true] at hSc); go_simp; (first | done | with_reducible rfl)); (intro K hK; (try simp only [Act.put, List.setIfInBounds_toArray, List.set_cons_zero, List.set_cons_succ]); refine hK _ _ ?_; clear hK K)) | (refine m_skip (by rfl) (by rfl) ?_; (intro K hK; (try simp only [Act.put, List.setIfInBounds_toArray, List.set_cons_zero, List.set_cons_succ]); refine hK _ _ ?_; clear hK K)))
  refine m_make (by rfl) (by rfl) ?_ ?_
  · intro wz hSw hdep R hRz
    obtain ⟨hSe, hSc⟩ := hSw
    (try simp only [List.forall_mem_cons, List.forall_mem_nil, and_true] at hSc)
    unfold does
    (go_simp; refine Calls.mono (hcon.out _ wz (ArrAt.up (ArrAt.mono (fun b _ h => hT1 b h) _ (E.out.arr 2 rfl)) hSe) (ArrAt.up (ArrAt.mono (fun b _ h => hT1 b h) _ (E.out.arr 3 rfl)) hSe)) ?_; rintro e wq ⟨rfl, hqb⟩; exact ⟨_, rfl, hRz.out _ _ ⟨hqb, rfl⟩⟩)
  intro v14 u14 x14 hG14 K hK
  have hF14 := hG14.fact
  (try dsimp only at hF14)
  subst hF14
  (try simp only [Act.put, List.setIfInBounds_toArray, List.set_cons_zero, List.set_cons_succ]); refine hK _ _ ?_; clear hK K
  repeat (first | (refine m_plain (v := ?_) (by rfl) (by rfl) ?_ ?_; rotate_left; (intro wz hSw; obtain ⟨-, hSc⟩ := hSw; (try simp only [List.forall_mem_cons, List.forall_mem_nil, and_true] at hSc); go_simp; (first | done | with_reducible rfl)); (intro K hK; (try simp only [Act.put, List.setIfInBounds_toArray, List.set_cons_zero, List.set_cons_succ]); refine hK _ _ ?_; clear hK K)) | (refine m_skip (by rfl) (by rfl) ?_; (intro K hK; (try simp only [Act.put, List.setIfInBounds_toArray, List.set_cons_zero, List.set_cons_succ]); refine hK _ _ ?_; clear hK K)))
  refine m_make (by rfl) (by rfl) ?_ ?_
  · intro wz hSw hdep R hRz
    obtain ⟨hSe, hSc⟩ := hSw
    (try simp only [List.forall_mem_cons, List.forall_mem_nil, and_true] at hSc)
    unfold does
    (go_simp; refine Calls.mono (slices_Compare a.shape b.shape _ _ _ _ _ wz ((ArrAt.up (ArrAt.mono (fun b _ h => hT1 b h) _ (E.out.arr 2 rfl)) hSe)).shape ((ArrAt.up (ArrAt.mono (fun b _ h => hT1 b h) _ (E.out.arr 3 rfl)) hSe)).shape) ?_; rintro e wq ⟨rfl, rfl⟩; rw [h4.out]; exact ⟨_, rfl, hRz.out _ _ ⟨Ext.refl _, rfl⟩⟩)
  intro v19 u19 x19 hG19 K hK
  have hF19 := hG19.fact
  (try dsimp only at hF19)
  subst hF19
  (try simp only [Act.put, List.setIfInBounds_toArray, List.set_cons_zero, List.set_cons_succ]); refine hK _ _ ?_; clear hK K
  repeat (first | (refine m_plain (v := ?_) (by rfl) (by rfl) ?_ ?_; rotate_left; (intro wz hSw; obtain ⟨-, hSc⟩ := hSw; (try simp only [List.forall_mem_cons, List.forall_mem_nil, and_true] at hSc); go_simp; (first | done | with_reducible rfl)); (intro K hK; (try simp only [Act.put, List.setIfInBounds_toArray, List.set_cons_zero, List.set_cons_succ]); refine hK _ _ ?_; clear hK K)) | (refine m_skip (by rfl) (by rfl) ?_; (intro K hK; (try simp only [Act.put, List.setIfInBounds_toArray, List.set_cons_zero, List.set_cons_succ]); refine hK _ _ ?_; clear hK K)))
  refine m_make (by rfl) (by rfl) ?_ ?_
  · intro wz hSw hdep R hRz
    obtain ⟨hSe, hSc⟩ := hSw
    (try simp only [List.forall_mem_cons, List.forall_mem_nil, and_true] at hSc)
    unfold does
    (go_simp; exact hRz.out _ _ ⟨ext_alloc _ _, rfl, rfl⟩)
  intro v20 u20 x20 hG20 K hK
  have hF20 := hG20.fact
  (try dsimp only at hF20)
  obtain ⟨rfl, rfl⟩ := hF20
  (try simp only [Act.put, List.setIfInBounds_toArray, List.set_cons_zero, List.set_cons_succ]); refine hK _ _ ?_; clear hK K
  repeat (first | (refine m_plain (v := ?_) (by rfl) (by rfl) ?_ ?_; rotate_left; (intro wz hSw; obtain ⟨-, hSc⟩ := hSw; (try simp only [List.forall_mem_cons, List.forall_mem_nil, and_true] at hSc); go_simp; (first | done | with_reducible rfl)); (intro K hK; (try simp only [Act.put, List.setIfInBounds_toArray, List.set_cons_zero, List.set_cons_succ]); refine hK _ _ ?_; clear hK K)) | (refine m_skip (by rfl) (by rfl) ?_; (intro K hK; (try simp only [Act.put, List.setIfInBounds_toArray, List.set_cons_zero, List.set_cons_succ]); refine hK _ _ ?_; clear hK K)))
  refine m_make (by rfl) (by rfl) ?_ ?_
  · intro wz hSw hdep R hRz
    obtain ⟨hSe, hSc⟩ := hSw
    (try simp only [List.forall_mem_cons, List.forall_mem_nil, and_true] at hSc)
    unfold does
    (go_simp; refine Calls.mono (cmp_Or [q1, q2, c, q4] _ _ _ wz ((lit_at (hdep 20 _ rfl (depB_sound (f := 4) (by kernel_rfl))) (by first | decide | simp)).mono (fun b _ hb => hT2 b (Nat.le_trans (Below.size hG20.s.1) hb)))) ?_; rintro e wq ⟨rfl, rfl⟩; rw [hr2.out]; exact ⟨_, rfl, hRz.out _ _ ⟨Ext.refl _, rfl⟩⟩)
  intro v21 u21 x21 hG21 K hK
  have hF21 := hG21.fact
  (try dsimp only at hF21)
  subst hF21
  (try simp only [Act.put, List.setIfInBounds_toArray, List.set_cons_zero, List.set_cons_succ]); refine hK _ _ ?_; clear hK K
  repeat (first | (refine m_plain (v := ?_) (by rfl) (by rfl) ?_ ?_; rotate_left; (intro wz hSw; obtain ⟨-, hSc⟩ := hSw; (try simp only [List.forall_mem_cons, List.forall_mem_nil, and_true] at hSc); go_simp; (first | done | with_reducible rfl)); (intro K hK; (try simp only [Act.put, List.setIfInBounds_toArray, List.set_cons_zero, List.set_cons_succ]); refine hK _ _ ?_; clear hK K)) | (refine m_skip (by rfl) (by rfl) ?_; (intro K hK; (try simp only [Act.put, List.setIfInBounds_toArray, List.set_cons_zero, List.set_cons_succ]); refine hK _ _ ?_; clear hK K)))
  refine m_nil ?_
  intro wf hSf hAf
  have ef := hid (E.out.up hSf.1).ext
  clear hSf hAf
  go_wp2_with fail
  exact hR.out _ _ ⟨rfl, ef.out⟩
set_option maxRecDepth 100000 in
set_option maxHeartbeats 4000000 in
theorem order_CompareOf (a : Arr) (sa : Option Addr) (ca : Nat) (na : Option Addr) (ma : Nat) (ia : Option Addr) (ja : Nat) (b : Arr) (sb : Option Addr) (cb : Nat) (nb : Option Addr) (mb : Nat) (ib : Option Addr) (jb : Nat) (c : Int) (S : Nat → Prop) (w : World) (h : ArrAt w S a sa na ia) (g : ArrAt w S b sb nb ib) (ra : rightS a = 0) (rb : rightS b = 0)
    (hcon : ∀ (T : Nat → Prop) (wz : World), ArrAt wz T a sa na ia → ArrAt wz T b sb nb ib → Calls Try.prog 100 #[.agg #[.int .i64 a.kind, .slice sa a.shape.length ca, .slice na a.nums.length ma, .slice ia a.items.length ja], .agg #[.int .i64 b.kind, .slice sb b.shape.length cb, .slice nb b.nums.length mb, .slice ib b.items.length jb]] wz fun e w' => e = .returned (.int .i64 c) ∧ Below wz.heap.size wz w') :
    Calls Try.prog 54 #[.agg #[.int .i64 a.kind, .slice sa a.shape.length ca, .slice na a.nums.length ma, .slice ia a.items.length ja], .agg #[.int .i64 b.kind, .slice sb b.shape.length cb, .slice nb b.nums.length mb, .slice ib b.items.length jb]] w fun e w' => e = .returned (.int .i64 (cmp4 a b c)) ∧ Below w.heap.size w w' := by
  refine calls_post fun R' hR => ?_
  have h0 := hid h
  have g0 := hid g
  replace hcon := hid hcon
  clear h g
  have ra0 : Hid (rightS a = 0) := hid ra
  have rb0 : Hid (rightS b = 0) := hid rb
  clear ra rb
  go_enter Try.func54, Try.ntmps54
  go_upto_region 1 with (fail)
  generalize hEW : ((w).alloc (.cells #[.int .i64 a.kind, .slice sa a.shape.length ca, .slice na a.nums.length ma, .slice ia a.items.length ja] 27)).alloc (.cells #[.int .i64 b.kind, .slice sb b.shape.length cb, .slice nb b.nums.length mb, .slice ib b.items.length jb] 27) = W
  have E := hid (env2 w S hEW)
  clear hEW
  replace E := hid ((E.out.arg h0.out).arg g0.out)
  (try simp only [List.cons_append, List.nil_append, List.set_cons_zero, List.set_cons_succ] at E)
  obtain ⟨q00, q01, q02, q03⟩ := (E.out.hdr 0 rfl).all
  obtain ⟨q10, q11, q12, q13⟩ := (E.out.hdr 1 rfl).all
  go_wp2_with fail
  clear q00 q01 q02 q03 q10 q11 q12 q13
  refine (array_Right a _ _ _ _ _ _ _ _ (E.out.arr 2 rfl)).mono ?_
  rintro e w1 ⟨rfl, hb⟩
  replace E := hid (E.out.up hb)
  clear hb
  rw [ra0.out]
  obtain ⟨q00, q01, q02, q03⟩ := (E.out.hdr 0 rfl).all
  obtain ⟨q10, q11, q12, q13⟩ := (E.out.hdr 1 rfl).all
  go_wp2_with fail
  clear q00 q01 q02 q03 q10 q11 q12 q13
  refine (array_Right b _ _ _ _ _ _ _ _ (E.out.arr 3 rfl)).mono ?_
  rintro e w2 ⟨rfl, hb⟩
  replace E := hid (E.out.up hb)
  clear hb
  rw [rb0.out]
  obtain ⟨q00, q01, q02, q03⟩ := (E.out.hdr 0 rfl).all
  obtain ⟨q10, q11, q12, q13⟩ := (E.out.hdr 1 rfl).all
  go_wp2_with fail
  clear q00 q01 q02 q03 q10 q11 q12 q13
  refine (order_compareOf a _ _ _ _ _ _ b _ _ _ _ _ _ c _ _ (E.out.arr 2 rfl) (E.out.arr 3 rfl) hcon.out).mono ?_
  rintro e w3 ⟨rfl, hb⟩
  replace E := hid (E.out.up hb)
  clear hb
  go_wp2_with fail
  exact hR.out _ _ ⟨rfl, E.out.ext⟩
set_option maxRecDepth 100000 in
set_option maxHeartbeats 4000000 in
theorem order_cells1 (va vb : Int) (br ba bb bf b1 o1 ma b2 o2 mb : Nat) (w : World) (h0 : w.cell? ⟨br, 0, none⟩ = some (.int .i64 0)) (h1 : w.cell? ⟨ba, 0, none⟩ = some (.int .i64 1)) (h2 : w.cell? ⟨ba, 2, none⟩ = some (.slice (some ⟨b1, o1, none⟩) 1 ma)) (h3 : w.cell? ⟨bb, 2, none⟩ = some (.slice (some ⟨b2, o2, none⟩) 1 mb))
    (h4 : w.cell? ⟨b1, o1, none⟩ = some (.int .i64 va)) (h5 : w.cell? ⟨b2, o2, none⟩ = some (.int .i64 vb)) :
    Calls Try.prog 108 #[.int .i64 0, .int .i64 0, .int .i64 0, .pointer (some ⟨br, 0, none⟩), .pointer (some ⟨ba, 0, none⟩), .pointer (some ⟨bb, 0, none⟩), .pointer (some ⟨bf, 0, none⟩)] w fun e w' => e = .returned (.int .i64 (cmpI va vb)) ∧ Below w.heap.size w w' := by
  refine calls_post fun R' hR => ?_
  have E := hid (Env.start w (fun _ => True))
  obtain ⟨q, hq⟩ : ∃ q, q = cmpI va vb := ⟨_, rfl⟩
  rw [← hq] at hR
  replace hq := hid hq.symm
  go_enter Try.func108, Try.ntmps108
  go_upto_region 4 with fail
  obtain ⟨T, hT1, hT2, hT3⟩ := E.out.tw
  refine wp_region_mono (Sees w [(⟨ba, 2, none⟩, .slice (some ⟨b1, o1, none⟩) 1 ma), (⟨bb, 2, none⟩, .slice (some ⟨b2, o2, none⟩) 1 mb), (⟨b1, o1, none⟩, .int .i64 va), (⟨b2, o2, none⟩, .int .i64 vb)]) [10] (fun k v u u' => match k with | 10 => v = .int .i64 q | _ => False) (fun _ _ h e => h.up e) (Sees.start (all_cons (h2) (all_cons (h3) (all_cons (h4) (all_cons (h5) (all_nil)))))) (by kernel_rfl) (by kernel_rfl) ?_
  repeat (first | (refine m_plain (v := ?_) (by rfl) (by rfl) ?_ ?_; rotate_left; (intro wz hSw; obtain ⟨-, hSc⟩ := hSw; (try simp only [List.forall_mem_cons, List.forall_mem_nil, and_true] at hSc); go_simp; (first | done | with_reducible rfl)); (intro K hK; (try simp only [Act.put, List.setIfInBounds_toArray, List.set_cons_zero, List.set_cons_succ]); refine hK _ _ ?_; clear hK K)) | (refine m_skip (by rfl) (by rfl) ?_; (intro K hK; (try simp only [Act.put, List.setIfInBounds_toArray, List.set_cons_zero, List.set_cons_succ]); refine hK _ _ ?_; clear hK K)))
  refine m_make (by rfl) (by rfl) ?_ ?_
  · intro wz hSw hdep R hRz
    obtain ⟨hSe, hSc⟩ := hSw
    (try simp only [List.forall_mem_cons, List.forall_mem_nil, and_true] at hSc)
    unfold does
    (go_simp; refine Calls.mono (cmp_CompareI va vb wz) ?_; rintro e wq ⟨rfl, rfl⟩; rw [hq.out]; exact ⟨_, rfl, hRz.out _ _ ⟨Ext.refl _, rfl⟩⟩)
  intro v10 u10 x10 hG10 K hK
  have hF10 := hG10.fact
  (try dsimp only at hF10)
  subst hF10
  (try simp only [Act.put, List.setIfInBounds_toArray, List.set_cons_zero, List.set_cons_succ]); refine hK _ _ ?_; clear hK K
  repeat (first | (refine m_plain (v := ?_) (by rfl) (by rfl) ?_ ?_; rotate_left; (intro wz hSw; obtain ⟨-, hSc⟩ := hSw; (try simp only [List.forall_mem_cons, List.forall_mem_nil, and_true] at hSc); go_simp; (first | done | with_reducible rfl)); (intro K hK; (try simp only [Act.put, List.setIfInBounds_toArray, List.set_cons_zero, List.set_cons_succ]); refine hK _ _ ?_; clear hK K)) | (refine m_skip (by rfl) (by rfl) ?_; (intro K hK; (try simp only [Act.put, List.setIfInBounds_toArray, List.set_cons_zero, List.set_cons_succ]); refine hK _ _ ?_; clear hK K)))
  refine m_nil ?_
  intro wf hSf hAf
  have ef := hid (E.out.up hSf.1).ext
  clear hSf hAf
  go_wp2_with fail
  exact hR.out _ _ ⟨rfl, ef.out⟩
set_option maxRecDepth 100000 in
set_option maxHeartbeats 4000000 in
theorem order_contents1 (va vb : Int) (sa : Option Addr) (ca : Nat) (na : Option Addr) (ma : Nat) (ia : Option Addr) (ja : Nat) (sb : Option Addr) (cb : Nat) (nb : Option Addr) (mb : Nat) (ib : Option Addr) (jb : Nat) (S : Nat → Prop) (w : World) (h : IntsAt w S na [va]) (g : IntsAt w S nb [vb]) :
    Calls Try.prog 100 #[.agg #[.int .i64 1, .slice sa 0 ca, .slice na 1 ma, .slice ia 0 ja], .agg #[.int .i64 1, .slice sb 0 cb, .slice nb 1 mb, .slice ib 0 jb]] w fun e w' => e = .returned (.int .i64 (cmpI va vb)) ∧ Below w.heap.size w w' := by
  refine calls_post fun R' hR => ?_
  obtain ⟨b1, o1, rfl, hb1, _, hc1⟩ := h.at (k := 0) (by simp)
  obtain ⟨b2, o2, rfl, hb2, _, hc2⟩ := g.at (k := 0) (by simp)
  simp only [List.getD_cons_zero, Nat.add_zero] at hc1 hc2
  clear h g
  go_enter Try.func100, Try.ntmps100
  go_wp2_with fail
  refine Calls.mono (order_cells1 va vb (w.heap.size + 1 + 1) w.heap.size (w.heap.size + 1) (w.heap.size + 1 + 1 + 1) b1 o1 ma b2 o2 mb _ ?_ ?_ ?_ ?_ ?_ ?_) ?_
  · simp [go_sem, World.cell?_alloc_past]
  · simp [go_sem, World.cell?_alloc_past]
  · simp [go_sem, World.cell?_alloc_past]
  · simp [go_sem, World.cell?_alloc_past]
  · exact up_cell hc1 ((((ext_alloc _ _).trans (ext_alloc _ _)).trans (ext_alloc _ _)).trans (ext_alloc _ _))
  · exact up_cell hc2 ((((ext_alloc _ _).trans (ext_alloc _ _)).trans (ext_alloc _ _)).trans (ext_alloc _ _))
  rintro e w2 ⟨rfl, hb⟩
  have hb' : Below w.heap.size w w2 := by
    refine Below.trans ?_ (Below.mono hb (by simp; omega))
    exact (((ext_alloc _ _).trans (ext_alloc _ _)).trans (ext_alloc _ _)).trans (ext_alloc _ _)
  clear hb
  go_wp2_with fail
  exact hR.out _ _ ⟨rfl, hb'⟩
end Go.Proofs.Ytdpdcjadedcglaa
