/- ref20.insert, ref20.blocks: contracts. Conditions: a slice's capacity is at least its length; the shape is right. -/
import Derived.Test.YthhffneibcpbdaaJ20A
import Derived.Test.YthhffneibcpbdaaOF
set_option linter.unusedVariables false
set_option linter.unusedSimpArgs false
namespace Go.Proofs.Ythhffneibcpbdaa
open Go.RowKit Go.Sort
attribute [local go_sem ↓] run_max2 run_min2
attribute [local go_sem] eql_ints_nil eql_arrs_nil
set_option maxHeartbeats 4000000 in
theorem ref20_insert (s : List Int) (ao : Option Addr) (cap i : Nat) (d : Int) (S : Nat → Prop) (w : World) (h : IntsAt w S ao s) (hi : i ≤ s.length) (hl : s.length ≤ 1000) (hc : s.length ≤ cap) :
    Calls Try.prog 89 #[.slice ao s.length cap, .int .i64 i, .int .i64 d] w fun e w' => ∃ oa oc, e = .returned (.slice oa (s.take i ++ d :: s.drop i).length oc) ∧ OwnI w' w.heap.size oa oc (s.take i ++ d :: s.drop i) ∧ Below w.heap.size w w' := by
  refine calls_post fun R' hR => ?_
  have h0 := hid h
  clear h
  obtain ⟨l1, hl1⟩ : ∃ l, l = s.take i := ⟨_, rfl⟩
  obtain ⟨l2, hl2⟩ : ∃ l, l = l1 ++ [d] := ⟨_, rfl⟩
  obtain ⟨l3, hl3⟩ : ∃ l, l = s.drop i := ⟨_, rfl⟩
  obtain ⟨l4, hl4⟩ : ∃ l, l = l2 ++ l3 := ⟨_, rfl⟩
  have hz : s.take i ++ d :: s.drop i = l4 := by rw [hl4, hl2, hl1, hl3]; simp
  rw [hz] at hR
  have n1 : Hid (l1.length = i) := hid (by rw [hl1]; simp; omega)
  have n2 : Hid (l2.length = i + 1) := hid (by rw [hl2, List.length_append, n1.out]; rfl)
  have n3 : Hid (l3.length = s.length - i) := hid (by rw [hl3]; simp)
  replace hz := hid hz
  replace hl1 := hid hl1
  replace hl2 := hid hl2
  replace hl3 := hid hl3
  replace hl4 := hid hl4
  have E := hid (((Env.start w S).argI h0.out).row0I)
  (try simp only [List.cons_append, List.nil_append, List.set_cons_zero, List.set_cons_succ] at E)
  have t0 : ¬ (i : Int) < 0 := by omega
  have t1 : ¬ (s.length : Int) < (i : Int) := by omega
  have t2 : (0 : Int) ≤ (i : Int) := by omega
  have t3 : (i : Int) ≤ (s.length : Int) := by omega
  have t4 : (i : Int) ≤ (cap : Int) := by omega
  have t5 : (i : Int).toNat = i := by omega
  go_enter Try.func89, Try.ntmps89
  by_cases c0 : cap = 0
  case pos =>
    obtain rfl : i = 0 := by omega
    have hq := hid (show s.length ≤ 0 by omega)
    go_wp2_with (first
      | (at_builtin; refine wplE_appI E.out 1 rfl rfl (.const (.slice none 0 0)) (.tmp 10) rfl rfl _ _ _ l1 (by rw [n1.out]; rfl) (hl1.out ▸ ((E.out.ints 0 rfl).take 0)) (by have q1 := n1.out; have q2 := n2.out; have q3 := n3.out; (try simp only [List.length_nil, List.length_cons]); omega) ?_; intro V2 a2 k2 E1; rw [List.nil_append] at E1 ⊢; clear E; have E := hid E1; clear E1; (try simp only [List.cons_append, List.nil_append, List.set_cons_zero, List.set_cons_succ] at E))
      | (at_builtin; replace E := hid (E.out.lit [d] (show (1 : Nat) ≤ 17592186044416 by decide)); (try simp only [List.cons_append, List.nil_append, List.set_cons_zero, List.set_cons_succ] at E); refine wplE_appI E.out 1 rfl rfl (.tmp 12) (.tmp 14) rfl rfl _ _ _ [d] rfl (E.out.ints 2 rfl) (by have q1 := n1.out; have q2 := n2.out; have q3 := n3.out; (try simp only [List.length_nil, List.length_cons]); omega) ?_; intro V3 a3 k3 E1; rw [← hl2.out] at E1 ⊢; clear E; have E := hid E1; clear E1; (try simp only [List.cons_append, List.nil_append, List.set_cons_zero, List.set_cons_succ] at E))
      | (at_builtin; refine wplE_appI E.out 1 rfl rfl (.tmp 16) (.tmp 19) rfl rfl _ _ _ l3 (by rw [n3.out]; rfl) (hl3.out ▸ ((E.out.ints 0 rfl).cut0 hq.out)) (by have q1 := n1.out; have q2 := n2.out; have q3 := n3.out; (try simp only [List.length_nil, List.length_cons]); omega) ?_; intro V4 a4 k4 E1; rw [← hl4.out] at E1 ⊢; clear E; have E := hid E1; clear E1; (try simp only [List.cons_append, List.nil_append, List.set_cons_zero, List.set_cons_succ] at E)))
    have hO := OwnI.base (E.out.rowI 1 rfl) (Nat.le_refl _)
    exact hR.out _ _ ⟨a4, k4, rfl, hO, E.out.ext⟩
  case neg =>
  by_cases c1 : cap = i
  case pos =>
    have hq := hid (show s.length ≤ i by omega)
    go_wp2_with (first
      | (at_builtin; refine wplE_appI E.out 1 rfl rfl (.const (.slice none 0 0)) (.tmp 10) rfl rfl _ _ _ l1 (by rw [n1.out]; rfl) (hl1.out ▸ ((E.out.ints 0 rfl).take i)) (by have q1 := n1.out; have q2 := n2.out; have q3 := n3.out; (try simp only [List.length_nil, List.length_cons]); omega) ?_; intro V2 a2 k2 E1; rw [List.nil_append] at E1 ⊢; clear E; have E := hid E1; clear E1; (try simp only [List.cons_append, List.nil_append, List.set_cons_zero, List.set_cons_succ] at E))
      | (at_builtin; replace E := hid (E.out.lit [d] (show (1 : Nat) ≤ 17592186044416 by decide)); (try simp only [List.cons_append, List.nil_append, List.set_cons_zero, List.set_cons_succ] at E); refine wplE_appI E.out 1 rfl rfl (.tmp 12) (.tmp 14) rfl rfl _ _ _ [d] rfl (E.out.ints 2 rfl) (by have q1 := n1.out; have q2 := n2.out; have q3 := n3.out; (try simp only [List.length_nil, List.length_cons]); omega) ?_; intro V3 a3 k3 E1; rw [← hl2.out] at E1 ⊢; clear E; have E := hid E1; clear E1; (try simp only [List.cons_append, List.nil_append, List.set_cons_zero, List.set_cons_succ] at E))
      | (at_builtin; refine wplE_appI E.out 1 rfl rfl (.tmp 16) (.tmp 19) rfl rfl _ _ _ l3 (by rw [n3.out]; rfl) (hl3.out ▸ ((E.out.ints 0 rfl).cut0 hq.out)) (by have q1 := n1.out; have q2 := n2.out; have q3 := n3.out; (try simp only [List.length_nil, List.length_cons]); omega) ?_; intro V4 a4 k4 E1; rw [← hl4.out] at E1 ⊢; clear E; have E := hid E1; clear E1; (try simp only [List.cons_append, List.nil_append, List.set_cons_zero, List.set_cons_succ] at E)))
    have hO := OwnI.base (E.out.rowI 1 rfl) (Nat.le_refl _)
    exact hR.out _ _ ⟨a4, k4, rfl, hO, E.out.ext⟩
  case neg =>
    go_wp2_with (first
      | (at_builtin; refine wplE_appI E.out 1 rfl rfl (.const (.slice none 0 0)) (.tmp 10) rfl rfl _ _ _ l1 (by rw [n1.out]; rfl) (hl1.out ▸ ((E.out.ints 0 rfl).take i)) (by have q1 := n1.out; have q2 := n2.out; have q3 := n3.out; (try simp only [List.length_nil, List.length_cons]); omega) ?_; intro V2 a2 k2 E1; rw [List.nil_append] at E1 ⊢; clear E; have E := hid E1; clear E1; (try simp only [List.cons_append, List.nil_append, List.set_cons_zero, List.set_cons_succ] at E))
      | (at_builtin; replace E := hid (E.out.lit [d] (show (1 : Nat) ≤ 17592186044416 by decide)); (try simp only [List.cons_append, List.nil_append, List.set_cons_zero, List.set_cons_succ] at E); refine wplE_appI E.out 1 rfl rfl (.tmp 12) (.tmp 14) rfl rfl _ _ _ [d] rfl (E.out.ints 2 rfl) (by have q1 := n1.out; have q2 := n2.out; have q3 := n3.out; (try simp only [List.length_nil, List.length_cons]); omega) ?_; intro V3 a3 k3 E1; rw [← hl2.out] at E1 ⊢; clear E; have E := hid E1; clear E1; (try simp only [List.cons_append, List.nil_append, List.set_cons_zero, List.set_cons_succ] at E))
      | (at_builtin; refine wplE_appI E.out 1 rfl rfl (.tmp 16) (.tmp 19) rfl rfl _ _ _ l3 (by rw [n3.out]; rfl) (hl3.out ▸ ((E.out.ints 0 rfl).cut i)) (by have q1 := n1.out; have q2 := n2.out; have q3 := n3.out; (try simp only [List.length_nil, List.length_cons]); omega) ?_; intro V4 a4 k4 E1; rw [← hl4.out] at E1 ⊢; clear E; have E := hid E1; clear E1; (try simp only [List.cons_append, List.nil_append, List.set_cons_zero, List.set_cons_succ] at E)))
    have hO := OwnI.base (E.out.rowI 1 rfl) (Nat.le_refl _)
    exact hR.out _ _ ⟨a4, k4, rfl, hO, E.out.ext⟩
theorem count_at (s : List Int) (hs : shapeB s = true) (ao : Option Addr) (cap : Nat) (S : Nat → Prop) (w : World) (h : IntsAt w S ao s) : Calls Try.prog 38 #[.slice ao s.length cap] w fun e w' => e = .returned (.int .i64 (cnt s)) ∧ w' = w := by
  refine (ref03_Count s _ _ _ _ h).mono ?_
  rintro e w2 ⟨rfl, rfl⟩
  exact ⟨by rw [cntC_eq hs], rfl⟩
set_option maxHeartbeats 4000000 in
theorem ref20_blocks (s : List Int) (ao : Option Addr) (cap f : Nat) (S : Nat → Prop) (w : World) (h : IntsAt w S ao s) (hs : shapeB s = true) (hf : f ≤ s.length) (hc : s.length ≤ cap) :
    Calls Try.prog 72 #[.slice ao s.length cap, .int .i64 f] w fun e w' => e = .returned (.tuple #[.int .i64 (cnt (s.take f)), .int .i64 (cnt (s.drop f))]) ∧ Below w.heap.size w w' := by
  refine calls_post fun R' hR => ?_
  have h0 := hid h
  replace hs := hid hs
  clear h
  have E := hid (Env.start w S)
  obtain ⟨w1, hw1⟩ : ∃ w1, w1 = w := ⟨_, rfl⟩
  subst hw1
  have t0 : ¬ (f : Int) < 0 := by omega
  have t1 : ¬ (s.length : Int) < (f : Int) := by omega
  have t2 : (0 : Int) ≤ (f : Int) := by omega
  have t3 : (f : Int) ≤ (s.length : Int) := by omega
  have t4 : (f : Int) ≤ (cap : Int) := by omega
  have t5 : (f : Int).toNat = f := by omega
  have P1 := hid (fun ao cap wz => lenP (n := f) (by simp; omega) (fun h => count_at (s.take f) (shapeB_take hs.out f) ao cap S wz h))
  have P2 := hid (fun ao cap wz => lenP (n := s.length - f) (by simp) (fun h => count_at (s.drop f) (shapeB_drop hs.out f) ao cap S wz h))
  go_enter Try.func72, Try.ntmps72
  by_cases c0 : cap = 0
  case pos =>
    obtain rfl : f = 0 := by omega
    have hz := hid (show s.length ≤ 0 by omega)
    go_upto_region 1 with (fail)
    obtain ⟨T, hT1, hT2, hT3⟩ := E.out.tw
    refine wp_region_mono (Sees w1 []) [3, 7] (fun k v u u' => match k with | 3 => v = .int .i64 (cnt (s.take 0)) | 7 => v = .int .i64 (cnt (s.drop 0)) | _ => False) (fun _ _ h e => h.up e) (Sees.start (all_nil)) (by kernel_rfl) (by kernel_rfl) ?_
    repeat (first | (refine m_plain (v := ?_) (by rfl) (by rfl) ?_ ?_; rotate_left; (intro wz hSw; obtain ⟨-, hSc⟩ := hSw; (try simp only [List.forall_mem_cons, List.forall_mem_nil, and_true] at hSc); go_simp; (first | done | with_reducible rfl)); (intro K hK; (try simp only [Act.put, List.setIfInBounds_toArray, List.set_cons_zero, List.set_cons_succ]); refine hK _ _ ?_; clear hK K)) | (refine m_skip (by rfl) (by rfl) ?_; (intro K hK; (try simp only [Act.put, List.setIfInBounds_toArray, List.set_cons_zero, List.set_cons_succ]); refine hK _ _ ?_; clear hK K)))
    refine m_make (by rfl) (by rfl) ?_ ?_
    · intro wz hSw hdep R hRz
      obtain ⟨hSe, hSc⟩ := hSw
      (try simp only [List.forall_mem_cons, List.forall_mem_nil, and_true] at hSc)
      unfold does
      (go_simp; refine Calls.mono (P1.out _ _ wz ((h0.out.take 0).up hSe)) ?_; rintro e wq ⟨rfl, rfl⟩; exact ⟨_, rfl, hRz.out _ _ ⟨Ext.refl _, rfl⟩⟩)
    intro v3 u3 x3 hG3 K hK
    have hF3 := hG3.fact
    (try dsimp only at hF3)
    subst hF3
    (try simp only [Act.put, List.setIfInBounds_toArray, List.set_cons_zero, List.set_cons_succ]); refine hK _ _ ?_; clear hK K
    repeat (first | (refine m_plain (v := ?_) (by rfl) (by rfl) ?_ ?_; rotate_left; (intro wz hSw; obtain ⟨-, hSc⟩ := hSw; (try simp only [List.forall_mem_cons, List.forall_mem_nil, and_true] at hSc); go_simp; (first | done | with_reducible rfl)); (intro K hK; (try simp only [Act.put, List.setIfInBounds_toArray, List.set_cons_zero, List.set_cons_succ]); refine hK _ _ ?_; clear hK K)) | (refine m_skip (by rfl) (by rfl) ?_; (intro K hK; (try simp only [Act.put, List.setIfInBounds_toArray, List.set_cons_zero, List.set_cons_succ]); refine hK _ _ ?_; clear hK K)))
    refine m_make (by rfl) (by rfl) ?_ ?_
    · intro wz hSw hdep R hRz
      obtain ⟨hSe, hSc⟩ := hSw
      (try simp only [List.forall_mem_cons, List.forall_mem_nil, and_true] at hSc)
      unfold does
      (go_simp; refine Calls.mono (P2.out _ _ wz ((h0.out.cut0 hz.out).up hSe)) ?_; rintro e wq ⟨rfl, rfl⟩; exact ⟨_, rfl, hRz.out _ _ ⟨Ext.refl _, rfl⟩⟩)
    intro v7 u7 x7 hG7 K hK
    have hF7 := hG7.fact
    (try dsimp only at hF7)
    subst hF7
    (try simp only [Act.put, List.setIfInBounds_toArray, List.set_cons_zero, List.set_cons_succ]); refine hK _ _ ?_; clear hK K
    repeat (first | (refine m_plain (v := ?_) (by rfl) (by rfl) ?_ ?_; rotate_left; (intro wz hSw; obtain ⟨-, hSc⟩ := hSw; (try simp only [List.forall_mem_cons, List.forall_mem_nil, and_true] at hSc); go_simp; (first | done | with_reducible rfl)); (intro K hK; (try simp only [Act.put, List.setIfInBounds_toArray, List.set_cons_zero, List.set_cons_succ]); refine hK _ _ ?_; clear hK K)) | (refine m_skip (by rfl) (by rfl) ?_; (intro K hK; (try simp only [Act.put, List.setIfInBounds_toArray, List.set_cons_zero, List.set_cons_succ]); refine hK _ _ ?_; clear hK K)))
    refine m_nil ?_
    intro wf hSf hAf
    have ef := hid (E.out.up hSf.1).ext
    clear hSf hAf
    go_wp2_with fail
    exact hR.out _ _ ⟨rfl, ef.out⟩
  case neg =>
  by_cases c1 : cap = f
  case pos =>
    have hz := hid (show s.length ≤ f by omega)
    go_upto_region 1 with (fail)
    obtain ⟨T, hT1, hT2, hT3⟩ := E.out.tw
    refine wp_region_mono (Sees w1 []) [3, 7] (fun k v u u' => match k with | 3 => v = .int .i64 (cnt (s.take f)) | 7 => v = .int .i64 (cnt (s.drop f)) | _ => False) (fun _ _ h e => h.up e) (Sees.start (all_nil)) (by kernel_rfl) (by kernel_rfl) ?_
    repeat (first | (refine m_plain (v := ?_) (by rfl) (by rfl) ?_ ?_; rotate_left; (intro wz hSw; obtain ⟨-, hSc⟩ := hSw; (try simp only [List.forall_mem_cons, List.forall_mem_nil, and_true] at hSc); go_simp; (first | done | with_reducible rfl)); (intro K hK; (try simp only [Act.put, List.setIfInBounds_toArray, List.set_cons_zero, List.set_cons_succ]); refine hK _ _ ?_; clear hK K)) | (refine m_skip (by rfl) (by rfl) ?_; (intro K hK; (try simp only [Act.put, List.setIfInBounds_toArray, List.set_cons_zero, List.set_cons_succ]); refine hK _ _ ?_; clear hK K)))
    refine m_make (by rfl) (by rfl) ?_ ?_
    · intro wz hSw hdep R hRz
      obtain ⟨hSe, hSc⟩ := hSw
      (try simp only [List.forall_mem_cons, List.forall_mem_nil, and_true] at hSc)
      unfold does
      (go_simp; refine Calls.mono (P1.out _ _ wz ((h0.out.take f).up hSe)) ?_; rintro e wq ⟨rfl, rfl⟩; exact ⟨_, rfl, hRz.out _ _ ⟨Ext.refl _, rfl⟩⟩)
    intro v3 u3 x3 hG3 K hK
    have hF3 := hG3.fact
    (try dsimp only at hF3)
    subst hF3
    (try simp only [Act.put, List.setIfInBounds_toArray, List.set_cons_zero, List.set_cons_succ]); refine hK _ _ ?_; clear hK K
    repeat (first | (refine m_plain (v := ?_) (by rfl) (by rfl) ?_ ?_; rotate_left; (intro wz hSw; obtain ⟨-, hSc⟩ := hSw; (try simp only [List.forall_mem_cons, List.forall_mem_nil, and_true] at hSc); go_simp; (first | done | with_reducible rfl)); (intro K hK; (try simp only [Act.put, List.setIfInBounds_toArray, List.set_cons_zero, List.set_cons_succ]); refine hK _ _ ?_; clear hK K)) | (refine m_skip (by rfl) (by rfl) ?_; (intro K hK; (try simp only [Act.put, List.setIfInBounds_toArray, List.set_cons_zero, List.set_cons_succ]); refine hK _ _ ?_; clear hK K)))
    refine m_make (by rfl) (by rfl) ?_ ?_
    · intro wz hSw hdep R hRz
      obtain ⟨hSe, hSc⟩ := hSw
      (try simp only [List.forall_mem_cons, List.forall_mem_nil, and_true] at hSc)
      unfold does
      (go_simp; refine Calls.mono (P2.out _ _ wz ((h0.out.cut0 hz.out).up hSe)) ?_; rintro e wq ⟨rfl, rfl⟩; exact ⟨_, rfl, hRz.out _ _ ⟨Ext.refl _, rfl⟩⟩)
    intro v7 u7 x7 hG7 K hK
    have hF7 := hG7.fact
    (try dsimp only at hF7)
    subst hF7
    (try simp only [Act.put, List.setIfInBounds_toArray, List.set_cons_zero, List.set_cons_succ]); refine hK _ _ ?_; clear hK K
    repeat (first | (refine m_plain (v := ?_) (by rfl) (by rfl) ?_ ?_; rotate_left; (intro wz hSw; obtain ⟨-, hSc⟩ := hSw; (try simp only [List.forall_mem_cons, List.forall_mem_nil, and_true] at hSc); go_simp; (first | done | with_reducible rfl)); (intro K hK; (try simp only [Act.put, List.setIfInBounds_toArray, List.set_cons_zero, List.set_cons_succ]); refine hK _ _ ?_; clear hK K)) | (refine m_skip (by rfl) (by rfl) ?_; (intro K hK; (try simp only [Act.put, List.setIfInBounds_toArray, List.set_cons_zero, List.set_cons_succ]); refine hK _ _ ?_; clear hK K)))
    refine m_nil ?_
    intro wf hSf hAf
    have ef := hid (E.out.up hSf.1).ext
    clear hSf hAf
    go_wp2_with fail
    exact hR.out _ _ ⟨rfl, ef.out⟩
  case neg =>
    go_upto_region 1 with (fail)
    obtain ⟨T, hT1, hT2, hT3⟩ := E.out.tw
    refine wp_region_mono (Sees w1 []) [3, 7] (fun k v u u' => match k with | 3 => v = .int .i64 (cnt (s.take f)) | 7 => v = .int .i64 (cnt (s.drop f)) | _ => False) (fun _ _ h e => h.up e) (Sees.start (all_nil)) (by kernel_rfl) (by kernel_rfl) ?_
    repeat (first | (refine m_plain (v := ?_) (by rfl) (by rfl) ?_ ?_; rotate_left; (intro wz hSw; obtain ⟨-, hSc⟩ := hSw; (try simp only [List.forall_mem_cons, List.forall_mem_nil, and_true] at hSc); go_simp; (first | done | with_reducible rfl)); (intro K hK; (try simp only [Act.put, List.setIfInBounds_toArray, List.set_cons_zero, List.set_cons_succ]); refine hK _ _ ?_; clear hK K)) | (refine m_skip (by rfl) (by rfl) ?_; (intro K hK; (try simp only [Act.put, List.setIfInBounds_toArray, List.set_cons_zero, List.set_cons_succ]); refine hK _ _ ?_; clear hK K)))
    refine m_make (by rfl) (by rfl) ?_ ?_
    · intro wz hSw hdep R hRz
      obtain ⟨hSe, hSc⟩ := hSw
      (try simp only [List.forall_mem_cons, List.forall_mem_nil, and_true] at hSc)
      unfold does
      (go_simp; refine Calls.mono (P1.out _ _ wz ((h0.out.take f).up hSe)) ?_; rintro e wq ⟨rfl, rfl⟩; exact ⟨_, rfl, hRz.out _ _ ⟨Ext.refl _, rfl⟩⟩)
    intro v3 u3 x3 hG3 K hK
    have hF3 := hG3.fact
    (try dsimp only at hF3)
    subst hF3
    (try simp only [Act.put, List.setIfInBounds_toArray, List.set_cons_zero, List.set_cons_succ]); refine hK _ _ ?_; clear hK K
    repeat (first | (refine m_plain (v := ?_) (by rfl) (by rfl) ?_ ?_; rotate_left; (intro wz hSw; obtain ⟨-, hSc⟩ := hSw; (try simp only [List.forall_mem_cons, List.forall_mem_nil, and_true] at hSc); go_simp; (first | done | with_reducible rfl)); (intro K hK; (try simp only [Act.put, List.setIfInBounds_toArray, List.set_cons_zero, List.set_cons_succ]); refine hK _ _ ?_; clear hK K)) | (refine m_skip (by rfl) (by rfl) ?_; (intro K hK; (try simp only [Act.put, List.setIfInBounds_toArray, List.set_cons_zero, List.set_cons_succ]); refine hK _ _ ?_; clear hK K)))
    refine m_make (by rfl) (by rfl) ?_ ?_
    · intro wz hSw hdep R hRz
      obtain ⟨hSe, hSc⟩ := hSw
      (try simp only [List.forall_mem_cons, List.forall_mem_nil, and_true] at hSc)
      unfold does
      (go_simp; refine Calls.mono (P2.out _ _ wz ((h0.out.cut f).up hSe)) ?_; rintro e wq ⟨rfl, rfl⟩; exact ⟨_, rfl, hRz.out _ _ ⟨Ext.refl _, rfl⟩⟩)
    intro v7 u7 x7 hG7 K hK
    have hF7 := hG7.fact
    (try dsimp only at hF7)
    subst hF7
    (try simp only [Act.put, List.setIfInBounds_toArray, List.set_cons_zero, List.set_cons_succ]); refine hK _ _ ?_; clear hK K
    repeat (first | (refine m_plain (v := ?_) (by rfl) (by rfl) ?_ ?_; rotate_left; (intro wz hSw; obtain ⟨-, hSc⟩ := hSw; (try simp only [List.forall_mem_cons, List.forall_mem_nil, and_true] at hSc); go_simp; (first | done | with_reducible rfl)); (intro K hK; (try simp only [Act.put, List.setIfInBounds_toArray, List.set_cons_zero, List.set_cons_succ]); refine hK _ _ ?_; clear hK K)) | (refine m_skip (by rfl) (by rfl) ?_; (intro K hK; (try simp only [Act.put, List.setIfInBounds_toArray, List.set_cons_zero, List.set_cons_succ]); refine hK _ _ ?_; clear hK K)))
    refine m_nil ?_
    intro wf hSf hAf
    have ef := hid (E.out.up hSf.1).ext
    clear hSf hAf
    go_wp2_with fail
    exact hR.out _ _ ⟨rfl, ef.out⟩
end Go.Proofs.Ythhffneibcpbdaa
