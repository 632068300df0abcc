/- The theorem TopExtends: true. Conditions: the array is read; a slice's capacity is at least its length. -/
import Derived.Test.YtolnbmmkpmajdaaLAWT
import Derived.Test.YtolnbmmkpmajdaaBIN6
import Derived.Test.YtolnbmmkpmajdaaRSHC
set_option linter.unusedVariables false
set_option maxRecDepth 20000
set_option linter.unusedSimpArgs false
namespace Go.Proofs.Ytolnbmmkpmajdaa
open Go.RowKit Go.Sort
attribute [local go_sem ↓] run_max2 run_min2
attribute [local go_sem] eql_ints_nil eql_arrs_nil
theorem vecA_right {s : List Int} (hs : shapeB s = true) : rightS (vecA s) = 0 := by
  have hB := shapeB_iff.1 hs
  have hl : (0 : Int) ≤ (s.length : Int) := by omega
  refine right_iff.2 ⟨?_, fun d hd => ?_, (fun x hx => by cases hx), ?_⟩
  · have hsb : shapeB [(s.length : Int)] = true := shapeB_one hl (by omega)
    have hneg : [(s.length : Int)].any negB = false := by simp [negB]
    have := formE_last (k := 1) (s := [(s.length : Int)]) (nn := s.length) (ni := 0) (Or.inl rfl) (by simp) hneg hsb
    refine this.trans (if_neg ?_)
    rw [cnt_cons1, cnt_nil]
    simp
  · have hd : d ∈ s := hd
    have h0 := hB.2.1 d hd
    have h1 := prodNZ_ge_mem hB.2.1 hd
    have := hB.2.2
    show numB d = true
    simp [numB]; omega
  · show (s.length : Int) + ((0 : Nat) : Int) + sumW [] ≤ 262144
    simp [sumW]; omega
theorem rep_right {s : List Int} (hs : shapeB s = true) {n : Int} (hn : numB n = true) {N : Nat} (hN : cnt s = (N : Int)) : rightS (.mk 1 s (List.replicate N n) []) = 0 := by
  have hB := shapeB_iff.1 hs
  have hc := cnt_le hs
  refine right_iff.2 ⟨?_, fun d hd => ?_, (fun x hx => by cases hx), ?_⟩
  · have hneg : s.any negB = false := by
      rw [List.any_eq_false]
      intro d hd
      have := hB.2.1 d hd
      simp [negB]; omega
    have := formE_last (k := 1) (s := s) (nn := (List.replicate N n).length) (ni := 0) (Or.inl rfl) (by omega) hneg hs
    refine this.trans (if_neg ?_)
    rw [List.length_replicate, hN]
    simp
  · have hd : d ∈ List.replicate N n := hd
    rw [List.eq_of_mem_replicate hd]; exact hn
  · show ((List.replicate N n).length : Int) + ((0 : Nat) : Int) + sumW [] ≤ 262144
    rw [List.length_replicate]
    simp [sumW]; omega
set_option maxRecDepth 100000 in
set_option maxHeartbeats 8000000 in
theorem top_TopExtends (p : Nat) (hp : p < 256) (n : Int) (y : Arr) (sy : Option Addr) (cy : Nat) (ny : Option Addr) (my : Nat) (iy : Option Addr) (jy : Nat) (S : Nat → Prop) (w : World) (h : ArrAt w S y sy ny iy) (hcy : y.shape.length ≤ cy) :
    Calls Try.prog 4 #[.int .u8 (p : Int), .int .i64 n, .agg #[.int .i64 y.kind, .slice sy y.shape.length cy, .slice ny y.nums.length my, .slice iy y.items.length jy]] w fun e w' => e = .returned (.bool true) ∧ Below w.heap.size w w' := by
  refine calls_post fun R' hR => ?_
  have h0 := hid h
  have hcy := hid hcy
  clear h
  have hwp : IntKind.i64.wrap (p : Int) = (p : Int) := IntWalk.i64_in _ (by omega)
  go_enter Try.func4, Try.ntmps4
  go_upto_region 1 with (fail)
  generalize hEW : (w).alloc (.cells #[.int .i64 y.kind, .slice sy y.shape.length cy, .slice ny y.nums.length my, .slice iy y.items.length jy] 26) = W
  have E := hid (env1 w S hEW)
  clear hEW
  replace E := hid (E.out.arg h0.out)
  (try simp only [List.cons_append, List.nil_append, List.set_cons_zero, List.set_cons_succ] at E)
  obtain ⟨q00, q01, q02, q03⟩ := (E.out.hdr 0 rfl).all
  go_wp2_with fail
  clear q00 q01 q02 q03
  refine (top_few y _ _ _ _ _ _ 200 _ _ (E.out.arr 1 rfl)).mono ?_
  rintro e w1 ⟨b1, rfl, hfw, hb⟩
  replace E := hid (E.out.up hb)
  clear hb
  cases b1 with
  | false =>
    clear hfw
    go_wp2_with (go_at_call 7; refine (top_knows22 _).mono ?_; rintro e w9 ⟨rfl, hb9⟩)
    exact hR.out _ _ ⟨rfl, (E.out.up hb9).ext⟩
  | true =>
  obtain ⟨ry, _⟩ := hfw rfl
  clear hfw
  by_cases c1 : n < -4611686018427387903
  case pos =>
    replace ry := hid ry
    go_wp2_with (go_at_call 7; refine (top_knows22 _).mono ?_; rintro e w9 ⟨rfl, hb9⟩)
    exact hR.out _ _ ⟨rfl, (E.out.up hb9).ext⟩
  by_cases c2 : 4611686018427387903 < n
  case pos =>
    replace ry := hid ry
    go_wp2_with (go_at_call 7; refine (top_knows22 _).mono ?_; rintro e w9 ⟨rfl, hb9⟩)
    exact hR.out _ _ ⟨rfl, (E.out.up hb9).ext⟩
  have hnB : Hid (numB n = true) := hid (numB_iff.2 ⟨by omega, by omega⟩)
  go_wp2_with fail
  refine (binary_Is p hp _).mono ?_
  rintro e w2 ⟨rfl, hb⟩
  replace E := hid (E.out.up hb)
  clear hb
  by_cases c3 : 1 ≤ p ∧ p ≤ 16
  case neg =>
    rw [decide_eq_false c3]
    replace ry := hid ry
    replace c3 := hid c3
    go_wp2_with (go_at_call 7; refine (top_knows22 _).mono ?_; rintro e w9 ⟨rfl, hb9⟩)
    exact hR.out _ _ ⟨rfl, (E.out.up hb9).ext⟩
  rw [decide_eq_true c3]
  obtain ⟨F, hF⟩ := funP c3.1 c3.2
  have hsY := (right_ok ry).2.1
  obtain ⟨s, hs⟩ : ∃ s, s = y.shape := ⟨_, rfl⟩
  obtain ⟨N, hN⟩ : ∃ N : Nat, cnt y.shape = (N : Int) := ⟨(cnt y.shape).toNat, by have := cnt_le hsY; omega⟩
  obtain ⟨vx, hvx⟩ : ∃ a, a = vecA y.shape := ⟨_, rfl⟩
  obtain ⟨nx, hnx⟩ : ∃ a, a = scaA n := ⟨_, rfl⟩
  obtain ⟨xa, hxa⟩ : ∃ a, a = Arr.mk 1 y.shape (List.replicate N n) [] := ⟨_, rfl⟩
  have rvx : Hid (rightS vx = 0) := hid (by rw [hvx]; exact vecA_right hsY)
  have rnx : Hid (rightS nx = 0) := hid (by rw [hnx]; exact scaA_right hnB.out)
  have rxa : Hid (rightS xa = 0) := hid (by rw [hxa]; exact rep_right hsY hnB.out hN)
  have kxa : Hid (xa.kind = 1) := hid (by rw [hxa]; rfl)
  have knx : Hid (nx.kind = 1) := hid (by rw [hnx]; rfl)
  have sxa : Hid (xa.shape = [] ∨ xa.shape = y.shape) := hid (by rw [hxa]; exact Or.inr rfl)
  have snx : Hid (nx.shape = [] ∨ nx.shape = y.shape) := hid (by rw [hnx]; exact Or.inl rfl)
  have exa : Hid (∀ j, j < xa.nums.length → xa.nums.getD j 0 = n) := hid (by
    rw [hxa]
    intro j hj
    have hj : j < (List.replicate N n).length := hj
    show (List.replicate N n).getD j 0 = n
    rw [List.getD_eq_getElem?_getD, List.getElem?_eq_getElem hj, List.getElem_replicate]; rfl)
  have enx : Hid (∀ j, j < nx.nums.length → nx.nums.getD j 0 = n) := hid (by
    rw [hnx]
    intro j hj
    have hj : j < 1 := hj
    have : j = 0 := by omega
    subst this; rfl)
  have lnx : Hid (nx.shape.length = 0) := hid (by rw [hnx]; rfl)
  obtain ⟨ra, hra⟩ : ∃ a, a = appS (appF F p y.kind) n y p := ⟨_, rfl⟩
  obtain ⟨ea, hea⟩ : ∃ a, appE (appF F p y.kind) n y p = a := ⟨_, rfl⟩
  have hry := hid ry
  have hp1 := c3.1
  have hp2 := c3.2
  replace hF := hid hF
  replace hs := hid hs
  replace hN := hid hN
  replace hvx := hid hvx
  replace hnx := hid hnx
  replace hxa := hid hxa
  replace hra := hid hra
  replace hea := hid hea
  replace hsY := hid hsY
  clear ry c3
  obtain ⟨q00, q01, q02, q03⟩ := (E.out.hdr 0 rfl).all
  go_wp2_with fail
  clear q00 q01 q02 q03
  refine (top_vectorC y.shape _ _ _ _ (E.out.arr 1 rfl).shape hcy.out).mono ?_
  intro e w3 h
  obtain ⟨s101, c101, n101, m101, i101, j101, rfl, hA, hb, hC101⟩ := h.eq hvx.out
  replace E := hid ((E.out.up hb).addArr hA (fun b _ hq => E.out.res (Ext.refl _) hq))
  replace hC101 := hid hC101
  clear hA hb h
  (try simp only [List.cons_append, List.nil_append, List.set_cons_zero, List.set_cons_succ] at E)
  go_wp2_with fail
  refine (top_number n (fun _ => False) _).mono ?_
  intro e w4 h
  obtain ⟨s102, c102, n102, m102, rfl, hA, hb, hC102⟩ := h.eq hnx.out
  replace E := hid ((E.out.up hb).addArr hA (fun b _ hq => hq.elim (fun q => q.elim) (fun q => E.out.fresh (Ext.refl _) q)))
  clear hA hb h hC102
  (try simp only [List.cons_append, List.nil_append, List.set_cons_zero, List.set_cons_succ] at E)
  go_wp2_with fail
  refine (reshaping_ReshapeC y.shape n N vx _ _ _ _ _ _ nx _ _ _ _ none 0 _ _ (E.out.arr 2 rfl) (E.out.arr 3 rfl) hvx.out hnx.out rvx.out rnx.out hsY.out hN.out).mono ?_
  intro e w5 h
  obtain ⟨s111, c111, n111, m111, i111, j111, rfl, hA, hb, hC111⟩ := h.eq hxa.out rfl
  replace E := hid ((E.out.up hb).addArr hA (fun b _ hq => E.out.fresh (Ext.refl _) hq))
  replace hC111 := hid hC111
  clear hA hb h
  (try simp only [List.cons_append, List.nil_append, List.set_cons_zero, List.set_cons_succ] at E)
  go_upto_region 4 with (refine wpl_store4 rfl (.tmp 7) (.tmp 38) rfl _ rfl rfl ((E.out.alloc _).hdr 5 rfl) ?_; intro V5 HV CV; replace E := hid ((E.out.alloc _).chg 5 rfl CV HV); clear CV HV; (try simp only [List.cons_append, List.nil_append, List.set_cons_zero, List.set_cons_succ] at E))
  generalize w5.heap.size = p1 at E ⊢
  obtain ⟨T, hT1, hT2, hT3⟩ := E.out.tw
  refine wp_region_edge 8 10 (by kernel_rfl) (by kernel_rfl) (fun o _ v c a w h => by cases hd : o.dst <;> (rw [hd] at h; exact h)) _ rfl 10 (Sees V5 [(⟨w.heap.size, 0, none⟩, .int .i64 y.kind), (⟨w.heap.size, 1, none⟩, .slice sy y.shape.length cy), (⟨w.heap.size, 2, none⟩, .slice ny y.nums.length my), (⟨w.heap.size, 3, none⟩, .slice iy y.items.length jy)]) [3, 5, 9] (fun k v u u' => match k with | 3 => RetI u T (nx) (.returned v) u' | 5 => RetAE u (fun b => u.heap.size ≤ b) (ra) (ea) (.returned v) u' | 9 => v = .pointer (some ⟨u.heap.size, 0, none⟩) ∧ u' = u.alloc (.cells #[.int .i64 0, .slice none 0 0, .slice none 0 0, .slice none 0 0] 26) | _ => False) (fun _ _ h e => h.up e) (Sees.start (all_cons ((E.out.hdr 0 rfl).c0) (all_cons ((E.out.hdr 0 rfl).c1) (all_cons ((E.out.hdr 0 rfl).c2) (all_cons ((E.out.hdr 0 rfl).c3) (all_nil)))))) (by kernel_rfl) ?_
  simp only [withEdge, List.modify_succ_cons, List.modify_zero_cons, List.push_toArray, List.cons_append, List.nil_append]
  simp only [List.take_succ_cons, List.take_zero, List.drop_succ_cons, List.drop_zero]
  repeat (first | (refine m_plain (v := ?_) (by rfl) (by rfl) ?_ ?_; rotate_left; (intro wz hSw; obtain ⟨-, hSc⟩ := hSw; (try simp only [List.forall_mem_cons, List.forall_mem_nil, and_true] at hSc); go_simp; (first | done | with_reducible rfl)); (intro K hK; (try simp only [Act.put, List.setIfInBounds_toArray, List.set_cons_zero, List.set_cons_succ]); refine hK _ _ ?_; clear hK K)) | (refine m_skip (by rfl) (by rfl) ?_; (intro K hK; (try simp only [Act.put, List.setIfInBounds_toArray, List.set_cons_zero, List.set_cons_succ]); refine hK _ _ ?_; clear hK K)))
  refine m_make (by rfl) (by rfl) ?_ ?_
  · intro wz hSw hdep R hRz
    obtain ⟨hSe, hSc⟩ := hSw
    (try simp only [List.forall_mem_cons, List.forall_mem_nil, and_true] at hSc)
    unfold does
    (go_simp; refine Calls.mono (top_number n T wz) ?_; intro e wq h; obtain ⟨v, rfl, h1⟩ := retI_arm hT2 hSe (h.eq hnx.out); exact ⟨_, rfl, hRz.out _ _ h1⟩)
  intro v3 u3 x3 hG3 K hK
  have hF3 := hG3.fact
  (try dsimp only at hF3)
  obtain ⟨s3, c3, n3, m3, he, hA3, hb3, hC3⟩ := hF3
  injection he with he
  subst he
  replace hC3 := hid hC3
  (try simp only [Act.put, List.setIfInBounds_toArray, List.set_cons_zero, List.set_cons_succ]); refine hK _ _ ?_; clear hK K
  repeat (first | (refine m_plain (v := ?_) (by rfl) (by rfl) ?_ ?_; rotate_left; (intro wz hSw; obtain ⟨-, hSc⟩ := hSw; (try simp only [List.forall_mem_cons, List.forall_mem_nil, and_true] at hSc); go_simp; (first | done | with_reducible rfl)); (intro K hK; (try simp only [Act.put, List.setIfInBounds_toArray, List.set_cons_zero, List.set_cons_succ]); refine hK _ _ ?_; clear hK K)) | (refine m_skip (by rfl) (by rfl) ?_; (intro K hK; (try simp only [Act.put, List.setIfInBounds_toArray, List.set_cons_zero, List.set_cons_succ]); refine hK _ _ ?_; clear hK K)))
  refine m_make (by rfl) (by rfl) ?_ ?_
  · intro wz hSw hdep R hRz
    obtain ⟨hSe, hSc⟩ := hSw
    (try simp only [List.forall_mem_cons, List.forall_mem_nil, and_true] at hSc)
    unfold does
    (go_simp; refine Calls.mono (binary_Apply p hp1 hp2 F hF.out n hnB.out nx _ _ _ _ none 0 y _ _ _ _ _ _ _ wz (hA3.up (hdep 3 _ rfl (depB_sound (f := 4) (by kernel_rfl)))) (ArrAt.up (ArrAt.mono (fun b _ h => hT1 b h) _ (E.out.arr 1 rfl)) hSe) rnx.out hry.out knx.out snx.out enx.out (by rw [lnx.out]; exact Nat.zero_le _) hcy.out) ?_; intro e wq h; obtain ⟨ta, tc, tn, tnc, ti, tic, rfl, hq, hqb⟩ := (h.eq hra.out hea.out); exact ⟨_, rfl, hRz.out _ _ ⟨hqb, ta, tc, tn, tnc, ti, tic, rfl, hq, hqb⟩⟩)
  intro v5 u5 x5 hG5 K hK
  have hF5 := hG5.fact
  (try dsimp only at hF5)
  obtain ⟨s5, c5, n5, m5, i5, j5, he, hA5, hb5⟩ := hF5
  injection he with he
  subst he
  (try simp only [Act.put, List.setIfInBounds_toArray, List.set_cons_zero, List.set_cons_succ]); refine hK _ _ ?_; clear hK K
  repeat (first | (refine m_plain (v := ?_) (by rfl) (by rfl) ?_ ?_; rotate_left; (intro wz hSw; obtain ⟨-, hSc⟩ := hSw; (try simp only [List.forall_mem_cons, List.forall_mem_nil, and_true] at hSc); go_simp; (first | done | with_reducible rfl)); (intro K hK; (try simp only [Act.put, List.setIfInBounds_toArray, List.set_cons_zero, List.set_cons_succ]); refine hK _ _ ?_; clear hK K)) | (refine m_skip (by rfl) (by rfl) ?_; (intro K hK; (try simp only [Act.put, List.setIfInBounds_toArray, List.set_cons_zero, List.set_cons_succ]); refine hK _ _ ?_; clear hK K)))
  refine m_make (by rfl) (by rfl) ?_ ?_
  · intro wz hSw hdep R hRz
    obtain ⟨hSe, hSc⟩ := hSw
    (try simp only [List.forall_mem_cons, List.forall_mem_nil, and_true] at hSc)
    unfold does
    (go_simp; exact hRz.out _ _ ⟨ext_alloc _ _, rfl, rfl⟩)
  intro v9 u9 x9 hG9 K hK
  have hF9 := hG9.fact
  (try dsimp only at hF9)
  obtain ⟨rfl, rfl⟩ := hF9
  (try simp only [Act.put, List.setIfInBounds_toArray, List.set_cons_zero, List.set_cons_succ]); refine hK _ _ ?_; clear hK K
  repeat (first | (refine m_plain (v := ?_) (by rfl) (by rfl) ?_ ?_; rotate_left; (intro wz hSw; obtain ⟨-, hSc⟩ := hSw; (try simp only [List.forall_mem_cons, List.forall_mem_nil, and_true] at hSc); go_simp; (first | done | with_reducible rfl)); (intro K hK; (try simp only [Act.put, List.setIfInBounds_toArray, List.set_cons_zero, List.set_cons_succ]); refine hK _ _ ?_; clear hK K)) | (refine m_skip (by rfl) (by rfl) ?_; (intro K hK; (try simp only [Act.put, List.setIfInBounds_toArray, List.set_cons_zero, List.set_cons_succ]); refine hK _ _ ?_; clear hK K)))
  refine m_nil ?_
  intro wf hSf hAf
  replace E := hid (E.out.varO hA5 (hAf 5 _ rfl) (hG9.order 5 _ rfl) hG5.s.1 hG9.s.1 (hAf 9 _ rfl) hSf.1)
  refine wpl_store4 (by rfl) (.tmp 9) (.tmp 47) (by rfl) _ (by rfl) (by rfl) (E.out.hdr 6 rfl) ?_
  intro V6 HV CV
  replace E := hid (E.out.chg 6 rfl CV HV)
  clear CV HV hSf hAf
  (try simp only [List.cons_append, List.nil_append, List.set_cons_zero, List.set_cons_succ] at E)
  clear hG3 hG5 hG9 hA3 hA5 hb3 hb5 hT1 hT2 hT3 hC3
  generalize u9.heap.size = p2 at E ⊢
  obtain ⟨s112, hq⟩ : ∃ s, s = s5 := ⟨_, rfl⟩
  subst hq
  obtain ⟨c112, hq⟩ : ∃ s, s = c5 := ⟨_, rfl⟩
  subst hq
  obtain ⟨n112, hq⟩ : ∃ s, s = n5 := ⟨_, rfl⟩
  subst hq
  obtain ⟨m112, hq⟩ : ∃ s, s = m5 := ⟨_, rfl⟩
  subst hq
  obtain ⟨i112, hq⟩ : ∃ s, s = i5 := ⟨_, rfl⟩
  subst hq
  obtain ⟨j112, hq⟩ : ∃ s, s = j5 := ⟨_, rfl⟩
  subst hq
  obtain ⟨q00, q01, q02, q03⟩ := (E.out.hdr 0 rfl).all
  obtain ⟨q50, q51, q52, q53⟩ := (E.out.hdr 5 rfl).all
  go_wp2_with fail
  clear q00 q01 q02 q03 q50 q51 q52 q53
  refine (binary_Apply p hp1 hp2 F hF.out n hnB.out xa _ _ _ _ _ _ y _ _ _ _ _ _ _ _ (E.out.arr 4 rfl) (E.out.arr 1 rfl) rxa.out hry.out kxa.out sxa.out exa.out hC111.out.1 hcy.out).mono ?_
  intro e w7 h
  obtain ⟨s113, c113, n113, m113, i113, j113, rfl, hA, hb⟩ := h.eq hra.out hea.out
  replace E := hid ((E.out.up hb).addArr hA (fun b _ hq => E.out.fresh (Ext.refl _) hq))
  clear hA hb h
  (try simp only [List.cons_append, List.nil_append, List.set_cons_zero, List.set_cons_succ] at E)
  go_upto_region 6 with (refine wpl_store4 rfl (.tmp 11) (.tmp 55) rfl _ rfl rfl ((E.out.alloc _).hdr 9 rfl) ?_; intro V7 HV CV; replace E := hid ((E.out.alloc _).chg 9 rfl CV HV); clear CV HV; (try simp only [List.cons_append, List.nil_append, List.set_cons_zero, List.set_cons_succ] at E))
  generalize w7.heap.size = p3 at E ⊢
  have cb : (ea == ea) = true := by simp
  obtain ⟨q60, q61, q62, q63⟩ := (E.out.hdr 6 rfl).all
  obtain ⟨q90, q91, q92, q93⟩ := (E.out.hdr 9 rfl).all
  go_wp2_with fail
  clear q60 q61 q62 q63 q90 q91 q92 q93
  refine (array_Same ra ra _ _ _ _ _ _ _ _ _ _ _ _ _ _ _ (E.out.arr 7 rfl) (E.out.arr 8 rfl)).mono ?_
  rintro e w8 ⟨rfl, hb⟩
  replace E := hid (E.out.up hb)
  clear hb
  rw [show sameB ra ra = true from sameB_self _]
  go_wp2_with (go_at_call 7; refine (top_knows22 _).mono ?_; rintro e w9 ⟨rfl, hb9⟩)
  exact hR.out _ _ ⟨rfl, (E.out.up hb9).ext⟩
theorem top_TopExtendsI (a n : Int) (hw : (Lit.int .u8 a).wf = true) (y : Arr) (sy : Option Addr) (cy : Nat) (ny : Option Addr) (my : Nat) (iy : Option Addr) (jy : Nat) (S : Nat → Prop) (w : World) (h : ArrAt w S y sy ny iy) (hcy : y.shape.length ≤ cy) :
    Calls Try.prog 4 #[.int .u8 a, .int .i64 n, .agg #[.int .i64 y.kind, .slice sy y.shape.length cy, .slice ny y.nums.length my, .slice iy y.items.length jy]] w fun e w' => e = .returned (.bool true) ∧ Below w.heap.size w w' := by
  have hb : 0 ≤ a ∧ a ≤ 255 := by
    simp [Lit.wf, IntKind.min, IntKind.max, IntKind.bits, IntKind.signed] at hw
    omega
  obtain ⟨q, rfl⟩ : ∃ q : Nat, a = (q : Int) := ⟨a.toNat, by omega⟩
  exact top_TopExtends q (by omega) n y _ _ _ _ _ _ S w h hcy
end Go.Proofs.Ytolnbmmkpmajdaa
