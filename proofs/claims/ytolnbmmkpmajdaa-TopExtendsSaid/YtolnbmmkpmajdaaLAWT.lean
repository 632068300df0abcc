/- The theorem TopParts and its example: true. Conditions: the array is read; a slice's capacity is at least its length. -/
import Derived.Test.YtolnbmmkpmajdaaTAK2
import Derived.Test.YtolnbmmkpmajdaaJ20A
import Derived.Test.YtolnbmmkpmajdaaP22T
import Derived.Test.YtolnbmmkpmajdaaSLEQ
set_option linter.unusedVariables false
set_option maxRecDepth 20000
set_option linter.unusedSimpArgs false
namespace Go.Proofs.Ytolnbmmkpmajdaa
open Go.RowKit Go.Sort
attribute [local go_sem ↓] run_max2 run_min2
attribute [local go_sem] eql_ints_nil eql_arrs_nil
theorem top_numberC (n : Int) (S : Nat → Prop) (w : World) : Calls Try.prog 9 #[.int .i64 n] w (RetAC w (fun b => S b ∨ w.heap.size ≤ b) (scaA n)) := (top_number n S w).mono fun _ _ h => h.to rfl
theorem top_vectorC (l : List Int) (lo : Option Addr) (lc : Nat) (S : Nat → Prop) (w : World) (h : IntsAt w S lo l) (hl : l.length ≤ lc) : Calls Try.prog 15 #[.slice lo l.length lc] w (RetAC w (fun b => S b ∨ w.heap.size ≤ b) (vecA l)) := (top_vector l lo lc S w h hl).mono fun _ _ h => h.to rfl
set_option maxRecDepth 100000 in
set_option maxHeartbeats 8000000 in
theorem top_knows22 (w : World) : Calls Try.prog 7 #[] w fun e w' => e = .returned (.bool true) ∧ Ext w w' := by
  refine calls_post fun R' hR => ?_
  obtain ⟨a1, ha1⟩ : ∃ a, a = scaA 1 := ⟨_, rfl⟩
  obtain ⟨a3, ha3⟩ : ∃ a, a = vecA [1, 2, 3] := ⟨_, rfl⟩
  obtain ⟨a2, ha2⟩ : ∃ a, a = vecA [2, 3] := ⟨_, rfl⟩
  obtain ⟨a4, ha4⟩ : ∃ a, a = vecA [1] := ⟨_, rfl⟩
  obtain ⟨ar, har⟩ : ∃ a, a = vecA [2, 3, 1] := ⟨_, rfl⟩
  obtain ⟨ra, hra⟩ : ∃ a, a = rotS a1 a3 := ⟨_, rfl⟩
  obtain ⟨rj, hrj⟩ : ∃ a, a = joinS false a2 a4 := ⟨_, rfl⟩
  have z1 : rotE a1 a3 = 0 := by rw [ha1, ha3]; kernel_rfl
  have z2 : joinE false a2 a4 = 0 := by rw [ha2, ha4]; kernel_rfl
  have y1 : ra = ar := by rw [hra, ha1, ha3, har]; kernel_rfl
  have y2 : rj = ar := by rw [hrj, ha2, ha4, har]; kernel_rfl
  have hu1 : Hid (sameB ra rj = true) := hid (by rw [y1, y2]; exact sameB_self _)
  have hu2 : Hid (sameB ra ar = true) := hid (by rw [y1]; exact sameB_self _)
  clear y1 y2
  replace ha1 := hid ha1
  replace ha2 := hid ha2
  replace ha3 := hid ha3
  replace ha4 := hid ha4
  replace har := hid har
  replace hra := hid hra
  replace hrj := hid hrj
  replace z1 := hid z1
  replace z2 := hid z2
  have E := hid (Env.start w (fun _ => False))
  go_enter Try.func7, Try.ntmps7
  go_wp2_with fail
  refine (top_numberC 1 (fun _ => False) _).mono ?_
  intro e w1 h
  obtain ⟨s101, c101, n101, m101, i101, j101, rfl, hA, hb, hC101⟩ := h.eq ha1.out
  replace E := hid ((E.out.up hb).addArr hA (fun b _ hq => hq.elim (fun q => q.elim) (fun q => E.out.fresh (Ext.refl _) q)))
  clear hA hb h
  (try simp only [List.cons_append, List.nil_append, List.set_cons_zero, List.set_cons_succ] at E)
  go_wp2_with fail
  replace E := hid (E.out.lit [1, 2, 3] (by decide))
  (try simp only [List.cons_append, List.nil_append, List.set_cons_zero, List.set_cons_succ] at E)
  generalize w1.heap.size = g1 at E ⊢
  refine (top_vectorC [1, 2, 3] _ _ _ _ (E.out.ints 1 rfl) (by decide)).mono ?_
  intro e w2 h
  obtain ⟨s102, c102, n102, m102, i102, j102, rfl, hA, hb, hC102⟩ := h.eq ha3.out
  replace E := hid ((E.out.up hb).addArr hA (fun b _ hq => E.out.res (Ext.refl _) hq))
  replace hC102 := hid hC102
  clear hA hb h
  (try simp only [List.cons_append, List.nil_append, List.set_cons_zero, List.set_cons_succ] at E)
  go_wp2_with fail
  refine (rotating_Rotate a1 _ _ _ _ _ _ a3 _ _ _ _ _ _ _ _ _ (E.out.arr 0 rfl) (E.out.arr 2 rfl)).mono ?_
  intro e w3 h
  obtain ⟨s111, c111, n111, m111, i111, j111, rfl, hA, hb⟩ := h.eq hra.out z1.out
  replace E := hid ((E.out.up hb).addArr hA (fun b _ hq => E.out.fresh (Ext.refl _) hq))
  clear hA hb h
  (try simp only [List.cons_append, List.nil_append, List.set_cons_zero, List.set_cons_succ] at E)
  go_upto_region 2 with (refine wpl_store4 rfl (.tmp 1) (.tmp 10) rfl _ rfl rfl ((E.out.alloc _).hdr 4 rfl) ?_; intro V1 HV CV; replace E := hid ((E.out.alloc _).chg 4 rfl CV HV); clear CV HV; (try simp only [List.cons_append, List.nil_append, List.set_cons_zero, List.set_cons_succ] at E))
  generalize w3.heap.size = p1 at E ⊢
  go_wp2_with fail
  replace E := hid (E.out.lit [2, 3] (by decide))
  (try simp only [List.cons_append, List.nil_append, List.set_cons_zero, List.set_cons_succ] at E)
  generalize V1.heap.size = g2 at E ⊢
  refine (top_vectorC [2, 3] _ _ _ _ (E.out.ints 5 rfl) (by decide)).mono ?_
  intro e w4 h
  obtain ⟨s103, c103, n103, m103, i103, j103, rfl, hA, hb, hC103⟩ := h.eq ha2.out
  replace E := hid ((E.out.up hb).addArr hA (fun b _ hq => E.out.res (Ext.refl _) hq))
  replace hC103 := hid hC103
  clear hA hb h
  (try simp only [List.cons_append, List.nil_append, List.set_cons_zero, List.set_cons_succ] at E)
  go_wp2_with fail
  replace E := hid (E.out.lit [1] (by decide))
  (try simp only [List.cons_append, List.nil_append, List.set_cons_zero, List.set_cons_succ] at E)
  generalize w4.heap.size = g3 at E ⊢
  refine (top_vectorC [1] _ _ _ _ (E.out.ints 7 rfl) (by decide)).mono ?_
  intro e w5 h
  obtain ⟨s104, c104, n104, m104, i104, j104, rfl, hA, hb, hC104⟩ := h.eq ha4.out
  replace E := hid ((E.out.up hb).addArr hA (fun b _ hq => E.out.res (Ext.refl _) hq))
  replace hC104 := hid hC104
  clear hA hb h
  (try simp only [List.cons_append, List.nil_append, List.set_cons_zero, List.set_cons_succ] at E)
  go_wp2_with fail
  refine (joining_First a2 _ _ _ _ _ _ a4 _ _ _ _ _ _ _ _ (E.out.arr 6 rfl) (E.out.arr 8 rfl) hC103.out hC104.out).mono ?_
  intro e w6 h
  obtain ⟨s112, c112, n112, m112, i112, j112, rfl, hA, hb, hC112⟩ := h.eq hrj.out z2.out
  replace E := hid ((E.out.up hb).addArr hA (fun b _ hq => E.out.res (Ext.refl _) hq))
  replace hC112 := hid hC112
  clear hA hb h
  (try simp only [List.cons_append, List.nil_append, List.set_cons_zero, List.set_cons_succ] at E)
  go_upto_region 3 with (refine wpl_store4 rfl (.tmp 3) (.tmp 18) rfl _ rfl rfl ((E.out.alloc _).hdr 10 rfl) ?_; intro V2 HV CV; replace E := hid ((E.out.alloc _).chg 10 rfl CV HV); clear CV HV; (try simp only [List.cons_append, List.nil_append, List.set_cons_zero, List.set_cons_succ] at E))
  generalize w6.heap.size = p2 at E ⊢
  obtain ⟨T, hT1, hT2, hT3⟩ := E.out.tw
  refine wp_region_mono (Sees V2 [(⟨p1, 0, none⟩, .int .i64 ra.kind), (⟨p1, 1, none⟩, .slice s111 ra.shape.length c111), (⟨p1, 2, none⟩, .slice n111 ra.nums.length m111), (⟨p1, 3, none⟩, .slice i111 ra.items.length j111), (⟨p2, 0, none⟩, .int .i64 rj.kind), (⟨p2, 1, none⟩, .slice s112 rj.shape.length c112), (⟨p2, 2, none⟩, .slice n112 rj.nums.length m112), (⟨p2, 3, none⟩, .slice i112 rj.items.length j112)]) [7, 11, 12, 13] (fun k v u u' => match k with | 7 => v = .bool true | 11 => v = .slice (some ⟨u.heap.size, 0, none⟩) 3 3 ∧ u' = u.alloc (.cells (([2, 3, 1] : List Int).map (Value.int .i64)).toArray 3) | 12 => RetAC u T (ar) (.returned v) u' | 13 => v = .bool true | _ => False) (fun _ _ h e => h.up e) (Sees.start (all_cons ((E.out.hdr 4 rfl).c0) (all_cons ((E.out.hdr 4 rfl).c1) (all_cons ((E.out.hdr 4 rfl).c2) (all_cons ((E.out.hdr 4 rfl).c3) (all_cons ((E.out.hdr 10 rfl).c0) (all_cons ((E.out.hdr 10 rfl).c1) (all_cons ((E.out.hdr 10 rfl).c2) (all_cons ((E.out.hdr 10 rfl).c3) (all_nil)))))))))) (by kernel_rfl) (by kernel_rfl) ?_
  repeat (first | (refine m_plain (v := ?_) (by rfl) (by rfl) ?_ ?_; rotate_left; (intro wz hSw; obtain ⟨-, hSc⟩ := hSw; (try simp only [List.forall_mem_cons, List.forall_mem_nil, and_true] at hSc); go_simp; (first | done | with_reducible rfl)); (intro K hK; (try simp only [Act.put, List.setIfInBounds_toArray, List.set_cons_zero, List.set_cons_succ]); refine hK _ _ ?_; clear hK K)) | (refine m_skip (by rfl) (by rfl) ?_; (intro K hK; (try simp only [Act.put, List.setIfInBounds_toArray, List.set_cons_zero, List.set_cons_succ]); refine hK _ _ ?_; clear hK K)))
  refine m_make (by rfl) (by rfl) ?_ ?_
  · intro wz hSw hdep R hRz
    obtain ⟨hSe, hSc⟩ := hSw
    (try simp only [List.forall_mem_cons, List.forall_mem_nil, and_true] at hSc)
    unfold does
    (go_simp; refine Calls.mono (array_Same ra rj _ _ _ _ _ _ _ _ _ _ _ _ _ _ wz (ArrAt.up (ArrAt.mono (fun b _ h => hT1 b h) _ (E.out.arr 3 rfl)) hSe) (ArrAt.up (ArrAt.mono (fun b _ h => hT1 b h) _ (E.out.arr 9 rfl)) hSe)) ?_; rintro e wq ⟨rfl, hqb⟩; rw [hu1.out]; exact ⟨_, rfl, hRz.out _ _ ⟨hqb, rfl⟩⟩)
  intro v7 u7 x7 hG7 K hK
  have hF7 := hG7.fact
  (try dsimp only at hF7)
  subst hF7
  (try simp only [Act.put, List.setIfInBounds_toArray, List.set_cons_zero, List.set_cons_succ]); refine hK _ _ ?_; clear hK K
  repeat (first | (refine m_plain (v := ?_) (by rfl) (by rfl) ?_ ?_; rotate_left; (intro wz hSw; obtain ⟨-, hSc⟩ := hSw; (try simp only [List.forall_mem_cons, List.forall_mem_nil, and_true] at hSc); go_simp; (first | done | with_reducible rfl)); (intro K hK; (try simp only [Act.put, List.setIfInBounds_toArray, List.set_cons_zero, List.set_cons_succ]); refine hK _ _ ?_; clear hK K)) | (refine m_skip (by rfl) (by rfl) ?_; (intro K hK; (try simp only [Act.put, List.setIfInBounds_toArray, List.set_cons_zero, List.set_cons_succ]); refine hK _ _ ?_; clear hK K)))
  refine m_make (by rfl) (by rfl) ?_ ?_
  · intro wz hSw hdep R hRz
    obtain ⟨hSe, hSc⟩ := hSw
    (try simp only [List.forall_mem_cons, List.forall_mem_nil, and_true] at hSc)
    unfold does
    (go_simp; exact hRz.out _ _ ⟨ext_alloc _ _, rfl, rfl⟩)
  intro v11 u11 x11 hG11 K hK
  have hF11 := hG11.fact
  (try dsimp only at hF11)
  obtain ⟨rfl, rfl⟩ := hF11
  (try simp only [Act.put, List.setIfInBounds_toArray, List.set_cons_zero, List.set_cons_succ]); refine hK _ _ ?_; clear hK K
  repeat (first | (refine m_plain (v := ?_) (by rfl) (by rfl) ?_ ?_; rotate_left; (intro wz hSw; obtain ⟨-, hSc⟩ := hSw; (try simp only [List.forall_mem_cons, List.forall_mem_nil, and_true] at hSc); go_simp; (first | done | with_reducible rfl)); (intro K hK; (try simp only [Act.put, List.setIfInBounds_toArray, List.set_cons_zero, List.set_cons_succ]); refine hK _ _ ?_; clear hK K)) | (refine m_skip (by rfl) (by rfl) ?_; (intro K hK; (try simp only [Act.put, List.setIfInBounds_toArray, List.set_cons_zero, List.set_cons_succ]); refine hK _ _ ?_; clear hK K)))
  refine m_make (by rfl) (by rfl) ?_ ?_
  · intro wz hSw hdep R hRz
    obtain ⟨hSe, hSc⟩ := hSw
    (try simp only [List.forall_mem_cons, List.forall_mem_nil, and_true] at hSc)
    unfold does
    (go_simp; refine Calls.mono (top_vectorC [2, 3, 1] _ _ _ wz ((lit_at (hdep 11 _ rfl (depB_sound (f := 4) (by kernel_rfl))) (by first | decide | simp)).mono (fun b _ hb => hT2 b (Nat.le_trans (Below.size hG11.s.1) hb))) (by decide)) ?_; intro e wq h; obtain ⟨v, rfl, h1⟩ := retAC_arm hT2 hSe (h.eq har.out); exact ⟨_, rfl, hRz.out _ _ h1⟩)
  intro v12 u12 x12 hG12 K hK
  have hF12 := hG12.fact
  (try dsimp only at hF12)
  obtain ⟨s12, c12, n12, m12, i12, j12, he, hA12, hb12, hC12⟩ := hF12
  injection he with he
  subst he
  replace hC12 := hid hC12
  (try simp only [Act.put, List.setIfInBounds_toArray, List.set_cons_zero, List.set_cons_succ]); refine hK _ _ ?_; clear hK K
  repeat (first | (refine m_plain (v := ?_) (by rfl) (by rfl) ?_ ?_; rotate_left; (intro wz hSw; obtain ⟨-, hSc⟩ := hSw; (try simp only [List.forall_mem_cons, List.forall_mem_nil, and_true] at hSc); go_simp; (first | done | with_reducible rfl)); (intro K hK; (try simp only [Act.put, List.setIfInBounds_toArray, List.set_cons_zero, List.set_cons_succ]); refine hK _ _ ?_; clear hK K)) | (refine m_skip (by rfl) (by rfl) ?_; (intro K hK; (try simp only [Act.put, List.setIfInBounds_toArray, List.set_cons_zero, List.set_cons_succ]); refine hK _ _ ?_; clear hK K)))
  refine m_make (by rfl) (by rfl) ?_ ?_
  · intro wz hSw hdep R hRz
    obtain ⟨hSe, hSc⟩ := hSw
    (try simp only [List.forall_mem_cons, List.forall_mem_nil, and_true] at hSc)
    unfold does
    (go_simp; refine Calls.mono (array_Same ra ar _ _ _ _ _ _ _ _ _ _ _ _ _ _ wz (ArrAt.up (ArrAt.mono (fun b _ h => hT1 b h) _ (E.out.arr 3 rfl)) hSe) (hA12.up (hdep 12 _ rfl (depB_sound (f := 4) (by kernel_rfl))))) ?_; rintro e wq ⟨rfl, hqb⟩; rw [hu2.out]; exact ⟨_, rfl, hRz.out _ _ ⟨hqb, rfl⟩⟩)
  intro v13 u13 x13 hG13 K hK
  have hF13 := hG13.fact
  (try dsimp only at hF13)
  subst hF13
  (try simp only [Act.put, List.setIfInBounds_toArray, List.set_cons_zero, List.set_cons_succ]); refine hK _ _ ?_; clear hK K
  repeat (first | (refine m_plain (v := ?_) (by rfl) (by rfl) ?_ ?_; rotate_left; (intro wz hSw; obtain ⟨-, hSc⟩ := hSw; (try simp only [List.forall_mem_cons, List.forall_mem_nil, and_true] at hSc); go_simp; (first | done | with_reducible rfl)); (intro K hK; (try simp only [Act.put, List.setIfInBounds_toArray, List.set_cons_zero, List.set_cons_succ]); refine hK _ _ ?_; clear hK K)) | (refine m_skip (by rfl) (by rfl) ?_; (intro K hK; (try simp only [Act.put, List.setIfInBounds_toArray, List.set_cons_zero, List.set_cons_succ]); refine hK _ _ ?_; clear hK K)))
  refine m_nil ?_
  intro wf hSf hAf
  have ef := hid (E.out.up hSf.1).ext
  clear hSf hAf
  go_wp2_with fail
  exact hR.out _ _ ⟨rfl, ef.out⟩
set_option maxRecDepth 100000 in
set_option maxHeartbeats 8000000 in
theorem top_TopParts (n : Int) (y : Arr) (sy : Option Addr) (cy : Nat) (ny : Option Addr) (my : Nat) (iy : Option Addr) (jy : Nat) (S : Nat → Prop) (w : World) (h : ArrAt w S y sy ny iy) :
    Calls Try.prog 3 #[.int .i64 n, .agg #[.int .i64 y.kind, .slice sy y.shape.length cy, .slice ny y.nums.length my, .slice iy y.items.length jy]] w fun e w' => e = .returned (.bool true) ∧ Below w.heap.size w w' := by
  refine calls_post fun R' hR => ?_
  have h0 := hid h
  clear h
  go_enter Try.func3, Try.ntmps3
  go_upto_region 1 with (fail)
  generalize hEW : (w).alloc (.cells #[.int .i64 y.kind, .slice sy y.shape.length cy, .slice ny y.nums.length my, .slice iy y.items.length jy] 26) = W
  have E := hid (env1 w S hEW)
  clear hEW
  replace E := hid (E.out.arg h0.out)
  (try simp only [List.cons_append, List.nil_append, List.set_cons_zero, List.set_cons_succ] at E)
  obtain ⟨q00, q01, q02, q03⟩ := (E.out.hdr 0 rfl).all
  go_wp2_with fail
  clear q00 q01 q02 q03
  refine (top_few y _ _ _ _ _ _ 200 _ _ (E.out.arr 1 rfl)).mono ?_
  rintro e w1 ⟨b1, rfl, hfw, hb⟩
  replace E := hid (E.out.up hb)
  clear hb
  cases b1 with
  | false =>
    clear hfw
    go_wp2_with (go_at_call 7; refine (top_knows22 _).mono ?_; rintro e w9 ⟨rfl, hb9⟩)
    exact hR.out _ _ ⟨rfl, (E.out.up hb9).ext⟩
  | true =>
  obtain ⟨ry, _⟩ := hfw rfl
  clear hfw
  by_cases c0 : y.shape.length = 0
  case pos =>
    have cb0 : ((y.shape.length : Int) == 0) = true := by simpa using c0
    replace ry := hid ry
    replace c0 := hid c0
    obtain ⟨q00, q01, q02, q03⟩ := (E.out.hdr 0 rfl).all
    go_wp2_with (go_at_call 7; refine (top_knows22 _).mono ?_; rintro e w9 ⟨rfl, hb9⟩)
    exact hR.out _ _ ⟨rfl, (E.out.up hb9).ext⟩
  have cb0 : ((y.shape.length : Int) == 0) = false := by simpa using c0
  have hsY := (right_ok ry).2.1
  obtain ⟨t, ht⟩ : ∃ t, t = talM y := ⟨_, rfl⟩
  have htN : Hid (talN y = (t : Int)) := hid (by rw [ht]; exact (tal_nn hsY).symm)
  have ht6 : t ≤ 65536 := by
    have h1 := tal_cons hsY c0
    have := prodNZ_ge_mem (shapeB_iff.1 hsY).2.1 (d := (talM y : Int)) (by rw [h1]; exact List.mem_cons_self ..)
    have := (shapeB_iff.1 hsY).2.2
    omega
  have hry := hid ry
  have hr0 := hid c0
  replace ht := hid ht
  clear ry c0 hsY
  have hng : IntKind.i64.wrap (-(t : Int)) = -(t : Int) := IntWalk.i64_in _ (by omega)
  obtain ⟨q00, q01, q02, q03⟩ := (E.out.hdr 0 rfl).all
  go_wp2_with fail
  clear q00 q01 q02 q03
  refine (top_tally y _ _ _ _ _ _ _ _ (E.out.arr 1 rfl)).mono ?_
  rintro e w2 ⟨rfl, hb⟩
  replace E := hid (E.out.up hb)
  clear hb
  rw [htN.out]
  by_cases c1 : n < -(t : Int)
  case pos =>
    have hc1 := hid c1
    go_wp2_with (go_at_call 7; refine (top_knows22 _).mono ?_; rintro e w9 ⟨rfl, hb9⟩)
    exact hR.out _ _ ⟨rfl, (E.out.up hb9).ext⟩
  obtain ⟨q00, q01, q02, q03⟩ := (E.out.hdr 0 rfl).all
  go_wp2_with fail
  clear q00 q01 q02 q03
  refine (top_tally y _ _ _ _ _ _ _ _ (E.out.arr 1 rfl)).mono ?_
  rintro e w3 ⟨rfl, hb⟩
  replace E := hid (E.out.up hb)
  clear hb
  rw [htN.out]
  by_cases c2 : (t : Int) < n
  case pos =>
    go_wp2_with (go_at_call 7; refine (top_knows22 _).mono ?_; rintro e w9 ⟨rfl, hb9⟩)
    exact hR.out _ _ ⟨rfl, (E.out.up hb9).ext⟩
  obtain ⟨nx, hnx⟩ : ∃ a, a = scaA n := ⟨_, rfl⟩
  have hel : Hid (elemB 1 n = true) := hid (by show numB n = true; simp [numB]; omega)
  obtain ⟨kk, hkk⟩ : ∃ k : Nat, (k : Int) = if n < 0 then (t : Int) + n else n := ⟨(if n < 0 then (t : Int) + n else n).toNat, by split <;> omega⟩
  have hkt : kk ≤ t := by revert hkk; split <;> omega
  obtain ⟨fa, hfa⟩ : ∃ a, a = secA y 0 kk := ⟨_, rfl⟩
  obtain ⟨fb, hfb⟩ : ∃ a, a = secA y kk (t - kk) := ⟨_, rfl⟩
  have hJ := parts_join hry.out hr0.out (k := kk) (by rw [← ht.out]; exact hkt)
  rw [← ht.out, ← hfa, ← hfb] at hJ
  have hj1 : Hid (y = joinS false fa fb) := hid hJ.2.symm
  have hj2 := hid hJ.1
  clear hJ
  replace hnx := hid hnx
  replace hfa := hid hfa
  replace hfb := hid hfb
  go_upto_region 3 with fail
  by_cases cn : n < 0
  case pos =>
    have hkk2 : (kk : Int) = (t : Int) + n := by rw [if_pos cn] at hkk; exact hkk
    have hm1 : Hid (((t - kk : Nat) : Int) = if n < 0 then -n else n) := hid (by rw [if_pos cn]; omega)
    have ho1 : Hid (kk = if n < 0 then talM y - (t - kk) else 0) := hid (by rw [if_pos cn, ← ht.out]; omega)
    have hm2 : Hid ((kk : Int) = (talM y : Int) - (if n < 0 then -n else n)) := hid (by rw [if_pos cn, ← ht.out]; omega)
    have ho2 : Hid (((0 : Nat) : Int) = if 0 < n then n else 0) := hid (by rw [if_neg (by omega)]; rfl)
    have hbk : Hid (t - kk ≤ talM y) := hid (by rw [← ht.out]; omega)
    replace hkk := hid hkk
    replace hkk2 := hid hkk2
    obtain ⟨T, hT1, hT2, hT3⟩ := E.out.tw
    refine wp_region_edge 6 8 (by kernel_rfl) (by kernel_rfl) (fun o _ v c a w h => by cases hd : o.dst <;> (rw [hd] at h; exact h)) _ rfl 8 (Sees w3 [(⟨w.heap.size, 0, none⟩, .int .i64 y.kind), (⟨w.heap.size, 1, none⟩, .slice sy y.shape.length cy), (⟨w.heap.size, 2, none⟩, .slice ny y.nums.length my), (⟨w.heap.size, 3, none⟩, .slice iy y.items.length jy)]) [1, 3, 7] (fun k v u u' => match k with | 1 => RetI u T (nx) (.returned v) u' | 3 => RetAEC u (fun b => u.heap.size ≤ b) (fb) (0) (.returned v) u' | 7 => v = .pointer (some ⟨u.heap.size, 0, none⟩) ∧ u' = u.alloc (.cells #[.int .i64 0, .slice none 0 0, .slice none 0 0, .slice none 0 0] 26) | _ => False) (fun _ _ h e => h.up e) (Sees.start (all_cons ((E.out.hdr 0 rfl).c0) (all_cons ((E.out.hdr 0 rfl).c1) (all_cons ((E.out.hdr 0 rfl).c2) (all_cons ((E.out.hdr 0 rfl).c3) (all_nil)))))) (by kernel_rfl) ?_
    simp only [withEdge, List.modify_succ_cons, List.modify_zero_cons, List.push_toArray, List.cons_append, List.nil_append]
    simp only [List.take_succ_cons, List.take_zero, List.drop_succ_cons, List.drop_zero]
    repeat (first | (refine m_plain (v := ?_) (by rfl) (by rfl) ?_ ?_; rotate_left; (intro wz hSw; obtain ⟨-, hSc⟩ := hSw; (try simp only [List.forall_mem_cons, List.forall_mem_nil, and_true] at hSc); go_simp; (first | done | with_reducible rfl)); (intro K hK; (try simp only [Act.put, List.setIfInBounds_toArray, List.set_cons_zero, List.set_cons_succ]); refine hK _ _ ?_; clear hK K)) | (refine m_skip (by rfl) (by rfl) ?_; (intro K hK; (try simp only [Act.put, List.setIfInBounds_toArray, List.set_cons_zero, List.set_cons_succ]); refine hK _ _ ?_; clear hK K)))
    refine m_make (by rfl) (by rfl) ?_ ?_
    · intro wz hSw hdep R hRz
      obtain ⟨hSe, hSc⟩ := hSw
      (try simp only [List.forall_mem_cons, List.forall_mem_nil, and_true] at hSc)
      unfold does
      (go_simp; refine Calls.mono (top_number n T wz) ?_; intro e wq h; obtain ⟨v, rfl, h1⟩ := retI_arm hT2 hSe (h.eq hnx.out); exact ⟨_, rfl, hRz.out _ _ h1⟩)
    intro v1 u1 x1 hG1 K hK
    have hF1 := hG1.fact
    (try dsimp only at hF1)
    obtain ⟨s1, c1, n1, m1, he, hA1, hb1, hC1⟩ := hF1
    injection he with he
    subst he
    replace hC1 := hid hC1
    (try simp only [Act.put, List.setIfInBounds_toArray, List.set_cons_zero, List.set_cons_succ]); refine hK _ _ ?_; clear hK K
    repeat (first | (refine m_plain (v := ?_) (by rfl) (by rfl) ?_ ?_; rotate_left; (intro wz hSw; obtain ⟨-, hSc⟩ := hSw; (try simp only [List.forall_mem_cons, List.forall_mem_nil, and_true] at hSc); go_simp; (first | done | with_reducible rfl)); (intro K hK; (try simp only [Act.put, List.setIfInBounds_toArray, List.set_cons_zero, List.set_cons_succ]); refine hK _ _ ?_; clear hK K)) | (refine m_skip (by rfl) (by rfl) ?_; (intro K hK; (try simp only [Act.put, List.setIfInBounds_toArray, List.set_cons_zero, List.set_cons_succ]); refine hK _ _ ?_; clear hK K)))
    refine m_make (by rfl) (by rfl) ?_ ?_
    · intro wz hSw hdep R hRz
      obtain ⟨hSe, hSc⟩ := hSw
      (try simp only [List.forall_mem_cons, List.forall_mem_nil, and_true] at hSc)
      unfold does
      (go_simp; refine Calls.mono (taking_Take n kk (t - kk) nx _ _ _ _ none 0 y _ _ _ _ _ _ _ wz (hA1.up (hdep 1 _ rfl (depB_sound (f := 4) (by kernel_rfl)))) (ArrAt.up (ArrAt.mono (fun b _ h => hT1 b h) _ (E.out.arr 1 rfl)) hSe) hnx.out hel.out hry.out hr0.out hm1.out hbk.out ho1.out) ?_; intro e wq h; obtain ⟨ta, tc, tn, tnc, ti, tic, rfl, hq, hqb, hqc⟩ := (h.eq hfb.out rfl); exact ⟨_, rfl, hRz.out _ _ ⟨hqb, ta, tc, tn, tnc, ti, tic, rfl, hq, hqb, hqc⟩⟩)
    intro v3 u3 x3 hG3 K hK
    have hF3 := hG3.fact
    (try dsimp only at hF3)
    obtain ⟨s3, c3, n3, m3, i3, j3, he, hA3, hb3, hC3⟩ := hF3
    injection he with he
    subst he
    replace hC3 := hid hC3
    (try simp only [Act.put, List.setIfInBounds_toArray, List.set_cons_zero, List.set_cons_succ]); refine hK _ _ ?_; clear hK K
    repeat (first | (refine m_plain (v := ?_) (by rfl) (by rfl) ?_ ?_; rotate_left; (intro wz hSw; obtain ⟨-, hSc⟩ := hSw; (try simp only [List.forall_mem_cons, List.forall_mem_nil, and_true] at hSc); go_simp; (first | done | with_reducible rfl)); (intro K hK; (try simp only [Act.put, List.setIfInBounds_toArray, List.set_cons_zero, List.set_cons_succ]); refine hK _ _ ?_; clear hK K)) | (refine m_skip (by rfl) (by rfl) ?_; (intro K hK; (try simp only [Act.put, List.setIfInBounds_toArray, List.set_cons_zero, List.set_cons_succ]); refine hK _ _ ?_; clear hK K)))
    refine m_make (by rfl) (by rfl) ?_ ?_
    · intro wz hSw hdep R hRz
      obtain ⟨hSe, hSc⟩ := hSw
      (try simp only [List.forall_mem_cons, List.forall_mem_nil, and_true] at hSc)
      unfold does
      (go_simp; exact hRz.out _ _ ⟨ext_alloc _ _, rfl, rfl⟩)
    intro v7 u7 x7 hG7 K hK
    have hF7 := hG7.fact
    (try dsimp only at hF7)
    obtain ⟨rfl, rfl⟩ := hF7
    (try simp only [Act.put, List.setIfInBounds_toArray, List.set_cons_zero, List.set_cons_succ]); refine hK _ _ ?_; clear hK K
    repeat (first | (refine m_plain (v := ?_) (by rfl) (by rfl) ?_ ?_; rotate_left; (intro wz hSw; obtain ⟨-, hSc⟩ := hSw; (try simp only [List.forall_mem_cons, List.forall_mem_nil, and_true] at hSc); go_simp; (first | done | with_reducible rfl)); (intro K hK; (try simp only [Act.put, List.setIfInBounds_toArray, List.set_cons_zero, List.set_cons_succ]); refine hK _ _ ?_; clear hK K)) | (refine m_skip (by rfl) (by rfl) ?_; (intro K hK; (try simp only [Act.put, List.setIfInBounds_toArray, List.set_cons_zero, List.set_cons_succ]); refine hK _ _ ?_; clear hK K)))
    refine m_nil ?_
    intro wf hSf hAf
    replace E := hid (E.out.varO hA3 (hAf 3 _ rfl) (hG7.order 3 _ rfl) hG3.s.1 hG7.s.1 (hAf 7 _ rfl) hSf.1)
    refine wpl_store4 (by rfl) (.tmp 5) (.tmp 39) (by rfl) _ (by rfl) (by rfl) (E.out.hdr 2 rfl) ?_
    intro V3 HV CV
    replace E := hid (E.out.chg 2 rfl CV HV)
    clear CV HV hSf hAf
    (try simp only [List.cons_append, List.nil_append, List.set_cons_zero, List.set_cons_succ] at E)
    clear hG1 hG3 hG7 hA1 hA3 hb1 hb3 hT1 hT2 hT3 hC1
    generalize u7.heap.size = p1 at E ⊢
    obtain ⟨s111, hq⟩ : ∃ s, s = s3 := ⟨_, rfl⟩
    subst hq
    obtain ⟨c111, hq⟩ : ∃ s, s = c3 := ⟨_, rfl⟩
    subst hq
    obtain ⟨n111, hq⟩ : ∃ s, s = n3 := ⟨_, rfl⟩
    subst hq
    obtain ⟨m111, hq⟩ : ∃ s, s = m3 := ⟨_, rfl⟩
    subst hq
    obtain ⟨i111, hq⟩ : ∃ s, s = i3 := ⟨_, rfl⟩
    subst hq
    obtain ⟨j111, hq⟩ : ∃ s, s = j3 := ⟨_, rfl⟩
    subst hq
    have hC111 := hC3
    clear hC3
    go_upto_region 4 with fail
    obtain ⟨T, hT1, hT2, hT3⟩ := E.out.tw
    refine wp_region_edge 6 8 (by kernel_rfl) (by kernel_rfl) (fun o _ v c a w h => by cases hd : o.dst <;> (rw [hd] at h; exact h)) _ rfl 8 (Sees V3 [(⟨w.heap.size, 0, none⟩, .int .i64 y.kind), (⟨w.heap.size, 1, none⟩, .slice sy y.shape.length cy), (⟨w.heap.size, 2, none⟩, .slice ny y.nums.length my), (⟨w.heap.size, 3, none⟩, .slice iy y.items.length jy)]) [1, 3, 7] (fun k v u u' => match k with | 1 => RetI u T (nx) (.returned v) u' | 3 => RetAEC u (fun b => u.heap.size ≤ b) (fa) (0) (.returned v) u' | 7 => v = .pointer (some ⟨u.heap.size, 0, none⟩) ∧ u' = u.alloc (.cells #[.int .i64 0, .slice none 0 0, .slice none 0 0, .slice none 0 0] 26) | _ => False) (fun _ _ h e => h.up e) (Sees.start (all_cons ((E.out.hdr 0 rfl).c0) (all_cons ((E.out.hdr 0 rfl).c1) (all_cons ((E.out.hdr 0 rfl).c2) (all_cons ((E.out.hdr 0 rfl).c3) (all_nil)))))) (by kernel_rfl) ?_
    simp only [withEdge, List.modify_succ_cons, List.modify_zero_cons, List.push_toArray, List.cons_append, List.nil_append]
    simp only [List.take_succ_cons, List.take_zero, List.drop_succ_cons, List.drop_zero]
    repeat (first | (refine m_plain (v := ?_) (by rfl) (by rfl) ?_ ?_; rotate_left; (intro wz hSw; obtain ⟨-, hSc⟩ := hSw; (try simp only [List.forall_mem_cons, List.forall_mem_nil, and_true] at hSc); go_simp; (first | done | with_reducible rfl)); (intro K hK; (try simp only [Act.put, List.setIfInBounds_toArray, List.set_cons_zero, List.set_cons_succ]); refine hK _ _ ?_; clear hK K)) | (refine m_skip (by rfl) (by rfl) ?_; (intro K hK; (try simp only [Act.put, List.setIfInBounds_toArray, List.set_cons_zero, List.set_cons_succ]); refine hK _ _ ?_; clear hK K)))
    refine m_make (by rfl) (by rfl) ?_ ?_
    · intro wz hSw hdep R hRz
      obtain ⟨hSe, hSc⟩ := hSw
      (try simp only [List.forall_mem_cons, List.forall_mem_nil, and_true] at hSc)
      unfold does
      (go_simp; refine Calls.mono (top_number n T wz) ?_; intro e wq h; obtain ⟨v, rfl, h1⟩ := retI_arm hT2 hSe (h.eq hnx.out); exact ⟨_, rfl, hRz.out _ _ h1⟩)
    intro v1 u1 x1 hG1 K hK
    have hF1 := hG1.fact
    (try dsimp only at hF1)
    obtain ⟨s1, c1, n1, m1, he, hA1, hb1, hC1⟩ := hF1
    injection he with he
    subst he
    replace hC1 := hid hC1
    (try simp only [Act.put, List.setIfInBounds_toArray, List.set_cons_zero, List.set_cons_succ]); refine hK _ _ ?_; clear hK K
    repeat (first | (refine m_plain (v := ?_) (by rfl) (by rfl) ?_ ?_; rotate_left; (intro wz hSw; obtain ⟨-, hSc⟩ := hSw; (try simp only [List.forall_mem_cons, List.forall_mem_nil, and_true] at hSc); go_simp; (first | done | with_reducible rfl)); (intro K hK; (try simp only [Act.put, List.setIfInBounds_toArray, List.set_cons_zero, List.set_cons_succ]); refine hK _ _ ?_; clear hK K)) | (refine m_skip (by rfl) (by rfl) ?_; (intro K hK; (try simp only [Act.put, List.setIfInBounds_toArray, List.set_cons_zero, List.set_cons_succ]); refine hK _ _ ?_; clear hK K)))
    refine m_make (by rfl) (by rfl) ?_ ?_
    · intro wz hSw hdep R hRz
      obtain ⟨hSe, hSc⟩ := hSw
      (try simp only [List.forall_mem_cons, List.forall_mem_nil, and_true] at hSc)
      unfold does
      (go_simp; refine Calls.mono (taking_Drop n 0 kk nx _ _ _ _ none 0 y _ _ _ _ _ _ _ wz (hA1.up (hdep 1 _ rfl (depB_sound (f := 4) (by kernel_rfl)))) (ArrAt.up (ArrAt.mono (fun b _ h => hT1 b h) _ (E.out.arr 1 rfl)) hSe) hnx.out hel.out hry.out hr0.out hm2.out ho2.out) ?_; intro e wq h; obtain ⟨ta, tc, tn, tnc, ti, tic, rfl, hq, hqb, hqc⟩ := (h.eq hfa.out rfl); exact ⟨_, rfl, hRz.out _ _ ⟨hqb, ta, tc, tn, tnc, ti, tic, rfl, hq, hqb, hqc⟩⟩)
    intro v3 u3 x3 hG3 K hK
    have hF3 := hG3.fact
    (try dsimp only at hF3)
    obtain ⟨s3, c3, n3, m3, i3, j3, he, hA3, hb3, hC3⟩ := hF3
    injection he with he
    subst he
    replace hC3 := hid hC3
    (try simp only [Act.put, List.setIfInBounds_toArray, List.set_cons_zero, List.set_cons_succ]); refine hK _ _ ?_; clear hK K
    repeat (first | (refine m_plain (v := ?_) (by rfl) (by rfl) ?_ ?_; rotate_left; (intro wz hSw; obtain ⟨-, hSc⟩ := hSw; (try simp only [List.forall_mem_cons, List.forall_mem_nil, and_true] at hSc); go_simp; (first | done | with_reducible rfl)); (intro K hK; (try simp only [Act.put, List.setIfInBounds_toArray, List.set_cons_zero, List.set_cons_succ]); refine hK _ _ ?_; clear hK K)) | (refine m_skip (by rfl) (by rfl) ?_; (intro K hK; (try simp only [Act.put, List.setIfInBounds_toArray, List.set_cons_zero, List.set_cons_succ]); refine hK _ _ ?_; clear hK K)))
    refine m_make (by rfl) (by rfl) ?_ ?_
    · intro wz hSw hdep R hRz
      obtain ⟨hSe, hSc⟩ := hSw
      (try simp only [List.forall_mem_cons, List.forall_mem_nil, and_true] at hSc)
      unfold does
      (go_simp; exact hRz.out _ _ ⟨ext_alloc _ _, rfl, rfl⟩)
    intro v7 u7 x7 hG7 K hK
    have hF7 := hG7.fact
    (try dsimp only at hF7)
    obtain ⟨rfl, rfl⟩ := hF7
    (try simp only [Act.put, List.setIfInBounds_toArray, List.set_cons_zero, List.set_cons_succ]); refine hK _ _ ?_; clear hK K
    repeat (first | (refine m_plain (v := ?_) (by rfl) (by rfl) ?_ ?_; rotate_left; (intro wz hSw; obtain ⟨-, hSc⟩ := hSw; (try simp only [List.forall_mem_cons, List.forall_mem_nil, and_true] at hSc); go_simp; (first | done | with_reducible rfl)); (intro K hK; (try simp only [Act.put, List.setIfInBounds_toArray, List.set_cons_zero, List.set_cons_succ]); refine hK _ _ ?_; clear hK K)) | (refine m_skip (by rfl) (by rfl) ?_; (intro K hK; (try simp only [Act.put, List.setIfInBounds_toArray, List.set_cons_zero, List.set_cons_succ]); refine hK _ _ ?_; clear hK K)))
    refine m_nil ?_
    intro wf hSf hAf
    replace E := hid (E.out.varO hA3 (hAf 3 _ rfl) (hG7.order 3 _ rfl) hG3.s.1 hG7.s.1 (hAf 7 _ rfl) hSf.1)
    refine wpl_store4 (by rfl) (.tmp 7) (.tmp 46) (by rfl) _ (by rfl) (by rfl) (E.out.hdr 4 rfl) ?_
    intro V4 HV CV
    replace E := hid (E.out.chg 4 rfl CV HV)
    clear CV HV hSf hAf
    (try simp only [List.cons_append, List.nil_append, List.set_cons_zero, List.set_cons_succ] at E)
    clear hG1 hG3 hG7 hA1 hA3 hb1 hb3 hT1 hT2 hT3 hC1
    generalize u7.heap.size = p2 at E ⊢
    obtain ⟨s112, hq⟩ : ∃ s, s = s3 := ⟨_, rfl⟩
    subst hq
    obtain ⟨c112, hq⟩ : ∃ s, s = c3 := ⟨_, rfl⟩
    subst hq
    obtain ⟨n112, hq⟩ : ∃ s, s = n3 := ⟨_, rfl⟩
    subst hq
    obtain ⟨m112, hq⟩ : ∃ s, s = m3 := ⟨_, rfl⟩
    subst hq
    obtain ⟨i112, hq⟩ : ∃ s, s = i3 := ⟨_, rfl⟩
    subst hq
    obtain ⟨j112, hq⟩ : ∃ s, s = j3 := ⟨_, rfl⟩
    subst hq
    obtain ⟨q20, q21, q22, q23⟩ := (E.out.hdr 2 rfl).all
    obtain ⟨q40, q41, q42, q43⟩ := (E.out.hdr 4 rfl).all
    go_upto_region 9 with (first
      | (refine wpl_store4 rfl (.tmp 5) (.tmp 54) rfl _ rfl rfl (E.out.hdr 2 rfl) ?_; intro V5 HV CV; replace E := hid (E.out.chg 2 rfl CV HV); clear HV CV; (try simp only [List.cons_append, List.nil_append, List.set_cons_zero, List.set_cons_succ] at E))
      | (refine wpl_store4 rfl (.tmp 7) (.tmp 55) rfl _ rfl rfl (E.out.hdr 4 rfl) ?_; intro V6 HV CV; replace E := hid (E.out.chg 4 rfl CV HV); clear HV CV; (try simp only [List.cons_append, List.nil_append, List.set_cons_zero, List.set_cons_succ] at E)))
    clear q20 q21 q22 q23 q40 q41 q42 q43
    obtain ⟨q20, q21, q22, q23⟩ := (E.out.hdr 2 rfl).all
    obtain ⟨q40, q41, q42, q43⟩ := (E.out.hdr 4 rfl).all
    go_wp2_with fail
    clear q20 q21 q22 q23 q40 q41 q42 q43
    refine (joining_First fa _ _ _ _ _ _ fb _ _ _ _ _ _ _ _ (E.out.arr 5 rfl) (E.out.arr 3 rfl) hC3.out hC111.out).mono ?_
    intro e w7 h
    obtain ⟨s113, c113, n113, m113, i113, j113, rfl, hA, hb, hC113⟩ := h.eq hj1.out hj2.out
    replace E := hid ((E.out.up hb).addArr hA (fun b _ hq => E.out.res (Ext.refl _) hq))
    replace hC113 := hid hC113
    clear hA hb h
    (try simp only [List.cons_append, List.nil_append, List.set_cons_zero, List.set_cons_succ] at E)
    go_upto_region 10 with (refine wpl_store4 rfl (.tmp 9) (.tmp 60) rfl _ rfl rfl ((E.out.alloc _).hdr 7 rfl) ?_; intro V7 HV CV; replace E := hid ((E.out.alloc _).chg 7 rfl CV HV); clear CV HV; (try simp only [List.cons_append, List.nil_append, List.set_cons_zero, List.set_cons_succ] at E))
    generalize w7.heap.size = p3 at E ⊢
    obtain ⟨q00, q01, q02, q03⟩ := (E.out.hdr 0 rfl).all
    obtain ⟨q70, q71, q72, q73⟩ := (E.out.hdr 7 rfl).all
    go_wp2_with fail
    clear q00 q01 q02 q03 q70 q71 q72 q73
    refine (array_Same y y _ _ _ _ _ _ _ _ _ _ _ _ _ _ _ (E.out.arr 6 rfl) (E.out.arr 1 rfl)).mono ?_
    rintro e w8 ⟨rfl, hb⟩
    replace E := hid (E.out.up hb)
    clear hb
    rw [show sameB y y = true from sameB_self _]
    go_wp2_with (go_at_call 7; refine (top_knows22 _).mono ?_; rintro e w9 ⟨rfl, hb9⟩)
    exact hR.out _ _ ⟨rfl, (E.out.up hb9).ext⟩
  case neg =>
    have hkk2 : (kk : Int) = n := by rw [if_neg cn] at hkk; exact hkk
    have hm1 : Hid ((kk : Int) = if n < 0 then -n else n) := hid (by rw [if_neg cn]; omega)
    have ho1 : Hid (0 = if n < 0 then talM y - kk else 0) := hid (by rw [if_neg cn])
    have hm2 : Hid (((t - kk : Nat) : Int) = (talM y : Int) - (if n < 0 then -n else n)) := hid (by rw [if_neg cn, ← ht.out]; omega)
    have ho2 : Hid ((kk : Int) = if 0 < n then n else 0) := hid (by split <;> omega)
    have hbk : Hid (kk ≤ talM y) := hid (by rw [← ht.out]; omega)
    replace hkk := hid hkk
    replace hkk2 := hid hkk2
    obtain ⟨T, hT1, hT2, hT3⟩ := E.out.tw
    refine wp_region_edge 6 8 (by kernel_rfl) (by kernel_rfl) (fun o _ v c a w h => by cases hd : o.dst <;> (rw [hd] at h; exact h)) _ rfl 8 (Sees w3 [(⟨w.heap.size, 0, none⟩, .int .i64 y.kind), (⟨w.heap.size, 1, none⟩, .slice sy y.shape.length cy), (⟨w.heap.size, 2, none⟩, .slice ny y.nums.length my), (⟨w.heap.size, 3, none⟩, .slice iy y.items.length jy)]) [1, 3, 7] (fun k v u u' => match k with | 1 => RetI u T (nx) (.returned v) u' | 3 => RetAEC u (fun b => u.heap.size ≤ b) (fa) (0) (.returned v) u' | 7 => v = .pointer (some ⟨u.heap.size, 0, none⟩) ∧ u' = u.alloc (.cells #[.int .i64 0, .slice none 0 0, .slice none 0 0, .slice none 0 0] 26) | _ => False) (fun _ _ h e => h.up e) (Sees.start (all_cons ((E.out.hdr 0 rfl).c0) (all_cons ((E.out.hdr 0 rfl).c1) (all_cons ((E.out.hdr 0 rfl).c2) (all_cons ((E.out.hdr 0 rfl).c3) (all_nil)))))) (by kernel_rfl) ?_
    simp only [withEdge, List.modify_succ_cons, List.modify_zero_cons, List.push_toArray, List.cons_append, List.nil_append]
    simp only [List.take_succ_cons, List.take_zero, List.drop_succ_cons, List.drop_zero]
    repeat (first | (refine m_plain (v := ?_) (by rfl) (by rfl) ?_ ?_; rotate_left; (intro wz hSw; obtain ⟨-, hSc⟩ := hSw; (try simp only [List.forall_mem_cons, List.forall_mem_nil, and_true] at hSc); go_simp; (first | done | with_reducible rfl)); (intro K hK; (try simp only [Act.put, List.setIfInBounds_toArray, List.set_cons_zero, List.set_cons_succ]); refine hK _ _ ?_; clear hK K)) | (refine m_skip (by rfl) (by rfl) ?_; (intro K hK; (try simp only [Act.put, List.setIfInBounds_toArray, List.set_cons_zero, List.set_cons_succ]); refine hK _ _ ?_; clear hK K)))
    refine m_make (by rfl) (by rfl) ?_ ?_
    · intro wz hSw hdep R hRz
      obtain ⟨hSe, hSc⟩ := hSw
      (try simp only [List.forall_mem_cons, List.forall_mem_nil, and_true] at hSc)
      unfold does
      (go_simp; refine Calls.mono (top_number n T wz) ?_; intro e wq h; obtain ⟨v, rfl, h1⟩ := retI_arm hT2 hSe (h.eq hnx.out); exact ⟨_, rfl, hRz.out _ _ h1⟩)
    intro v1 u1 x1 hG1 K hK
    have hF1 := hG1.fact
    (try dsimp only at hF1)
    obtain ⟨s1, c1, n1, m1, he, hA1, hb1, hC1⟩ := hF1
    injection he with he
    subst he
    replace hC1 := hid hC1
    (try simp only [Act.put, List.setIfInBounds_toArray, List.set_cons_zero, List.set_cons_succ]); refine hK _ _ ?_; clear hK K
    repeat (first | (refine m_plain (v := ?_) (by rfl) (by rfl) ?_ ?_; rotate_left; (intro wz hSw; obtain ⟨-, hSc⟩ := hSw; (try simp only [List.forall_mem_cons, List.forall_mem_nil, and_true] at hSc); go_simp; (first | done | with_reducible rfl)); (intro K hK; (try simp only [Act.put, List.setIfInBounds_toArray, List.set_cons_zero, List.set_cons_succ]); refine hK _ _ ?_; clear hK K)) | (refine m_skip (by rfl) (by rfl) ?_; (intro K hK; (try simp only [Act.put, List.setIfInBounds_toArray, List.set_cons_zero, List.set_cons_succ]); refine hK _ _ ?_; clear hK K)))
    refine m_make (by rfl) (by rfl) ?_ ?_
    · intro wz hSw hdep R hRz
      obtain ⟨hSe, hSc⟩ := hSw
      (try simp only [List.forall_mem_cons, List.forall_mem_nil, and_true] at hSc)
      unfold does
      (go_simp; refine Calls.mono (taking_Take n 0 kk nx _ _ _ _ none 0 y _ _ _ _ _ _ _ wz (hA1.up (hdep 1 _ rfl (depB_sound (f := 4) (by kernel_rfl)))) (ArrAt.up (ArrAt.mono (fun b _ h => hT1 b h) _ (E.out.arr 1 rfl)) hSe) hnx.out hel.out hry.out hr0.out hm1.out hbk.out ho1.out) ?_; intro e wq h; obtain ⟨ta, tc, tn, tnc, ti, tic, rfl, hq, hqb, hqc⟩ := (h.eq hfa.out rfl); exact ⟨_, rfl, hRz.out _ _ ⟨hqb, ta, tc, tn, tnc, ti, tic, rfl, hq, hqb, hqc⟩⟩)
    intro v3 u3 x3 hG3 K hK
    have hF3 := hG3.fact
    (try dsimp only at hF3)
    obtain ⟨s3, c3, n3, m3, i3, j3, he, hA3, hb3, hC3⟩ := hF3
    injection he with he
    subst he
    replace hC3 := hid hC3
    (try simp only [Act.put, List.setIfInBounds_toArray, List.set_cons_zero, List.set_cons_succ]); refine hK _ _ ?_; clear hK K
    repeat (first | (refine m_plain (v := ?_) (by rfl) (by rfl) ?_ ?_; rotate_left; (intro wz hSw; obtain ⟨-, hSc⟩ := hSw; (try simp only [List.forall_mem_cons, List.forall_mem_nil, and_true] at hSc); go_simp; (first | done | with_reducible rfl)); (intro K hK; (try simp only [Act.put, List.setIfInBounds_toArray, List.set_cons_zero, List.set_cons_succ]); refine hK _ _ ?_; clear hK K)) | (refine m_skip (by rfl) (by rfl) ?_; (intro K hK; (try simp only [Act.put, List.setIfInBounds_toArray, List.set_cons_zero, List.set_cons_succ]); refine hK _ _ ?_; clear hK K)))
    refine m_make (by rfl) (by rfl) ?_ ?_
    · intro wz hSw hdep R hRz
      obtain ⟨hSe, hSc⟩ := hSw
      (try simp only [List.forall_mem_cons, List.forall_mem_nil, and_true] at hSc)
      unfold does
      (go_simp; exact hRz.out _ _ ⟨ext_alloc _ _, rfl, rfl⟩)
    intro v7 u7 x7 hG7 K hK
    have hF7 := hG7.fact
    (try dsimp only at hF7)
    obtain ⟨rfl, rfl⟩ := hF7
    (try simp only [Act.put, List.setIfInBounds_toArray, List.set_cons_zero, List.set_cons_succ]); refine hK _ _ ?_; clear hK K
    repeat (first | (refine m_plain (v := ?_) (by rfl) (by rfl) ?_ ?_; rotate_left; (intro wz hSw; obtain ⟨-, hSc⟩ := hSw; (try simp only [List.forall_mem_cons, List.forall_mem_nil, and_true] at hSc); go_simp; (first | done | with_reducible rfl)); (intro K hK; (try simp only [Act.put, List.setIfInBounds_toArray, List.set_cons_zero, List.set_cons_succ]); refine hK _ _ ?_; clear hK K)) | (refine m_skip (by rfl) (by rfl) ?_; (intro K hK; (try simp only [Act.put, List.setIfInBounds_toArray, List.set_cons_zero, List.set_cons_succ]); refine hK _ _ ?_; clear hK K)))
    refine m_nil ?_
    intro wf hSf hAf
    replace E := hid (E.out.varO hA3 (hAf 3 _ rfl) (hG7.order 3 _ rfl) hG3.s.1 hG7.s.1 (hAf 7 _ rfl) hSf.1)
    refine wpl_store4 (by rfl) (.tmp 5) (.tmp 39) (by rfl) _ (by rfl) (by rfl) (E.out.hdr 2 rfl) ?_
    intro V3 HV CV
    replace E := hid (E.out.chg 2 rfl CV HV)
    clear CV HV hSf hAf
    (try simp only [List.cons_append, List.nil_append, List.set_cons_zero, List.set_cons_succ] at E)
    clear hG1 hG3 hG7 hA1 hA3 hb1 hb3 hT1 hT2 hT3 hC1
    generalize u7.heap.size = p1 at E ⊢
    obtain ⟨s111, hq⟩ : ∃ s, s = s3 := ⟨_, rfl⟩
    subst hq
    obtain ⟨c111, hq⟩ : ∃ s, s = c3 := ⟨_, rfl⟩
    subst hq
    obtain ⟨n111, hq⟩ : ∃ s, s = n3 := ⟨_, rfl⟩
    subst hq
    obtain ⟨m111, hq⟩ : ∃ s, s = m3 := ⟨_, rfl⟩
    subst hq
    obtain ⟨i111, hq⟩ : ∃ s, s = i3 := ⟨_, rfl⟩
    subst hq
    obtain ⟨j111, hq⟩ : ∃ s, s = j3 := ⟨_, rfl⟩
    subst hq
    have hC111 := hC3
    clear hC3
    go_upto_region 4 with fail
    obtain ⟨T, hT1, hT2, hT3⟩ := E.out.tw
    refine wp_region_edge 6 8 (by kernel_rfl) (by kernel_rfl) (fun o _ v c a w h => by cases hd : o.dst <;> (rw [hd] at h; exact h)) _ rfl 8 (Sees V3 [(⟨w.heap.size, 0, none⟩, .int .i64 y.kind), (⟨w.heap.size, 1, none⟩, .slice sy y.shape.length cy), (⟨w.heap.size, 2, none⟩, .slice ny y.nums.length my), (⟨w.heap.size, 3, none⟩, .slice iy y.items.length jy)]) [1, 3, 7] (fun k v u u' => match k with | 1 => RetI u T (nx) (.returned v) u' | 3 => RetAEC u (fun b => u.heap.size ≤ b) (fb) (0) (.returned v) u' | 7 => v = .pointer (some ⟨u.heap.size, 0, none⟩) ∧ u' = u.alloc (.cells #[.int .i64 0, .slice none 0 0, .slice none 0 0, .slice none 0 0] 26) | _ => False) (fun _ _ h e => h.up e) (Sees.start (all_cons ((E.out.hdr 0 rfl).c0) (all_cons ((E.out.hdr 0 rfl).c1) (all_cons ((E.out.hdr 0 rfl).c2) (all_cons ((E.out.hdr 0 rfl).c3) (all_nil)))))) (by kernel_rfl) ?_
    simp only [withEdge, List.modify_succ_cons, List.modify_zero_cons, List.push_toArray, List.cons_append, List.nil_append]
    simp only [List.take_succ_cons, List.take_zero, List.drop_succ_cons, List.drop_zero]
    repeat (first | (refine m_plain (v := ?_) (by rfl) (by rfl) ?_ ?_; rotate_left; (intro wz hSw; obtain ⟨-, hSc⟩ := hSw; (try simp only [List.forall_mem_cons, List.forall_mem_nil, and_true] at hSc); go_simp; (first | done | with_reducible rfl)); (intro K hK; (try simp only [Act.put, List.setIfInBounds_toArray, List.set_cons_zero, List.set_cons_succ]); refine hK _ _ ?_; clear hK K)) | (refine m_skip (by rfl) (by rfl) ?_; (intro K hK; (try simp only [Act.put, List.setIfInBounds_toArray, List.set_cons_zero, List.set_cons_succ]); refine hK _ _ ?_; clear hK K)))
    refine m_make (by rfl) (by rfl) ?_ ?_
    · intro wz hSw hdep R hRz
      obtain ⟨hSe, hSc⟩ := hSw
      (try simp only [List.forall_mem_cons, List.forall_mem_nil, and_true] at hSc)
      unfold does
      (go_simp; refine Calls.mono (top_number n T wz) ?_; intro e wq h; obtain ⟨v, rfl, h1⟩ := retI_arm hT2 hSe (h.eq hnx.out); exact ⟨_, rfl, hRz.out _ _ h1⟩)
    intro v1 u1 x1 hG1 K hK
    have hF1 := hG1.fact
    (try dsimp only at hF1)
    obtain ⟨s1, c1, n1, m1, he, hA1, hb1, hC1⟩ := hF1
    injection he with he
    subst he
    replace hC1 := hid hC1
    (try simp only [Act.put, List.setIfInBounds_toArray, List.set_cons_zero, List.set_cons_succ]); refine hK _ _ ?_; clear hK K
    repeat (first | (refine m_plain (v := ?_) (by rfl) (by rfl) ?_ ?_; rotate_left; (intro wz hSw; obtain ⟨-, hSc⟩ := hSw; (try simp only [List.forall_mem_cons, List.forall_mem_nil, and_true] at hSc); go_simp; (first | done | with_reducible rfl)); (intro K hK; (try simp only [Act.put, List.setIfInBounds_toArray, List.set_cons_zero, List.set_cons_succ]); refine hK _ _ ?_; clear hK K)) | (refine m_skip (by rfl) (by rfl) ?_; (intro K hK; (try simp only [Act.put, List.setIfInBounds_toArray, List.set_cons_zero, List.set_cons_succ]); refine hK _ _ ?_; clear hK K)))
    refine m_make (by rfl) (by rfl) ?_ ?_
    · intro wz hSw hdep R hRz
      obtain ⟨hSe, hSc⟩ := hSw
      (try simp only [List.forall_mem_cons, List.forall_mem_nil, and_true] at hSc)
      unfold does
      (go_simp; refine Calls.mono (taking_Drop n kk (t - kk) nx _ _ _ _ none 0 y _ _ _ _ _ _ _ wz (hA1.up (hdep 1 _ rfl (depB_sound (f := 4) (by kernel_rfl)))) (ArrAt.up (ArrAt.mono (fun b _ h => hT1 b h) _ (E.out.arr 1 rfl)) hSe) hnx.out hel.out hry.out hr0.out hm2.out ho2.out) ?_; intro e wq h; obtain ⟨ta, tc, tn, tnc, ti, tic, rfl, hq, hqb, hqc⟩ := (h.eq hfb.out rfl); exact ⟨_, rfl, hRz.out _ _ ⟨hqb, ta, tc, tn, tnc, ti, tic, rfl, hq, hqb, hqc⟩⟩)
    intro v3 u3 x3 hG3 K hK
    have hF3 := hG3.fact
    (try dsimp only at hF3)
    obtain ⟨s3, c3, n3, m3, i3, j3, he, hA3, hb3, hC3⟩ := hF3
    injection he with he
    subst he
    replace hC3 := hid hC3
    (try simp only [Act.put, List.setIfInBounds_toArray, List.set_cons_zero, List.set_cons_succ]); refine hK _ _ ?_; clear hK K
    repeat (first | (refine m_plain (v := ?_) (by rfl) (by rfl) ?_ ?_; rotate_left; (intro wz hSw; obtain ⟨-, hSc⟩ := hSw; (try simp only [List.forall_mem_cons, List.forall_mem_nil, and_true] at hSc); go_simp; (first | done | with_reducible rfl)); (intro K hK; (try simp only [Act.put, List.setIfInBounds_toArray, List.set_cons_zero, List.set_cons_succ]); refine hK _ _ ?_; clear hK K)) | (refine m_skip (by rfl) (by rfl) ?_; (intro K hK; (try simp only [Act.put, List.setIfInBounds_toArray, List.set_cons_zero, List.set_cons_succ]); refine hK _ _ ?_; clear hK K)))
    refine m_make (by rfl) (by rfl) ?_ ?_
    · intro wz hSw hdep R hRz
      obtain ⟨hSe, hSc⟩ := hSw
      (try simp only [List.forall_mem_cons, List.forall_mem_nil, and_true] at hSc)
      unfold does
      (go_simp; exact hRz.out _ _ ⟨ext_alloc _ _, rfl, rfl⟩)
    intro v7 u7 x7 hG7 K hK
    have hF7 := hG7.fact
    (try dsimp only at hF7)
    obtain ⟨rfl, rfl⟩ := hF7
    (try simp only [Act.put, List.setIfInBounds_toArray, List.set_cons_zero, List.set_cons_succ]); refine hK _ _ ?_; clear hK K
    repeat (first | (refine m_plain (v := ?_) (by rfl) (by rfl) ?_ ?_; rotate_left; (intro wz hSw; obtain ⟨-, hSc⟩ := hSw; (try simp only [List.forall_mem_cons, List.forall_mem_nil, and_true] at hSc); go_simp; (first | done | with_reducible rfl)); (intro K hK; (try simp only [Act.put, List.setIfInBounds_toArray, List.set_cons_zero, List.set_cons_succ]); refine hK _ _ ?_; clear hK K)) | (refine m_skip (by rfl) (by rfl) ?_; (intro K hK; (try simp only [Act.put, List.setIfInBounds_toArray, List.set_cons_zero, List.set_cons_succ]); refine hK _ _ ?_; clear hK K)))
    refine m_nil ?_
    intro wf hSf hAf
    replace E := hid (E.out.varO hA3 (hAf 3 _ rfl) (hG7.order 3 _ rfl) hG3.s.1 hG7.s.1 (hAf 7 _ rfl) hSf.1)
    refine wpl_store4 (by rfl) (.tmp 7) (.tmp 46) (by rfl) _ (by rfl) (by rfl) (E.out.hdr 4 rfl) ?_
    intro V4 HV CV
    replace E := hid (E.out.chg 4 rfl CV HV)
    clear CV HV hSf hAf
    (try simp only [List.cons_append, List.nil_append, List.set_cons_zero, List.set_cons_succ] at E)
    clear hG1 hG3 hG7 hA1 hA3 hb1 hb3 hT1 hT2 hT3 hC1
    generalize u7.heap.size = p2 at E ⊢
    obtain ⟨s112, hq⟩ : ∃ s, s = s3 := ⟨_, rfl⟩
    subst hq
    obtain ⟨c112, hq⟩ : ∃ s, s = c3 := ⟨_, rfl⟩
    subst hq
    obtain ⟨n112, hq⟩ : ∃ s, s = n3 := ⟨_, rfl⟩
    subst hq
    obtain ⟨m112, hq⟩ : ∃ s, s = m3 := ⟨_, rfl⟩
    subst hq
    obtain ⟨i112, hq⟩ : ∃ s, s = i3 := ⟨_, rfl⟩
    subst hq
    obtain ⟨j112, hq⟩ : ∃ s, s = j3 := ⟨_, rfl⟩
    subst hq
    obtain ⟨q20, q21, q22, q23⟩ := (E.out.hdr 2 rfl).all
    obtain ⟨q40, q41, q42, q43⟩ := (E.out.hdr 4 rfl).all
    go_wp2_with fail
    clear q20 q21 q22 q23 q40 q41 q42 q43
    refine (joining_First fa _ _ _ _ _ _ fb _ _ _ _ _ _ _ _ (E.out.arr 3 rfl) (E.out.arr 5 rfl) hC111.out hC3.out).mono ?_
    intro e w7 h
    obtain ⟨s113, c113, n113, m113, i113, j113, rfl, hA, hb, hC113⟩ := h.eq hj1.out hj2.out
    replace E := hid ((E.out.up hb).addArr hA (fun b _ hq => E.out.res (Ext.refl _) hq))
    replace hC113 := hid hC113
    clear hA hb h
    (try simp only [List.cons_append, List.nil_append, List.set_cons_zero, List.set_cons_succ] at E)
    go_upto_region 10 with (refine wpl_store4 rfl (.tmp 9) (.tmp 60) rfl _ rfl rfl ((E.out.alloc _).hdr 7 rfl) ?_; intro V7 HV CV; replace E := hid ((E.out.alloc _).chg 7 rfl CV HV); clear CV HV; (try simp only [List.cons_append, List.nil_append, List.set_cons_zero, List.set_cons_succ] at E))
    generalize w7.heap.size = p3 at E ⊢
    obtain ⟨q00, q01, q02, q03⟩ := (E.out.hdr 0 rfl).all
    obtain ⟨q70, q71, q72, q73⟩ := (E.out.hdr 7 rfl).all
    go_wp2_with fail
    clear q00 q01 q02 q03 q70 q71 q72 q73
    refine (array_Same y y _ _ _ _ _ _ _ _ _ _ _ _ _ _ _ (E.out.arr 6 rfl) (E.out.arr 1 rfl)).mono ?_
    rintro e w8 ⟨rfl, hb⟩
    replace E := hid (E.out.up hb)
    clear hb
    rw [show sameB y y = true from sameB_self _]
    go_wp2_with (go_at_call 7; refine (top_knows22 _).mono ?_; rintro e w9 ⟨rfl, hb9⟩)
    exact hR.out _ _ ⟨rfl, (E.out.up hb9).ext⟩
end Go.Proofs.Ytolnbmmkpmajdaa
