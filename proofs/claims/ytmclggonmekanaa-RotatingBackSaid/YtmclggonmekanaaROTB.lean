/- The statement that rotations are inverted by the negative amounts: true. Condition: the arrays are read. -/
import Derived.Test.YtmclggonmekanaaROTL
import Derived.Test.YtmclggonmekanaaROTP
set_option linter.unusedVariables false
set_option linter.unusedSimpArgs false
namespace Go.Proofs.Ytmclggonmekanaa
open Go.RowKit Go.Sort
attribute [local go_sem ↓] run_max2 run_min2
attribute [local go_sem] eql_ints_nil eql_arrs_nil
theorem negL_take {l : List Int} {k : Nat} (h : k < l.length) : negL (l.take (k + 1)) = negL (l.take k) ++ [-(l.getD k 0)] := by
  unfold negL
  rw [List.take_succ_eq_append_getElem h, List.map_append]
  simp [h]
set_option maxRecDepth 100000 in
set_option maxHeartbeats 8000000 in
theorem law22_back (x : Arr) (sx : Option Addr) (cx : Nat) (nx : Option Addr) (mx : Nat) (ix : Option Addr) (jx : Nat) (y : Arr) (sy : Option Addr) (cy : Nat) (ny : Option Addr) (my : Nat) (iy : Option Addr) (jy : Nat) (S T : Nat → Prop) (w : World) (h : ArrAt w S x sx nx ix) (g : ArrAt w T y sy ny iy) : Calls Try.prog 9 #[.agg #[.int .i64 x.kind, .slice sx x.shape.length cx, .slice nx x.nums.length mx, .slice ix x.items.length jx], .agg #[.int .i64 y.kind, .slice sy y.shape.length cy, .slice ny y.nums.length my, .slice iy y.items.length jy]] w fun e w' => e = .returned (.bool true) ∧ Below w.heap.size w w' := by
  refine calls_post fun R' hR => ?_
  have xnl := h.nums.1
  have h0 := hid (ArrAt.mono (T := fun b => b < w.heap.size) (fun b hb _ => hb) x h)
  have g0 := hid (ArrAt.mono (T := fun b => b < w.heap.size) (fun b hb _ => hb) y g)
  clear h g
  obtain ⟨r, hr⟩ : ∃ r, r = rotS x y := ⟨_, rfl⟩
  obtain ⟨n, hn⟩ : ∃ n, rotE x y = n := ⟨_, rfl⟩
  replace hr := hid hr
  replace hn := hid hn
  go_enter Try.func9, Try.ntmps9
  go_wp2_with fail
  generalize hEW : ((w).alloc (.cells #[.int .i64 x.kind, .slice sx x.shape.length cx, .slice nx x.nums.length mx, .slice ix x.items.length jx] 46)).alloc (.cells #[.int .i64 y.kind, .slice sy y.shape.length cy, .slice ny y.nums.length my, .slice iy y.items.length jy] 46) = W
  obtain ⟨hxW, hyW, heW, zW⟩ := boxes2 w hEW
  clear hEW
  refine (law22_small x _ _ _ _ _ _ _ W (h0.out.up heW)).mono ?_
  rintro e w1 ⟨b1, rfl, hb1⟩
  have e1 := hid (heW.trans hb1)
  have X1 := hxW.up hb1
  have Y1 := hyW.up hb1
  clear hb1 hyW hxW heW
  obtain ⟨y0, y1, y2, y3⟩ := Y1.all
  cases b1 with
  | false =>
    go_wp2_with (go_at_call 28; refine (law22_lives w1).mono ?_; rintro e w2 ⟨rfl, hb2⟩)
    exact hR.out _ _ ⟨rfl, e1.out.trans hb2⟩
  | true =>
  go_wp2_with fail
  refine (law22_small y _ _ _ _ _ _ _ w1 (g0.out.up e1.out)).mono ?_
  rintro e V ⟨b2, rfl, hb2⟩
  have eV := hid (e1.out.trans hb2)
  have HX := X1.up hb2
  have HY := Y1.up hb2
  have AX := hid (h0.out.up eV.out)
  have AY := hid (g0.out.up eV.out)
  clear hb2 X1 Y1 e1 y0 y1 y2 y3
  cases b2 with
  | false =>
    go_wp2_with (go_at_call 28; refine (law22_lives V).mono ?_; rintro e w2 ⟨rfl, hb2⟩)
    exact hR.out _ _ ⟨rfl, eV.out.trans hb2⟩
  | true =>
  go_upto_region 3 with (fail)
  refine wp_region_seq_tail 7 (Sees V [(⟨w.heap.size, 0, none⟩, .int .i64 x.kind), (⟨w.heap.size, 1, none⟩, .slice sx x.shape.length cx), (⟨w.heap.size, 2, none⟩, .slice nx x.nums.length mx), (⟨w.heap.size, 3, none⟩, .slice ix x.items.length jx), (⟨w.heap.size + 1, 0, none⟩, .int .i64 y.kind), (⟨w.heap.size + 1, 1, none⟩, .slice sy y.shape.length cy), (⟨w.heap.size + 1, 2, none⟩, .slice ny y.nums.length my), (⟨w.heap.size + 1, 3, none⟩, .slice iy y.items.length jy)]) [2, 6] (fun k v u u' => match k with | 2 => RetAE u (fun b => u.heap.size ≤ b) r (n) (.returned v) u' | 6 => v = .pointer (some ⟨u.heap.size, 0, none⟩) ∧ u' = u.alloc (.cells #[.int .i64 0, .slice none 0 0, .slice none 0 0, .slice none 0 0] 46) | _ => False) (fun _ _ h e => h.up e) (Sees.start (all_cons (HX.c0) (all_cons (HX.c1) (all_cons (HX.c2) (all_cons (HX.c3) (all_cons (HY.c0) (all_cons (HY.c1) (all_cons (HY.c2) (all_cons (HY.c3) (all_nil)))))))))) ?_
  simp only [List.take_succ_cons, List.take_zero, List.drop_succ_cons, List.drop_zero]
  repeat (first | (refine m_plain (v := ?_) (by rfl) (by rfl) ?_ ?_; rotate_left; (intro wz hSw; obtain ⟨-, hSc⟩ := hSw; (try simp only [List.forall_mem_cons, List.forall_mem_nil, and_true] at hSc); go_simp; (first | done | with_reducible rfl)); (intro K hK; (try simp only [Act.put, List.setIfInBounds_toArray, List.set_cons_zero, List.set_cons_succ]); refine hK _ _ ?_; clear hK K)) | (refine m_skip (by rfl) (by rfl) ?_; (intro K hK; (try simp only [Act.put, List.setIfInBounds_toArray, List.set_cons_zero, List.set_cons_succ]); refine hK _ _ ?_; clear hK K)))
  refine m_make (by rfl) (by rfl) ?_ ?_
  · intro wz hSw hdep R hRz
    obtain ⟨hSe, hSc⟩ := hSw
    (try simp only [List.forall_mem_cons, List.forall_mem_nil, and_true] at hSc)
    unfold does
    (go_simp; refine Calls.mono (rotating_Rotate x _ _ _ _ _ _ y _ _ _ _ _ _ _ _ wz (AX.out.up hSe) (AY.out.up hSe)) ?_; intro e wq h; rw [← hr.out, hn.out] at h; obtain ⟨ta, tc, tn, tnc, ti, tic, rfl, hq, hqb⟩ := h; exact ⟨_, rfl, hRz.out _ _ ⟨hqb, ta, tc, tn, tnc, ti, tic, rfl, hq, hqb⟩⟩)
  intro v2 u2 x2 hG2 K hK
  have hF2 := hG2.fact
  (try dsimp only at hF2)
  obtain ⟨s2, c2, n2, m2, i2, j2, he, hA2, hb2⟩ := hF2
  injection he with he
  subst he
  (try simp only [Act.put, List.setIfInBounds_toArray, List.set_cons_zero, List.set_cons_succ]); refine hK _ _ ?_; clear hK K
  repeat (first | (refine m_plain (v := ?_) (by rfl) (by rfl) ?_ ?_; rotate_left; (intro wz hSw; obtain ⟨-, hSc⟩ := hSw; (try simp only [List.forall_mem_cons, List.forall_mem_nil, and_true] at hSc); go_simp; (first | done | with_reducible rfl)); (intro K hK; (try simp only [Act.put, List.setIfInBounds_toArray, List.set_cons_zero, List.set_cons_succ]); refine hK _ _ ?_; clear hK K)) | (refine m_skip (by rfl) (by rfl) ?_; (intro K hK; (try simp only [Act.put, List.setIfInBounds_toArray, List.set_cons_zero, List.set_cons_succ]); refine hK _ _ ?_; clear hK K)))
  refine m_make (by rfl) (by rfl) ?_ ?_
  · intro wz hSw hdep R hRz
    obtain ⟨hSe, hSc⟩ := hSw
    (try simp only [List.forall_mem_cons, List.forall_mem_nil, and_true] at hSc)
    unfold does
    (go_simp; exact hRz.out _ _ ⟨ext_alloc _ _, rfl, rfl⟩)
  intro v6 u6 x6 hG6 K hK
  have hF6 := hG6.fact
  (try dsimp only at hF6)
  obtain ⟨rfl, rfl⟩ := hF6
  (try simp only [Act.put, List.setIfInBounds_toArray, List.set_cons_zero, List.set_cons_succ]); refine hK _ _ ?_; clear hK K
  repeat (first | (refine m_plain (v := ?_) (by rfl) (by rfl) ?_ ?_; rotate_left; (intro wz hSw; obtain ⟨-, hSc⟩ := hSw; (try simp only [List.forall_mem_cons, List.forall_mem_nil, and_true] at hSc); go_simp; (first | done | with_reducible rfl)); (intro K hK; (try simp only [Act.put, List.setIfInBounds_toArray, List.set_cons_zero, List.set_cons_succ]); refine hK _ _ ?_; clear hK K)) | (refine m_skip (by rfl) (by rfl) ?_; (intro K hK; (try simp only [Act.put, List.setIfInBounds_toArray, List.set_cons_zero, List.set_cons_succ]); refine hK _ _ ?_; clear hK K)))
  refine m_nil ?_
  intro wf hSf hAf
  have o6 := hG6.order 2 _ rfl
  refine wpl_var (by rfl) (.tmp 5) (.tmp 24) (by rfl) u6.heap.size (by rfl) (by rfl) (made_blk (hAf 6 _ rfl : Ext (u6.alloc _) wf)) ((ArrAt.mono (T := fun b => u2.heap.size ≤ b ∧ b < x2.heap.size) (fun b hb hh => ⟨hh, hb⟩) _ hA2).up (hAf 2 _ rfl)) (fun q hq => ord_out o6 hq.1 hq.2) hSf.1 (Below.size hG6.s.1) ?_
  intro V1 hV1 eV1
  clear hG2 hG6 hSf hAf hA2 hb2 o6
  generalize u6.heap.size = p1 at *
  have HX1 := HX.up eV1
  have HY1 := HY.up eV1
  have AX1 := hid (AX.out.up eV1)
  have AY1 := hid (AY.out.up eV1)
  have eF := hid (eV.out.trans eV1)
  obtain ⟨sa, ca, na, ma, ia, ja, Ha, Aa⟩ := hV1
  have Aa := hid (ArrAt.mono (T := fun b => b < V1.heap.size) (fun b hb _ => hb) _ Aa)
  clear HX HY AX AY
  by_cases c : n = 0
  case neg =>
    have cb : (n != 0) = true := by simp [c]
    replace c := hid c
    go_wp2_with (go_at_call 28; refine (law22_lives V1).mono ?_; rintro e w2 ⟨rfl, hb2⟩)
    exact hR.out _ _ ⟨rfl, eF.out.trans hb2⟩
  subst c
  obtain ⟨z1, z2⟩ := rot_back hn.out
  obtain ⟨y1, y2, y3, y4, y5⟩ := rotE_zero hn.out
  obtain ⟨z, hz⟩ : ∃ z, z = negA x := ⟨_, rfl⟩
  rw [← hr.out] at z1 z2
  have hzz := hid hz
  rw [← hz] at z1 z2
  have zE := hid z1
  have zS := hid z2
  have hxb := hid (num_bds y1 y3)
  clear z1 z2 y1 y2 y3 y4 y5 hz
  go_upto_region 6 with (fail)
  obtain ⟨x0, x1, x2, x3⟩ := HX1.all
  go_wp2_with fail
  have hVz := hdr_new V1 (.int .i64 1) (.slice sx x.shape.length cx) (.slice none 0 0) (.slice none 0 0)
  have eVz := ext_alloc V1 (.cells #[.int .i64 1, .slice sx x.shape.length cx, .slice none 0 0, .slice none 0 0] 46)
  generalize V1.alloc (.cells #[.int .i64 1, .slice sx x.shape.length cx, .slice none 0 0, .slice none 0 0] 46) = Vz at *
  have HXz := HX1.up eVz
  have HYz := HY1.up eVz
  have Haz := Ha.up eVz
  have AXz := hid (AX1.out.up eVz)
  have AYz := hid (AY1.out.up eVz)
  have Aaz := hid (Aa.out.up eVz)
  have eFz := hid (eF.out.trans eVz)
  have hw1 := HX1.lt
  have hw2 := HY1.lt
  have hp1 := Ha.lt
  have hzw := Below.size eF.out
  clear x0 x1 x2 x3 HX1 HY1 Ha AX1 AY1 Aa
  generalize V1.heap.size = bx at *
  go_loopw [8] (fun i wr => ∃ (k : Nat) (ra : Option Addr) (rc : Nat), k ≤ x.nums.length ∧ i = .int .i64 k ∧ BldN Vz wr bx (.int .i64 1) (.slice sx x.shape.length cx) ra rc (negL (x.nums.take k))) (fun i _ => x.nums.length - (intOf i).toNat)
  case atStart => exact ⟨0, none, 0, Nat.zero_le _, rfl, by simpa [negL] using BldN.new hVz⟩
  case round =>
    obtain ⟨k, ra, rc, hk, rfl, hB⟩ := hrel
    have hB := hid hB
    have HXr := HXz.grown hB.out.g (by simp; omega)
    have q2 := HXr.c2
    have AXr := hid (AXz.out.grown hB.out.g (fun b hb _ => by simp; omega))
    by_cases hlt : k < x.nums.length
    · obtain ⟨b, off, hna, hbl, hSb, hc⟩ := AXr.out.nums.at hlt
      have hT := hid (negL_take hlt)
      have hL : Hid ((negL (x.nums.take k)).length = k) := by simp only [Hid, negL_len, List.length_take]; omega
      have hdb := hxb.out _ (getD_mem hlt)
      subst hna
      generalize x.nums.getD k 0 = d at hc hT hdb
      have kk0 : (0 : Int) ≤ (k : Int) := by omega
      have kk1 : (k : Int) < (x.nums.length : Int) := by omega
      have q5 := hB.out.h.c2
      have wr1 : IntKind.i64.wrap (0 - d) = -d := by rw [show 0 - d = -d by omega]; exact IntWalk.i64_in _ (by omega)
      have wr2 : IntKind.i64.wrap (-d) = -d := IntWalk.i64_in _ (by omega)
      go_wp2_with fail
      refine wp_region_mono_tail 9 (Sees wr [(⟨bx, 2, none⟩, .slice ra (negL (x.nums.take k)).length rc), (⟨w.heap.size, 2, none⟩, .slice (some ⟨b, off, none⟩) x.nums.length mx), (⟨b, off + k, none⟩, .int .i64 d)]) [8] (fun k v u u' => match k with | 8 => v = .slice (some ⟨u.heap.size, 0, none⟩) 1 1 ∧ u' = u.alloc (.cells #[.int .i64 (-d)] 3) | _ => False) (fun _ _ h e => h.up e) (Sees.start (all_cons (q5) (all_cons (q2) (all_cons (hc) (all_nil))))) (by kernel_rfl) (by kernel_rfl) ?_
      simp only [List.take_succ_cons, List.take_zero, List.drop_succ_cons, List.drop_zero]
      repeat (first | (refine m_plain (v := ?_) (by rfl) (by rfl) ?_ ?_; rotate_left; (intro wz hSw; obtain ⟨-, hSc⟩ := hSw; (try simp only [List.forall_mem_cons, List.forall_mem_nil, and_true] at hSc); go_simp; (first | done | with_reducible rfl)); (intro K hK; (try simp only [Act.put, List.setIfInBounds_toArray, List.set_cons_zero, List.set_cons_succ]); refine hK _ _ ?_; clear hK K)) | (refine m_skip (by rfl) (by rfl) ?_; (intro K hK; (try simp only [Act.put, List.setIfInBounds_toArray, List.set_cons_zero, List.set_cons_succ]); refine hK _ _ ?_; clear hK K)))
      refine m_make (by rfl) (by rfl) ?_ ?_
      · intro wz hSw hdep R hRz
        obtain ⟨hSe, hSc⟩ := hSw
        (try simp only [List.forall_mem_cons, List.forall_mem_nil, and_true] at hSc)
        unfold does
        (go_simp; exact hRz.out _ _ ⟨ext_alloc _ _, rfl, rfl⟩)
      intro v8 u8 x8 hG8 K hK
      have hF8 := hG8.fact
      (try dsimp only at hF8)
      obtain ⟨rfl, rfl⟩ := hF8
      (try simp only [Act.put, List.setIfInBounds_toArray, List.set_cons_zero, List.set_cons_succ]); refine hK _ _ ?_; clear hK K
      repeat (first | (refine m_plain (v := ?_) (by rfl) (by rfl) ?_ ?_; rotate_left; (intro wz hSw; obtain ⟨-, hSc⟩ := hSw; (try simp only [List.forall_mem_cons, List.forall_mem_nil, and_true] at hSc); go_simp; (first | done | with_reducible rfl)); (intro K hK; (try simp only [Act.put, List.setIfInBounds_toArray, List.set_cons_zero, List.set_cons_succ]); refine hK _ _ ?_; clear hK K)) | (refine m_skip (by rfl) (by rfl) ?_; (intro K hK; (try simp only [Act.put, List.setIfInBounds_toArray, List.set_cons_zero, List.set_cons_succ]); refine hK _ _ ?_; clear hK K)))
      refine m_nil ?_
      intro wf hSf hAf
      have eG : Ext wr wf := hSf.1
      have oF : Hid (IntsAt wf (fun b => b = u8.heap.size) (some ⟨u8.heap.size, 0, none⟩) [-d]) := IntsAt.box rfl (by rw [cell_of_row wf _ 0 _ _ _ (made_blk (hAf 8 _ rfl : Ext (u8.alloc _) wf))]; rfl)
      have bF := hid (hB.out.up eG)
      clear hSf hAf hG8 eG wr1 wr2
      refine wpl_addN (by rfl) (by rfl) (by rfl) (.tmp 40) (.tmp 47) (.tmp 7) (.tmp 49) (.tmp 48) (by rfl) (by rfl) (by rfl) bF.out _ _ 1 [-d] (by rfl) (by rfl) oF.out (by rw [hL.out]; simp; omega) (fun _ => rfl) (fun _ _ => rfl) (fun _ _ => rfl) ?_
      intro V' na' nc' hB'
      have hB2 := hid hB'
      clear hB' bF oF q2 q5 hc
      go_wp2_with fail
      go_roundw
      case rel => exact ⟨k + 1, na', nc', by omega, by go_num, by rw [hT.out]; exact hB2.out⟩
      case measure => simp [intOf]; omega
    · have hke : x.nums.take k = x.nums := List.take_of_length_le (by omega)
      rw [hke] at hB
      have HYr := HYz.grown hB.out.g (by simp; omega)
      have Har := Haz.grown hB.out.g (by simp; omega)
      have AYr := hid (AYz.out.grown hB.out.g (fun b hb hlt => by simp; omega))
      have Aar := hid (Aaz.out.grown hB.out.g (fun b hb hlt => by simp; omega))
      have Hz : Hdr wr bx (.int .i64 z.kind) (.slice sx z.shape.length cx) (.slice ra z.nums.length rc) (.slice none z.items.length 0) := by rw [hzz.out]; exact hB.out.h
      have Az : Hid (ArrAt wr (fun _ => True) z sx ra none) := by
        rw [hzz.out]
        exact ArrAt.iff.2 ⟨AXr.out.shape.mono (fun _ _ _ => trivial), (hB.out.o.ints (by rw [negL_len]; omega)).mono (fun _ _ _ => trivial), Nat.zero_le _, by simp only [negA, Arr.items, ItemsAt]⟩
      have ewr := hid (eFz.out.grown hB.out.g eFz.out.size (fun q hq => by injection hq with hq; omega))
      clear HXz HYz Haz AXz AYz Aaz eVz hVz
      go_upto_region 11 with (fail)
      refine wp_region_seq_tail 7 (Sees wr [(⟨bx, 0, none⟩, .int .i64 z.kind), (⟨bx, 1, none⟩, .slice sx z.shape.length cx), (⟨bx, 2, none⟩, .slice ra z.nums.length rc), (⟨bx, 3, none⟩, .slice none z.items.length 0), (⟨p1, 0, none⟩, .int .i64 r.kind), (⟨p1, 1, none⟩, .slice sa r.shape.length ca), (⟨p1, 2, none⟩, .slice na r.nums.length ma), (⟨p1, 3, none⟩, .slice ia r.items.length ja)]) [2, 6] (fun k v u u' => match k with | 2 => RetAE u (fun b => u.heap.size ≤ b) y (0) (.returned v) u' | 6 => v = .pointer (some ⟨u.heap.size, 0, none⟩) ∧ u' = u.alloc (.cells #[.int .i64 0, .slice none 0 0, .slice none 0 0, .slice none 0 0] 46) | _ => False) (fun _ _ h e => h.up e) (Sees.start (all_cons (Hz.c0) (all_cons (Hz.c1) (all_cons (Hz.c2) (all_cons (Hz.c3) (all_cons (Har.c0) (all_cons (Har.c1) (all_cons (Har.c2) (all_cons (Har.c3) (all_nil)))))))))) ?_
      simp only [List.take_succ_cons, List.take_zero, List.drop_succ_cons, List.drop_zero]
      repeat (first | (refine m_plain (v := ?_) (by rfl) (by rfl) ?_ ?_; rotate_left; (intro wz hSw; obtain ⟨-, hSc⟩ := hSw; (try simp only [List.forall_mem_cons, List.forall_mem_nil, and_true] at hSc); go_simp; (first | done | with_reducible rfl)); (intro K hK; (try simp only [Act.put, List.setIfInBounds_toArray, List.set_cons_zero, List.set_cons_succ]); refine hK _ _ ?_; clear hK K)) | (refine m_skip (by rfl) (by rfl) ?_; (intro K hK; (try simp only [Act.put, List.setIfInBounds_toArray, List.set_cons_zero, List.set_cons_succ]); refine hK _ _ ?_; clear hK K)))
      refine m_make (by rfl) (by rfl) ?_ ?_
      · intro wz hSw hdep R hRz
        obtain ⟨hSe, hSc⟩ := hSw
        (try simp only [List.forall_mem_cons, List.forall_mem_nil, and_true] at hSc)
        unfold does
        (go_simp; refine Calls.mono (rotating_Rotate z _ _ _ _ _ _ r _ _ _ _ _ _ _ _ wz (Az.out.up hSe) (Aar.out.up hSe)) ?_; intro e wq h; rw [zS.out, zE.out] at h; obtain ⟨ta, tc, tn, tnc, ti, tic, rfl, hq, hqb⟩ := h; exact ⟨_, rfl, hRz.out _ _ ⟨hqb, ta, tc, tn, tnc, ti, tic, rfl, hq, hqb⟩⟩)
      intro v2 u2 x2 hG2 K hK
      have hF2 := hG2.fact
      (try dsimp only at hF2)
      obtain ⟨s2, c2, n2, m2, i2, j2, he, hA2, hb2⟩ := hF2
      injection he with he
      subst he
      (try simp only [Act.put, List.setIfInBounds_toArray, List.set_cons_zero, List.set_cons_succ]); refine hK _ _ ?_; clear hK K
      repeat (first | (refine m_plain (v := ?_) (by rfl) (by rfl) ?_ ?_; rotate_left; (intro wz hSw; obtain ⟨-, hSc⟩ := hSw; (try simp only [List.forall_mem_cons, List.forall_mem_nil, and_true] at hSc); go_simp; (first | done | with_reducible rfl)); (intro K hK; (try simp only [Act.put, List.setIfInBounds_toArray, List.set_cons_zero, List.set_cons_succ]); refine hK _ _ ?_; clear hK K)) | (refine m_skip (by rfl) (by rfl) ?_; (intro K hK; (try simp only [Act.put, List.setIfInBounds_toArray, List.set_cons_zero, List.set_cons_succ]); refine hK _ _ ?_; clear hK K)))
      refine m_make (by rfl) (by rfl) ?_ ?_
      · intro wz hSw hdep R hRz
        obtain ⟨hSe, hSc⟩ := hSw
        (try simp only [List.forall_mem_cons, List.forall_mem_nil, and_true] at hSc)
        unfold does
        (go_simp; exact hRz.out _ _ ⟨ext_alloc _ _, rfl, rfl⟩)
      intro v6 u6 x6 hG6 K hK
      have hF6 := hG6.fact
      (try dsimp only at hF6)
      obtain ⟨rfl, rfl⟩ := hF6
      (try simp only [Act.put, List.setIfInBounds_toArray, List.set_cons_zero, List.set_cons_succ]); refine hK _ _ ?_; clear hK K
      repeat (first | (refine m_plain (v := ?_) (by rfl) (by rfl) ?_ ?_; rotate_left; (intro wz hSw; obtain ⟨-, hSc⟩ := hSw; (try simp only [List.forall_mem_cons, List.forall_mem_nil, and_true] at hSc); go_simp; (first | done | with_reducible rfl)); (intro K hK; (try simp only [Act.put, List.setIfInBounds_toArray, List.set_cons_zero, List.set_cons_succ]); refine hK _ _ ?_; clear hK K)) | (refine m_skip (by rfl) (by rfl) ?_; (intro K hK; (try simp only [Act.put, List.setIfInBounds_toArray, List.set_cons_zero, List.set_cons_succ]); refine hK _ _ ?_; clear hK K)))
      refine m_nil ?_
      intro wf hSf hAf
      have o6 := Below.size (hG6.dep 2 _ rfl trivial)
      refine wpl_var (by rfl) (.tmp 9) (.tmp 54) (by rfl) u6.heap.size (by rfl) (by rfl) (made_blk (hAf 6 _ rfl : Ext (u6.alloc _) wf)) ((ArrAt.mono (T := fun b => b < x2.heap.size) (fun b hb hh => hb) _ hA2).up (hAf 2 _ rfl)) (fun q hq => Nat.ne_of_lt (Nat.lt_of_lt_of_le hq o6)) hSf.1 (Below.size hG6.s.1) ?_
      intro V2 hV2 eV2
      clear hG2 hG6 hSf hAf hA2 hb2 o6
      generalize u6.heap.size = p2 at *
      obtain ⟨sb, cb, nb, mb, ib, jb, Hb, Ab⟩ := hV2
      have HY2 := HYr.up eV2
      have AY2 := hid (AYr.out.up eV2)
      have eL := hid ((show Ext w wr from ewr.out).trans eV2)
      have s5 : Hid (sameB y y = true) := hid (sameB_self _)
      go_upto_region 12 with (fail)
      refine wp_region_seq_tail 11 (Sees V2 [(⟨p2, 0, none⟩, .int .i64 y.kind), (⟨p2, 1, none⟩, .slice sb y.shape.length cb), (⟨p2, 2, none⟩, .slice nb y.nums.length mb), (⟨p2, 3, none⟩, .slice ib y.items.length jb), (⟨w.heap.size + 1, 0, none⟩, .int .i64 y.kind), (⟨w.heap.size + 1, 1, none⟩, .slice sy y.shape.length cy), (⟨w.heap.size + 1, 2, none⟩, .slice ny y.nums.length my), (⟨w.heap.size + 1, 3, none⟩, .slice iy y.items.length jy)]) [5, 8] (fun k v u u' => match k with | 5 => v = .bool true | 8 => v = .bool true | _ => False) (fun _ _ h e => h.up e) (Sees.start (all_cons (Hb.c0) (all_cons (Hb.c1) (all_cons (Hb.c2) (all_cons (Hb.c3) (all_cons (HY2.c0) (all_cons (HY2.c1) (all_cons (HY2.c2) (all_cons (HY2.c3) (all_nil)))))))))) ?_
      simp only [List.take_succ_cons, List.take_zero, List.drop_succ_cons, List.drop_zero]
      repeat (first | (refine m_plain (v := ?_) (by rfl) (by rfl) ?_ ?_; rotate_left; (intro wz hSw; obtain ⟨-, hSc⟩ := hSw; (try simp only [List.forall_mem_cons, List.forall_mem_nil, and_true] at hSc); go_simp; (first | done | with_reducible rfl)); (intro K hK; (try simp only [Act.put, List.setIfInBounds_toArray, List.set_cons_zero, List.set_cons_succ]); refine hK _ _ ?_; clear hK K)) | (refine m_skip (by rfl) (by rfl) ?_; (intro K hK; (try simp only [Act.put, List.setIfInBounds_toArray, List.set_cons_zero, List.set_cons_succ]); refine hK _ _ ?_; clear hK K)))
      refine m_make (by rfl) (by rfl) ?_ ?_
      · intro wz hSw hdep R hRz
        obtain ⟨hSe, hSc⟩ := hSw
        (try simp only [List.forall_mem_cons, List.forall_mem_nil, and_true] at hSc)
        unfold does
        (go_simp; refine Calls.mono (ref03_Same y y _ _ _ _ _ _ _ _ _ _ _ _ _ _ wz (Ab.up hSe) (AY2.out.up hSe)) ?_; rintro e wq ⟨rfl, hqb⟩; rw [s5.out]; exact ⟨_, rfl, hRz.out _ _ ⟨hqb, rfl⟩⟩)
      intro v5 u5 x5 hG5 K hK
      have hF5 := hG5.fact
      (try dsimp only at hF5)
      subst hF5
      (try simp only [Act.put, List.setIfInBounds_toArray, List.set_cons_zero, List.set_cons_succ]); refine hK _ _ ?_; clear hK K
      repeat (first | (refine m_plain (v := ?_) (by rfl) (by rfl) ?_ ?_; rotate_left; (intro wz hSw; obtain ⟨-, hSc⟩ := hSw; (try simp only [List.forall_mem_cons, List.forall_mem_nil, and_true] at hSc); go_simp; (first | done | with_reducible rfl)); (intro K hK; (try simp only [Act.put, List.setIfInBounds_toArray, List.set_cons_zero, List.set_cons_succ]); refine hK _ _ ?_; clear hK K)) | (refine m_skip (by rfl) (by rfl) ?_; (intro K hK; (try simp only [Act.put, List.setIfInBounds_toArray, List.set_cons_zero, List.set_cons_succ]); refine hK _ _ ?_; clear hK K)))
      refine m_make (by rfl) (by rfl) ?_ ?_
      · intro wz hSw hdep R hRz
        obtain ⟨hSe, hSc⟩ := hSw
        (try simp only [List.forall_mem_cons, List.forall_mem_nil, and_true] at hSc)
        unfold does
        (go_simp; refine Calls.mono (law22_lives wz) ?_; rintro e wq ⟨rfl, hqb⟩; exact ⟨_, rfl, hRz.out _ _ ⟨hqb, rfl⟩⟩)
      intro v8 u8 x8 hG8 K hK
      have hF8 := hG8.fact
      (try dsimp only at hF8)
      subst hF8
      (try simp only [Act.put, List.setIfInBounds_toArray, List.set_cons_zero, List.set_cons_succ]); refine hK _ _ ?_; clear hK K
      repeat (first | (refine m_plain (v := ?_) (by rfl) (by rfl) ?_ ?_; rotate_left; (intro wz hSw; obtain ⟨-, hSc⟩ := hSw; (try simp only [List.forall_mem_cons, List.forall_mem_nil, and_true] at hSc); go_simp; (first | done | with_reducible rfl)); (intro K hK; (try simp only [Act.put, List.setIfInBounds_toArray, List.set_cons_zero, List.set_cons_succ]); refine hK _ _ ?_; clear hK K)) | (refine m_skip (by rfl) (by rfl) ?_; (intro K hK; (try simp only [Act.put, List.setIfInBounds_toArray, List.set_cons_zero, List.set_cons_succ]); refine hK _ _ ?_; clear hK K)))
      refine m_nil ?_
      intro wg hSg hAg
      have eg := hid (eL.out.trans hSg.1)
      clear hSg hAg
      go_wp2_with fail
      exact hR.out _ _ ⟨rfl, eg.out⟩
end Go.Proofs.Ytmclggonmekanaa
