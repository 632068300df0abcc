/- The example of the law of indexing: true. -/
import Derived.Test.YtcoknjlkhefgpaaJ23A
import Derived.Test.YtcoknjlkhefgpaaI23C
import Derived.Test.YtcoknjlkhefgpaaI23D
import Derived.Test.YtcoknjlkhefgpaaI23G
import Derived.Test.YtcoknjlkhefgpaaI23J
set_option linter.unusedVariables false
set_option linter.unusedSimpArgs false
namespace Go.Proofs.Ytcoknjlkhefgpaa
open Go.RowKit Go.Sort
attribute [local go_sem ↓] run_max2 run_min2
attribute [local go_sem] eql_ints_nil eql_arrs_nil
theorem N_indexing_From (x : Arr) (sx : Option Addr) (cx : Nat) (nx : Option Addr) (mx : Nat) (ix : Option Addr) (jx : Nat) (y : Arr) (sy : Option Addr) (cy : Nat) (ny : Option Addr) (my : Nat) (iy : Option Addr) (jy : Nat) (S : Nat → Prop) (w : World) (h : ArrAt w S x sx nx ix) (g : ArrAt w S y sy ny iy) (hcy : y.shape.length ≤ cy) (hxl : x.shape.length ≤ 10000) (hyl : y.shape.length ≤ 10000) :
    Calls Try.prog 11 #[.agg #[.int .i64 x.kind, .slice sx x.shape.length cx, .slice nx x.nums.length mx, .slice ix x.items.length jx], .agg #[.int .i64 y.kind, .slice sy y.shape.length cy, .slice ny y.nums.length my, .slice iy y.items.length jy]] w (RetAE w (fun b => w.heap.size ≤ b) (frmS x y) (frmE x y)) := (indexing_From x _ _ _ _ _ _ y _ _ _ _ _ _ S w h g hcy hxl hyl).mono fun _ _ h => h.to
theorem N_indexing_Select (x : Arr) (sx : Option Addr) (cx : Nat) (nx : Option Addr) (mx : Nat) (ix : Option Addr) (jx : Nat) (y : Arr) (sy : Option Addr) (cy : Nat) (ny : Option Addr) (my : Nat) (iy : Option Addr) (jy : Nat) (S : Nat → Prop) (w : World) (h : ArrAt w S x sx nx ix) (g : ArrAt w S y sy ny iy) (hI1 : x.kind = 1 → ix = none ∧ jx = 0 ∧ x.items = []) (hcy : y.shape.length ≤ cy) :
    Calls Try.prog 21 #[.agg #[.int .i64 x.kind, .slice sx x.shape.length cx, .slice nx x.nums.length mx, .slice ix x.items.length jx], .agg #[.int .i64 y.kind, .slice sy y.shape.length cy, .slice ny y.nums.length my, .slice iy y.items.length jy]] w (RetAE w (fun b => w.heap.size ≤ b) (selS x y) (selE x y)) := (indexing_Select x _ _ _ _ _ _ y _ _ _ _ _ _ S w h g hI1 hcy).mono fun _ _ h => h.to
theorem N_indexing_Amend (x : Arr) (sx : Option Addr) (cx : Nat) (nx : Option Addr) (mx : Nat) (ix : Option Addr) (jx : Nat) (y : Arr) (sy : Option Addr) (cy : Nat) (ny : Option Addr) (my : Nat) (iy : Option Addr) (jy : Nat) (S : Nat → Prop) (w : World) (h : ArrAt w S x sx nx ix) (g : ArrAt w S y sy ny iy) (hcy : y.shape.length ≤ cy) :
    Calls Try.prog 16 #[.agg #[.int .i64 x.kind, .slice sx x.shape.length cx, .slice nx x.nums.length mx, .slice ix x.items.length jx], .agg #[.int .i64 y.kind, .slice sy y.shape.length cy, .slice ny y.nums.length my, .slice iy y.items.length jy]] w (RetAE w (fun b => w.heap.size ≤ b) (amdS x y) (amdE x y)) := (indexing_Amend x _ _ _ _ _ _ y _ _ _ _ _ _ S w h g hcy).mono fun _ _ h => h.to
set_option maxRecDepth 100000 in
set_option maxHeartbeats 40000000 in
theorem law23_example (w : World) : Calls Try.prog 10 #[] w fun e w' => e = .returned (.bool true) ∧ Ext w w' := by
  refine calls_post fun R' hR => ?_
  obtain ⟨am, ham⟩ : ∃ a, a = Arr.mk 1 [2, 3] [1, 2, 3, 4, 5, 6] [] := ⟨_, rfl⟩
  obtain ⟨av, hav⟩ : ∃ a, a = Arr.mk 1 [3] [10, 20, 30] [] := ⟨_, rfl⟩
  obtain ⟨a1, ha1⟩ : ∃ a, a = Arr.mk 1 [2] [2, 0] [] := ⟨_, rfl⟩
  obtain ⟨a2, ha2⟩ : ∃ a, a = Arr.mk 1 [2] [1, 0] [] := ⟨_, rfl⟩
  obtain ⟨a3, ha3⟩ : ∃ a, a = Arr.mk 1 [2, 2] [1, 2, 3, 4] [] := ⟨_, rfl⟩
  obtain ⟨a4, ha4⟩ : ∃ a, a = Arr.mk 1 [] [1] [] := ⟨_, rfl⟩
  obtain ⟨ax5, hx5⟩ : ∃ a, a = Arr.mk 3 [2] [] [a4, a1] := ⟨_, rfl⟩
  obtain ⟨a6, ha6⟩ : ∃ a, a = Arr.mk 1 [2] [0, 2] [] := ⟨_, rfl⟩
  obtain ⟨a7, ha7⟩ : ∃ a, a = Arr.mk 1 [2] [7, 8] [] := ⟨_, rfl⟩
  obtain ⟨ax7, hx7⟩ : ∃ a, a = Arr.mk 3 [2] [] [a6, a7] := ⟨_, rfl⟩
  obtain ⟨a8, ha8⟩ : ∃ a, a = Arr.mk 1 [] [0] [] := ⟨_, rfl⟩
  obtain ⟨ax8, hx8⟩ : ∃ a, a = Arr.mk 3 [2] [] [a6, a8] := ⟨_, rfl⟩
  obtain ⟨bb1, hB1⟩ : ∃ a, a = Arr.mk 1 [2] [30, 10] [] := ⟨_, rfl⟩
  obtain ⟨bb2, hB2⟩ : ∃ a, a = Arr.mk 1 [] [3] [] := ⟨_, rfl⟩
  obtain ⟨bb3, hB3⟩ : ∃ a, a = Arr.mk 1 [2] [6, 4] [] := ⟨_, rfl⟩
  obtain ⟨bb4, hB4⟩ : ∃ a, a = Arr.mk 1 [3] [4, 5, 6] [] := ⟨_, rfl⟩
  obtain ⟨bb5, hB5⟩ : ∃ a, a = Arr.mk 1 [3] [7, 20, 8] [] := ⟨_, rfl⟩
  obtain ⟨bb6, hB6⟩ : ∃ a, a = Arr.mk 1 [3] [0, 20, 0] [] := ⟨_, rfl⟩
  obtain ⟨r1, hr1⟩ : ∃ a, a = frmS a1 av := ⟨_, rfl⟩
  obtain ⟨r2, hr2⟩ : ∃ a, a = pckS a2 a3 := ⟨_, rfl⟩
  obtain ⟨r3, hr3⟩ : ∃ a, a = selS ax5 am := ⟨_, rfl⟩
  obtain ⟨r4, hr4⟩ : ∃ a, a = selS a4 am := ⟨_, rfl⟩
  obtain ⟨r5, hr5⟩ : ∃ a, a = amdS ax7 av := ⟨_, rfl⟩
  obtain ⟨r6, hr6⟩ : ∃ a, a = amdS ax8 av := ⟨_, rfl⟩
  have z1 : frmE a1 av = 0 := by rw [ha1, hav]; kernel_rfl
  have z2 : pckE a2 a3 = 0 := by rw [ha2, ha3]; kernel_rfl
  have z3 : selE ax5 am = 0 := by rw [hx5, ha4, ha1, ham]; kernel_rfl
  have z4 : selE a4 am = 0 := by rw [ha4, ham]; kernel_rfl
  have z5 : amdE ax7 av = 0 := by rw [hx7, ha6, ha7, hav]; kernel_rfl
  have z6 : amdE ax8 av = 0 := by rw [hx8, ha6, ha8, hav]; kernel_rfl
  have y1 : r1 = bb1 := by rw [hr1, ha1, hav, hB1]; kernel_rfl
  have y2 : r2 = bb2 := by rw [hr2, ha2, ha3, hB2]; kernel_rfl
  have y3 : r3 = bb3 := by rw [hr3, hx5, ha4, ha1, ham, hB3]; kernel_rfl
  have y4 : r4 = bb4 := by rw [hr4, ha4, ham, hB4]; kernel_rfl
  have y5 : r5 = bb5 := by rw [hr5, hx7, ha6, ha7, hav, hB5]; kernel_rfl
  have y6 : r6 = bb6 := by rw [hr6, hx8, ha6, ha8, hav, hB6]; kernel_rfl
  have hu1 : Hid (sameB r1 bb1 = true) := hid (by rw [y1]; exact sameB_self _)
  have hu2 : Hid (sameB r2 bb2 = true) := hid (by rw [y2]; exact sameB_self _)
  have hu3 : Hid (sameB r3 bb3 = true) := hid (by rw [y3]; exact sameB_self _)
  have hu4 : Hid (sameB r4 bb4 = true) := hid (by rw [y4]; exact sameB_self _)
  have hu5 : Hid (sameB r5 bb5 = true) := hid (by rw [y5]; exact sameB_self _)
  have hu6 : Hid (sameB r6 bb6 = true) := hid (by rw [y6]; exact sameB_self _)
  clear y1 y2 y3 y4 y5 y6
  have hL1 : Hid (a1.shape.length ≤ 10000) := hid (by rw [ha1]; simp [Arr.shape])
  have hLv : Hid (av.shape.length ≤ 10000) := hid (by rw [hav]; simp [Arr.shape])
  have hIa4 : Hid (a4.items = []) := hid (by rw [ha4]; rfl)
  have hIx5 : Hid (∀ (o : Option Addr) (n : Nat), ax5.kind = 1 → o = none ∧ n = 0 ∧ ax5.items = []) := hid (fun _ _ q => by rw [hx5] at q; cases q)
  replace ham := hid ham
  replace hav := hid hav
  replace ha1 := hid ha1
  replace ha2 := hid ha2
  replace ha3 := hid ha3
  replace ha4 := hid ha4
  replace hx5 := hid hx5
  replace ha6 := hid ha6
  replace ha7 := hid ha7
  replace hx7 := hid hx7
  replace ha8 := hid ha8
  replace hx8 := hid hx8
  replace hB1 := hid hB1
  replace hB2 := hid hB2
  replace hB3 := hid hB3
  replace hB4 := hid hB4
  replace hB5 := hid hB5
  replace hB6 := hid hB6
  replace hr1 := hid hr1
  replace hr2 := hid hr2
  replace hr3 := hid hr3
  replace hr4 := hid hr4
  replace hr5 := hid hr5
  replace hr6 := hid hr6
  replace z1 := hid z1
  replace z2 := hid z2
  replace z3 := hid z3
  replace z4 := hid z4
  replace z5 := hid z5
  replace z6 := hid z6
  have E := hid (Env.start w (fun _ => False))
  go_enter Try.func10, Try.ntmps10
  go_wp2_with fail
  replace E := hid (E.out.lit2 [2, 3] [1, 2, 3, 4, 5, 6] (by decide) (by decide))
  (try simp only [List.cons_append, List.nil_append, List.set_cons_zero, List.set_cons_succ] at E)
  refine (law23_ints [2, 3] [1, 2, 3, 4, 5, 6] _ _ _ _ _ _ (E.out.ints 0 rfl) (E.out.ints 1 rfl) (by decide) (by decide)).mono ?_
  intro e w1 h
  obtain ⟨s101, c101, n101, m101, i101, j101, rfl, hA, hb, hC101⟩ := h.eq ham.out
  replace E := hid ((E.out.up hb).addArr hA (fun b _ hq => E.out.res (Ext.refl _) hq))
  replace hC101 := hid hC101
  clear hA hb h
  (try simp only [List.cons_append, List.nil_append, List.set_cons_zero, List.set_cons_succ] at E)
  go_upto_region 2 with (refine wpl_store4 rfl (.tmp 1) (.tmp 17) rfl _ rfl rfl ((E.out.alloc _).hdr 3 rfl) ?_; intro V1 HV CV; replace E := hid ((E.out.alloc _).chg 3 rfl CV HV); clear CV HV; (try simp only [List.cons_append, List.nil_append, List.set_cons_zero, List.set_cons_succ] at E))
  generalize w1.heap.size = pm at E ⊢
  go_wp2_with fail
  replace E := hid (E.out.lit2 [3] [10, 20, 30] (by decide) (by decide))
  (try simp only [List.cons_append, List.nil_append, List.set_cons_zero, List.set_cons_succ] at E)
  refine (law23_ints [3] [10, 20, 30] _ _ _ _ _ _ (E.out.ints 4 rfl) (E.out.ints 5 rfl) (by decide) (by decide)).mono ?_
  intro e w2 h
  obtain ⟨s102, c102, n102, m102, i102, j102, rfl, hA, hb, hC102⟩ := h.eq hav.out
  replace E := hid ((E.out.up hb).addArr hA (fun b _ hq => E.out.res (Ext.refl _) hq))
  replace hC102 := hid hC102
  clear hA hb h
  (try simp only [List.cons_append, List.nil_append, List.set_cons_zero, List.set_cons_succ] at E)
  go_upto_region 3 with (refine wpl_store4 rfl (.tmp 2) (.tmp 20) rfl _ rfl rfl ((E.out.alloc _).hdr 7 rfl) ?_; intro V2 HV CV; replace E := hid ((E.out.alloc _).chg 7 rfl CV HV); clear CV HV; (try simp only [List.cons_append, List.nil_append, List.set_cons_zero, List.set_cons_succ] at E))
  generalize w2.heap.size = pv at E ⊢
  obtain ⟨T, hT1, hT2, hT3⟩ := E.out.tw
  refine wp_region_edge 7 9 (by kernel_rfl) (by kernel_rfl) (fun o _ v c a w h => by cases hd : o.dst <;> (rw [hd] at h; exact h)) _ rfl 9 (Sees V2 [(⟨pv, 0, none⟩, .int .i64 av.kind), (⟨pv, 1, none⟩, .slice s102 av.shape.length c102), (⟨pv, 2, none⟩, .slice n102 av.nums.length m102), (⟨pv, 3, none⟩, .slice i102 av.items.length j102)]) [0, 1, 2, 4, 8] (fun k v u u' => match k with | 0 => v = .slice (some ⟨u.heap.size, 0, none⟩) 1 1 ∧ u' = u.alloc (.cells (([2] : List Int).map (Value.int .i64)).toArray 3) | 1 => v = .slice (some ⟨u.heap.size, 0, none⟩) 2 2 ∧ u' = u.alloc (.cells (([2, 0] : List Int).map (Value.int .i64)).toArray 3) | 2 => RetAC u T (a1) (.returned v) u' | 4 => RetAE u (fun b => u.heap.size ≤ b) (r1) (0) (.returned v) u' | 8 => v = .pointer (some ⟨u.heap.size, 0, none⟩) ∧ u' = u.alloc (.cells #[.int .i64 0, .slice none 0 0, .slice none 0 0, .slice none 0 0] 26) | _ => False) (fun _ _ h e => h.up e) (Sees.start (all_cons ((E.out.hdr 7 rfl).c0) (all_cons ((E.out.hdr 7 rfl).c1) (all_cons ((E.out.hdr 7 rfl).c2) (all_cons ((E.out.hdr 7 rfl).c3) (all_nil)))))) (by kernel_rfl) ?_
  simp only [withEdge, List.modify_succ_cons, List.modify_zero_cons, List.push_toArray, List.cons_append, List.nil_append]
  simp only [List.take_succ_cons, List.take_zero, List.drop_succ_cons, List.drop_zero]
  repeat (first | (refine m_plain (v := ?_) (by rfl) (by rfl) ?_ ?_; rotate_left; (intro wz hSw; obtain ⟨-, hSc⟩ := hSw; (try simp only [List.forall_mem_cons, List.forall_mem_nil, and_true] at hSc); go_simp; (first | done | with_reducible rfl)); (intro K hK; (try simp only [Act.put, List.setIfInBounds_toArray, List.set_cons_zero, List.set_cons_succ]); refine hK _ _ ?_; clear hK K)) | (refine m_skip (by rfl) (by rfl) ?_; (intro K hK; (try simp only [Act.put, List.setIfInBounds_toArray, List.set_cons_zero, List.set_cons_succ]); refine hK _ _ ?_; clear hK K)))
  refine m_make (by rfl) (by rfl) ?_ ?_
  · intro wz hSw hdep R hRz
    obtain ⟨hSe, hSc⟩ := hSw
    (try simp only [List.forall_mem_cons, List.forall_mem_nil, and_true] at hSc)
    unfold does
    (go_simp; exact hRz.out _ _ ⟨ext_alloc _ _, rfl, rfl⟩)
  intro v0 u0 x0 hG0 K hK
  have hF0 := hG0.fact
  (try dsimp only at hF0)
  obtain ⟨rfl, rfl⟩ := hF0
  (try simp only [Act.put, List.setIfInBounds_toArray, List.set_cons_zero, List.set_cons_succ]); refine hK _ _ ?_; clear hK K
  repeat (first | (refine m_plain (v := ?_) (by rfl) (by rfl) ?_ ?_; rotate_left; (intro wz hSw; obtain ⟨-, hSc⟩ := hSw; (try simp only [List.forall_mem_cons, List.forall_mem_nil, and_true] at hSc); go_simp; (first | done | with_reducible rfl)); (intro K hK; (try simp only [Act.put, List.setIfInBounds_toArray, List.set_cons_zero, List.set_cons_succ]); refine hK _ _ ?_; clear hK K)) | (refine m_skip (by rfl) (by rfl) ?_; (intro K hK; (try simp only [Act.put, List.setIfInBounds_toArray, List.set_cons_zero, List.set_cons_succ]); refine hK _ _ ?_; clear hK K)))
  refine m_make (by rfl) (by rfl) ?_ ?_
  · intro wz hSw hdep R hRz
    obtain ⟨hSe, hSc⟩ := hSw
    (try simp only [List.forall_mem_cons, List.forall_mem_nil, and_true] at hSc)
    unfold does
    (go_simp; exact hRz.out _ _ ⟨ext_alloc _ _, rfl, rfl⟩)
  intro v1 u1 x1 hG1 K hK
  have hF1 := hG1.fact
  (try dsimp only at hF1)
  obtain ⟨rfl, rfl⟩ := hF1
  (try simp only [Act.put, List.setIfInBounds_toArray, List.set_cons_zero, List.set_cons_succ]); refine hK _ _ ?_; clear hK K
  repeat (first | (refine m_plain (v := ?_) (by rfl) (by rfl) ?_ ?_; rotate_left; (intro wz hSw; obtain ⟨-, hSc⟩ := hSw; (try simp only [List.forall_mem_cons, List.forall_mem_nil, and_true] at hSc); go_simp; (first | done | with_reducible rfl)); (intro K hK; (try simp only [Act.put, List.setIfInBounds_toArray, List.set_cons_zero, List.set_cons_succ]); refine hK _ _ ?_; clear hK K)) | (refine m_skip (by rfl) (by rfl) ?_; (intro K hK; (try simp only [Act.put, List.setIfInBounds_toArray, List.set_cons_zero, List.set_cons_succ]); refine hK _ _ ?_; clear hK K)))
  refine m_make (by rfl) (by rfl) ?_ ?_
  · intro wz hSw hdep R hRz
    obtain ⟨hSe, hSc⟩ := hSw
    (try simp only [List.forall_mem_cons, List.forall_mem_nil, and_true] at hSc)
    unfold does
    (go_simp; refine Calls.mono (law23_ints [2] [2, 0] _ _ _ _ _ wz ((lit_at (hdep 0 _ rfl (depB_sound (f := 4) (by kernel_rfl))) (by first | decide | simp)).mono (fun b _ hb => hT2 b (Nat.le_trans (Below.size hG0.s.1) hb))) ((lit_at (hdep 1 _ rfl (depB_sound (f := 4) (by kernel_rfl))) (by first | decide | simp)).mono (fun b _ hb => hT2 b (Nat.le_trans (Below.size hG1.s.1) hb))) (by decide) (by decide)) ?_; intro e wq h; obtain ⟨v, rfl, h1⟩ := retAC_arm hT2 hSe (h.eq ha1.out); exact ⟨_, rfl, hRz.out _ _ h1⟩)
  intro v2 u2 x2 hG2 K hK
  have hF2 := hG2.fact
  (try dsimp only at hF2)
  obtain ⟨s2, c2, n2, m2, i2, j2, he, hA2, hb2, hC2⟩ := hF2
  injection he with he
  subst he
  replace hC2 := hid hC2
  (try simp only [Act.put, List.setIfInBounds_toArray, List.set_cons_zero, List.set_cons_succ]); refine hK _ _ ?_; clear hK K
  repeat (first | (refine m_plain (v := ?_) (by rfl) (by rfl) ?_ ?_; rotate_left; (intro wz hSw; obtain ⟨-, hSc⟩ := hSw; (try simp only [List.forall_mem_cons, List.forall_mem_nil, and_true] at hSc); go_simp; (first | done | with_reducible rfl)); (intro K hK; (try simp only [Act.put, List.setIfInBounds_toArray, List.set_cons_zero, List.set_cons_succ]); refine hK _ _ ?_; clear hK K)) | (refine m_skip (by rfl) (by rfl) ?_; (intro K hK; (try simp only [Act.put, List.setIfInBounds_toArray, List.set_cons_zero, List.set_cons_succ]); refine hK _ _ ?_; clear hK K)))
  refine m_make (by rfl) (by rfl) ?_ ?_
  · intro wz hSw hdep R hRz
    obtain ⟨hSe, hSc⟩ := hSw
    (try simp only [List.forall_mem_cons, List.forall_mem_nil, and_true] at hSc)
    unfold does
    (go_simp; refine Calls.mono (N_indexing_From a1 _ _ _ _ _ _ av _ _ _ _ _ _ _ wz (hA2.up (hdep 2 _ rfl (depB_sound (f := 4) (by kernel_rfl)))) (ArrAt.up (ArrAt.mono (fun b _ h => hT1 b h) _ (E.out.arr 6 rfl)) hSe) hC102.out.1 hL1.out hLv.out) ?_; intro e wq h; obtain ⟨ta, tc, tn, tnc, ti, tic, rfl, hq, hqb⟩ := (h.eq hr1.out z1.out); exact ⟨_, rfl, hRz.out _ _ ⟨hqb, ta, tc, tn, tnc, ti, tic, rfl, hq, hqb⟩⟩)
  intro v4 u4 x4 hG4 K hK
  have hF4 := hG4.fact
  (try dsimp only at hF4)
  obtain ⟨s4, c4, n4, m4, i4, j4, he, hA4, hb4⟩ := hF4
  injection he with he
  subst he
  (try simp only [Act.put, List.setIfInBounds_toArray, List.set_cons_zero, List.set_cons_succ]); refine hK _ _ ?_; clear hK K
  repeat (first | (refine m_plain (v := ?_) (by rfl) (by rfl) ?_ ?_; rotate_left; (intro wz hSw; obtain ⟨-, hSc⟩ := hSw; (try simp only [List.forall_mem_cons, List.forall_mem_nil, and_true] at hSc); go_simp; (first | done | with_reducible rfl)); (intro K hK; (try simp only [Act.put, List.setIfInBounds_toArray, List.set_cons_zero, List.set_cons_succ]); refine hK _ _ ?_; clear hK K)) | (refine m_skip (by rfl) (by rfl) ?_; (intro K hK; (try simp only [Act.put, List.setIfInBounds_toArray, List.set_cons_zero, List.set_cons_succ]); refine hK _ _ ?_; clear hK K)))
  refine m_make (by rfl) (by rfl) ?_ ?_
  · intro wz hSw hdep R hRz
    obtain ⟨hSe, hSc⟩ := hSw
    (try simp only [List.forall_mem_cons, List.forall_mem_nil, and_true] at hSc)
    unfold does
    (go_simp; exact hRz.out _ _ ⟨ext_alloc _ _, rfl, rfl⟩)
  intro v8 u8 x8 hG8 K hK
  have hF8 := hG8.fact
  (try dsimp only at hF8)
  obtain ⟨rfl, rfl⟩ := hF8
  (try simp only [Act.put, List.setIfInBounds_toArray, List.set_cons_zero, List.set_cons_succ]); refine hK _ _ ?_; clear hK K
  repeat (first | (refine m_plain (v := ?_) (by rfl) (by rfl) ?_ ?_; rotate_left; (intro wz hSw; obtain ⟨-, hSc⟩ := hSw; (try simp only [List.forall_mem_cons, List.forall_mem_nil, and_true] at hSc); go_simp; (first | done | with_reducible rfl)); (intro K hK; (try simp only [Act.put, List.setIfInBounds_toArray, List.set_cons_zero, List.set_cons_succ]); refine hK _ _ ?_; clear hK K)) | (refine m_skip (by rfl) (by rfl) ?_; (intro K hK; (try simp only [Act.put, List.setIfInBounds_toArray, List.set_cons_zero, List.set_cons_succ]); refine hK _ _ ?_; clear hK K)))
  refine m_nil ?_
  intro wf hSf hAf
  replace E := hid (E.out.varO hA4 (hAf 4 _ rfl) (hG8.order 4 _ rfl) hG4.s.1 hG8.s.1 (hAf 8 _ rfl) hSf.1)
  refine wpl_store4 (by rfl) (.tmp 3) (.tmp 27) (by rfl) _ (by rfl) (by rfl) (E.out.hdr 8 rfl) ?_
  intro V3 HV CV
  replace E := hid (E.out.chg 8 rfl CV HV)
  clear CV HV hSf hAf
  (try simp only [List.cons_append, List.nil_append, List.set_cons_zero, List.set_cons_succ] at E)
  clear hG0 hG1 hG2 hG4 hG8 hA2 hA4 hb2 hb4 hT1 hT2 hT3 hC2
  generalize u8.heap.size = p1 at E ⊢
  obtain ⟨s111, hq⟩ : ∃ s, s = s4 := ⟨_, rfl⟩
  subst hq
  obtain ⟨c111, hq⟩ : ∃ s, s = c4 := ⟨_, rfl⟩
  subst hq
  obtain ⟨n111, hq⟩ : ∃ s, s = n4 := ⟨_, rfl⟩
  subst hq
  obtain ⟨m111, hq⟩ : ∃ s, s = m4 := ⟨_, rfl⟩
  subst hq
  obtain ⟨i111, hq⟩ : ∃ s, s = i4 := ⟨_, rfl⟩
  subst hq
  obtain ⟨j111, hq⟩ : ∃ s, s = j4 := ⟨_, rfl⟩
  subst hq
  go_upto_region 4 with fail
  go_wp2_with fail
  replace E := hid (E.out.lit2 [2] [1, 0] (by decide) (by decide))
  (try simp only [List.cons_append, List.nil_append, List.set_cons_zero, List.set_cons_succ] at E)
  refine (law23_ints [2] [1, 0] _ _ _ _ _ _ (E.out.ints 10 rfl) (E.out.ints 11 rfl) (by decide) (by decide)).mono ?_
  intro e w4 h
  obtain ⟨s103, c103, n103, m103, i103, j103, rfl, hA, hb, hC103⟩ := h.eq ha2.out
  replace E := hid ((E.out.up hb).addArr hA (fun b _ hq => E.out.res (Ext.refl _) hq))
  replace hC103 := hid hC103
  clear hA hb h
  (try simp only [List.cons_append, List.nil_append, List.set_cons_zero, List.set_cons_succ] at E)
  go_wp2_with fail
  replace E := hid (E.out.lit2 [2, 2] [1, 2, 3, 4] (by decide) (by decide))
  (try simp only [List.cons_append, List.nil_append, List.set_cons_zero, List.set_cons_succ] at E)
  refine (law23_ints [2, 2] [1, 2, 3, 4] _ _ _ _ _ _ (E.out.ints 13 rfl) (E.out.ints 14 rfl) (by decide) (by decide)).mono ?_
  intro e w5 h
  obtain ⟨s104, c104, n104, m104, i104, j104, rfl, hA, hb, hC104⟩ := h.eq ha3.out
  replace E := hid ((E.out.up hb).addArr hA (fun b _ hq => E.out.res (Ext.refl _) hq))
  replace hC104 := hid hC104
  clear hA hb h
  (try simp only [List.cons_append, List.nil_append, List.set_cons_zero, List.set_cons_succ] at E)
  go_wp2_with fail
  refine (indexing_Pick a2 _ _ _ _ _ _ a3 _ _ _ _ _ _ _ _ (E.out.arr 12 rfl) (E.out.arr 15 rfl)).mono ?_
  intro e w6 h
  obtain ⟨s112, c112, n112, m112, i112, j112, rfl, hA, hb⟩ := h.eq hr2.out z2.out
  replace E := hid ((E.out.up hb).addArr hA (fun b _ hq => E.out.res (Ext.refl _) hq))
  clear hA hb h
  (try simp only [List.cons_append, List.nil_append, List.set_cons_zero, List.set_cons_succ] at E)
  go_upto_region 5 with (refine wpl_store4 rfl (.tmp 5) (.tmp 37) rfl _ rfl rfl ((E.out.alloc _).hdr 17 rfl) ?_; intro V4 HV CV; replace E := hid ((E.out.alloc _).chg 17 rfl CV HV); clear CV HV; (try simp only [List.cons_append, List.nil_append, List.set_cons_zero, List.set_cons_succ] at E))
  generalize w6.heap.size = p2 at E ⊢
  clear hC103 hC104
  obtain ⟨T, hT1, hT2, hT3⟩ := E.out.tw
  refine wp_region_edge 11 13 (by kernel_rfl) (by kernel_rfl) (fun o _ v c a w h => by cases hd : o.dst <;> (rw [hd] at h; exact h)) _ rfl 13 (Sees V4 [(⟨pm, 0, none⟩, .int .i64 am.kind), (⟨pm, 1, none⟩, .slice s101 am.shape.length c101), (⟨pm, 2, none⟩, .slice n101 am.nums.length m101), (⟨pm, 3, none⟩, .slice i101 am.items.length j101)]) [0, 1, 2, 3, 4, 5, 6, 8, 12] (fun k v u u' => match k with | 0 => v = .slice (some ⟨u.heap.size, 0, none⟩) 1 1 ∧ u' = u.alloc (.cells (([1] : List Int).map (Value.int .i64)).toArray 3) | 1 => RetAC u T (a4) (.returned v) u' | 2 => v = .slice (some ⟨u.heap.size, 0, none⟩) 1 1 ∧ u' = u.alloc (.cells (([2] : List Int).map (Value.int .i64)).toArray 3) | 3 => v = .slice (some ⟨u.heap.size, 0, none⟩) 2 2 ∧ u' = u.alloc (.cells (([2, 0] : List Int).map (Value.int .i64)).toArray 3) | 4 => RetAC u T (a1) (.returned v) u' | 5 => ∃ b, v = .slice (some ⟨b, 0, none⟩) 2 2 ∧ ItemsAt u' T (some ⟨b, 0, none⟩) 0 [a4, a1] | 6 => RetAC u T (ax5) (.returned v) u' | 8 => RetAE u (fun b => u.heap.size ≤ b) (r3) (0) (.returned v) u' | 12 => v = .pointer (some ⟨u.heap.size, 0, none⟩) ∧ u' = u.alloc (.cells #[.int .i64 0, .slice none 0 0, .slice none 0 0, .slice none 0 0] 26) | _ => False) (fun _ _ h e => h.up e) (Sees.start (all_cons ((E.out.hdr 3 rfl).c0) (all_cons ((E.out.hdr 3 rfl).c1) (all_cons ((E.out.hdr 3 rfl).c2) (all_cons ((E.out.hdr 3 rfl).c3) (all_nil)))))) (by kernel_rfl) ?_
  simp only [withEdge, List.modify_succ_cons, List.modify_zero_cons, List.push_toArray, List.cons_append, List.nil_append]
  simp only [List.take_succ_cons, List.take_zero, List.drop_succ_cons, List.drop_zero]
  repeat (first | (refine m_plain (v := ?_) (by rfl) (by rfl) ?_ ?_; rotate_left; (intro wz hSw; obtain ⟨-, hSc⟩ := hSw; (try simp only [List.forall_mem_cons, List.forall_mem_nil, and_true] at hSc); go_simp; (first | done | with_reducible rfl)); (intro K hK; (try simp only [Act.put, List.setIfInBounds_toArray, List.set_cons_zero, List.set_cons_succ]); refine hK _ _ ?_; clear hK K)) | (refine m_skip (by rfl) (by rfl) ?_; (intro K hK; (try simp only [Act.put, List.setIfInBounds_toArray, List.set_cons_zero, List.set_cons_succ]); refine hK _ _ ?_; clear hK K)))
  refine m_make (by rfl) (by rfl) ?_ ?_
  · intro wz hSw hdep R hRz
    obtain ⟨hSe, hSc⟩ := hSw
    (try simp only [List.forall_mem_cons, List.forall_mem_nil, and_true] at hSc)
    unfold does
    (go_simp; exact hRz.out _ _ ⟨ext_alloc _ _, rfl, rfl⟩)
  intro v0 u0 x0 hG0 K hK
  have hF0 := hG0.fact
  (try dsimp only at hF0)
  obtain ⟨rfl, rfl⟩ := hF0
  (try simp only [Act.put, List.setIfInBounds_toArray, List.set_cons_zero, List.set_cons_succ]); refine hK _ _ ?_; clear hK K
  repeat (first | (refine m_plain (v := ?_) (by rfl) (by rfl) ?_ ?_; rotate_left; (intro wz hSw; obtain ⟨-, hSc⟩ := hSw; (try simp only [List.forall_mem_cons, List.forall_mem_nil, and_true] at hSc); go_simp; (first | done | with_reducible rfl)); (intro K hK; (try simp only [Act.put, List.setIfInBounds_toArray, List.set_cons_zero, List.set_cons_succ]); refine hK _ _ ?_; clear hK K)) | (refine m_skip (by rfl) (by rfl) ?_; (intro K hK; (try simp only [Act.put, List.setIfInBounds_toArray, List.set_cons_zero, List.set_cons_succ]); refine hK _ _ ?_; clear hK K)))
  refine m_make (by rfl) (by rfl) ?_ ?_
  · intro wz hSw hdep R hRz
    obtain ⟨hSe, hSc⟩ := hSw
    (try simp only [List.forall_mem_cons, List.forall_mem_nil, and_true] at hSc)
    unfold does
    (go_simp; refine Calls.mono (law23_ints [] [1] none 0 _ _ _ wz (IntsAt.nil _ _ _) ((lit_at (hdep 0 _ rfl (depB_sound (f := 4) (by kernel_rfl))) (by first | decide | simp)).mono (fun b _ hb => hT2 b (Nat.le_trans (Below.size hG0.s.1) hb))) (by decide) (by decide)) ?_; intro e wq h; obtain ⟨v, rfl, h1⟩ := retAC_arm hT2 hSe (h.eq ha4.out); exact ⟨_, rfl, hRz.out _ _ h1⟩)
  intro v1 u1 x1 hG1 K hK
  have hF1 := hG1.fact
  (try dsimp only at hF1)
  obtain ⟨s1, c1, n1, m1, i1, j1, he, hA1, hb1, hC1⟩ := hF1
  injection he with he
  subst he
  replace hC1 := hid hC1
  (try simp only [Act.put, List.setIfInBounds_toArray, List.set_cons_zero, List.set_cons_succ]); refine hK _ _ ?_; clear hK K
  repeat (first | (refine m_plain (v := ?_) (by rfl) (by rfl) ?_ ?_; rotate_left; (intro wz hSw; obtain ⟨-, hSc⟩ := hSw; (try simp only [List.forall_mem_cons, List.forall_mem_nil, and_true] at hSc); go_simp; (first | done | with_reducible rfl)); (intro K hK; (try simp only [Act.put, List.setIfInBounds_toArray, List.set_cons_zero, List.set_cons_succ]); refine hK _ _ ?_; clear hK K)) | (refine m_skip (by rfl) (by rfl) ?_; (intro K hK; (try simp only [Act.put, List.setIfInBounds_toArray, List.set_cons_zero, List.set_cons_succ]); refine hK _ _ ?_; clear hK K)))
  refine m_make (by rfl) (by rfl) ?_ ?_
  · intro wz hSw hdep R hRz
    obtain ⟨hSe, hSc⟩ := hSw
    (try simp only [List.forall_mem_cons, List.forall_mem_nil, and_true] at hSc)
    unfold does
    (go_simp; exact hRz.out _ _ ⟨ext_alloc _ _, rfl, rfl⟩)
  intro v2 u2 x2 hG2 K hK
  have hF2 := hG2.fact
  (try dsimp only at hF2)
  obtain ⟨rfl, rfl⟩ := hF2
  (try simp only [Act.put, List.setIfInBounds_toArray, List.set_cons_zero, List.set_cons_succ]); refine hK _ _ ?_; clear hK K
  repeat (first | (refine m_plain (v := ?_) (by rfl) (by rfl) ?_ ?_; rotate_left; (intro wz hSw; obtain ⟨-, hSc⟩ := hSw; (try simp only [List.forall_mem_cons, List.forall_mem_nil, and_true] at hSc); go_simp; (first | done | with_reducible rfl)); (intro K hK; (try simp only [Act.put, List.setIfInBounds_toArray, List.set_cons_zero, List.set_cons_succ]); refine hK _ _ ?_; clear hK K)) | (refine m_skip (by rfl) (by rfl) ?_; (intro K hK; (try simp only [Act.put, List.setIfInBounds_toArray, List.set_cons_zero, List.set_cons_succ]); refine hK _ _ ?_; clear hK K)))
  refine m_make (by rfl) (by rfl) ?_ ?_
  · intro wz hSw hdep R hRz
    obtain ⟨hSe, hSc⟩ := hSw
    (try simp only [List.forall_mem_cons, List.forall_mem_nil, and_true] at hSc)
    unfold does
    (go_simp; exact hRz.out _ _ ⟨ext_alloc _ _, rfl, rfl⟩)
  intro v3 u3 x3 hG3 K hK
  have hF3 := hG3.fact
  (try dsimp only at hF3)
  obtain ⟨rfl, rfl⟩ := hF3
  (try simp only [Act.put, List.setIfInBounds_toArray, List.set_cons_zero, List.set_cons_succ]); refine hK _ _ ?_; clear hK K
  repeat (first | (refine m_plain (v := ?_) (by rfl) (by rfl) ?_ ?_; rotate_left; (intro wz hSw; obtain ⟨-, hSc⟩ := hSw; (try simp only [List.forall_mem_cons, List.forall_mem_nil, and_true] at hSc); go_simp; (first | done | with_reducible rfl)); (intro K hK; (try simp only [Act.put, List.setIfInBounds_toArray, List.set_cons_zero, List.set_cons_succ]); refine hK _ _ ?_; clear hK K)) | (refine m_skip (by rfl) (by rfl) ?_; (intro K hK; (try simp only [Act.put, List.setIfInBounds_toArray, List.set_cons_zero, List.set_cons_succ]); refine hK _ _ ?_; clear hK K)))
  refine m_make (by rfl) (by rfl) ?_ ?_
  · intro wz hSw hdep R hRz
    obtain ⟨hSe, hSc⟩ := hSw
    (try simp only [List.forall_mem_cons, List.forall_mem_nil, and_true] at hSc)
    unfold does
    (go_simp; refine Calls.mono (law23_ints [2] [2, 0] _ _ _ _ _ wz ((lit_at (hdep 2 _ rfl (depB_sound (f := 4) (by kernel_rfl))) (by first | decide | simp)).mono (fun b _ hb => hT2 b (Nat.le_trans (Below.size hG2.s.1) hb))) ((lit_at (hdep 3 _ rfl (depB_sound (f := 4) (by kernel_rfl))) (by first | decide | simp)).mono (fun b _ hb => hT2 b (Nat.le_trans (Below.size hG3.s.1) hb))) (by decide) (by decide)) ?_; intro e wq h; obtain ⟨v, rfl, h1⟩ := retAC_arm hT2 hSe (h.eq ha1.out); exact ⟨_, rfl, hRz.out _ _ h1⟩)
  intro v4 u4 x4 hG4 K hK
  have hF4 := hG4.fact
  (try dsimp only at hF4)
  obtain ⟨s4, c4, n4, m4, i4, j4, he, hA4, hb4, hC4⟩ := hF4
  injection he with he
  subst he
  replace hC4 := hid hC4
  (try simp only [Act.put, List.setIfInBounds_toArray, List.set_cons_zero, List.set_cons_succ]); refine hK _ _ ?_; clear hK K
  repeat (first | (refine m_plain (v := ?_) (by rfl) (by rfl) ?_ ?_; rotate_left; (intro wz hSw; obtain ⟨-, hSc⟩ := hSw; (try simp only [List.forall_mem_cons, List.forall_mem_nil, and_true] at hSc); go_simp; (first | done | with_reducible rfl)); (intro K hK; (try simp only [Act.put, List.setIfInBounds_toArray, List.set_cons_zero, List.set_cons_succ]); refine hK _ _ ?_; clear hK K)) | (refine m_skip (by rfl) (by rfl) ?_; (intro K hK; (try simp only [Act.put, List.setIfInBounds_toArray, List.set_cons_zero, List.set_cons_succ]); refine hK _ _ ?_; clear hK K)))
  refine m_make (by rfl) (by rfl) ?_ ?_
  · intro wz hSw hdep R hRz
    obtain ⟨hSe, hSc⟩ := hSw
    (try simp only [List.forall_mem_cons, List.forall_mem_nil, and_true] at hSc)
    unfold does
    (go_simp; exact hRz.out _ _ ⟨ext_alloc _ _, _, rfl, pair_items (hT2 _ (Below.size hSe)) (hA1.up (hdep 1 _ rfl (depB_sound (f := 4) (by kernel_rfl)))) (hA4.up (hdep 4 _ rfl (depB_sound (f := 4) (by kernel_rfl))))⟩)
  intro v5 u5 x5 hG5 K hK
  have hF5 := hG5.fact
  (try dsimp only at hF5)
  obtain ⟨b5, rfl, hI5⟩ := hF5
  (try simp only [Act.put, List.setIfInBounds_toArray, List.set_cons_zero, List.set_cons_succ]); refine hK _ _ ?_; clear hK K
  repeat (first | (refine m_plain (v := ?_) (by rfl) (by rfl) ?_ ?_; rotate_left; (intro wz hSw; obtain ⟨-, hSc⟩ := hSw; (try simp only [List.forall_mem_cons, List.forall_mem_nil, and_true] at hSc); go_simp; (first | done | with_reducible rfl)); (intro K hK; (try simp only [Act.put, List.setIfInBounds_toArray, List.set_cons_zero, List.set_cons_succ]); refine hK _ _ ?_; clear hK K)) | (refine m_skip (by rfl) (by rfl) ?_; (intro K hK; (try simp only [Act.put, List.setIfInBounds_toArray, List.set_cons_zero, List.set_cons_succ]); refine hK _ _ ?_; clear hK K)))
  refine m_make (by rfl) (by rfl) ?_ ?_
  · intro wz hSw hdep R hRz
    obtain ⟨hSe, hSc⟩ := hSw
    (try simp only [List.forall_mem_cons, List.forall_mem_nil, and_true] at hSc)
    unfold does
    (go_simp; refine Calls.mono (law23_boxes [a4, a1] _ 2 _ wz (hI5.later (hdep 5 _ rfl (depB_sound (f := 4) (by kernel_rfl)))) (by simp) (by simp)) ?_; intro e wq h; obtain ⟨v, rfl, h1⟩ := retAC_arm hT2 hSe (h.eq hx5.out); exact ⟨_, rfl, hRz.out _ _ h1⟩)
  intro v6 u6 x6 hG6 K hK
  have hF6 := hG6.fact
  (try dsimp only at hF6)
  obtain ⟨s6, c6, n6, m6, i6, j6, he, hA6, hb6, hC6⟩ := hF6
  injection he with he
  subst he
  replace hC6 := hid hC6
  (try simp only [Act.put, List.setIfInBounds_toArray, List.set_cons_zero, List.set_cons_succ]); refine hK _ _ ?_; clear hK K
  repeat (first | (refine m_plain (v := ?_) (by rfl) (by rfl) ?_ ?_; rotate_left; (intro wz hSw; obtain ⟨-, hSc⟩ := hSw; (try simp only [List.forall_mem_cons, List.forall_mem_nil, and_true] at hSc); go_simp; (first | done | with_reducible rfl)); (intro K hK; (try simp only [Act.put, List.setIfInBounds_toArray, List.set_cons_zero, List.set_cons_succ]); refine hK _ _ ?_; clear hK K)) | (refine m_skip (by rfl) (by rfl) ?_; (intro K hK; (try simp only [Act.put, List.setIfInBounds_toArray, List.set_cons_zero, List.set_cons_succ]); refine hK _ _ ?_; clear hK K)))
  refine m_make (by rfl) (by rfl) ?_ ?_
  · intro wz hSw hdep R hRz
    obtain ⟨hSe, hSc⟩ := hSw
    (try simp only [List.forall_mem_cons, List.forall_mem_nil, and_true] at hSc)
    unfold does
    (go_simp; refine Calls.mono (N_indexing_Select ax5 _ _ _ _ _ _ am _ _ _ _ _ _ _ wz (hA6.up (hdep 6 _ rfl (depB_sound (f := 4) (by kernel_rfl)))) (ArrAt.up (ArrAt.mono (fun b _ h => hT1 b h) _ (E.out.arr 2 rfl)) hSe) (hIx5.out _ _) hC101.out.1) ?_; intro e wq h; obtain ⟨ta, tc, tn, tnc, ti, tic, rfl, hq, hqb⟩ := (h.eq hr3.out z3.out); exact ⟨_, rfl, hRz.out _ _ ⟨hqb, ta, tc, tn, tnc, ti, tic, rfl, hq, hqb⟩⟩)
  intro v8 u8 x8 hG8 K hK
  have hF8 := hG8.fact
  (try dsimp only at hF8)
  obtain ⟨s8, c8, n8, m8, i8, j8, he, hA8, hb8⟩ := hF8
  injection he with he
  subst he
  (try simp only [Act.put, List.setIfInBounds_toArray, List.set_cons_zero, List.set_cons_succ]); refine hK _ _ ?_; clear hK K
  repeat (first | (refine m_plain (v := ?_) (by rfl) (by rfl) ?_ ?_; rotate_left; (intro wz hSw; obtain ⟨-, hSc⟩ := hSw; (try simp only [List.forall_mem_cons, List.forall_mem_nil, and_true] at hSc); go_simp; (first | done | with_reducible rfl)); (intro K hK; (try simp only [Act.put, List.setIfInBounds_toArray, List.set_cons_zero, List.set_cons_succ]); refine hK _ _ ?_; clear hK K)) | (refine m_skip (by rfl) (by rfl) ?_; (intro K hK; (try simp only [Act.put, List.setIfInBounds_toArray, List.set_cons_zero, List.set_cons_succ]); refine hK _ _ ?_; clear hK K)))
  refine m_make (by rfl) (by rfl) ?_ ?_
  · intro wz hSw hdep R hRz
    obtain ⟨hSe, hSc⟩ := hSw
    (try simp only [List.forall_mem_cons, List.forall_mem_nil, and_true] at hSc)
    unfold does
    (go_simp; exact hRz.out _ _ ⟨ext_alloc _ _, rfl, rfl⟩)
  intro v12 u12 x12 hG12 K hK
  have hF12 := hG12.fact
  (try dsimp only at hF12)
  obtain ⟨rfl, rfl⟩ := hF12
  (try simp only [Act.put, List.setIfInBounds_toArray, List.set_cons_zero, List.set_cons_succ]); refine hK _ _ ?_; clear hK K
  repeat (first | (refine m_plain (v := ?_) (by rfl) (by rfl) ?_ ?_; rotate_left; (intro wz hSw; obtain ⟨-, hSc⟩ := hSw; (try simp only [List.forall_mem_cons, List.forall_mem_nil, and_true] at hSc); go_simp; (first | done | with_reducible rfl)); (intro K hK; (try simp only [Act.put, List.setIfInBounds_toArray, List.set_cons_zero, List.set_cons_succ]); refine hK _ _ ?_; clear hK K)) | (refine m_skip (by rfl) (by rfl) ?_; (intro K hK; (try simp only [Act.put, List.setIfInBounds_toArray, List.set_cons_zero, List.set_cons_succ]); refine hK _ _ ?_; clear hK K)))
  refine m_nil ?_
  intro wf hSf hAf
  replace E := hid (E.out.varO hA8 (hAf 8 _ rfl) (hG12.order 8 _ rfl) hG8.s.1 hG12.s.1 (hAf 12 _ rfl) hSf.1)
  refine wpl_store4 (by rfl) (.tmp 7) (.tmp 49) (by rfl) _ (by rfl) (by rfl) (E.out.hdr 18 rfl) ?_
  intro V5 HV CV
  replace E := hid (E.out.chg 18 rfl CV HV)
  clear CV HV hSf hAf
  (try simp only [List.cons_append, List.nil_append, List.set_cons_zero, List.set_cons_succ] at E)
  clear hG0 hG1 hG2 hG3 hG4 hG5 hG6 hG8 hG12 hA1 hA4 hA6 hA8 hI5 hb1 hb4 hb6 hb8 hT1 hT2 hT3 hC1 hC4 hC6
  generalize u12.heap.size = p3 at E ⊢
  obtain ⟨s113, hq⟩ : ∃ s, s = s8 := ⟨_, rfl⟩
  subst hq
  obtain ⟨c113, hq⟩ : ∃ s, s = c8 := ⟨_, rfl⟩
  subst hq
  obtain ⟨n113, hq⟩ : ∃ s, s = n8 := ⟨_, rfl⟩
  subst hq
  obtain ⟨m113, hq⟩ : ∃ s, s = m8 := ⟨_, rfl⟩
  subst hq
  obtain ⟨i113, hq⟩ : ∃ s, s = i8 := ⟨_, rfl⟩
  subst hq
  obtain ⟨j113, hq⟩ : ∃ s, s = j8 := ⟨_, rfl⟩
  subst hq
  go_upto_region 6 with fail
  obtain ⟨T, hT1, hT2, hT3⟩ := E.out.tw
  refine wp_region_edge 6 8 (by kernel_rfl) (by kernel_rfl) (fun o _ v c a w h => by cases hd : o.dst <;> (rw [hd] at h; exact h)) _ rfl 8 (Sees V5 [(⟨pm, 0, none⟩, .int .i64 am.kind), (⟨pm, 1, none⟩, .slice s101 am.shape.length c101), (⟨pm, 2, none⟩, .slice n101 am.nums.length m101), (⟨pm, 3, none⟩, .slice i101 am.items.length j101)]) [0, 1, 3, 7] (fun k v u u' => match k with | 0 => v = .slice (some ⟨u.heap.size, 0, none⟩) 1 1 ∧ u' = u.alloc (.cells (([1] : List Int).map (Value.int .i64)).toArray 3) | 1 => RetI u T (a4) (.returned v) u' | 3 => RetAE u (fun b => u.heap.size ≤ b) (r4) (0) (.returned v) u' | 7 => v = .pointer (some ⟨u.heap.size, 0, none⟩) ∧ u' = u.alloc (.cells #[.int .i64 0, .slice none 0 0, .slice none 0 0, .slice none 0 0] 26) | _ => False) (fun _ _ h e => h.up e) (Sees.start (all_cons ((E.out.hdr 3 rfl).c0) (all_cons ((E.out.hdr 3 rfl).c1) (all_cons ((E.out.hdr 3 rfl).c2) (all_cons ((E.out.hdr 3 rfl).c3) (all_nil)))))) (by kernel_rfl) ?_
  simp only [withEdge, List.modify_succ_cons, List.modify_zero_cons, List.push_toArray, List.cons_append, List.nil_append]
  simp only [List.take_succ_cons, List.take_zero, List.drop_succ_cons, List.drop_zero]
  repeat (first | (refine m_plain (v := ?_) (by rfl) (by rfl) ?_ ?_; rotate_left; (intro wz hSw; obtain ⟨-, hSc⟩ := hSw; (try simp only [List.forall_mem_cons, List.forall_mem_nil, and_true] at hSc); go_simp; (first | done | with_reducible rfl)); (intro K hK; (try simp only [Act.put, List.setIfInBounds_toArray, List.set_cons_zero, List.set_cons_succ]); refine hK _ _ ?_; clear hK K)) | (refine m_skip (by rfl) (by rfl) ?_; (intro K hK; (try simp only [Act.put, List.setIfInBounds_toArray, List.set_cons_zero, List.set_cons_succ]); refine hK _ _ ?_; clear hK K)))
  refine m_make (by rfl) (by rfl) ?_ ?_
  · intro wz hSw hdep R hRz
    obtain ⟨hSe, hSc⟩ := hSw
    (try simp only [List.forall_mem_cons, List.forall_mem_nil, and_true] at hSc)
    unfold does
    (go_simp; exact hRz.out _ _ ⟨ext_alloc _ _, rfl, rfl⟩)
  intro v0 u0 x0 hG0 K hK
  have hF0 := hG0.fact
  (try dsimp only at hF0)
  obtain ⟨rfl, rfl⟩ := hF0
  (try simp only [Act.put, List.setIfInBounds_toArray, List.set_cons_zero, List.set_cons_succ]); refine hK _ _ ?_; clear hK K
  repeat (first | (refine m_plain (v := ?_) (by rfl) (by rfl) ?_ ?_; rotate_left; (intro wz hSw; obtain ⟨-, hSc⟩ := hSw; (try simp only [List.forall_mem_cons, List.forall_mem_nil, and_true] at hSc); go_simp; (first | done | with_reducible rfl)); (intro K hK; (try simp only [Act.put, List.setIfInBounds_toArray, List.set_cons_zero, List.set_cons_succ]); refine hK _ _ ?_; clear hK K)) | (refine m_skip (by rfl) (by rfl) ?_; (intro K hK; (try simp only [Act.put, List.setIfInBounds_toArray, List.set_cons_zero, List.set_cons_succ]); refine hK _ _ ?_; clear hK K)))
  refine m_make (by rfl) (by rfl) ?_ ?_
  · intro wz hSw hdep R hRz
    obtain ⟨hSe, hSc⟩ := hSw
    (try simp only [List.forall_mem_cons, List.forall_mem_nil, and_true] at hSc)
    unfold does
    (go_simp; refine Calls.mono (law23_intsI [] [1] none 0 _ _ _ wz (IntsAt.nil _ _ _) ((lit_at (hdep 0 _ rfl (depB_sound (f := 4) (by kernel_rfl))) (by first | decide | simp)).mono (fun b _ hb => hT2 b (Nat.le_trans (Below.size hG0.s.1) hb))) (by decide) (by decide)) ?_; intro e wq h; obtain ⟨v, rfl, h1⟩ := retI_arm hT2 hSe (h.eq ha4.out); exact ⟨_, rfl, hRz.out _ _ h1⟩)
  intro v1 u1 x1 hG1 K hK
  have hF1 := hG1.fact
  (try dsimp only at hF1)
  obtain ⟨s1, c1, n1, m1, he, hA1, hb1, hC1⟩ := hF1
  injection he with he
  subst he
  replace hC1 := hid hC1
  (try simp only [Act.put, List.setIfInBounds_toArray, List.set_cons_zero, List.set_cons_succ]); refine hK _ _ ?_; clear hK K
  repeat (first | (refine m_plain (v := ?_) (by rfl) (by rfl) ?_ ?_; rotate_left; (intro wz hSw; obtain ⟨-, hSc⟩ := hSw; (try simp only [List.forall_mem_cons, List.forall_mem_nil, and_true] at hSc); go_simp; (first | done | with_reducible rfl)); (intro K hK; (try simp only [Act.put, List.setIfInBounds_toArray, List.set_cons_zero, List.set_cons_succ]); refine hK _ _ ?_; clear hK K)) | (refine m_skip (by rfl) (by rfl) ?_; (intro K hK; (try simp only [Act.put, List.setIfInBounds_toArray, List.set_cons_zero, List.set_cons_succ]); refine hK _ _ ?_; clear hK K)))
  refine m_make (by rfl) (by rfl) ?_ ?_
  · intro wz hSw hdep R hRz
    obtain ⟨hSe, hSc⟩ := hSw
    (try simp only [List.forall_mem_cons, List.forall_mem_nil, and_true] at hSc)
    unfold does
    (go_simp; refine Calls.mono (N_indexing_Select a4 _ _ _ _ none 0 am _ _ _ _ _ _ _ wz (hA1.up (hdep 1 _ rfl (depB_sound (f := 4) (by kernel_rfl)))) (ArrAt.up (ArrAt.mono (fun b _ h => hT1 b h) _ (E.out.arr 2 rfl)) hSe) (fun _ => ⟨rfl, rfl, hIa4.out⟩) hC101.out.1) ?_; intro e wq h; obtain ⟨ta, tc, tn, tnc, ti, tic, rfl, hq, hqb⟩ := (h.eq hr4.out z4.out); exact ⟨_, rfl, hRz.out _ _ ⟨hqb, ta, tc, tn, tnc, ti, tic, rfl, hq, hqb⟩⟩)
  intro v3 u3 x3 hG3 K hK
  have hF3 := hG3.fact
  (try dsimp only at hF3)
  obtain ⟨s3, c3, n3, m3, i3, j3, he, hA3, hb3⟩ := hF3
  injection he with he
  subst he
  (try simp only [Act.put, List.setIfInBounds_toArray, List.set_cons_zero, List.set_cons_succ]); refine hK _ _ ?_; clear hK K
  repeat (first | (refine m_plain (v := ?_) (by rfl) (by rfl) ?_ ?_; rotate_left; (intro wz hSw; obtain ⟨-, hSc⟩ := hSw; (try simp only [List.forall_mem_cons, List.forall_mem_nil, and_true] at hSc); go_simp; (first | done | with_reducible rfl)); (intro K hK; (try simp only [Act.put, List.setIfInBounds_toArray, List.set_cons_zero, List.set_cons_succ]); refine hK _ _ ?_; clear hK K)) | (refine m_skip (by rfl) (by rfl) ?_; (intro K hK; (try simp only [Act.put, List.setIfInBounds_toArray, List.set_cons_zero, List.set_cons_succ]); refine hK _ _ ?_; clear hK K)))
  refine m_make (by rfl) (by rfl) ?_ ?_
  · intro wz hSw hdep R hRz
    obtain ⟨hSe, hSc⟩ := hSw
    (try simp only [List.forall_mem_cons, List.forall_mem_nil, and_true] at hSc)
    unfold does
    (go_simp; exact hRz.out _ _ ⟨ext_alloc _ _, rfl, rfl⟩)
  intro v7 u7 x7 hG7 K hK
  have hF7 := hG7.fact
  (try dsimp only at hF7)
  obtain ⟨rfl, rfl⟩ := hF7
  (try simp only [Act.put, List.setIfInBounds_toArray, List.set_cons_zero, List.set_cons_succ]); refine hK _ _ ?_; clear hK K
  repeat (first | (refine m_plain (v := ?_) (by rfl) (by rfl) ?_ ?_; rotate_left; (intro wz hSw; obtain ⟨-, hSc⟩ := hSw; (try simp only [List.forall_mem_cons, List.forall_mem_nil, and_true] at hSc); go_simp; (first | done | with_reducible rfl)); (intro K hK; (try simp only [Act.put, List.setIfInBounds_toArray, List.set_cons_zero, List.set_cons_succ]); refine hK _ _ ?_; clear hK K)) | (refine m_skip (by rfl) (by rfl) ?_; (intro K hK; (try simp only [Act.put, List.setIfInBounds_toArray, List.set_cons_zero, List.set_cons_succ]); refine hK _ _ ?_; clear hK K)))
  refine m_nil ?_
  intro wf hSf hAf
  replace E := hid (E.out.varO hA3 (hAf 3 _ rfl) (hG7.order 3 _ rfl) hG3.s.1 hG7.s.1 (hAf 7 _ rfl) hSf.1)
  refine wpl_store4 (by rfl) (.tmp 9) (.tmp 56) (by rfl) _ (by rfl) (by rfl) (E.out.hdr 20 rfl) ?_
  intro V6 HV CV
  replace E := hid (E.out.chg 20 rfl CV HV)
  clear CV HV hSf hAf
  (try simp only [List.cons_append, List.nil_append, List.set_cons_zero, List.set_cons_succ] at E)
  clear hG0 hG1 hG3 hG7 hA1 hA3 hb1 hb3 hT1 hT2 hT3 hC1
  generalize u7.heap.size = p4 at E ⊢
  obtain ⟨s114, hq⟩ : ∃ s, s = s3 := ⟨_, rfl⟩
  subst hq
  obtain ⟨c114, hq⟩ : ∃ s, s = c3 := ⟨_, rfl⟩
  subst hq
  obtain ⟨n114, hq⟩ : ∃ s, s = n3 := ⟨_, rfl⟩
  subst hq
  obtain ⟨m114, hq⟩ : ∃ s, s = m3 := ⟨_, rfl⟩
  subst hq
  obtain ⟨i114, hq⟩ : ∃ s, s = i3 := ⟨_, rfl⟩
  subst hq
  obtain ⟨j114, hq⟩ : ∃ s, s = j3 := ⟨_, rfl⟩
  subst hq
  go_upto_region 7 with fail
  obtain ⟨T, hT1, hT2, hT3⟩ := E.out.tw
  refine wp_region_edge 12 14 (by kernel_rfl) (by kernel_rfl) (fun o _ v c a w h => by cases hd : o.dst <;> (rw [hd] at h; exact h)) _ rfl 14 (Sees V6 [(⟨pv, 0, none⟩, .int .i64 av.kind), (⟨pv, 1, none⟩, .slice s102 av.shape.length c102), (⟨pv, 2, none⟩, .slice n102 av.nums.length m102), (⟨pv, 3, none⟩, .slice i102 av.items.length j102)]) [0, 1, 2, 3, 4, 5, 6, 7, 9, 13] (fun k v u u' => match k with | 0 => v = .slice (some ⟨u.heap.size, 0, none⟩) 1 1 ∧ u' = u.alloc (.cells (([2] : List Int).map (Value.int .i64)).toArray 3) | 1 => v = .slice (some ⟨u.heap.size, 0, none⟩) 2 2 ∧ u' = u.alloc (.cells (([0, 2] : List Int).map (Value.int .i64)).toArray 3) | 2 => RetAC u T (a6) (.returned v) u' | 3 => v = .slice (some ⟨u.heap.size, 0, none⟩) 1 1 ∧ u' = u.alloc (.cells (([2] : List Int).map (Value.int .i64)).toArray 3) | 4 => v = .slice (some ⟨u.heap.size, 0, none⟩) 2 2 ∧ u' = u.alloc (.cells (([7, 8] : List Int).map (Value.int .i64)).toArray 3) | 5 => RetAC u T (a7) (.returned v) u' | 6 => ∃ b, v = .slice (some ⟨b, 0, none⟩) 2 2 ∧ ItemsAt u' T (some ⟨b, 0, none⟩) 0 [a6, a7] | 7 => RetAC u T (ax7) (.returned v) u' | 9 => RetAE u (fun b => u.heap.size ≤ b) (r5) (0) (.returned v) u' | 13 => v = .pointer (some ⟨u.heap.size, 0, none⟩) ∧ u' = u.alloc (.cells #[.int .i64 0, .slice none 0 0, .slice none 0 0, .slice none 0 0] 26) | _ => False) (fun _ _ h e => h.up e) (Sees.start (all_cons ((E.out.hdr 7 rfl).c0) (all_cons ((E.out.hdr 7 rfl).c1) (all_cons ((E.out.hdr 7 rfl).c2) (all_cons ((E.out.hdr 7 rfl).c3) (all_nil)))))) (by kernel_rfl) ?_
  simp only [withEdge, List.modify_succ_cons, List.modify_zero_cons, List.push_toArray, List.cons_append, List.nil_append]
  simp only [List.take_succ_cons, List.take_zero, List.drop_succ_cons, List.drop_zero]
  repeat (first | (refine m_plain (v := ?_) (by rfl) (by rfl) ?_ ?_; rotate_left; (intro wz hSw; obtain ⟨-, hSc⟩ := hSw; (try simp only [List.forall_mem_cons, List.forall_mem_nil, and_true] at hSc); go_simp; (first | done | with_reducible rfl)); (intro K hK; (try simp only [Act.put, List.setIfInBounds_toArray, List.set_cons_zero, List.set_cons_succ]); refine hK _ _ ?_; clear hK K)) | (refine m_skip (by rfl) (by rfl) ?_; (intro K hK; (try simp only [Act.put, List.setIfInBounds_toArray, List.set_cons_zero, List.set_cons_succ]); refine hK _ _ ?_; clear hK K)))
  refine m_make (by rfl) (by rfl) ?_ ?_
  · intro wz hSw hdep R hRz
    obtain ⟨hSe, hSc⟩ := hSw
    (try simp only [List.forall_mem_cons, List.forall_mem_nil, and_true] at hSc)
    unfold does
    (go_simp; exact hRz.out _ _ ⟨ext_alloc _ _, rfl, rfl⟩)
  intro v0 u0 x0 hG0 K hK
  have hF0 := hG0.fact
  (try dsimp only at hF0)
  obtain ⟨rfl, rfl⟩ := hF0
  (try simp only [Act.put, List.setIfInBounds_toArray, List.set_cons_zero, List.set_cons_succ]); refine hK _ _ ?_; clear hK K
  repeat (first | (refine m_plain (v := ?_) (by rfl) (by rfl) ?_ ?_; rotate_left; (intro wz hSw; obtain ⟨-, hSc⟩ := hSw; (try simp only [List.forall_mem_cons, List.forall_mem_nil, and_true] at hSc); go_simp; (first | done | with_reducible rfl)); (intro K hK; (try simp only [Act.put, List.setIfInBounds_toArray, List.set_cons_zero, List.set_cons_succ]); refine hK _ _ ?_; clear hK K)) | (refine m_skip (by rfl) (by rfl) ?_; (intro K hK; (try simp only [Act.put, List.setIfInBounds_toArray, List.set_cons_zero, List.set_cons_succ]); refine hK _ _ ?_; clear hK K)))
  refine m_make (by rfl) (by rfl) ?_ ?_
  · intro wz hSw hdep R hRz
    obtain ⟨hSe, hSc⟩ := hSw
    (try simp only [List.forall_mem_cons, List.forall_mem_nil, and_true] at hSc)
    unfold does
    (go_simp; exact hRz.out _ _ ⟨ext_alloc _ _, rfl, rfl⟩)
  intro v1 u1 x1 hG1 K hK
  have hF1 := hG1.fact
  (try dsimp only at hF1)
  obtain ⟨rfl, rfl⟩ := hF1
  (try simp only [Act.put, List.setIfInBounds_toArray, List.set_cons_zero, List.set_cons_succ]); refine hK _ _ ?_; clear hK K
  repeat (first | (refine m_plain (v := ?_) (by rfl) (by rfl) ?_ ?_; rotate_left; (intro wz hSw; obtain ⟨-, hSc⟩ := hSw; (try simp only [List.forall_mem_cons, List.forall_mem_nil, and_true] at hSc); go_simp; (first | done | with_reducible rfl)); (intro K hK; (try simp only [Act.put, List.setIfInBounds_toArray, List.set_cons_zero, List.set_cons_succ]); refine hK _ _ ?_; clear hK K)) | (refine m_skip (by rfl) (by rfl) ?_; (intro K hK; (try simp only [Act.put, List.setIfInBounds_toArray, List.set_cons_zero, List.set_cons_succ]); refine hK _ _ ?_; clear hK K)))
  refine m_make (by rfl) (by rfl) ?_ ?_
  · intro wz hSw hdep R hRz
    obtain ⟨hSe, hSc⟩ := hSw
    (try simp only [List.forall_mem_cons, List.forall_mem_nil, and_true] at hSc)
    unfold does
    (go_simp; refine Calls.mono (law23_ints [2] [0, 2] _ _ _ _ _ wz ((lit_at (hdep 0 _ rfl (depB_sound (f := 4) (by kernel_rfl))) (by first | decide | simp)).mono (fun b _ hb => hT2 b (Nat.le_trans (Below.size hG0.s.1) hb))) ((lit_at (hdep 1 _ rfl (depB_sound (f := 4) (by kernel_rfl))) (by first | decide | simp)).mono (fun b _ hb => hT2 b (Nat.le_trans (Below.size hG1.s.1) hb))) (by decide) (by decide)) ?_; intro e wq h; obtain ⟨v, rfl, h1⟩ := retAC_arm hT2 hSe (h.eq ha6.out); exact ⟨_, rfl, hRz.out _ _ h1⟩)
  intro v2 u2 x2 hG2 K hK
  have hF2 := hG2.fact
  (try dsimp only at hF2)
  obtain ⟨s2, c2, n2, m2, i2, j2, he, hA2, hb2, hC2⟩ := hF2
  injection he with he
  subst he
  replace hC2 := hid hC2
  (try simp only [Act.put, List.setIfInBounds_toArray, List.set_cons_zero, List.set_cons_succ]); refine hK _ _ ?_; clear hK K
  repeat (first | (refine m_plain (v := ?_) (by rfl) (by rfl) ?_ ?_; rotate_left; (intro wz hSw; obtain ⟨-, hSc⟩ := hSw; (try simp only [List.forall_mem_cons, List.forall_mem_nil, and_true] at hSc); go_simp; (first | done | with_reducible rfl)); (intro K hK; (try simp only [Act.put, List.setIfInBounds_toArray, List.set_cons_zero, List.set_cons_succ]); refine hK _ _ ?_; clear hK K)) | (refine m_skip (by rfl) (by rfl) ?_; (intro K hK; (try simp only [Act.put, List.setIfInBounds_toArray, List.set_cons_zero, List.set_cons_succ]); refine hK _ _ ?_; clear hK K)))
  refine m_make (by rfl) (by rfl) ?_ ?_
  · intro wz hSw hdep R hRz
    obtain ⟨hSe, hSc⟩ := hSw
    (try simp only [List.forall_mem_cons, List.forall_mem_nil, and_true] at hSc)
    unfold does
    (go_simp; exact hRz.out _ _ ⟨ext_alloc _ _, rfl, rfl⟩)
  intro v3 u3 x3 hG3 K hK
  have hF3 := hG3.fact
  (try dsimp only at hF3)
  obtain ⟨rfl, rfl⟩ := hF3
  (try simp only [Act.put, List.setIfInBounds_toArray, List.set_cons_zero, List.set_cons_succ]); refine hK _ _ ?_; clear hK K
  repeat (first | (refine m_plain (v := ?_) (by rfl) (by rfl) ?_ ?_; rotate_left; (intro wz hSw; obtain ⟨-, hSc⟩ := hSw; (try simp only [List.forall_mem_cons, List.forall_mem_nil, and_true] at hSc); go_simp; (first | done | with_reducible rfl)); (intro K hK; (try simp only [Act.put, List.setIfInBounds_toArray, List.set_cons_zero, List.set_cons_succ]); refine hK _ _ ?_; clear hK K)) | (refine m_skip (by rfl) (by rfl) ?_; (intro K hK; (try simp only [Act.put, List.setIfInBounds_toArray, List.set_cons_zero, List.set_cons_succ]); refine hK _ _ ?_; clear hK K)))
  refine m_make (by rfl) (by rfl) ?_ ?_
  · intro wz hSw hdep R hRz
    obtain ⟨hSe, hSc⟩ := hSw
    (try simp only [List.forall_mem_cons, List.forall_mem_nil, and_true] at hSc)
    unfold does
    (go_simp; exact hRz.out _ _ ⟨ext_alloc _ _, rfl, rfl⟩)
  intro v4 u4 x4 hG4 K hK
  have hF4 := hG4.fact
  (try dsimp only at hF4)
  obtain ⟨rfl, rfl⟩ := hF4
  (try simp only [Act.put, List.setIfInBounds_toArray, List.set_cons_zero, List.set_cons_succ]); refine hK _ _ ?_; clear hK K
  repeat (first | (refine m_plain (v := ?_) (by rfl) (by rfl) ?_ ?_; rotate_left; (intro wz hSw; obtain ⟨-, hSc⟩ := hSw; (try simp only [List.forall_mem_cons, List.forall_mem_nil, and_true] at hSc); go_simp; (first | done | with_reducible rfl)); (intro K hK; (try simp only [Act.put, List.setIfInBounds_toArray, List.set_cons_zero, List.set_cons_succ]); refine hK _ _ ?_; clear hK K)) | (refine m_skip (by rfl) (by rfl) ?_; (intro K hK; (try simp only [Act.put, List.setIfInBounds_toArray, List.set_cons_zero, List.set_cons_succ]); refine hK _ _ ?_; clear hK K)))
  refine m_make (by rfl) (by rfl) ?_ ?_
  · intro wz hSw hdep R hRz
    obtain ⟨hSe, hSc⟩ := hSw
    (try simp only [List.forall_mem_cons, List.forall_mem_nil, and_true] at hSc)
    unfold does
    (go_simp; refine Calls.mono (law23_ints [2] [7, 8] _ _ _ _ _ wz ((lit_at (hdep 3 _ rfl (depB_sound (f := 4) (by kernel_rfl))) (by first | decide | simp)).mono (fun b _ hb => hT2 b (Nat.le_trans (Below.size hG3.s.1) hb))) ((lit_at (hdep 4 _ rfl (depB_sound (f := 4) (by kernel_rfl))) (by first | decide | simp)).mono (fun b _ hb => hT2 b (Nat.le_trans (Below.size hG4.s.1) hb))) (by decide) (by decide)) ?_; intro e wq h; obtain ⟨v, rfl, h1⟩ := retAC_arm hT2 hSe (h.eq ha7.out); exact ⟨_, rfl, hRz.out _ _ h1⟩)
  intro v5 u5 x5 hG5 K hK
  have hF5 := hG5.fact
  (try dsimp only at hF5)
  obtain ⟨s5, c5, n5, m5, i5, j5, he, hA5, hb5, hC5⟩ := hF5
  injection he with he
  subst he
  replace hC5 := hid hC5
  (try simp only [Act.put, List.setIfInBounds_toArray, List.set_cons_zero, List.set_cons_succ]); refine hK _ _ ?_; clear hK K
  repeat (first | (refine m_plain (v := ?_) (by rfl) (by rfl) ?_ ?_; rotate_left; (intro wz hSw; obtain ⟨-, hSc⟩ := hSw; (try simp only [List.forall_mem_cons, List.forall_mem_nil, and_true] at hSc); go_simp; (first | done | with_reducible rfl)); (intro K hK; (try simp only [Act.put, List.setIfInBounds_toArray, List.set_cons_zero, List.set_cons_succ]); refine hK _ _ ?_; clear hK K)) | (refine m_skip (by rfl) (by rfl) ?_; (intro K hK; (try simp only [Act.put, List.setIfInBounds_toArray, List.set_cons_zero, List.set_cons_succ]); refine hK _ _ ?_; clear hK K)))
  refine m_make (by rfl) (by rfl) ?_ ?_
  · intro wz hSw hdep R hRz
    obtain ⟨hSe, hSc⟩ := hSw
    (try simp only [List.forall_mem_cons, List.forall_mem_nil, and_true] at hSc)
    unfold does
    (go_simp; exact hRz.out _ _ ⟨ext_alloc _ _, _, rfl, pair_items (hT2 _ (Below.size hSe)) (hA2.up (hdep 2 _ rfl (depB_sound (f := 4) (by kernel_rfl)))) (hA5.up (hdep 5 _ rfl (depB_sound (f := 4) (by kernel_rfl))))⟩)
  intro v6 u6 x6 hG6 K hK
  have hF6 := hG6.fact
  (try dsimp only at hF6)
  obtain ⟨b6, rfl, hI6⟩ := hF6
  (try simp only [Act.put, List.setIfInBounds_toArray, List.set_cons_zero, List.set_cons_succ]); refine hK _ _ ?_; clear hK K
  repeat (first | (refine m_plain (v := ?_) (by rfl) (by rfl) ?_ ?_; rotate_left; (intro wz hSw; obtain ⟨-, hSc⟩ := hSw; (try simp only [List.forall_mem_cons, List.forall_mem_nil, and_true] at hSc); go_simp; (first | done | with_reducible rfl)); (intro K hK; (try simp only [Act.put, List.setIfInBounds_toArray, List.set_cons_zero, List.set_cons_succ]); refine hK _ _ ?_; clear hK K)) | (refine m_skip (by rfl) (by rfl) ?_; (intro K hK; (try simp only [Act.put, List.setIfInBounds_toArray, List.set_cons_zero, List.set_cons_succ]); refine hK _ _ ?_; clear hK K)))
  refine m_make (by rfl) (by rfl) ?_ ?_
  · intro wz hSw hdep R hRz
    obtain ⟨hSe, hSc⟩ := hSw
    (try simp only [List.forall_mem_cons, List.forall_mem_nil, and_true] at hSc)
    unfold does
    (go_simp; refine Calls.mono (law23_boxes [a6, a7] _ 2 _ wz (hI6.later (hdep 6 _ rfl (depB_sound (f := 4) (by kernel_rfl)))) (by simp) (by simp)) ?_; intro e wq h; obtain ⟨v, rfl, h1⟩ := retAC_arm hT2 hSe (h.eq hx7.out); exact ⟨_, rfl, hRz.out _ _ h1⟩)
  intro v7 u7 x7 hG7 K hK
  have hF7 := hG7.fact
  (try dsimp only at hF7)
  obtain ⟨s7, c7, n7, m7, i7, j7, he, hA7, hb7, hC7⟩ := hF7
  injection he with he
  subst he
  replace hC7 := hid hC7
  (try simp only [Act.put, List.setIfInBounds_toArray, List.set_cons_zero, List.set_cons_succ]); refine hK _ _ ?_; clear hK K
  repeat (first | (refine m_plain (v := ?_) (by rfl) (by rfl) ?_ ?_; rotate_left; (intro wz hSw; obtain ⟨-, hSc⟩ := hSw; (try simp only [List.forall_mem_cons, List.forall_mem_nil, and_true] at hSc); go_simp; (first | done | with_reducible rfl)); (intro K hK; (try simp only [Act.put, List.setIfInBounds_toArray, List.set_cons_zero, List.set_cons_succ]); refine hK _ _ ?_; clear hK K)) | (refine m_skip (by rfl) (by rfl) ?_; (intro K hK; (try simp only [Act.put, List.setIfInBounds_toArray, List.set_cons_zero, List.set_cons_succ]); refine hK _ _ ?_; clear hK K)))
  refine m_make (by rfl) (by rfl) ?_ ?_
  · intro wz hSw hdep R hRz
    obtain ⟨hSe, hSc⟩ := hSw
    (try simp only [List.forall_mem_cons, List.forall_mem_nil, and_true] at hSc)
    unfold does
    (go_simp; refine Calls.mono (N_indexing_Amend ax7 _ _ _ _ _ _ av _ _ _ _ _ _ _ wz (hA7.up (hdep 7 _ rfl (depB_sound (f := 4) (by kernel_rfl)))) (ArrAt.up (ArrAt.mono (fun b _ h => hT1 b h) _ (E.out.arr 6 rfl)) hSe) hC102.out.1) ?_; intro e wq h; obtain ⟨ta, tc, tn, tnc, ti, tic, rfl, hq, hqb⟩ := (h.eq hr5.out z5.out); exact ⟨_, rfl, hRz.out _ _ ⟨hqb, ta, tc, tn, tnc, ti, tic, rfl, hq, hqb⟩⟩)
  intro v9 u9 x9 hG9 K hK
  have hF9 := hG9.fact
  (try dsimp only at hF9)
  obtain ⟨s9, c9, n9, m9, i9, j9, he, hA9, hb9⟩ := hF9
  injection he with he
  subst he
  (try simp only [Act.put, List.setIfInBounds_toArray, List.set_cons_zero, List.set_cons_succ]); refine hK _ _ ?_; clear hK K
  repeat (first | (refine m_plain (v := ?_) (by rfl) (by rfl) ?_ ?_; rotate_left; (intro wz hSw; obtain ⟨-, hSc⟩ := hSw; (try simp only [List.forall_mem_cons, List.forall_mem_nil, and_true] at hSc); go_simp; (first | done | with_reducible rfl)); (intro K hK; (try simp only [Act.put, List.setIfInBounds_toArray, List.set_cons_zero, List.set_cons_succ]); refine hK _ _ ?_; clear hK K)) | (refine m_skip (by rfl) (by rfl) ?_; (intro K hK; (try simp only [Act.put, List.setIfInBounds_toArray, List.set_cons_zero, List.set_cons_succ]); refine hK _ _ ?_; clear hK K)))
  refine m_make (by rfl) (by rfl) ?_ ?_
  · intro wz hSw hdep R hRz
    obtain ⟨hSe, hSc⟩ := hSw
    (try simp only [List.forall_mem_cons, List.forall_mem_nil, and_true] at hSc)
    unfold does
    (go_simp; exact hRz.out _ _ ⟨ext_alloc _ _, rfl, rfl⟩)
  intro v13 u13 x13 hG13 K hK
  have hF13 := hG13.fact
  (try dsimp only at hF13)
  obtain ⟨rfl, rfl⟩ := hF13
  (try simp only [Act.put, List.setIfInBounds_toArray, List.set_cons_zero, List.set_cons_succ]); refine hK _ _ ?_; clear hK K
  repeat (first | (refine m_plain (v := ?_) (by rfl) (by rfl) ?_ ?_; rotate_left; (intro wz hSw; obtain ⟨-, hSc⟩ := hSw; (try simp only [List.forall_mem_cons, List.forall_mem_nil, and_true] at hSc); go_simp; (first | done | with_reducible rfl)); (intro K hK; (try simp only [Act.put, List.setIfInBounds_toArray, List.set_cons_zero, List.set_cons_succ]); refine hK _ _ ?_; clear hK K)) | (refine m_skip (by rfl) (by rfl) ?_; (intro K hK; (try simp only [Act.put, List.setIfInBounds_toArray, List.set_cons_zero, List.set_cons_succ]); refine hK _ _ ?_; clear hK K)))
  refine m_nil ?_
  intro wf hSf hAf
  replace E := hid (E.out.varO hA9 (hAf 9 _ rfl) (hG13.order 9 _ rfl) hG9.s.1 hG13.s.1 (hAf 13 _ rfl) hSf.1)
  refine wpl_store4 (by rfl) (.tmp 11) (.tmp 69) (by rfl) _ (by rfl) (by rfl) (E.out.hdr 22 rfl) ?_
  intro V7 HV CV
  replace E := hid (E.out.chg 22 rfl CV HV)
  clear CV HV hSf hAf
  (try simp only [List.cons_append, List.nil_append, List.set_cons_zero, List.set_cons_succ] at E)
  clear hG0 hG1 hG2 hG3 hG4 hG5 hG6 hG7 hG9 hG13 hA2 hA5 hA7 hA9 hI6 hb2 hb5 hb7 hb9 hT1 hT2 hT3 hC2 hC5 hC7
  generalize u13.heap.size = p5 at E ⊢
  obtain ⟨s115, hq⟩ : ∃ s, s = s9 := ⟨_, rfl⟩
  subst hq
  obtain ⟨c115, hq⟩ : ∃ s, s = c9 := ⟨_, rfl⟩
  subst hq
  obtain ⟨n115, hq⟩ : ∃ s, s = n9 := ⟨_, rfl⟩
  subst hq
  obtain ⟨m115, hq⟩ : ∃ s, s = m9 := ⟨_, rfl⟩
  subst hq
  obtain ⟨i115, hq⟩ : ∃ s, s = i9 := ⟨_, rfl⟩
  subst hq
  obtain ⟨j115, hq⟩ : ∃ s, s = j9 := ⟨_, rfl⟩
  subst hq
  go_upto_region 8 with fail
  obtain ⟨T, hT1, hT2, hT3⟩ := E.out.tw
  refine wp_region_edge 11 13 (by kernel_rfl) (by kernel_rfl) (fun o _ v c a w h => by cases hd : o.dst <;> (rw [hd] at h; exact h)) _ rfl 13 (Sees V7 [(⟨pv, 0, none⟩, .int .i64 av.kind), (⟨pv, 1, none⟩, .slice s102 av.shape.length c102), (⟨pv, 2, none⟩, .slice n102 av.nums.length m102), (⟨pv, 3, none⟩, .slice i102 av.items.length j102)]) [0, 1, 2, 3, 4, 5, 6, 8, 12] (fun k v u u' => match k with | 0 => v = .slice (some ⟨u.heap.size, 0, none⟩) 1 1 ∧ u' = u.alloc (.cells (([2] : List Int).map (Value.int .i64)).toArray 3) | 1 => v = .slice (some ⟨u.heap.size, 0, none⟩) 2 2 ∧ u' = u.alloc (.cells (([0, 2] : List Int).map (Value.int .i64)).toArray 3) | 2 => RetAC u T (a6) (.returned v) u' | 3 => v = .slice (some ⟨u.heap.size, 0, none⟩) 1 1 ∧ u' = u.alloc (.cells (([0] : List Int).map (Value.int .i64)).toArray 3) | 4 => RetAC u T (a8) (.returned v) u' | 5 => ∃ b, v = .slice (some ⟨b, 0, none⟩) 2 2 ∧ ItemsAt u' T (some ⟨b, 0, none⟩) 0 [a6, a8] | 6 => RetAC u T (ax8) (.returned v) u' | 8 => RetAE u (fun b => u.heap.size ≤ b) (r6) (0) (.returned v) u' | 12 => v = .pointer (some ⟨u.heap.size, 0, none⟩) ∧ u' = u.alloc (.cells #[.int .i64 0, .slice none 0 0, .slice none 0 0, .slice none 0 0] 26) | _ => False) (fun _ _ h e => h.up e) (Sees.start (all_cons ((E.out.hdr 7 rfl).c0) (all_cons ((E.out.hdr 7 rfl).c1) (all_cons ((E.out.hdr 7 rfl).c2) (all_cons ((E.out.hdr 7 rfl).c3) (all_nil)))))) (by kernel_rfl) ?_
  simp only [withEdge, List.modify_succ_cons, List.modify_zero_cons, List.push_toArray, List.cons_append, List.nil_append]
  simp only [List.take_succ_cons, List.take_zero, List.drop_succ_cons, List.drop_zero]
  repeat (first | (refine m_plain (v := ?_) (by rfl) (by rfl) ?_ ?_; rotate_left; (intro wz hSw; obtain ⟨-, hSc⟩ := hSw; (try simp only [List.forall_mem_cons, List.forall_mem_nil, and_true] at hSc); go_simp; (first | done | with_reducible rfl)); (intro K hK; (try simp only [Act.put, List.setIfInBounds_toArray, List.set_cons_zero, List.set_cons_succ]); refine hK _ _ ?_; clear hK K)) | (refine m_skip (by rfl) (by rfl) ?_; (intro K hK; (try simp only [Act.put, List.setIfInBounds_toArray, List.set_cons_zero, List.set_cons_succ]); refine hK _ _ ?_; clear hK K)))
  refine m_make (by rfl) (by rfl) ?_ ?_
  · intro wz hSw hdep R hRz
    obtain ⟨hSe, hSc⟩ := hSw
    (try simp only [List.forall_mem_cons, List.forall_mem_nil, and_true] at hSc)
    unfold does
    (go_simp; exact hRz.out _ _ ⟨ext_alloc _ _, rfl, rfl⟩)
  intro v0 u0 x0 hG0 K hK
  have hF0 := hG0.fact
  (try dsimp only at hF0)
  obtain ⟨rfl, rfl⟩ := hF0
  (try simp only [Act.put, List.setIfInBounds_toArray, List.set_cons_zero, List.set_cons_succ]); refine hK _ _ ?_; clear hK K
  repeat (first | (refine m_plain (v := ?_) (by rfl) (by rfl) ?_ ?_; rotate_left; (intro wz hSw; obtain ⟨-, hSc⟩ := hSw; (try simp only [List.forall_mem_cons, List.forall_mem_nil, and_true] at hSc); go_simp; (first | done | with_reducible rfl)); (intro K hK; (try simp only [Act.put, List.setIfInBounds_toArray, List.set_cons_zero, List.set_cons_succ]); refine hK _ _ ?_; clear hK K)) | (refine m_skip (by rfl) (by rfl) ?_; (intro K hK; (try simp only [Act.put, List.setIfInBounds_toArray, List.set_cons_zero, List.set_cons_succ]); refine hK _ _ ?_; clear hK K)))
  refine m_make (by rfl) (by rfl) ?_ ?_
  · intro wz hSw hdep R hRz
    obtain ⟨hSe, hSc⟩ := hSw
    (try simp only [List.forall_mem_cons, List.forall_mem_nil, and_true] at hSc)
    unfold does
    (go_simp; exact hRz.out _ _ ⟨ext_alloc _ _, rfl, rfl⟩)
  intro v1 u1 x1 hG1 K hK
  have hF1 := hG1.fact
  (try dsimp only at hF1)
  obtain ⟨rfl, rfl⟩ := hF1
  (try simp only [Act.put, List.setIfInBounds_toArray, List.set_cons_zero, List.set_cons_succ]); refine hK _ _ ?_; clear hK K
  repeat (first | (refine m_plain (v := ?_) (by rfl) (by rfl) ?_ ?_; rotate_left; (intro wz hSw; obtain ⟨-, hSc⟩ := hSw; (try simp only [List.forall_mem_cons, List.forall_mem_nil, and_true] at hSc); go_simp; (first | done | with_reducible rfl)); (intro K hK; (try simp only [Act.put, List.setIfInBounds_toArray, List.set_cons_zero, List.set_cons_succ]); refine hK _ _ ?_; clear hK K)) | (refine m_skip (by rfl) (by rfl) ?_; (intro K hK; (try simp only [Act.put, List.setIfInBounds_toArray, List.set_cons_zero, List.set_cons_succ]); refine hK _ _ ?_; clear hK K)))
  refine m_make (by rfl) (by rfl) ?_ ?_
  · intro wz hSw hdep R hRz
    obtain ⟨hSe, hSc⟩ := hSw
    (try simp only [List.forall_mem_cons, List.forall_mem_nil, and_true] at hSc)
    unfold does
    (go_simp; refine Calls.mono (law23_ints [2] [0, 2] _ _ _ _ _ wz ((lit_at (hdep 0 _ rfl (depB_sound (f := 4) (by kernel_rfl))) (by first | decide | simp)).mono (fun b _ hb => hT2 b (Nat.le_trans (Below.size hG0.s.1) hb))) ((lit_at (hdep 1 _ rfl (depB_sound (f := 4) (by kernel_rfl))) (by first | decide | simp)).mono (fun b _ hb => hT2 b (Nat.le_trans (Below.size hG1.s.1) hb))) (by decide) (by decide)) ?_; intro e wq h; obtain ⟨v, rfl, h1⟩ := retAC_arm hT2 hSe (h.eq ha6.out); exact ⟨_, rfl, hRz.out _ _ h1⟩)
  intro v2 u2 x2 hG2 K hK
  have hF2 := hG2.fact
  (try dsimp only at hF2)
  obtain ⟨s2, c2, n2, m2, i2, j2, he, hA2, hb2, hC2⟩ := hF2
  injection he with he
  subst he
  replace hC2 := hid hC2
  (try simp only [Act.put, List.setIfInBounds_toArray, List.set_cons_zero, List.set_cons_succ]); refine hK _ _ ?_; clear hK K
  repeat (first | (refine m_plain (v := ?_) (by rfl) (by rfl) ?_ ?_; rotate_left; (intro wz hSw; obtain ⟨-, hSc⟩ := hSw; (try simp only [List.forall_mem_cons, List.forall_mem_nil, and_true] at hSc); go_simp; (first | done | with_reducible rfl)); (intro K hK; (try simp only [Act.put, List.setIfInBounds_toArray, List.set_cons_zero, List.set_cons_succ]); refine hK _ _ ?_; clear hK K)) | (refine m_skip (by rfl) (by rfl) ?_; (intro K hK; (try simp only [Act.put, List.setIfInBounds_toArray, List.set_cons_zero, List.set_cons_succ]); refine hK _ _ ?_; clear hK K)))
  refine m_make (by rfl) (by rfl) ?_ ?_
  · intro wz hSw hdep R hRz
    obtain ⟨hSe, hSc⟩ := hSw
    (try simp only [List.forall_mem_cons, List.forall_mem_nil, and_true] at hSc)
    unfold does
    (go_simp; exact hRz.out _ _ ⟨ext_alloc _ _, rfl, rfl⟩)
  intro v3 u3 x3 hG3 K hK
  have hF3 := hG3.fact
  (try dsimp only at hF3)
  obtain ⟨rfl, rfl⟩ := hF3
  (try simp only [Act.put, List.setIfInBounds_toArray, List.set_cons_zero, List.set_cons_succ]); refine hK _ _ ?_; clear hK K
  repeat (first | (refine m_plain (v := ?_) (by rfl) (by rfl) ?_ ?_; rotate_left; (intro wz hSw; obtain ⟨-, hSc⟩ := hSw; (try simp only [List.forall_mem_cons, List.forall_mem_nil, and_true] at hSc); go_simp; (first | done | with_reducible rfl)); (intro K hK; (try simp only [Act.put, List.setIfInBounds_toArray, List.set_cons_zero, List.set_cons_succ]); refine hK _ _ ?_; clear hK K)) | (refine m_skip (by rfl) (by rfl) ?_; (intro K hK; (try simp only [Act.put, List.setIfInBounds_toArray, List.set_cons_zero, List.set_cons_succ]); refine hK _ _ ?_; clear hK K)))
  refine m_make (by rfl) (by rfl) ?_ ?_
  · intro wz hSw hdep R hRz
    obtain ⟨hSe, hSc⟩ := hSw
    (try simp only [List.forall_mem_cons, List.forall_mem_nil, and_true] at hSc)
    unfold does
    (go_simp; refine Calls.mono (law23_ints [] [0] none 0 _ _ _ wz (IntsAt.nil _ _ _) ((lit_at (hdep 3 _ rfl (depB_sound (f := 4) (by kernel_rfl))) (by first | decide | simp)).mono (fun b _ hb => hT2 b (Nat.le_trans (Below.size hG3.s.1) hb))) (by decide) (by decide)) ?_; intro e wq h; obtain ⟨v, rfl, h1⟩ := retAC_arm hT2 hSe (h.eq ha8.out); exact ⟨_, rfl, hRz.out _ _ h1⟩)
  intro v4 u4 x4 hG4 K hK
  have hF4 := hG4.fact
  (try dsimp only at hF4)
  obtain ⟨s4, c4, n4, m4, i4, j4, he, hA4, hb4, hC4⟩ := hF4
  injection he with he
  subst he
  replace hC4 := hid hC4
  (try simp only [Act.put, List.setIfInBounds_toArray, List.set_cons_zero, List.set_cons_succ]); refine hK _ _ ?_; clear hK K
  repeat (first | (refine m_plain (v := ?_) (by rfl) (by rfl) ?_ ?_; rotate_left; (intro wz hSw; obtain ⟨-, hSc⟩ := hSw; (try simp only [List.forall_mem_cons, List.forall_mem_nil, and_true] at hSc); go_simp; (first | done | with_reducible rfl)); (intro K hK; (try simp only [Act.put, List.setIfInBounds_toArray, List.set_cons_zero, List.set_cons_succ]); refine hK _ _ ?_; clear hK K)) | (refine m_skip (by rfl) (by rfl) ?_; (intro K hK; (try simp only [Act.put, List.setIfInBounds_toArray, List.set_cons_zero, List.set_cons_succ]); refine hK _ _ ?_; clear hK K)))
  refine m_make (by rfl) (by rfl) ?_ ?_
  · intro wz hSw hdep R hRz
    obtain ⟨hSe, hSc⟩ := hSw
    (try simp only [List.forall_mem_cons, List.forall_mem_nil, and_true] at hSc)
    unfold does
    (go_simp; exact hRz.out _ _ ⟨ext_alloc _ _, _, rfl, pair_items (hT2 _ (Below.size hSe)) (hA2.up (hdep 2 _ rfl (depB_sound (f := 4) (by kernel_rfl)))) (hA4.up (hdep 4 _ rfl (depB_sound (f := 4) (by kernel_rfl))))⟩)
  intro v5 u5 x5 hG5 K hK
  have hF5 := hG5.fact
  (try dsimp only at hF5)
  obtain ⟨b5, rfl, hI5⟩ := hF5
  (try simp only [Act.put, List.setIfInBounds_toArray, List.set_cons_zero, List.set_cons_succ]); refine hK _ _ ?_; clear hK K
  repeat (first | (refine m_plain (v := ?_) (by rfl) (by rfl) ?_ ?_; rotate_left; (intro wz hSw; obtain ⟨-, hSc⟩ := hSw; (try simp only [List.forall_mem_cons, List.forall_mem_nil, and_true] at hSc); go_simp; (first | done | with_reducible rfl)); (intro K hK; (try simp only [Act.put, List.setIfInBounds_toArray, List.set_cons_zero, List.set_cons_succ]); refine hK _ _ ?_; clear hK K)) | (refine m_skip (by rfl) (by rfl) ?_; (intro K hK; (try simp only [Act.put, List.setIfInBounds_toArray, List.set_cons_zero, List.set_cons_succ]); refine hK _ _ ?_; clear hK K)))
  refine m_make (by rfl) (by rfl) ?_ ?_
  · intro wz hSw hdep R hRz
    obtain ⟨hSe, hSc⟩ := hSw
    (try simp only [List.forall_mem_cons, List.forall_mem_nil, and_true] at hSc)
    unfold does
    (go_simp; refine Calls.mono (law23_boxes [a6, a8] _ 2 _ wz (hI5.later (hdep 5 _ rfl (depB_sound (f := 4) (by kernel_rfl)))) (by simp) (by simp)) ?_; intro e wq h; obtain ⟨v, rfl, h1⟩ := retAC_arm hT2 hSe (h.eq hx8.out); exact ⟨_, rfl, hRz.out _ _ h1⟩)
  intro v6 u6 x6 hG6 K hK
  have hF6 := hG6.fact
  (try dsimp only at hF6)
  obtain ⟨s6, c6, n6, m6, i6, j6, he, hA6, hb6, hC6⟩ := hF6
  injection he with he
  subst he
  replace hC6 := hid hC6
  (try simp only [Act.put, List.setIfInBounds_toArray, List.set_cons_zero, List.set_cons_succ]); refine hK _ _ ?_; clear hK K
  repeat (first | (refine m_plain (v := ?_) (by rfl) (by rfl) ?_ ?_; rotate_left; (intro wz hSw; obtain ⟨-, hSc⟩ := hSw; (try simp only [List.forall_mem_cons, List.forall_mem_nil, and_true] at hSc); go_simp; (first | done | with_reducible rfl)); (intro K hK; (try simp only [Act.put, List.setIfInBounds_toArray, List.set_cons_zero, List.set_cons_succ]); refine hK _ _ ?_; clear hK K)) | (refine m_skip (by rfl) (by rfl) ?_; (intro K hK; (try simp only [Act.put, List.setIfInBounds_toArray, List.set_cons_zero, List.set_cons_succ]); refine hK _ _ ?_; clear hK K)))
  refine m_make (by rfl) (by rfl) ?_ ?_
  · intro wz hSw hdep R hRz
    obtain ⟨hSe, hSc⟩ := hSw
    (try simp only [List.forall_mem_cons, List.forall_mem_nil, and_true] at hSc)
    unfold does
    (go_simp; refine Calls.mono (N_indexing_Amend ax8 _ _ _ _ _ _ av _ _ _ _ _ _ _ wz (hA6.up (hdep 6 _ rfl (depB_sound (f := 4) (by kernel_rfl)))) (ArrAt.up (ArrAt.mono (fun b _ h => hT1 b h) _ (E.out.arr 6 rfl)) hSe) hC102.out.1) ?_; intro e wq h; obtain ⟨ta, tc, tn, tnc, ti, tic, rfl, hq, hqb⟩ := (h.eq hr6.out z6.out); exact ⟨_, rfl, hRz.out _ _ ⟨hqb, ta, tc, tn, tnc, ti, tic, rfl, hq, hqb⟩⟩)
  intro v8 u8 x8 hG8 K hK
  have hF8 := hG8.fact
  (try dsimp only at hF8)
  obtain ⟨s8, c8, n8, m8, i8, j8, he, hA8, hb8⟩ := hF8
  injection he with he
  subst he
  (try simp only [Act.put, List.setIfInBounds_toArray, List.set_cons_zero, List.set_cons_succ]); refine hK _ _ ?_; clear hK K
  repeat (first | (refine m_plain (v := ?_) (by rfl) (by rfl) ?_ ?_; rotate_left; (intro wz hSw; obtain ⟨-, hSc⟩ := hSw; (try simp only [List.forall_mem_cons, List.forall_mem_nil, and_true] at hSc); go_simp; (first | done | with_reducible rfl)); (intro K hK; (try simp only [Act.put, List.setIfInBounds_toArray, List.set_cons_zero, List.set_cons_succ]); refine hK _ _ ?_; clear hK K)) | (refine m_skip (by rfl) (by rfl) ?_; (intro K hK; (try simp only [Act.put, List.setIfInBounds_toArray, List.set_cons_zero, List.set_cons_succ]); refine hK _ _ ?_; clear hK K)))
  refine m_make (by rfl) (by rfl) ?_ ?_
  · intro wz hSw hdep R hRz
    obtain ⟨hSe, hSc⟩ := hSw
    (try simp only [List.forall_mem_cons, List.forall_mem_nil, and_true] at hSc)
    unfold does
    (go_simp; exact hRz.out _ _ ⟨ext_alloc _ _, rfl, rfl⟩)
  intro v12 u12 x12 hG12 K hK
  have hF12 := hG12.fact
  (try dsimp only at hF12)
  obtain ⟨rfl, rfl⟩ := hF12
  (try simp only [Act.put, List.setIfInBounds_toArray, List.set_cons_zero, List.set_cons_succ]); refine hK _ _ ?_; clear hK K
  repeat (first | (refine m_plain (v := ?_) (by rfl) (by rfl) ?_ ?_; rotate_left; (intro wz hSw; obtain ⟨-, hSc⟩ := hSw; (try simp only [List.forall_mem_cons, List.forall_mem_nil, and_true] at hSc); go_simp; (first | done | with_reducible rfl)); (intro K hK; (try simp only [Act.put, List.setIfInBounds_toArray, List.set_cons_zero, List.set_cons_succ]); refine hK _ _ ?_; clear hK K)) | (refine m_skip (by rfl) (by rfl) ?_; (intro K hK; (try simp only [Act.put, List.setIfInBounds_toArray, List.set_cons_zero, List.set_cons_succ]); refine hK _ _ ?_; clear hK K)))
  refine m_nil ?_
  intro wf hSf hAf
  replace E := hid (E.out.varO hA8 (hAf 8 _ rfl) (hG12.order 8 _ rfl) hG8.s.1 hG12.s.1 (hAf 12 _ rfl) hSf.1)
  refine wpl_store4 (by rfl) (.tmp 13) (.tmp 81) (by rfl) _ (by rfl) (by rfl) (E.out.hdr 24 rfl) ?_
  intro V8 HV CV
  replace E := hid (E.out.chg 24 rfl CV HV)
  clear CV HV hSf hAf
  (try simp only [List.cons_append, List.nil_append, List.set_cons_zero, List.set_cons_succ] at E)
  clear hG0 hG1 hG2 hG3 hG4 hG5 hG6 hG8 hG12 hA2 hA4 hA6 hA8 hI5 hb2 hb4 hb6 hb8 hT1 hT2 hT3 hC2 hC4 hC6
  generalize u12.heap.size = p6 at E ⊢
  obtain ⟨s116, hq⟩ : ∃ s, s = s8 := ⟨_, rfl⟩
  subst hq
  obtain ⟨c116, hq⟩ : ∃ s, s = c8 := ⟨_, rfl⟩
  subst hq
  obtain ⟨n116, hq⟩ : ∃ s, s = n8 := ⟨_, rfl⟩
  subst hq
  obtain ⟨m116, hq⟩ : ∃ s, s = m8 := ⟨_, rfl⟩
  subst hq
  obtain ⟨i116, hq⟩ : ∃ s, s = i8 := ⟨_, rfl⟩
  subst hq
  obtain ⟨j116, hq⟩ : ∃ s, s = j8 := ⟨_, rfl⟩
  subst hq
  go_upto_region 11 with fail
  obtain ⟨T, hT1, hT2, hT3⟩ := E.out.tw
  refine wp_region_mono (Sees V8 [(⟨p1, 0, none⟩, .int .i64 r1.kind), (⟨p1, 1, none⟩, .slice s111 r1.shape.length c111), (⟨p1, 2, none⟩, .slice n111 r1.nums.length m111), (⟨p1, 3, none⟩, .slice i111 r1.items.length j111), (⟨p2, 0, none⟩, .int .i64 r2.kind), (⟨p2, 1, none⟩, .slice s112 r2.shape.length c112), (⟨p2, 2, none⟩, .slice n112 r2.nums.length m112), (⟨p2, 3, none⟩, .slice i112 r2.items.length j112), (⟨p3, 0, none⟩, .int .i64 r3.kind), (⟨p3, 1, none⟩, .slice s113 r3.shape.length c113), (⟨p3, 2, none⟩, .slice n113 r3.nums.length m113), (⟨p3, 3, none⟩, .slice i113 r3.items.length j113), (⟨p4, 0, none⟩, .int .i64 r4.kind), (⟨p4, 1, none⟩, .slice s114 r4.shape.length c114), (⟨p4, 2, none⟩, .slice n114 r4.nums.length m114), (⟨p4, 3, none⟩, .slice i114 r4.items.length j114), (⟨p5, 0, none⟩, .int .i64 r5.kind), (⟨p5, 1, none⟩, .slice s115 r5.shape.length c115), (⟨p5, 2, none⟩, .slice n115 r5.nums.length m115), (⟨p5, 3, none⟩, .slice i115 r5.items.length j115), (⟨p6, 0, none⟩, .int .i64 r6.kind), (⟨p6, 1, none⟩, .slice s116 r6.shape.length c116), (⟨p6, 2, none⟩, .slice n116 r6.nums.length m116), (⟨p6, 3, none⟩, .slice i116 r6.items.length j116)]) [1, 2, 3, 4, 7, 8, 9, 13, 14, 15, 16, 20, 21, 22, 23, 27, 28, 29, 30, 34, 35, 36, 37] (fun k v u u' => match k with | 1 => v = .slice (some ⟨u.heap.size, 0, none⟩) 1 1 ∧ u' = u.alloc (.cells (([2] : List Int).map (Value.int .i64)).toArray 3) | 2 => v = .slice (some ⟨u.heap.size, 0, none⟩) 2 2 ∧ u' = u.alloc (.cells (([30, 10] : List Int).map (Value.int .i64)).toArray 3) | 3 => RetAC u T (bb1) (.returned v) u' | 4 => v = .bool true | 7 => v = .slice (some ⟨u.heap.size, 0, none⟩) 1 1 ∧ u' = u.alloc (.cells (([3] : List Int).map (Value.int .i64)).toArray 3) | 8 => RetAC u T (bb2) (.returned v) u' | 9 => v = .bool true | 13 => v = .slice (some ⟨u.heap.size, 0, none⟩) 1 1 ∧ u' = u.alloc (.cells (([2] : List Int).map (Value.int .i64)).toArray 3) | 14 => v = .slice (some ⟨u.heap.size, 0, none⟩) 2 2 ∧ u' = u.alloc (.cells (([6, 4] : List Int).map (Value.int .i64)).toArray 3) | 15 => RetAC u T (bb3) (.returned v) u' | 16 => v = .bool true | 20 => v = .slice (some ⟨u.heap.size, 0, none⟩) 1 1 ∧ u' = u.alloc (.cells (([3] : List Int).map (Value.int .i64)).toArray 3) | 21 => v = .slice (some ⟨u.heap.size, 0, none⟩) 3 3 ∧ u' = u.alloc (.cells (([4, 5, 6] : List Int).map (Value.int .i64)).toArray 3) | 22 => RetAC u T (bb4) (.returned v) u' | 23 => v = .bool true | 27 => v = .slice (some ⟨u.heap.size, 0, none⟩) 1 1 ∧ u' = u.alloc (.cells (([3] : List Int).map (Value.int .i64)).toArray 3) | 28 => v = .slice (some ⟨u.heap.size, 0, none⟩) 3 3 ∧ u' = u.alloc (.cells (([7, 20, 8] : List Int).map (Value.int .i64)).toArray 3) | 29 => RetAC u T (bb5) (.returned v) u' | 30 => v = .bool true | 34 => v = .slice (some ⟨u.heap.size, 0, none⟩) 1 1 ∧ u' = u.alloc (.cells (([3] : List Int).map (Value.int .i64)).toArray 3) | 35 => v = .slice (some ⟨u.heap.size, 0, none⟩) 3 3 ∧ u' = u.alloc (.cells (([0, 20, 0] : List Int).map (Value.int .i64)).toArray 3) | 36 => RetAC u T (bb6) (.returned v) u' | 37 => v = .bool true | _ => False) (fun _ _ h e => h.up e) (Sees.start (all_cons ((E.out.hdr 8 rfl).c0) (all_cons ((E.out.hdr 8 rfl).c1) (all_cons ((E.out.hdr 8 rfl).c2) (all_cons ((E.out.hdr 8 rfl).c3) (all_cons ((E.out.hdr 17 rfl).c0) (all_cons ((E.out.hdr 17 rfl).c1) (all_cons ((E.out.hdr 17 rfl).c2) (all_cons ((E.out.hdr 17 rfl).c3) (all_cons ((E.out.hdr 18 rfl).c0) (all_cons ((E.out.hdr 18 rfl).c1) (all_cons ((E.out.hdr 18 rfl).c2) (all_cons ((E.out.hdr 18 rfl).c3) (all_cons ((E.out.hdr 20 rfl).c0) (all_cons ((E.out.hdr 20 rfl).c1) (all_cons ((E.out.hdr 20 rfl).c2) (all_cons ((E.out.hdr 20 rfl).c3) (all_cons ((E.out.hdr 22 rfl).c0) (all_cons ((E.out.hdr 22 rfl).c1) (all_cons ((E.out.hdr 22 rfl).c2) (all_cons ((E.out.hdr 22 rfl).c3) (all_cons ((E.out.hdr 24 rfl).c0) (all_cons ((E.out.hdr 24 rfl).c1) (all_cons ((E.out.hdr 24 rfl).c2) (all_cons ((E.out.hdr 24 rfl).c3) (all_nil)))))))))))))))))))))))))) (by kernel_rfl) (by kernel_rfl) ?_
  repeat (first | (refine m_plain (v := ?_) (by rfl) (by rfl) ?_ ?_; rotate_left; (intro wz hSw; obtain ⟨-, hSc⟩ := hSw; (try simp only [List.forall_mem_cons, List.forall_mem_nil, and_true] at hSc); go_simp; (first | done | with_reducible rfl)); (intro K hK; (try simp only [Act.put, List.setIfInBounds_toArray, List.set_cons_zero, List.set_cons_succ]); refine hK _ _ ?_; clear hK K)) | (refine m_skip (by rfl) (by rfl) ?_; (intro K hK; (try simp only [Act.put, List.setIfInBounds_toArray, List.set_cons_zero, List.set_cons_succ]); refine hK _ _ ?_; clear hK K)))
  refine m_make (by rfl) (by rfl) ?_ ?_
  · intro wz hSw hdep R hRz
    obtain ⟨hSe, hSc⟩ := hSw
    (try simp only [List.forall_mem_cons, List.forall_mem_nil, and_true] at hSc)
    unfold does
    (go_simp; exact hRz.out _ _ ⟨ext_alloc _ _, rfl, rfl⟩)
  intro v1 u1 x1 hG1 K hK
  have hF1 := hG1.fact
  (try dsimp only at hF1)
  obtain ⟨rfl, rfl⟩ := hF1
  (try simp only [Act.put, List.setIfInBounds_toArray, List.set_cons_zero, List.set_cons_succ]); refine hK _ _ ?_; clear hK K
  repeat (first | (refine m_plain (v := ?_) (by rfl) (by rfl) ?_ ?_; rotate_left; (intro wz hSw; obtain ⟨-, hSc⟩ := hSw; (try simp only [List.forall_mem_cons, List.forall_mem_nil, and_true] at hSc); go_simp; (first | done | with_reducible rfl)); (intro K hK; (try simp only [Act.put, List.setIfInBounds_toArray, List.set_cons_zero, List.set_cons_succ]); refine hK _ _ ?_; clear hK K)) | (refine m_skip (by rfl) (by rfl) ?_; (intro K hK; (try simp only [Act.put, List.setIfInBounds_toArray, List.set_cons_zero, List.set_cons_succ]); refine hK _ _ ?_; clear hK K)))
  refine m_make (by rfl) (by rfl) ?_ ?_
  · intro wz hSw hdep R hRz
    obtain ⟨hSe, hSc⟩ := hSw
    (try simp only [List.forall_mem_cons, List.forall_mem_nil, and_true] at hSc)
    unfold does
    (go_simp; exact hRz.out _ _ ⟨ext_alloc _ _, rfl, rfl⟩)
  intro v2 u2 x2 hG2 K hK
  have hF2 := hG2.fact
  (try dsimp only at hF2)
  obtain ⟨rfl, rfl⟩ := hF2
  (try simp only [Act.put, List.setIfInBounds_toArray, List.set_cons_zero, List.set_cons_succ]); refine hK _ _ ?_; clear hK K
  repeat (first | (refine m_plain (v := ?_) (by rfl) (by rfl) ?_ ?_; rotate_left; (intro wz hSw; obtain ⟨-, hSc⟩ := hSw; (try simp only [List.forall_mem_cons, List.forall_mem_nil, and_true] at hSc); go_simp; (first | done | with_reducible rfl)); (intro K hK; (try simp only [Act.put, List.setIfInBounds_toArray, List.set_cons_zero, List.set_cons_succ]); refine hK _ _ ?_; clear hK K)) | (refine m_skip (by rfl) (by rfl) ?_; (intro K hK; (try simp only [Act.put, List.setIfInBounds_toArray, List.set_cons_zero, List.set_cons_succ]); refine hK _ _ ?_; clear hK K)))
  refine m_make (by rfl) (by rfl) ?_ ?_
  · intro wz hSw hdep R hRz
    obtain ⟨hSe, hSc⟩ := hSw
    (try simp only [List.forall_mem_cons, List.forall_mem_nil, and_true] at hSc)
    unfold does
    (go_simp; refine Calls.mono (law23_ints [2] [30, 10] _ _ _ _ _ wz ((lit_at (hdep 1 _ rfl (depB_sound (f := 4) (by kernel_rfl))) (by first | decide | simp)).mono (fun b _ hb => hT2 b (Nat.le_trans (Below.size hG1.s.1) hb))) ((lit_at (hdep 2 _ rfl (depB_sound (f := 4) (by kernel_rfl))) (by first | decide | simp)).mono (fun b _ hb => hT2 b (Nat.le_trans (Below.size hG2.s.1) hb))) (by decide) (by decide)) ?_; intro e wq h; obtain ⟨v, rfl, h1⟩ := retAC_arm hT2 hSe (h.eq hB1.out); exact ⟨_, rfl, hRz.out _ _ h1⟩)
  intro v3 u3 x3 hG3 K hK
  have hF3 := hG3.fact
  (try dsimp only at hF3)
  obtain ⟨s3, c3, n3, m3, i3, j3, he, hA3, hb3, hC3⟩ := hF3
  injection he with he
  subst he
  replace hC3 := hid hC3
  (try simp only [Act.put, List.setIfInBounds_toArray, List.set_cons_zero, List.set_cons_succ]); refine hK _ _ ?_; clear hK K
  repeat (first | (refine m_plain (v := ?_) (by rfl) (by rfl) ?_ ?_; rotate_left; (intro wz hSw; obtain ⟨-, hSc⟩ := hSw; (try simp only [List.forall_mem_cons, List.forall_mem_nil, and_true] at hSc); go_simp; (first | done | with_reducible rfl)); (intro K hK; (try simp only [Act.put, List.setIfInBounds_toArray, List.set_cons_zero, List.set_cons_succ]); refine hK _ _ ?_; clear hK K)) | (refine m_skip (by rfl) (by rfl) ?_; (intro K hK; (try simp only [Act.put, List.setIfInBounds_toArray, List.set_cons_zero, List.set_cons_succ]); refine hK _ _ ?_; clear hK K)))
  refine m_make (by rfl) (by rfl) ?_ ?_
  · intro wz hSw hdep R hRz
    obtain ⟨hSe, hSc⟩ := hSw
    (try simp only [List.forall_mem_cons, List.forall_mem_nil, and_true] at hSc)
    unfold does
    (go_simp; refine Calls.mono (ref03_Same r1 bb1 _ _ _ _ _ _ _ _ _ _ _ _ _ _ wz (ArrAt.up (ArrAt.mono (fun b _ h => hT1 b h) _ (E.out.arr 9 rfl)) hSe) (hA3.up (hdep 3 _ rfl (depB_sound (f := 4) (by kernel_rfl))))) ?_; rintro e wq ⟨rfl, hqb⟩; rw [hu1.out]; exact ⟨_, rfl, hRz.out _ _ ⟨hqb, rfl⟩⟩)
  intro v4 u4 x4 hG4 K hK
  have hF4 := hG4.fact
  (try dsimp only at hF4)
  subst hF4
  (try simp only [Act.put, List.setIfInBounds_toArray, List.set_cons_zero, List.set_cons_succ]); refine hK _ _ ?_; clear hK K
  repeat (first | (refine m_plain (v := ?_) (by rfl) (by rfl) ?_ ?_; rotate_left; (intro wz hSw; obtain ⟨-, hSc⟩ := hSw; (try simp only [List.forall_mem_cons, List.forall_mem_nil, and_true] at hSc); go_simp; (first | done | with_reducible rfl)); (intro K hK; (try simp only [Act.put, List.setIfInBounds_toArray, List.set_cons_zero, List.set_cons_succ]); refine hK _ _ ?_; clear hK K)) | (refine m_skip (by rfl) (by rfl) ?_; (intro K hK; (try simp only [Act.put, List.setIfInBounds_toArray, List.set_cons_zero, List.set_cons_succ]); refine hK _ _ ?_; clear hK K)))
  refine m_make (by rfl) (by rfl) ?_ ?_
  · intro wz hSw hdep R hRz
    obtain ⟨hSe, hSc⟩ := hSw
    (try simp only [List.forall_mem_cons, List.forall_mem_nil, and_true] at hSc)
    unfold does
    (go_simp; exact hRz.out _ _ ⟨ext_alloc _ _, rfl, rfl⟩)
  intro v7 u7 x7 hG7 K hK
  have hF7 := hG7.fact
  (try dsimp only at hF7)
  obtain ⟨rfl, rfl⟩ := hF7
  (try simp only [Act.put, List.setIfInBounds_toArray, List.set_cons_zero, List.set_cons_succ]); refine hK _ _ ?_; clear hK K
  repeat (first | (refine m_plain (v := ?_) (by rfl) (by rfl) ?_ ?_; rotate_left; (intro wz hSw; obtain ⟨-, hSc⟩ := hSw; (try simp only [List.forall_mem_cons, List.forall_mem_nil, and_true] at hSc); go_simp; (first | done | with_reducible rfl)); (intro K hK; (try simp only [Act.put, List.setIfInBounds_toArray, List.set_cons_zero, List.set_cons_succ]); refine hK _ _ ?_; clear hK K)) | (refine m_skip (by rfl) (by rfl) ?_; (intro K hK; (try simp only [Act.put, List.setIfInBounds_toArray, List.set_cons_zero, List.set_cons_succ]); refine hK _ _ ?_; clear hK K)))
  refine m_make (by rfl) (by rfl) ?_ ?_
  · intro wz hSw hdep R hRz
    obtain ⟨hSe, hSc⟩ := hSw
    (try simp only [List.forall_mem_cons, List.forall_mem_nil, and_true] at hSc)
    unfold does
    (go_simp; refine Calls.mono (law23_ints [] [3] none 0 _ _ _ wz (IntsAt.nil _ _ _) ((lit_at (hdep 7 _ rfl (depB_sound (f := 4) (by kernel_rfl))) (by first | decide | simp)).mono (fun b _ hb => hT2 b (Nat.le_trans (Below.size hG7.s.1) hb))) (by decide) (by decide)) ?_; intro e wq h; obtain ⟨v, rfl, h1⟩ := retAC_arm hT2 hSe (h.eq hB2.out); exact ⟨_, rfl, hRz.out _ _ h1⟩)
  intro v8 u8 x8 hG8 K hK
  have hF8 := hG8.fact
  (try dsimp only at hF8)
  obtain ⟨s8, c8, n8, m8, i8, j8, he, hA8, hb8, hC8⟩ := hF8
  injection he with he
  subst he
  replace hC8 := hid hC8
  (try simp only [Act.put, List.setIfInBounds_toArray, List.set_cons_zero, List.set_cons_succ]); refine hK _ _ ?_; clear hK K
  repeat (first | (refine m_plain (v := ?_) (by rfl) (by rfl) ?_ ?_; rotate_left; (intro wz hSw; obtain ⟨-, hSc⟩ := hSw; (try simp only [List.forall_mem_cons, List.forall_mem_nil, and_true] at hSc); go_simp; (first | done | with_reducible rfl)); (intro K hK; (try simp only [Act.put, List.setIfInBounds_toArray, List.set_cons_zero, List.set_cons_succ]); refine hK _ _ ?_; clear hK K)) | (refine m_skip (by rfl) (by rfl) ?_; (intro K hK; (try simp only [Act.put, List.setIfInBounds_toArray, List.set_cons_zero, List.set_cons_succ]); refine hK _ _ ?_; clear hK K)))
  refine m_make (by rfl) (by rfl) ?_ ?_
  · intro wz hSw hdep R hRz
    obtain ⟨hSe, hSc⟩ := hSw
    (try simp only [List.forall_mem_cons, List.forall_mem_nil, and_true] at hSc)
    unfold does
    (go_simp; refine Calls.mono (ref03_Same r2 bb2 _ _ _ _ _ _ _ _ _ _ _ _ _ _ wz (ArrAt.up (ArrAt.mono (fun b _ h => hT1 b h) _ (E.out.arr 16 rfl)) hSe) (hA8.up (hdep 8 _ rfl (depB_sound (f := 4) (by kernel_rfl))))) ?_; rintro e wq ⟨rfl, hqb⟩; rw [hu2.out]; exact ⟨_, rfl, hRz.out _ _ ⟨hqb, rfl⟩⟩)
  intro v9 u9 x9 hG9 K hK
  have hF9 := hG9.fact
  (try dsimp only at hF9)
  subst hF9
  (try simp only [Act.put, List.setIfInBounds_toArray, List.set_cons_zero, List.set_cons_succ]); refine hK _ _ ?_; clear hK K
  repeat (first | (refine m_plain (v := ?_) (by rfl) (by rfl) ?_ ?_; rotate_left; (intro wz hSw; obtain ⟨-, hSc⟩ := hSw; (try simp only [List.forall_mem_cons, List.forall_mem_nil, and_true] at hSc); go_simp; (first | done | with_reducible rfl)); (intro K hK; (try simp only [Act.put, List.setIfInBounds_toArray, List.set_cons_zero, List.set_cons_succ]); refine hK _ _ ?_; clear hK K)) | (refine m_skip (by rfl) (by rfl) ?_; (intro K hK; (try simp only [Act.put, List.setIfInBounds_toArray, List.set_cons_zero, List.set_cons_succ]); refine hK _ _ ?_; clear hK K)))
  refine m_make (by rfl) (by rfl) ?_ ?_
  · intro wz hSw hdep R hRz
    obtain ⟨hSe, hSc⟩ := hSw
    (try simp only [List.forall_mem_cons, List.forall_mem_nil, and_true] at hSc)
    unfold does
    (go_simp; exact hRz.out _ _ ⟨ext_alloc _ _, rfl, rfl⟩)
  intro v13 u13 x13 hG13 K hK
  have hF13 := hG13.fact
  (try dsimp only at hF13)
  obtain ⟨rfl, rfl⟩ := hF13
  (try simp only [Act.put, List.setIfInBounds_toArray, List.set_cons_zero, List.set_cons_succ]); refine hK _ _ ?_; clear hK K
  repeat (first | (refine m_plain (v := ?_) (by rfl) (by rfl) ?_ ?_; rotate_left; (intro wz hSw; obtain ⟨-, hSc⟩ := hSw; (try simp only [List.forall_mem_cons, List.forall_mem_nil, and_true] at hSc); go_simp; (first | done | with_reducible rfl)); (intro K hK; (try simp only [Act.put, List.setIfInBounds_toArray, List.set_cons_zero, List.set_cons_succ]); refine hK _ _ ?_; clear hK K)) | (refine m_skip (by rfl) (by rfl) ?_; (intro K hK; (try simp only [Act.put, List.setIfInBounds_toArray, List.set_cons_zero, List.set_cons_succ]); refine hK _ _ ?_; clear hK K)))
  refine m_make (by rfl) (by rfl) ?_ ?_
  · intro wz hSw hdep R hRz
    obtain ⟨hSe, hSc⟩ := hSw
    (try simp only [List.forall_mem_cons, List.forall_mem_nil, and_true] at hSc)
    unfold does
    (go_simp; exact hRz.out _ _ ⟨ext_alloc _ _, rfl, rfl⟩)
  intro v14 u14 x14 hG14 K hK
  have hF14 := hG14.fact
  (try dsimp only at hF14)
  obtain ⟨rfl, rfl⟩ := hF14
  (try simp only [Act.put, List.setIfInBounds_toArray, List.set_cons_zero, List.set_cons_succ]); refine hK _ _ ?_; clear hK K
  repeat (first | (refine m_plain (v := ?_) (by rfl) (by rfl) ?_ ?_; rotate_left; (intro wz hSw; obtain ⟨-, hSc⟩ := hSw; (try simp only [List.forall_mem_cons, List.forall_mem_nil, and_true] at hSc); go_simp; (first | done | with_reducible rfl)); (intro K hK; (try simp only [Act.put, List.setIfInBounds_toArray, List.set_cons_zero, List.set_cons_succ]); refine hK _ _ ?_; clear hK K)) | (refine m_skip (by rfl) (by rfl) ?_; (intro K hK; (try simp only [Act.put, List.setIfInBounds_toArray, List.set_cons_zero, List.set_cons_succ]); refine hK _ _ ?_; clear hK K)))
  refine m_make (by rfl) (by rfl) ?_ ?_
  · intro wz hSw hdep R hRz
    obtain ⟨hSe, hSc⟩ := hSw
    (try simp only [List.forall_mem_cons, List.forall_mem_nil, and_true] at hSc)
    unfold does
    (go_simp; refine Calls.mono (law23_ints [2] [6, 4] _ _ _ _ _ wz ((lit_at (hdep 13 _ rfl (depB_sound (f := 4) (by kernel_rfl))) (by first | decide | simp)).mono (fun b _ hb => hT2 b (Nat.le_trans (Below.size hG13.s.1) hb))) ((lit_at (hdep 14 _ rfl (depB_sound (f := 4) (by kernel_rfl))) (by first | decide | simp)).mono (fun b _ hb => hT2 b (Nat.le_trans (Below.size hG14.s.1) hb))) (by decide) (by decide)) ?_; intro e wq h; obtain ⟨v, rfl, h1⟩ := retAC_arm hT2 hSe (h.eq hB3.out); exact ⟨_, rfl, hRz.out _ _ h1⟩)
  intro v15 u15 x15 hG15 K hK
  have hF15 := hG15.fact
  (try dsimp only at hF15)
  obtain ⟨s15, c15, n15, m15, i15, j15, he, hA15, hb15, hC15⟩ := hF15
  injection he with he
  subst he
  replace hC15 := hid hC15
  (try simp only [Act.put, List.setIfInBounds_toArray, List.set_cons_zero, List.set_cons_succ]); refine hK _ _ ?_; clear hK K
  repeat (first | (refine m_plain (v := ?_) (by rfl) (by rfl) ?_ ?_; rotate_left; (intro wz hSw; obtain ⟨-, hSc⟩ := hSw; (try simp only [List.forall_mem_cons, List.forall_mem_nil, and_true] at hSc); go_simp; (first | done | with_reducible rfl)); (intro K hK; (try simp only [Act.put, List.setIfInBounds_toArray, List.set_cons_zero, List.set_cons_succ]); refine hK _ _ ?_; clear hK K)) | (refine m_skip (by rfl) (by rfl) ?_; (intro K hK; (try simp only [Act.put, List.setIfInBounds_toArray, List.set_cons_zero, List.set_cons_succ]); refine hK _ _ ?_; clear hK K)))
  refine m_make (by rfl) (by rfl) ?_ ?_
  · intro wz hSw hdep R hRz
    obtain ⟨hSe, hSc⟩ := hSw
    (try simp only [List.forall_mem_cons, List.forall_mem_nil, and_true] at hSc)
    unfold does
    (go_simp; refine Calls.mono (ref03_Same r3 bb3 _ _ _ _ _ _ _ _ _ _ _ _ _ _ wz (ArrAt.up (ArrAt.mono (fun b _ h => hT1 b h) _ (E.out.arr 19 rfl)) hSe) (hA15.up (hdep 15 _ rfl (depB_sound (f := 4) (by kernel_rfl))))) ?_; rintro e wq ⟨rfl, hqb⟩; rw [hu3.out]; exact ⟨_, rfl, hRz.out _ _ ⟨hqb, rfl⟩⟩)
  intro v16 u16 x16 hG16 K hK
  have hF16 := hG16.fact
  (try dsimp only at hF16)
  subst hF16
  (try simp only [Act.put, List.setIfInBounds_toArray, List.set_cons_zero, List.set_cons_succ]); refine hK _ _ ?_; clear hK K
  repeat (first | (refine m_plain (v := ?_) (by rfl) (by rfl) ?_ ?_; rotate_left; (intro wz hSw; obtain ⟨-, hSc⟩ := hSw; (try simp only [List.forall_mem_cons, List.forall_mem_nil, and_true] at hSc); go_simp; (first | done | with_reducible rfl)); (intro K hK; (try simp only [Act.put, List.setIfInBounds_toArray, List.set_cons_zero, List.set_cons_succ]); refine hK _ _ ?_; clear hK K)) | (refine m_skip (by rfl) (by rfl) ?_; (intro K hK; (try simp only [Act.put, List.setIfInBounds_toArray, List.set_cons_zero, List.set_cons_succ]); refine hK _ _ ?_; clear hK K)))
  refine m_make (by rfl) (by rfl) ?_ ?_
  · intro wz hSw hdep R hRz
    obtain ⟨hSe, hSc⟩ := hSw
    (try simp only [List.forall_mem_cons, List.forall_mem_nil, and_true] at hSc)
    unfold does
    (go_simp; exact hRz.out _ _ ⟨ext_alloc _ _, rfl, rfl⟩)
  intro v20 u20 x20 hG20 K hK
  have hF20 := hG20.fact
  (try dsimp only at hF20)
  obtain ⟨rfl, rfl⟩ := hF20
  (try simp only [Act.put, List.setIfInBounds_toArray, List.set_cons_zero, List.set_cons_succ]); refine hK _ _ ?_; clear hK K
  repeat (first | (refine m_plain (v := ?_) (by rfl) (by rfl) ?_ ?_; rotate_left; (intro wz hSw; obtain ⟨-, hSc⟩ := hSw; (try simp only [List.forall_mem_cons, List.forall_mem_nil, and_true] at hSc); go_simp; (first | done | with_reducible rfl)); (intro K hK; (try simp only [Act.put, List.setIfInBounds_toArray, List.set_cons_zero, List.set_cons_succ]); refine hK _ _ ?_; clear hK K)) | (refine m_skip (by rfl) (by rfl) ?_; (intro K hK; (try simp only [Act.put, List.setIfInBounds_toArray, List.set_cons_zero, List.set_cons_succ]); refine hK _ _ ?_; clear hK K)))
  refine m_make (by rfl) (by rfl) ?_ ?_
  · intro wz hSw hdep R hRz
    obtain ⟨hSe, hSc⟩ := hSw
    (try simp only [List.forall_mem_cons, List.forall_mem_nil, and_true] at hSc)
    unfold does
    (go_simp; exact hRz.out _ _ ⟨ext_alloc _ _, rfl, rfl⟩)
  intro v21 u21 x21 hG21 K hK
  have hF21 := hG21.fact
  (try dsimp only at hF21)
  obtain ⟨rfl, rfl⟩ := hF21
  (try simp only [Act.put, List.setIfInBounds_toArray, List.set_cons_zero, List.set_cons_succ]); refine hK _ _ ?_; clear hK K
  repeat (first | (refine m_plain (v := ?_) (by rfl) (by rfl) ?_ ?_; rotate_left; (intro wz hSw; obtain ⟨-, hSc⟩ := hSw; (try simp only [List.forall_mem_cons, List.forall_mem_nil, and_true] at hSc); go_simp; (first | done | with_reducible rfl)); (intro K hK; (try simp only [Act.put, List.setIfInBounds_toArray, List.set_cons_zero, List.set_cons_succ]); refine hK _ _ ?_; clear hK K)) | (refine m_skip (by rfl) (by rfl) ?_; (intro K hK; (try simp only [Act.put, List.setIfInBounds_toArray, List.set_cons_zero, List.set_cons_succ]); refine hK _ _ ?_; clear hK K)))
  refine m_make (by rfl) (by rfl) ?_ ?_
  · intro wz hSw hdep R hRz
    obtain ⟨hSe, hSc⟩ := hSw
    (try simp only [List.forall_mem_cons, List.forall_mem_nil, and_true] at hSc)
    unfold does
    (go_simp; refine Calls.mono (law23_ints [3] [4, 5, 6] _ _ _ _ _ wz ((lit_at (hdep 20 _ rfl (depB_sound (f := 4) (by kernel_rfl))) (by first | decide | simp)).mono (fun b _ hb => hT2 b (Nat.le_trans (Below.size hG20.s.1) hb))) ((lit_at (hdep 21 _ rfl (depB_sound (f := 4) (by kernel_rfl))) (by first | decide | simp)).mono (fun b _ hb => hT2 b (Nat.le_trans (Below.size hG21.s.1) hb))) (by decide) (by decide)) ?_; intro e wq h; obtain ⟨v, rfl, h1⟩ := retAC_arm hT2 hSe (h.eq hB4.out); exact ⟨_, rfl, hRz.out _ _ h1⟩)
  intro v22 u22 x22 hG22 K hK
  have hF22 := hG22.fact
  (try dsimp only at hF22)
  obtain ⟨s22, c22, n22, m22, i22, j22, he, hA22, hb22, hC22⟩ := hF22
  injection he with he
  subst he
  replace hC22 := hid hC22
  (try simp only [Act.put, List.setIfInBounds_toArray, List.set_cons_zero, List.set_cons_succ]); refine hK _ _ ?_; clear hK K
  repeat (first | (refine m_plain (v := ?_) (by rfl) (by rfl) ?_ ?_; rotate_left; (intro wz hSw; obtain ⟨-, hSc⟩ := hSw; (try simp only [List.forall_mem_cons, List.forall_mem_nil, and_true] at hSc); go_simp; (first | done | with_reducible rfl)); (intro K hK; (try simp only [Act.put, List.setIfInBounds_toArray, List.set_cons_zero, List.set_cons_succ]); refine hK _ _ ?_; clear hK K)) | (refine m_skip (by rfl) (by rfl) ?_; (intro K hK; (try simp only [Act.put, List.setIfInBounds_toArray, List.set_cons_zero, List.set_cons_succ]); refine hK _ _ ?_; clear hK K)))
  refine m_make (by rfl) (by rfl) ?_ ?_
  · intro wz hSw hdep R hRz
    obtain ⟨hSe, hSc⟩ := hSw
    (try simp only [List.forall_mem_cons, List.forall_mem_nil, and_true] at hSc)
    unfold does
    (go_simp; refine Calls.mono (ref03_Same r4 bb4 _ _ _ _ _ _ _ _ _ _ _ _ _ _ wz (ArrAt.up (ArrAt.mono (fun b _ h => hT1 b h) _ (E.out.arr 21 rfl)) hSe) (hA22.up (hdep 22 _ rfl (depB_sound (f := 4) (by kernel_rfl))))) ?_; rintro e wq ⟨rfl, hqb⟩; rw [hu4.out]; exact ⟨_, rfl, hRz.out _ _ ⟨hqb, rfl⟩⟩)
  intro v23 u23 x23 hG23 K hK
  have hF23 := hG23.fact
  (try dsimp only at hF23)
  subst hF23
  (try simp only [Act.put, List.setIfInBounds_toArray, List.set_cons_zero, List.set_cons_succ]); refine hK _ _ ?_; clear hK K
  repeat (first | (refine m_plain (v := ?_) (by rfl) (by rfl) ?_ ?_; rotate_left; (intro wz hSw; obtain ⟨-, hSc⟩ := hSw; (try simp only [List.forall_mem_cons, List.forall_mem_nil, and_true] at hSc); go_simp; (first | done | with_reducible rfl)); (intro K hK; (try simp only [Act.put, List.setIfInBounds_toArray, List.set_cons_zero, List.set_cons_succ]); refine hK _ _ ?_; clear hK K)) | (refine m_skip (by rfl) (by rfl) ?_; (intro K hK; (try simp only [Act.put, List.setIfInBounds_toArray, List.set_cons_zero, List.set_cons_succ]); refine hK _ _ ?_; clear hK K)))
  refine m_make (by rfl) (by rfl) ?_ ?_
  · intro wz hSw hdep R hRz
    obtain ⟨hSe, hSc⟩ := hSw
    (try simp only [List.forall_mem_cons, List.forall_mem_nil, and_true] at hSc)
    unfold does
    (go_simp; exact hRz.out _ _ ⟨ext_alloc _ _, rfl, rfl⟩)
  intro v27 u27 x27 hG27 K hK
  have hF27 := hG27.fact
  (try dsimp only at hF27)
  obtain ⟨rfl, rfl⟩ := hF27
  (try simp only [Act.put, List.setIfInBounds_toArray, List.set_cons_zero, List.set_cons_succ]); refine hK _ _ ?_; clear hK K
  repeat (first | (refine m_plain (v := ?_) (by rfl) (by rfl) ?_ ?_; rotate_left; (intro wz hSw; obtain ⟨-, hSc⟩ := hSw; (try simp only [List.forall_mem_cons, List.forall_mem_nil, and_true] at hSc); go_simp; (first | done | with_reducible rfl)); (intro K hK; (try simp only [Act.put, List.setIfInBounds_toArray, List.set_cons_zero, List.set_cons_succ]); refine hK _ _ ?_; clear hK K)) | (refine m_skip (by rfl) (by rfl) ?_; (intro K hK; (try simp only [Act.put, List.setIfInBounds_toArray, List.set_cons_zero, List.set_cons_succ]); refine hK _ _ ?_; clear hK K)))
  refine m_make (by rfl) (by rfl) ?_ ?_
  · intro wz hSw hdep R hRz
    obtain ⟨hSe, hSc⟩ := hSw
    (try simp only [List.forall_mem_cons, List.forall_mem_nil, and_true] at hSc)
    unfold does
    (go_simp; exact hRz.out _ _ ⟨ext_alloc _ _, rfl, rfl⟩)
  intro v28 u28 x28 hG28 K hK
  have hF28 := hG28.fact
  (try dsimp only at hF28)
  obtain ⟨rfl, rfl⟩ := hF28
  (try simp only [Act.put, List.setIfInBounds_toArray, List.set_cons_zero, List.set_cons_succ]); refine hK _ _ ?_; clear hK K
  repeat (first | (refine m_plain (v := ?_) (by rfl) (by rfl) ?_ ?_; rotate_left; (intro wz hSw; obtain ⟨-, hSc⟩ := hSw; (try simp only [List.forall_mem_cons, List.forall_mem_nil, and_true] at hSc); go_simp; (first | done | with_reducible rfl)); (intro K hK; (try simp only [Act.put, List.setIfInBounds_toArray, List.set_cons_zero, List.set_cons_succ]); refine hK _ _ ?_; clear hK K)) | (refine m_skip (by rfl) (by rfl) ?_; (intro K hK; (try simp only [Act.put, List.setIfInBounds_toArray, List.set_cons_zero, List.set_cons_succ]); refine hK _ _ ?_; clear hK K)))
  refine m_make (by rfl) (by rfl) ?_ ?_
  · intro wz hSw hdep R hRz
    obtain ⟨hSe, hSc⟩ := hSw
    (try simp only [List.forall_mem_cons, List.forall_mem_nil, and_true] at hSc)
    unfold does
    (go_simp; refine Calls.mono (law23_ints [3] [7, 20, 8] _ _ _ _ _ wz ((lit_at (hdep 27 _ rfl (depB_sound (f := 4) (by kernel_rfl))) (by first | decide | simp)).mono (fun b _ hb => hT2 b (Nat.le_trans (Below.size hG27.s.1) hb))) ((lit_at (hdep 28 _ rfl (depB_sound (f := 4) (by kernel_rfl))) (by first | decide | simp)).mono (fun b _ hb => hT2 b (Nat.le_trans (Below.size hG28.s.1) hb))) (by decide) (by decide)) ?_; intro e wq h; obtain ⟨v, rfl, h1⟩ := retAC_arm hT2 hSe (h.eq hB5.out); exact ⟨_, rfl, hRz.out _ _ h1⟩)
  intro v29 u29 x29 hG29 K hK
  have hF29 := hG29.fact
  (try dsimp only at hF29)
  obtain ⟨s29, c29, n29, m29, i29, j29, he, hA29, hb29, hC29⟩ := hF29
  injection he with he
  subst he
  replace hC29 := hid hC29
  (try simp only [Act.put, List.setIfInBounds_toArray, List.set_cons_zero, List.set_cons_succ]); refine hK _ _ ?_; clear hK K
  repeat (first | (refine m_plain (v := ?_) (by rfl) (by rfl) ?_ ?_; rotate_left; (intro wz hSw; obtain ⟨-, hSc⟩ := hSw; (try simp only [List.forall_mem_cons, List.forall_mem_nil, and_true] at hSc); go_simp; (first | done | with_reducible rfl)); (intro K hK; (try simp only [Act.put, List.setIfInBounds_toArray, List.set_cons_zero, List.set_cons_succ]); refine hK _ _ ?_; clear hK K)) | (refine m_skip (by rfl) (by rfl) ?_; (intro K hK; (try simp only [Act.put, List.setIfInBounds_toArray, List.set_cons_zero, List.set_cons_succ]); refine hK _ _ ?_; clear hK K)))
  refine m_make (by rfl) (by rfl) ?_ ?_
  · intro wz hSw hdep R hRz
    obtain ⟨hSe, hSc⟩ := hSw
    (try simp only [List.forall_mem_cons, List.forall_mem_nil, and_true] at hSc)
    unfold does
    (go_simp; refine Calls.mono (ref03_Same r5 bb5 _ _ _ _ _ _ _ _ _ _ _ _ _ _ wz (ArrAt.up (ArrAt.mono (fun b _ h => hT1 b h) _ (E.out.arr 23 rfl)) hSe) (hA29.up (hdep 29 _ rfl (depB_sound (f := 4) (by kernel_rfl))))) ?_; rintro e wq ⟨rfl, hqb⟩; rw [hu5.out]; exact ⟨_, rfl, hRz.out _ _ ⟨hqb, rfl⟩⟩)
  intro v30 u30 x30 hG30 K hK
  have hF30 := hG30.fact
  (try dsimp only at hF30)
  subst hF30
  (try simp only [Act.put, List.setIfInBounds_toArray, List.set_cons_zero, List.set_cons_succ]); refine hK _ _ ?_; clear hK K
  repeat (first | (refine m_plain (v := ?_) (by rfl) (by rfl) ?_ ?_; rotate_left; (intro wz hSw; obtain ⟨-, hSc⟩ := hSw; (try simp only [List.forall_mem_cons, List.forall_mem_nil, and_true] at hSc); go_simp; (first | done | with_reducible rfl)); (intro K hK; (try simp only [Act.put, List.setIfInBounds_toArray, List.set_cons_zero, List.set_cons_succ]); refine hK _ _ ?_; clear hK K)) | (refine m_skip (by rfl) (by rfl) ?_; (intro K hK; (try simp only [Act.put, List.setIfInBounds_toArray, List.set_cons_zero, List.set_cons_succ]); refine hK _ _ ?_; clear hK K)))
  refine m_make (by rfl) (by rfl) ?_ ?_
  · intro wz hSw hdep R hRz
    obtain ⟨hSe, hSc⟩ := hSw
    (try simp only [List.forall_mem_cons, List.forall_mem_nil, and_true] at hSc)
    unfold does
    (go_simp; exact hRz.out _ _ ⟨ext_alloc _ _, rfl, rfl⟩)
  intro v34 u34 x34 hG34 K hK
  have hF34 := hG34.fact
  (try dsimp only at hF34)
  obtain ⟨rfl, rfl⟩ := hF34
  (try simp only [Act.put, List.setIfInBounds_toArray, List.set_cons_zero, List.set_cons_succ]); refine hK _ _ ?_; clear hK K
  repeat (first | (refine m_plain (v := ?_) (by rfl) (by rfl) ?_ ?_; rotate_left; (intro wz hSw; obtain ⟨-, hSc⟩ := hSw; (try simp only [List.forall_mem_cons, List.forall_mem_nil, and_true] at hSc); go_simp; (first | done | with_reducible rfl)); (intro K hK; (try simp only [Act.put, List.setIfInBounds_toArray, List.set_cons_zero, List.set_cons_succ]); refine hK _ _ ?_; clear hK K)) | (refine m_skip (by rfl) (by rfl) ?_; (intro K hK; (try simp only [Act.put, List.setIfInBounds_toArray, List.set_cons_zero, List.set_cons_succ]); refine hK _ _ ?_; clear hK K)))
  refine m_make (by rfl) (by rfl) ?_ ?_
  · intro wz hSw hdep R hRz
    obtain ⟨hSe, hSc⟩ := hSw
    (try simp only [List.forall_mem_cons, List.forall_mem_nil, and_true] at hSc)
    unfold does
    (go_simp; exact hRz.out _ _ ⟨ext_alloc _ _, rfl, rfl⟩)
  intro v35 u35 x35 hG35 K hK
  have hF35 := hG35.fact
  (try dsimp only at hF35)
  obtain ⟨rfl, rfl⟩ := hF35
  (try simp only [Act.put, List.setIfInBounds_toArray, List.set_cons_zero, List.set_cons_succ]); refine hK _ _ ?_; clear hK K
  repeat (first | (refine m_plain (v := ?_) (by rfl) (by rfl) ?_ ?_; rotate_left; (intro wz hSw; obtain ⟨-, hSc⟩ := hSw; (try simp only [List.forall_mem_cons, List.forall_mem_nil, and_true] at hSc); go_simp; (first | done | with_reducible rfl)); (intro K hK; (try simp only [Act.put, List.setIfInBounds_toArray, List.set_cons_zero, List.set_cons_succ]); refine hK _ _ ?_; clear hK K)) | (refine m_skip (by rfl) (by rfl) ?_; (intro K hK; (try simp only [Act.put, List.setIfInBounds_toArray, List.set_cons_zero, List.set_cons_succ]); refine hK _ _ ?_; clear hK K)))
  refine m_make (by rfl) (by rfl) ?_ ?_
  · intro wz hSw hdep R hRz
    obtain ⟨hSe, hSc⟩ := hSw
    (try simp only [List.forall_mem_cons, List.forall_mem_nil, and_true] at hSc)
    unfold does
    (go_simp; refine Calls.mono (law23_ints [3] [0, 20, 0] _ _ _ _ _ wz ((lit_at (hdep 34 _ rfl (depB_sound (f := 4) (by kernel_rfl))) (by first | decide | simp)).mono (fun b _ hb => hT2 b (Nat.le_trans (Below.size hG34.s.1) hb))) ((lit_at (hdep 35 _ rfl (depB_sound (f := 4) (by kernel_rfl))) (by first | decide | simp)).mono (fun b _ hb => hT2 b (Nat.le_trans (Below.size hG35.s.1) hb))) (by decide) (by decide)) ?_; intro e wq h; obtain ⟨v, rfl, h1⟩ := retAC_arm hT2 hSe (h.eq hB6.out); exact ⟨_, rfl, hRz.out _ _ h1⟩)
  intro v36 u36 x36 hG36 K hK
  have hF36 := hG36.fact
  (try dsimp only at hF36)
  obtain ⟨s36, c36, n36, m36, i36, j36, he, hA36, hb36, hC36⟩ := hF36
  injection he with he
  subst he
  replace hC36 := hid hC36
  (try simp only [Act.put, List.setIfInBounds_toArray, List.set_cons_zero, List.set_cons_succ]); refine hK _ _ ?_; clear hK K
  repeat (first | (refine m_plain (v := ?_) (by rfl) (by rfl) ?_ ?_; rotate_left; (intro wz hSw; obtain ⟨-, hSc⟩ := hSw; (try simp only [List.forall_mem_cons, List.forall_mem_nil, and_true] at hSc); go_simp; (first | done | with_reducible rfl)); (intro K hK; (try simp only [Act.put, List.setIfInBounds_toArray, List.set_cons_zero, List.set_cons_succ]); refine hK _ _ ?_; clear hK K)) | (refine m_skip (by rfl) (by rfl) ?_; (intro K hK; (try simp only [Act.put, List.setIfInBounds_toArray, List.set_cons_zero, List.set_cons_succ]); refine hK _ _ ?_; clear hK K)))
  refine m_make (by rfl) (by rfl) ?_ ?_
  · intro wz hSw hdep R hRz
    obtain ⟨hSe, hSc⟩ := hSw
    (try simp only [List.forall_mem_cons, List.forall_mem_nil, and_true] at hSc)
    unfold does
    (go_simp; refine Calls.mono (ref03_Same r6 bb6 _ _ _ _ _ _ _ _ _ _ _ _ _ _ wz (ArrAt.up (ArrAt.mono (fun b _ h => hT1 b h) _ (E.out.arr 25 rfl)) hSe) (hA36.up (hdep 36 _ rfl (depB_sound (f := 4) (by kernel_rfl))))) ?_; rintro e wq ⟨rfl, hqb⟩; rw [hu6.out]; exact ⟨_, rfl, hRz.out _ _ ⟨hqb, rfl⟩⟩)
  intro v37 u37 x37 hG37 K hK
  have hF37 := hG37.fact
  (try dsimp only at hF37)
  subst hF37
  (try simp only [Act.put, List.setIfInBounds_toArray, List.set_cons_zero, List.set_cons_succ]); refine hK _ _ ?_; clear hK K
  repeat (first | (refine m_plain (v := ?_) (by rfl) (by rfl) ?_ ?_; rotate_left; (intro wz hSw; obtain ⟨-, hSc⟩ := hSw; (try simp only [List.forall_mem_cons, List.forall_mem_nil, and_true] at hSc); go_simp; (first | done | with_reducible rfl)); (intro K hK; (try simp only [Act.put, List.setIfInBounds_toArray, List.set_cons_zero, List.set_cons_succ]); refine hK _ _ ?_; clear hK K)) | (refine m_skip (by rfl) (by rfl) ?_; (intro K hK; (try simp only [Act.put, List.setIfInBounds_toArray, List.set_cons_zero, List.set_cons_succ]); refine hK _ _ ?_; clear hK K)))
  refine m_nil ?_
  intro wf hSf hAf
  have ef := hid (E.out.up hSf.1).ext
  clear hSf hAf
  go_wp2_with fail
  exact hR.out _ _ ⟨rfl, ef.out⟩
end Go.Proofs.Ytcoknjlkhefgpaa
