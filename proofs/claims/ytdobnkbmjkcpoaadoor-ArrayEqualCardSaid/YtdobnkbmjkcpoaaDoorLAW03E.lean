/- The law ArrayEqual: true. Conditions: the arrays are read; the tables of unicode/utf8 lie as their initialisers lay them. -/
import Derived.Test.YtdobnkbmjkcpoaaDoorLAW03X
import Derived.Test.YtdobnkbmjkcpoaaDoorC17
import Derived.Test.YtdobnkbmjkcpoaaDoorCHG
set_option linter.unusedVariables false
set_option linter.unusedSimpArgs false
namespace Go.Proofs.YtdobnkbmjkcpoaaDoor
open Go.RowKit Go.Sort
attribute [local go_sem ↓] run_max2 run_min2
attribute [local go_sem] eql_ints_nil eql_arrs_nil
theorem Env.looseObjs {w0 w w' : World} {S T : Nat → Prop} {L : List Fact} (E : Env w0 S w L) (hL : Loose T w w') (ho : ∀ f ∈ L, ∃ b o, f = .obj b o) (hn : ∀ b ∈ blks L, ¬ T b) (hT : ∀ b, T b → w0.heap.size ≤ b) : Env w0 S w' L := by
  refine ⟨?_, E.nd, fun b hb => ⟨(E.lo b hb).1, Nat.lt_of_lt_of_le (E.lo b hb).2 hL.size⟩, fun f hf => ?_⟩
  · have := hL.below hT E.size
    exact E.ext.trans this
  · obtain ⟨b, o, rfl⟩ := ho f hf
    have hb : b ∈ blks L := mem_blks.2 ⟨_, hf, by simp [Fact.blk]⟩
    exact (hL.block b (E.lo b hb).2 (hn b hb)).trans (E.h _ hf)
theorem out_between {u x u' x' : World} {o : Obj} (h : Ext x u' ∨ Ext (u'.alloc o) u) {b : Nat} (h1 : u.heap.size ≤ b) (h2 : b < x.heap.size) : b ≠ u'.heap.size := ord_out h h1 h2
set_option maxRecDepth 100000 in
set_option maxHeartbeats 8000000 in
theorem law03_ArrayEqual (x : Arr) (sx : Option Addr) (cx : Nat) (nx : Option Addr) (mx : Nat) (ix : Option Addr) (jx : Nat) (y : Arr) (sy : Option Addr) (cy : Nat) (ny : Option Addr) (my : Nat) (iy : Option Addr) (jy : Nat) (S : Nat → Prop) (w : World) (h : ArrAt w S x sx nx ix) (g : ArrAt w S y sy ny iy) (hT : Tabs w) :
    Calls Tryd.prog 5 #[.agg #[.int .i64 x.kind, .slice sx x.shape.length cx, .slice nx x.nums.length mx, .slice ix x.items.length jx], .agg #[.int .i64 y.kind, .slice sy y.shape.length cy, .slice ny y.nums.length my, .slice iy y.items.length jy]] w fun e w' => e = .returned (.bool true) ∧ Below w.heap.size w w' := by
  refine calls_post fun R' hR => ?_
  have h0 := hid h
  have g0 := hid g
  clear h g
  go_enter Tryd.func5, Tryd.ntmps5
  go_upto_region 1 with (fail)
  generalize hEW : ((w).alloc (.cells #[.int .i64 x.kind, .slice sx x.shape.length cx, .slice nx x.nums.length mx, .slice ix x.items.length jx] 26)).alloc (.cells #[.int .i64 y.kind, .slice sy y.shape.length cy, .slice ny y.nums.length my, .slice iy y.items.length jy] 26) = W
  have E := hid (env2 w S hEW)
  clear hEW
  replace E := hid ((E.out.arg h0.out).arg g0.out)
  (try simp only [List.cons_append, List.nil_append, List.set_cons_zero, List.set_cons_succ] at E)
  obtain ⟨q00, q01, q02, q03⟩ := (E.out.hdr 0 rfl).all
  go_wp2_with fail
  clear q00 q01 q02 q03
  refine (ref03_Small x _ _ _ _ _ _ _ _ (E.out.arr 2 rfl)).mono ?_
  rintro e w1 ⟨b1, rfl, hb⟩
  replace E := hid (E.out.up hb)
  clear hb
  cases b1 with
  | false =>
    go_wp2_with (go_at_call 12; refine (law03_example _ (Utf8Tabs_below hT E.out.ext)).mono ?_; rintro e w9 ⟨rfl, hb9⟩)
    exact hR.out _ _ ⟨rfl, (E.out.up hb9).ext⟩
  | true =>
  obtain ⟨q10, q11, q12, q13⟩ := (E.out.hdr 1 rfl).all
  go_wp2_with fail
  clear q10 q11 q12 q13
  refine (ref03_Small y _ _ _ _ _ _ _ _ (E.out.arr 3 rfl)).mono ?_
  rintro e w2 ⟨b2, rfl, hb⟩
  replace E := hid (E.out.up hb)
  clear hb
  cases b2 with
  | false =>
    go_wp2_with (go_at_call 12; refine (law03_example _ (Utf8Tabs_below hT E.out.ext)).mono ?_; rintro e w9 ⟨rfl, hb9⟩)
    exact hR.out _ _ ⟨rfl, (E.out.up hb9).ext⟩
  | true =>
  go_upto_region 3 with fail
  have hlt2 := hid (E.out.lt 1 rfl).2
  have hlt1 := hid (E.out.lt 0 rfl).2
  have hw2 := hid E.out.size
  refine wp_region_mono_tail 6 (Sees w2 [(⟨w.heap.size, 0, none⟩, .int .i64 x.kind), (⟨w.heap.size, 1, none⟩, .slice sx x.shape.length cx), (⟨w.heap.size, 2, none⟩, .slice nx x.nums.length mx), (⟨w.heap.size, 3, none⟩, .slice ix x.items.length jx)]) [1, 3, 4, 5] (fun k v u u' => match k with | 1 => RetA u (fun b => u.heap.size ≤ b) x (.returned v) u' | 3 => RetAU u x (.returned v) u' | 4 => v = .pointer (some ⟨u.heap.size, 0, none⟩) ∧ u' = u.alloc (.cells #[.int .i64 0, .slice none 0 0, .slice none 0 0, .slice none 0 0] 26) | 5 => v = .pointer (some ⟨u.heap.size, 0, none⟩) ∧ u' = u.alloc (.cells #[.int .i64 0, .slice none 0 0, .slice none 0 0, .slice none 0 0] 26) | _ => False) (fun _ _ h e => h.up e) (Sees.start (all_cons ((E.out.hdr 0 rfl).c0) (all_cons ((E.out.hdr 0 rfl).c1) (all_cons ((E.out.hdr 0 rfl).c2) (all_cons ((E.out.hdr 0 rfl).c3) (all_nil)))))) (by kernel_rfl) (by kernel_rfl) ?_
  simp only [List.take_succ_cons, List.take_zero, List.drop_succ_cons, List.drop_zero]
  repeat (first | (refine m_plain (v := ?_) (by rfl) (by rfl) ?_ ?_; rotate_left; (intro wz hSw; obtain ⟨-, hSc⟩ := hSw; (try simp only [List.forall_mem_cons, List.forall_mem_nil, and_true] at hSc); go_simp; (first | done | with_reducible rfl)); (intro K hK; (try simp only [Act.put, List.setIfInBounds_toArray, List.set_cons_zero, List.set_cons_succ]); refine hK _ _ ?_; clear hK K)) | (refine m_skip (by rfl) (by rfl) ?_; (intro K hK; (try simp only [Act.put, List.setIfInBounds_toArray, List.set_cons_zero, List.set_cons_succ]); refine hK _ _ ?_; clear hK K)))
  refine m_make (by rfl) (by rfl) ?_ ?_
  · intro wz hSw hdep R hRz
    obtain ⟨hSe, hSc⟩ := hSw
    (try simp only [List.forall_mem_cons, List.forall_mem_nil, and_true] at hSc)
    unfold does
    (go_simp; refine Calls.mono (ref03_Clone x _ _ _ _ _ _ _ wz ((E.out.arr 2 rfl).up hSe)) ?_; rintro e wq ⟨ta, tc, tn, tnc, ti, tic, rfl, hq, hqb⟩; exact ⟨_, rfl, hRz.out _ _ ⟨hqb, ta, tc, tn, tnc, ti, tic, rfl, hq, hqb⟩⟩)
  intro v1 u1 x1 hG1 K hK
  have hF1 := hG1.fact
  (try dsimp only at hF1)
  obtain ⟨s1, c1, n1, m1, i1, j1, he, hA1, hb1⟩ := hF1
  injection he with he
  subst he
  (try simp only [Act.put, List.setIfInBounds_toArray, List.set_cons_zero, List.set_cons_succ]); refine hK _ _ ?_; clear hK K
  repeat (first | (refine m_plain (v := ?_) (by rfl) (by rfl) ?_ ?_; rotate_left; (intro wz hSw; obtain ⟨-, hSc⟩ := hSw; (try simp only [List.forall_mem_cons, List.forall_mem_nil, and_true] at hSc); go_simp; (first | done | with_reducible rfl)); (intro K hK; (try simp only [Act.put, List.setIfInBounds_toArray, List.set_cons_zero, List.set_cons_succ]); refine hK _ _ ?_; clear hK K)) | (refine m_skip (by rfl) (by rfl) ?_; (intro K hK; (try simp only [Act.put, List.setIfInBounds_toArray, List.set_cons_zero, List.set_cons_succ]); refine hK _ _ ?_; clear hK K)))
  refine m_make (by rfl) (by rfl) ?_ ?_
  · intro wz hSw hdep R hRz
    obtain ⟨hSe, hSc⟩ := hSw
    (try simp only [List.forall_mem_cons, List.forall_mem_nil, and_true] at hSc)
    unfold does
    (go_simp; refine Calls.mono (array_CloneU x _ _ _ _ _ _ _ wz ((E.out.arr 2 rfl).up hSe)) ?_; rintro e wq ⟨ta, tc, tn, tnc, ti, tic, rfl, hq, hqb⟩; exact ⟨_, rfl, hRz.out _ _ ⟨hqb, ta, tc, tn, tnc, ti, tic, rfl, hq, hqb⟩⟩)
  intro v3 u3 x3 hG3 K hK
  have hF3 := hG3.fact
  (try dsimp only at hF3)
  obtain ⟨s3, c3, n3, m3, i3, j3, he, hA3, hb3⟩ := hF3
  injection he with he
  subst he
  (try simp only [Act.put, List.setIfInBounds_toArray, List.set_cons_zero, List.set_cons_succ]); refine hK _ _ ?_; clear hK K
  repeat (first | (refine m_plain (v := ?_) (by rfl) (by rfl) ?_ ?_; rotate_left; (intro wz hSw; obtain ⟨-, hSc⟩ := hSw; (try simp only [List.forall_mem_cons, List.forall_mem_nil, and_true] at hSc); go_simp; (first | done | with_reducible rfl)); (intro K hK; (try simp only [Act.put, List.setIfInBounds_toArray, List.set_cons_zero, List.set_cons_succ]); refine hK _ _ ?_; clear hK K)) | (refine m_skip (by rfl) (by rfl) ?_; (intro K hK; (try simp only [Act.put, List.setIfInBounds_toArray, List.set_cons_zero, List.set_cons_succ]); refine hK _ _ ?_; clear hK K)))
  refine m_make (by rfl) (by rfl) ?_ ?_
  · intro wz hSw hdep R hRz
    obtain ⟨hSe, hSc⟩ := hSw
    (try simp only [List.forall_mem_cons, List.forall_mem_nil, and_true] at hSc)
    unfold does
    (go_simp; exact hRz.out _ _ ⟨ext_alloc _ _, rfl, rfl⟩)
  intro v4 u4 x4 hG4 K hK
  have hF4 := hG4.fact
  (try dsimp only at hF4)
  obtain ⟨rfl, rfl⟩ := hF4
  (try simp only [Act.put, List.setIfInBounds_toArray, List.set_cons_zero, List.set_cons_succ]); refine hK _ _ ?_; clear hK K
  repeat (first | (refine m_plain (v := ?_) (by rfl) (by rfl) ?_ ?_; rotate_left; (intro wz hSw; obtain ⟨-, hSc⟩ := hSw; (try simp only [List.forall_mem_cons, List.forall_mem_nil, and_true] at hSc); go_simp; (first | done | with_reducible rfl)); (intro K hK; (try simp only [Act.put, List.setIfInBounds_toArray, List.set_cons_zero, List.set_cons_succ]); refine hK _ _ ?_; clear hK K)) | (refine m_skip (by rfl) (by rfl) ?_; (intro K hK; (try simp only [Act.put, List.setIfInBounds_toArray, List.set_cons_zero, List.set_cons_succ]); refine hK _ _ ?_; clear hK K)))
  refine m_make (by rfl) (by rfl) ?_ ?_
  · intro wz hSw hdep R hRz
    obtain ⟨hSe, hSc⟩ := hSw
    (try simp only [List.forall_mem_cons, List.forall_mem_nil, and_true] at hSc)
    unfold does
    (go_simp; exact hRz.out _ _ ⟨ext_alloc _ _, rfl, rfl⟩)
  intro v5 u5 x5 hG5 K hK
  have hF5 := hG5.fact
  (try dsimp only at hF5)
  obtain ⟨rfl, rfl⟩ := hF5
  (try simp only [Act.put, List.setIfInBounds_toArray, List.set_cons_zero, List.set_cons_succ]); refine hK _ _ ?_; clear hK K
  repeat (first | (refine m_plain (v := ?_) (by rfl) (by rfl) ?_ ?_; rotate_left; (intro wz hSw; obtain ⟨-, hSc⟩ := hSw; (try simp only [List.forall_mem_cons, List.forall_mem_nil, and_true] at hSc); go_simp; (first | done | with_reducible rfl)); (intro K hK; (try simp only [Act.put, List.setIfInBounds_toArray, List.set_cons_zero, List.set_cons_succ]); refine hK _ _ ?_; clear hK K)) | (refine m_skip (by rfl) (by rfl) ?_; (intro K hK; (try simp only [Act.put, List.setIfInBounds_toArray, List.set_cons_zero, List.set_cons_succ]); refine hK _ _ ?_; clear hK K)))
  refine m_nil ?_
  intro wf hSf hAf
  have e3 : Ext x3 wf := hAf 3 _ rfl
  have o43 := hG4.order 3 _ rfl
  have o53 := hG5.order 3 _ rfl
  have o41 := hG4.order 1 _ rfl
  have o51 := hG5.order 1 _ rfl
  have o31 := hG3.order 1 _ rfl
  have eu3 : Ext w2 u3 := hG3.s.1
  have eu1 : Ext w2 u1 := hG1.s.1
  have e1 : Ext x1 wf := hAf 1 _ rfl
  have zu3 := Below.size eu3
  have zu1 := Below.size eu1
  have ze3 := Below.size e3
  have ze1 := Below.size e1
  obtain ⟨T0, hT0⟩ : ∃ T0 : Nat → Prop, T0 = fun b => u3.heap.size ≤ b ∧ b < x3.heap.size ∧ Unf wf b := ⟨_, rfl⟩
  have HC : ArrAt wf T0 x s3 n3 i3 := ArrAt.turn (ArrAt.mono (T := fun b => b < x3.heap.size ∧ (u3.heap.size ≤ b ∧ Unf x3 b)) (fun b hlt hb => ⟨hlt, hb⟩) x hA3) (fun b hb hlt => Below.block e3 b hlt) (fun b hlt hb => by rw [hT0]; exact ⟨hb.2.1, hb.1, hb.2.2.keep (Below.block e3 b hlt)⟩)
  have HTn : ∀ b, T0 b → b < wf.heap.size ∧ Unf wf b ∧ w2.heap.size ≤ b ∧ b ≠ u4.heap.size ∧ b ≠ u5.heap.size := fun b hb => by
    rw [hT0] at hb
    exact ⟨by have := hb.2.1; omega, hb.2.2, by have := hb.1; omega, ord_out o43 hb.1 hb.2.1, ord_out o53 hb.1 hb.2.1⟩
  have HW : ArrAt wf (fun b => ¬ T0 b ∧ w2.heap.size ≤ b ∧ b ≠ u4.heap.size ∧ b ≠ u5.heap.size) x s1 n1 i1 := by
    refine ArrAt.turn (ArrAt.mono (T := fun b => b < x1.heap.size ∧ u1.heap.size ≤ b) (fun b hlt hb => ⟨hlt, hb⟩) x hA1) (fun b hb hlt => Below.block e1 b hlt) (fun b hlt hb => ⟨fun hq => ?_, by have := hb.2; omega, ord_out o41 hb.2 hb.1, ord_out o51 hb.2 hb.1⟩)
    rw [hT0] at hq
    rcases o31 with o | o
    · have q1 : x1.heap.size ≤ u3.heap.size := Below.size o
      have := hq.1; have := hb.1; omega
    · have q1 : x3.heap.size ≤ u1.heap.size := Below.size o
      have := hq.2.1; have := hb.2; omega
  clear hT0
  replace E := hid (E.out.made2 hG4.s.1 hG5.s.1 (hAf 4 _ rfl) (hAf 5 _ rfl) (hG5.order 4 _ rfl))
  clear hSf hAf hG1 hG3 hG4 hG5 hA1 hA3 hb1 hb3 o43 o53 o41 o51 o31 eu3 eu1 e1 e3 zu3 zu1 ze3 ze1
  generalize u4.heap.size = p4 at E HTn HW ⊢
  generalize u5.heap.size = p5 at E HTn HW ⊢
  replace HC := hid HC
  replace HW := hid HW
  replace HTn := hid HTn
  (try simp only [List.cons_append, List.nil_append, List.set_cons_zero, List.set_cons_succ] at E)
  refine wpl_store4 (by rfl) (.tmp 5) (.tmp 17) (by rfl) _ (by rfl) (by rfl) (E.out.hdr 4 rfl) ?_
  intro V1 HV CV1
  replace E := hid (E.out.chg 4 rfl CV1 HV)
  clear HV
  (try simp only [List.cons_append, List.nil_append, List.set_cons_zero, List.set_cons_succ] at E)
  refine wpl_store4 (by rfl) (.tmp 6) (.tmp 19) (by rfl) _ (by rfl) (by rfl) (E.out.hdr 5 rfl) ?_
  intro V2 HV CV2
  replace E := hid (E.out.chg 5 rfl CV2 HV)
  clear HV
  (try simp only [List.cons_append, List.nil_append, List.set_cons_zero, List.set_cons_succ] at E)
  have kp : ∀ b, b < wf.heap.size → b ≠ p4 → b ≠ p5 → V2.heap[b]? = wf.heap[b]? := fun b hb n1 n2 => (CV2.blk (by have := CV1.z; omega) n2).trans (CV1.blk hb n1)
  have z2 : V2.heap.size = wf.heap.size := CV2.z.trans CV1.z
  replace HC : Hid (ArrAt V2 T0 x s3 n3 i3) := hid (ArrAt.keep (fun b hb hlt => by have q := HTn.out b hb; exact kp b hlt q.2.2.2.1 q.2.2.2.2) x HC.out)
  replace HW : Hid (ArrAt V2 (fun b => ¬ T0 b ∧ w2.heap.size ≤ b ∧ b ≠ p4 ∧ b ≠ p5) x s1 n1 i1) := hid (ArrAt.keep (fun b hb hlt => kp b hlt hb.2.2.1 hb.2.2.2) x HW.out)
  replace HTn : Hid (∀ b, T0 b → (b < V2.heap.size ∧ Unf V2 b) ∧ w2.heap.size ≤ b ∧ b ≠ p4 ∧ b ≠ p5) := hid (fun b hb => by have q := HTn.out b hb; exact ⟨⟨by omega, q.2.1.keep (kp b q.1 q.2.2.2.1 q.2.2.2.2)⟩, q.2.2⟩)
  clear CV1 CV2 kp z2
  have E0 := hid (E.out.sub (M := [.obj w.heap.size (.cells #[.int .i64 x.kind, .slice sx x.shape.length cx, .slice nx x.nums.length mx, .slice ix x.items.length jx] 26 (0, 0)), .obj (w.heap.size + 1) (.cells #[.int .i64 y.kind, .slice sy y.shape.length cy, .slice ny y.nums.length my, .slice iy y.items.length jy] 26 (0, 0)), .obj p4 (.cells #[.int .i64 x.kind, .slice s1 x.shape.length c1, .slice n1 x.nums.length m1, .slice i1 x.items.length j1] 26 (0, 0)), .obj p5 (.cells #[.int .i64 x.kind, .slice s3 x.shape.length c3, .slice n3 x.nums.length m3, .slice i3 x.items.length j3] 26 (0, 0))]) (List.Sublist.cons_cons _ (List.Sublist.cons_cons _ (List.Sublist.cons _ (List.Sublist.cons _ (List.Sublist.refl _))))))
  have A3 := hid HC.out
  have A1 := hid HW.out
  obtain ⟨r, hr⟩ : ∃ r, sameB x y = r := ⟨_, rfl⟩
  have hrr : (r != r) = false := by cases r <;> rfl
  have ux : Hid (sameB x x = true) := hid (sameB_self _)
  replace hr := hid hr
  have hT2 : Tabs V2 := Utf8Tabs_below hT E.out.ext
  replace E := hid ((E.out.addArr A1.out (fun b _ hb => ⟨Or.inr (by have := hb.2.1; have := hw2.out; omega), by
    have h1 := hlt1.out
    have h2 := hlt2.out
    have h3 := hb.2
    simp only [blks, Fact.blk, List.nil_append, List.cons_append, List.append_nil, List.mem_cons, List.not_mem_nil, or_false]
    omega⟩)).addArr (T := T0) A3.out (fun b _ hb => ⟨Or.inr (by have := (HTn.out b hb).2.1; have := hw2.out; omega), by
    have h1 := hlt1.out
    have h2 := hlt2.out
    have h3 := (HTn.out b hb).2
    simp only [blks, Fact.blk, List.nil_append, List.cons_append, List.append_nil, List.mem_cons, List.not_mem_nil, or_false]
    omega⟩))
  (try simp only [List.cons_append, List.nil_append, List.set_cons_zero, List.set_cons_succ] at E)
  go_upto_region 4 with fail
  obtain ⟨T, hT1, hT2, hT3⟩ := E.out.tw
  refine wp_region_mono (Sees V2 [(⟨w.heap.size, 0, none⟩, .int .i64 x.kind), (⟨w.heap.size, 1, none⟩, .slice sx x.shape.length cx), (⟨w.heap.size, 2, none⟩, .slice nx x.nums.length mx), (⟨w.heap.size, 3, none⟩, .slice ix x.items.length jx), (⟨(w.heap.size+1), 0, none⟩, .int .i64 y.kind), (⟨(w.heap.size+1), 1, none⟩, .slice sy y.shape.length cy), (⟨(w.heap.size+1), 2, none⟩, .slice ny y.nums.length my), (⟨(w.heap.size+1), 3, none⟩, .slice iy y.items.length jy), (⟨p5, 0, none⟩, .int .i64 x.kind), (⟨p5, 1, none⟩, .slice s3 x.shape.length c3), (⟨p5, 2, none⟩, .slice n3 x.nums.length m3), (⟨p5, 3, none⟩, .slice i3 x.items.length j3)]) [2, 5, 10, 16] (fun k v u u' => match k with | 2 => v = .bool r | 5 => v = .bool r | 10 => v = .bool true | 16 => v = .bool true | _ => False) (fun _ _ h e => h.up e) (Sees.start (all_cons ((E.out.hdr 0 rfl).c0) (all_cons ((E.out.hdr 0 rfl).c1) (all_cons ((E.out.hdr 0 rfl).c2) (all_cons ((E.out.hdr 0 rfl).c3) (all_cons ((E.out.hdr 1 rfl).c0) (all_cons ((E.out.hdr 1 rfl).c1) (all_cons ((E.out.hdr 1 rfl).c2) (all_cons ((E.out.hdr 1 rfl).c3) (all_cons ((E.out.hdr 5 rfl).c0) (all_cons ((E.out.hdr 5 rfl).c1) (all_cons ((E.out.hdr 5 rfl).c2) (all_cons ((E.out.hdr 5 rfl).c3) (all_nil)))))))))))))) (by kernel_rfl) (by kernel_rfl) ?_
  repeat (first | (refine m_plain (v := ?_) (by rfl) (by rfl) ?_ ?_; rotate_left; (intro wz hSw; obtain ⟨-, hSc⟩ := hSw; (try simp only [List.forall_mem_cons, List.forall_mem_nil, and_true] at hSc); go_simp; (first | done | with_reducible rfl)); (intro K hK; (try simp only [Act.put, List.setIfInBounds_toArray, List.set_cons_zero, List.set_cons_succ]); refine hK _ _ ?_; clear hK K)) | (refine m_skip (by rfl) (by rfl) ?_; (intro K hK; (try simp only [Act.put, List.setIfInBounds_toArray, List.set_cons_zero, List.set_cons_succ]); refine hK _ _ ?_; clear hK K)))
  refine m_make (by rfl) (by rfl) ?_ ?_
  · intro wz hSw hdep R hRz
    obtain ⟨hSe, hSc⟩ := hSw
    (try simp only [List.forall_mem_cons, List.forall_mem_nil, and_true] at hSc)
    unfold does
    (go_simp; refine Calls.mono (array_Same x y _ _ _ _ _ _ _ _ _ _ _ _ _ _ wz (ArrAt.up (ArrAt.mono (fun b _ h => hT1 b h) _ (E.out.arr 2 rfl)) hSe) (ArrAt.up (ArrAt.mono (fun b _ h => hT1 b h) _ (E.out.arr 3 rfl)) hSe)) ?_; rintro e wq ⟨rfl, hqb⟩; rw [hr.out]; exact ⟨_, rfl, hRz.out _ _ ⟨hqb, rfl⟩⟩)
  intro v2 u2 x2 hG2 K hK
  have hF2 := hG2.fact
  (try dsimp only at hF2)
  subst hF2
  (try simp only [Act.put, List.setIfInBounds_toArray, List.set_cons_zero, List.set_cons_succ]); refine hK _ _ ?_; clear hK K
  repeat (first | (refine m_plain (v := ?_) (by rfl) (by rfl) ?_ ?_; rotate_left; (intro wz hSw; obtain ⟨-, hSc⟩ := hSw; (try simp only [List.forall_mem_cons, List.forall_mem_nil, and_true] at hSc); go_simp; (first | done | with_reducible rfl)); (intro K hK; (try simp only [Act.put, List.setIfInBounds_toArray, List.set_cons_zero, List.set_cons_succ]); refine hK _ _ ?_; clear hK K)) | (refine m_skip (by rfl) (by rfl) ?_; (intro K hK; (try simp only [Act.put, List.setIfInBounds_toArray, List.set_cons_zero, List.set_cons_succ]); refine hK _ _ ?_; clear hK K)))
  refine m_make (by rfl) (by rfl) ?_ ?_
  · intro wz hSw hdep R hRz
    obtain ⟨hSe, hSc⟩ := hSw
    (try simp only [List.forall_mem_cons, List.forall_mem_nil, and_true] at hSc)
    unfold does
    (go_simp; refine Calls.mono (ref03_Same x y _ _ _ _ _ _ _ _ _ _ _ _ _ _ wz (ArrAt.up (ArrAt.mono (fun b _ h => hT1 b h) _ (E.out.arr 2 rfl)) hSe) (ArrAt.up (ArrAt.mono (fun b _ h => hT1 b h) _ (E.out.arr 3 rfl)) hSe)) ?_; rintro e wq ⟨rfl, hqb⟩; rw [hr.out]; exact ⟨_, rfl, hRz.out _ _ ⟨hqb, rfl⟩⟩)
  intro v5 u5 x5 hG5 K hK
  have hF5 := hG5.fact
  (try dsimp only at hF5)
  subst hF5
  (try simp only [Act.put, List.setIfInBounds_toArray, List.set_cons_zero, List.set_cons_succ]); refine hK _ _ ?_; clear hK K
  repeat (first | (refine m_plain (v := ?_) (by rfl) (by rfl) ?_ ?_; rotate_left; (intro wz hSw; obtain ⟨-, hSc⟩ := hSw; (try simp only [List.forall_mem_cons, List.forall_mem_nil, and_true] at hSc); go_simp; (first | done | with_reducible rfl)); (intro K hK; (try simp only [Act.put, List.setIfInBounds_toArray, List.set_cons_zero, List.set_cons_succ]); refine hK _ _ ?_; clear hK K)) | (refine m_skip (by rfl) (by rfl) ?_; (intro K hK; (try simp only [Act.put, List.setIfInBounds_toArray, List.set_cons_zero, List.set_cons_succ]); refine hK _ _ ?_; clear hK K)))
  refine m_make (by rfl) (by rfl) ?_ ?_
  · intro wz hSw hdep R hRz
    obtain ⟨hSe, hSc⟩ := hSw
    (try simp only [List.forall_mem_cons, List.forall_mem_nil, and_true] at hSc)
    unfold does
    (go_simp; refine Calls.mono (array_Same x x _ _ _ _ _ _ _ _ _ _ _ _ _ _ wz (ArrAt.up (ArrAt.mono (fun b _ h => hT1 b h) _ (E.out.arr 2 rfl)) hSe) (ArrAt.up (ArrAt.mono (fun b _ h => hT1 b h) _ (E.out.arr 7 rfl)) hSe)) ?_; rintro e wq ⟨rfl, hqb⟩; rw [ux.out]; exact ⟨_, rfl, hRz.out _ _ ⟨hqb, rfl⟩⟩)
  intro v10 u10 x10 hG10 K hK
  have hF10 := hG10.fact
  (try dsimp only at hF10)
  subst hF10
  (try simp only [Act.put, List.setIfInBounds_toArray, List.set_cons_zero, List.set_cons_succ]); refine hK _ _ ?_; clear hK K
  repeat (first | (refine m_plain (v := ?_) (by rfl) (by rfl) ?_ ?_; rotate_left; (intro wz hSw; obtain ⟨-, hSc⟩ := hSw; (try simp only [List.forall_mem_cons, List.forall_mem_nil, and_true] at hSc); go_simp; (first | done | with_reducible rfl)); (intro K hK; (try simp only [Act.put, List.setIfInBounds_toArray, List.set_cons_zero, List.set_cons_succ]); refine hK _ _ ?_; clear hK K)) | (refine m_skip (by rfl) (by rfl) ?_; (intro K hK; (try simp only [Act.put, List.setIfInBounds_toArray, List.set_cons_zero, List.set_cons_succ]); refine hK _ _ ?_; clear hK K)))
  refine m_make (by rfl) (by rfl) ?_ ?_
  · intro wz hSw hdep R hRz
    obtain ⟨hSe, hSc⟩ := hSw
    (try simp only [List.forall_mem_cons, List.forall_mem_nil, and_true] at hSc)
    unfold does
    (go_simp; refine Calls.mono (ref03_Same x x _ _ _ _ _ _ _ _ _ _ _ _ _ _ wz (ArrAt.up (ArrAt.mono (fun b _ h => hT1 b h) _ (E.out.arr 2 rfl)) hSe) (ArrAt.up (ArrAt.mono (fun b _ h => hT1 b h) _ (E.out.arr 7 rfl)) hSe)) ?_; rintro e wq ⟨rfl, hqb⟩; rw [ux.out]; exact ⟨_, rfl, hRz.out _ _ ⟨hqb, rfl⟩⟩)
  intro v16 u16 x16 hG16 K hK
  have hF16 := hG16.fact
  (try dsimp only at hF16)
  subst hF16
  (try simp only [Act.put, List.setIfInBounds_toArray, List.set_cons_zero, List.set_cons_succ]); refine hK _ _ ?_; clear hK K
  repeat (first | (refine m_plain (v := ?_) (by rfl) (by rfl) ?_ ?_; rotate_left; (intro wz hSw; obtain ⟨-, hSc⟩ := hSw; (try simp only [List.forall_mem_cons, List.forall_mem_nil, and_true] at hSc); go_simp; (first | done | with_reducible rfl)); (intro K hK; (try simp only [Act.put, List.setIfInBounds_toArray, List.set_cons_zero, List.set_cons_succ]); refine hK _ _ ?_; clear hK K)) | (refine m_skip (by rfl) (by rfl) ?_; (intro K hK; (try simp only [Act.put, List.setIfInBounds_toArray, List.set_cons_zero, List.set_cons_succ]); refine hK _ _ ?_; clear hK K)))
  refine m_nil ?_
  intro wf hSf hAf
  have hL : Hid (Loose T0 V2 wf) := hid (Loose.of_ext hSf.1)
  replace E := hid (E.out.up hSf.1)
  clear hSf hAf
  obtain ⟨q50, q51, q52, q53⟩ := (E.out.hdr 5 rfl).all
  go_wp2_with fail
  clear q50 q51 q52 q53
  refine (law03_changed x _ _ _ _ _ _ _ T0 V2 _ A3.out (fun b hb => (HTn.out b hb).1) hL.out).mono ?_
  rintro e w8 ⟨⟨v, rfl⟩, hL8⟩
  have hLL := hL.out.trans hL8
  replace E := hid ((E0.out.looseObjs hLL (by
      intro f hf
      simp only [List.mem_cons, List.not_mem_nil, or_false] at hf
      rcases hf with rfl | rfl | rfl | rfl <;> exact ⟨_, _, rfl⟩) (by
      intro b hb hq
      have h1 := hlt1.out
      have h2 := hlt2.out
      have h3 := (HTn.out b hq).2
      simp only [blks, Fact.blk, List.nil_append, List.cons_append, List.append_nil, List.mem_cons, List.not_mem_nil, or_false] at hb
      omega) (fun b hb => by have := (HTn.out b hb).2.1; have := hw2.out; omega)).arg h0.out)
  (try simp only [List.cons_append, List.nil_append, List.set_cons_zero, List.set_cons_succ] at E)
  replace E := hid (E.out.addArr (ArrAt.keep (fun b hb hlt => hLL.block b hlt hb.1) x A1.out) (fun b _ hb => ⟨Or.inr (by have := hb.2.1; have := hw2.out; omega), by
    have h1 := hlt1.out
    have h2 := hlt2.out
    have h3 := hb.2
    simp only [blks, Fact.blk, List.nil_append, List.cons_append, List.append_nil, List.mem_cons, List.not_mem_nil, or_false]
    omega⟩))
  (try simp only [List.cons_append, List.nil_append, List.set_cons_zero, List.set_cons_succ] at E)
  clear hL hL8 hLL E0 A1 A3 HC HW HTn
  obtain ⟨q00, q01, q02, q03⟩ := (E.out.hdr 0 rfl).all
  obtain ⟨q20, q21, q22, q23⟩ := (E.out.hdr 2 rfl).all
  go_wp2_with fail
  clear q00 q01 q02 q03 q20 q21 q22 q23
  refine (ref03_Same x x _ _ _ _ _ _ _ _ _ _ _ _ _ _ _ (E.out.arr 4 rfl) (E.out.arr 5 rfl)).mono ?_
  rintro e w10 ⟨rfl, hb⟩
  replace E := hid (E.out.up hb)
  clear hb
  rw [ux.out]
  go_wp2_with (go_at_call 12; refine (law03_example _ (Utf8Tabs_below hT E.out.ext)).mono ?_; rintro e w9 ⟨rfl, hb9⟩)
  exact hR.out _ _ ⟨rfl, (E.out.up hb9).ext⟩
end Go.Proofs.YtdobnkbmjkcpoaaDoor
