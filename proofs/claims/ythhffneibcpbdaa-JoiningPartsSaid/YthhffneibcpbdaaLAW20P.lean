/- The law JoiningParts: true. Conditions: the arrays are read; a slice's capacity is at least its length. -/
import Derived.Test.YthhffneibcpbdaaLAW20X
import Derived.Test.YthhffneibcpbdaaGJ
set_option linter.unusedVariables false
set_option linter.unusedSimpArgs false
namespace Go.Proofs.Ythhffneibcpbdaa
open Go.RowKit Go.Sort
attribute [local go_sem ↓] run_max2 run_min2
attribute [local go_sem] eql_ints_nil eql_arrs_nil
set_option maxRecDepth 100000 in
set_option maxHeartbeats 8000000 in
theorem law20_JoiningParts (x : Arr) (sx : Option Addr) (cx : Nat) (nx : Option Addr) (mx : Nat) (ix : Option Addr) (jx : Nat) (y : Arr) (sy : Option Addr) (cy : Nat) (ny : Option Addr) (my : Nat) (iy : Option Addr) (jy : Nat) (S : Nat → Prop) (w : World) (h : ArrAt w S x sx nx ix) (g : ArrAt w S y sy ny iy) (hcx : x.shape.length ≤ cx ∧ x.nums.length ≤ mx ∧ x.items.length ≤ jx) (hcy : y.shape.length ≤ cy ∧ y.nums.length ≤ my ∧ y.items.length ≤ jy) :
    Calls Try.prog 7 #[.agg #[.int .i64 x.kind, .slice sx x.shape.length cx, .slice nx x.nums.length mx, .slice ix x.items.length jx], .agg #[.int .i64 y.kind, .slice sy y.shape.length cy, .slice ny y.nums.length my, .slice iy y.items.length jy]] w fun e w' => e = .returned (.bool true) ∧ Below w.heap.size w w' := by
  refine calls_post fun R' hR => ?_
  have h0 := hid h
  have g0 := hid g
  have hsx := h.shape.1
  have hsy := g.shape.1
  replace hcx := hid hcx
  replace hcy := hid hcy
  clear h g
  go_enter Try.func7, Try.ntmps7
  go_upto_region 1 with (fail)
  generalize hEW : ((w).alloc (.cells #[.int .i64 x.kind, .slice sx x.shape.length cx, .slice nx x.nums.length mx, .slice ix x.items.length jx] 26)).alloc (.cells #[.int .i64 y.kind, .slice sy y.shape.length cy, .slice ny y.nums.length my, .slice iy y.items.length jy] 26) = W
  have E := hid (env2 w S hEW)
  clear hEW
  replace E := hid ((E.out.arg h0.out).arg g0.out)
  (try simp only [List.cons_append, List.nil_append, List.set_cons_zero, List.set_cons_succ] at E)
  obtain ⟨q00, q01, q02, q03⟩ := (E.out.hdr 0 rfl).all
  obtain ⟨q10, q11, q12, q13⟩ := (E.out.hdr 1 rfl).all
  go_wp2_with fail
  clear q00 q01 q02 q03 q10 q11 q12 q13
  refine (ref03_Small x _ _ _ _ _ _ _ _ (E.out.arr 2 rfl)).mono ?_
  rintro e w1 ⟨b1, rfl, hb⟩
  replace E := hid (E.out.up hb)
  clear hb
  cases b1 with
  | false =>
    go_wp2_with (go_at_call 16; refine (law20_example _).mono ?_; rintro e w9 ⟨rfl, hb9⟩)
    exact hR.out _ _ ⟨rfl, (E.out.up hb9).ext⟩
  | true =>
  obtain ⟨q00, q01, q02, q03⟩ := (E.out.hdr 0 rfl).all
  obtain ⟨q10, q11, q12, q13⟩ := (E.out.hdr 1 rfl).all
  go_wp2_with fail
  clear q00 q01 q02 q03 q10 q11 q12 q13
  refine (ref03_Small y _ _ _ _ _ _ _ _ (E.out.arr 3 rfl)).mono ?_
  rintro e w2 ⟨b1, rfl, hb⟩
  replace E := hid (E.out.up hb)
  clear hb
  cases b1 with
  | false =>
    go_wp2_with (go_at_call 16; refine (law20_example _).mono ?_; rintro e w9 ⟨rfl, hb9⟩)
    exact hR.out _ _ ⟨rfl, (E.out.up hb9).ext⟩
  | true =>
  by_cases c1 : x.shape.length = y.shape.length
  case neg =>
    have cb : ((x.shape.length : Int) != (y.shape.length : Int)) = true := by simp; omega
    replace c1 := hid c1
    obtain ⟨q00, q01, q02, q03⟩ := (E.out.hdr 0 rfl).all
    obtain ⟨q10, q11, q12, q13⟩ := (E.out.hdr 1 rfl).all
    go_upto_region 2 with fail
    clear q00 q01 q02 q03 q10 q11 q12 q13
    go_wp2_with (go_at_call 16; refine (law20_example _).mono ?_; rintro e w9 ⟨rfl, hb9⟩)
    exact hR.out _ _ ⟨rfl, (E.out.up hb9).ext⟩
  have cb : ((x.shape.length : Int) != (y.shape.length : Int)) = false := by simp; omega
  by_cases c3 : x.shape.length = 0
  case pos =>
    have cb3 : ((x.shape.length : Int) == 0) = true := by simpa using c3
    replace c1 := hid c1
    replace c3 := hid c3
    obtain ⟨q00, q01, q02, q03⟩ := (E.out.hdr 0 rfl).all
    obtain ⟨q10, q11, q12, q13⟩ := (E.out.hdr 1 rfl).all
    go_upto_region 2 with fail
    clear q00 q01 q02 q03 q10 q11 q12 q13
    go_wp2_with (go_at_call 16; refine (law20_example _).mono ?_; rintro e w9 ⟨rfl, hb9⟩)
    exact hR.out _ _ ⟨rfl, (E.out.up hb9).ext⟩
  have cb3 : ((x.shape.length : Int) == 0) = false := by simpa using c3
  have Q1 : Hid (Eqr x y) := hid ⟨c1.symm, c3⟩
  have AS := hid (fun E1 => join_parts Q1.out E1)
  have NO := hid (fun E1 => joinS_no (last := false) (x := x) (y := y) E1)
  have lx : Hid (0 < x.shape.length) := hid (by omega)
  have ly : Hid (0 < y.shape.length) := hid (by omega)
  replace c1 := hid c1
  replace c3 := hid c3
  obtain ⟨q00, q01, q02, q03⟩ := (E.out.hdr 0 rfl).all
  obtain ⟨q10, q11, q12, q13⟩ := (E.out.hdr 1 rfl).all
  go_upto_region 3 with fail
  go_wp2_with fail
  clear q00 q01 q02 q03 q10 q11 q12 q13
  clear cb cb3
  refine (joining_First x _ _ _ _ _ _ y _ _ _ _ _ _ _ _ (E.out.arr 2 rfl) (E.out.arr 3 rfl) hcx.out hcy.out).mono ?_
  intro e w4 h
  obtain ⟨s101, c101, n101, m101, i101, j101, rfl, hA, hb, hC101⟩ := h.eq rfl rfl
  replace E := hid ((E.out.up hb).addArr hA (fun b _ hq => E.out.res (Ext.refl _) hq))
  replace hC101 := hid hC101
  clear hA hb h
  (try simp only [List.cons_append, List.nil_append, List.set_cons_zero, List.set_cons_succ] at E)
  obtain ⟨r, hr⟩ : ∃ r, r = joinS false x y := ⟨_, rfl⟩
  rw [← hr] at E hC101 AS NO ⊢
  obtain ⟨e1, he1⟩ : ∃ r, r = joinE false x y := ⟨_, rfl⟩
  rw [← he1] at AS NO ⊢
  replace hr := hid hr
  replace he1 := hid he1
  go_upto_region 4 with (refine wpl_store4 rfl (.tmp 5) (.tmp 38) rfl _ rfl rfl ((E.out.alloc _).hdr 5 rfl) ?_; intro V1 HV CV; replace E := hid ((E.out.alloc _).chg 5 rfl CV HV); clear CV HV; (try simp only [List.cons_append, List.nil_append, List.set_cons_zero, List.set_cons_succ] at E))
  generalize w4.heap.size = p1 at E ⊢
  by_cases f1 : e1 = 0
  case neg =>
    have cb : (e1 != 0) = true := by simpa using f1
    have hz : Hid (r = .zero) := hid (NO.out f1)
    replace f1 := hid f1
    obtain ⟨q50, q51, q52, q53⟩ := (E.out.hdr 5 rfl).all
    go_wp2_with fail
    clear q50 q51 q52 q53
    refine (ref03_Same r .zero _ _ _ _ _ _ none 0 none 0 none 0 _ (fun _ => True) _ (E.out.arr 4 rfl) (zero_at _ _ _ _ _)).mono ?_
    rintro e w5 ⟨rfl, hb⟩
    replace E := hid (E.out.up hb)
    clear hb
    rw [show sameB r .zero = true by rw [hz.out]; exact sameB_self _]
    go_wp2_with (go_at_call 16; refine (law20_example _).mono ?_; rintro e w9 ⟨rfl, hb9⟩)
    exact hR.out _ _ ⟨rfl, (E.out.up hb9).ext⟩
  have cb : (e1 != 0) = false := by simpa using f1
  have PT := hid (AS.out f1)
  clear AS NO
  replace f1 := hid f1
  obtain ⟨q00, q01, q02, q03⟩ := (E.out.hdr 0 rfl).all
  go_upto_region 6 with fail
  go_wp2_with fail
  clear q00 q01 q02 q03
  clear cb
  refine (size_ref03_Size x _ _ _ _ _ _ _ _ (E.out.arr 2 rfl)).mono ?_
  rintro e w5 ⟨rfl, hb⟩
  replace E := hid (E.out.up hb)
  clear hb
  obtain ⟨n, hn⟩ : ∃ n : Nat, n = szN x.kind x.nums.length x.items.length := ⟨_, rfl⟩
  rw [← hn]
  obtain ⟨ky, hk⟩ : ∃ n : Nat, n = szN y.kind y.nums.length y.items.length := ⟨_, rfl⟩
  have bx := PT.out.bx
  have byy := PT.out.by'
  have hrs : Hid ((szN r.kind r.nums.length r.items.length : Nat) = n + ky) := hid (by rw [hn, hk]; exact PT.out.s)
  rw [show szA x = n from hn.symm] at bx
  rw [show szA y = ky from hk.symm] at byy
  have pf : Hid (∀ i : Nat, i < n → sameB (atS r i) (atS x i) = true) := hid (fun i hi => by rw [PT.out.f i (by rw [show szA x = n from hn.symm]; exact hi)]; exact sameB_self _)
  have pg : Hid (∀ i : Nat, i < ky → sameB (atS r ((n + i : Nat) : Int)) (atS y i) = true) := hid (fun i hi => by
    have := PT.out.g i (by rw [show szA y = ky from hk.symm]; exact hi)
    rw [show szA x = n from hn.symm] at this
    rw [this]; exact sameB_self _)
  obtain ⟨b1, o1, hs1, hbl1, hS1, hc1⟩ := (E.out.arr 4 rfl).shape.at (k := 0) (by rw [PT.out.l]; exact lx.out)
  obtain ⟨b2, o2, hs2, hbl2, hS2, hc2⟩ := (E.out.arr 2 rfl).shape.at (k := 0) lx.out
  obtain ⟨b3, o3, hs3, hbl3, hS3, hc3⟩ := (E.out.arr 3 rfl).shape.at (k := 0) ly.out
  have hd := hid PT.out.d
  have dx := PT.out.dx
  have dy := PT.out.dy
  generalize r.shape.getD 0 0 = d1 at hc1 hd
  generalize x.shape.getD 0 0 = d2 at hc2 hd dx
  generalize y.shape.getD 0 0 = d3 at hc3 hd dy
  have lr : 0 < r.shape.length := by rw [PT.out.l]; exact lx.out
  have lx' := lx.out
  have ly' := ly.out
  have hw1 : IntKind.i64.wrap ((n : Int) + (ky : Int)) = (n : Int) + (ky : Int) := IntWalk.i64_in _ (by omega)
  have hw2 : IntKind.i64.wrap (d2 + d3) = d2 + d3 := IntWalk.i64_in _ (by omega)
  have hb1 : (((n + ky : Nat) : Int) != (n : Int) + (ky : Int)) = false := by simp
  have hb2 : (d1 != d2 + d3) = false := by simp; exact hd.out
  subst hs1
  subst hs2
  subst hs3
  replace hn := hid hn
  replace hk := hid hk
  go_upto_region 7 with fail
  obtain ⟨T, hT1, hT2, hT3⟩ := E.out.tw
  refine wp_region_mono (Sees w5 [(⟨p1, 0, none⟩, .int .i64 r.kind), (⟨p1, 1, none⟩, .slice (some ⟨b1, o1, none⟩) r.shape.length c101), (⟨p1, 2, none⟩, .slice n101 r.nums.length m101), (⟨p1, 3, none⟩, .slice i101 r.items.length j101), (⟨w.heap.size, 0, none⟩, .int .i64 x.kind), (⟨w.heap.size, 1, none⟩, .slice (some ⟨b2, o2, none⟩) x.shape.length cx), (⟨w.heap.size, 2, none⟩, .slice nx x.nums.length mx), (⟨w.heap.size, 3, none⟩, .slice ix x.items.length jx), (⟨w.heap.size + 1, 0, none⟩, .int .i64 y.kind), (⟨w.heap.size + 1, 1, none⟩, .slice (some ⟨b3, o3, none⟩) y.shape.length cy), (⟨w.heap.size + 1, 2, none⟩, .slice ny y.nums.length my), (⟨w.heap.size + 1, 3, none⟩, .slice iy y.items.length jy), (⟨b1, o1, none⟩, .int .i64 d1), (⟨b2, o2, none⟩, .int .i64 d2), (⟨b3, o3, none⟩, .int .i64 d3)]) [1, 5, 8] (fun k v u u' => match k with | 1 => v = .int .i64 0 | 5 => v = .int .i64 ((n + ky : Nat) : Int) | 8 => v = .int .i64 ky | _ => False) (fun _ _ h e => h.up e) (Sees.start (all_cons ((E.out.hdr 5 rfl).c0) (all_cons ((E.out.hdr 5 rfl).c1) (all_cons ((E.out.hdr 5 rfl).c2) (all_cons ((E.out.hdr 5 rfl).c3) (all_cons ((E.out.hdr 0 rfl).c0) (all_cons ((E.out.hdr 0 rfl).c1) (all_cons ((E.out.hdr 0 rfl).c2) (all_cons ((E.out.hdr 0 rfl).c3) (all_cons ((E.out.hdr 1 rfl).c0) (all_cons ((E.out.hdr 1 rfl).c1) (all_cons ((E.out.hdr 1 rfl).c2) (all_cons ((E.out.hdr 1 rfl).c3) (all_cons (hc1) (all_cons (hc2) (all_cons (hc3) (all_nil))))))))))))))))) (by kernel_rfl) (by kernel_rfl) ?_
  repeat (first | (refine m_plain (v := ?_) (by rfl) (by rfl) ?_ ?_; rotate_left; (intro wz hSw; obtain ⟨-, hSc⟩ := hSw; (try simp only [List.forall_mem_cons, List.forall_mem_nil, and_true] at hSc); go_simp; (first | done | with_reducible rfl)); (intro K hK; (try simp only [Act.put, List.setIfInBounds_toArray, List.set_cons_zero, List.set_cons_succ]); refine hK _ _ ?_; clear hK K)) | (refine m_skip (by rfl) (by rfl) ?_; (intro K hK; (try simp only [Act.put, List.setIfInBounds_toArray, List.set_cons_zero, List.set_cons_succ]); refine hK _ _ ?_; clear hK K)))
  refine m_make (by rfl) (by rfl) ?_ ?_
  · intro wz hSw hdep R hRz
    obtain ⟨hSe, hSc⟩ := hSw
    (try simp only [List.forall_mem_cons, List.forall_mem_nil, and_true] at hSc)
    unfold does
    (go_simp; refine Calls.mono (ref03_Right r _ _ _ _ _ _ _ wz (ArrAt.up (ArrAt.mono (fun b _ h => hT1 b h) _ (E.out.arr 4 rfl)) hSe)) ?_; rintro e wq ⟨rfl, hqb⟩; rw [PT.out.r]; exact ⟨_, rfl, hRz.out _ _ ⟨hqb, rfl⟩⟩)
  intro v1 u1 x1 hG1 K hK
  have hF1 := hG1.fact
  (try dsimp only at hF1)
  subst hF1
  (try simp only [Act.put, List.setIfInBounds_toArray, List.set_cons_zero, List.set_cons_succ]); refine hK _ _ ?_; clear hK K
  repeat (first | (refine m_plain (v := ?_) (by rfl) (by rfl) ?_ ?_; rotate_left; (intro wz hSw; obtain ⟨-, hSc⟩ := hSw; (try simp only [List.forall_mem_cons, List.forall_mem_nil, and_true] at hSc); go_simp; (first | done | with_reducible rfl)); (intro K hK; (try simp only [Act.put, List.setIfInBounds_toArray, List.set_cons_zero, List.set_cons_succ]); refine hK _ _ ?_; clear hK K)) | (refine m_skip (by rfl) (by rfl) ?_; (intro K hK; (try simp only [Act.put, List.setIfInBounds_toArray, List.set_cons_zero, List.set_cons_succ]); refine hK _ _ ?_; clear hK K)))
  refine m_make (by rfl) (by rfl) ?_ ?_
  · intro wz hSw hdep R hRz
    obtain ⟨hSe, hSc⟩ := hSw
    (try simp only [List.forall_mem_cons, List.forall_mem_nil, and_true] at hSc)
    unfold does
    (go_simp; refine Calls.mono (size_ref03_Size r _ _ _ _ _ _ _ wz (ArrAt.up (ArrAt.mono (fun b _ h => hT1 b h) _ (E.out.arr 4 rfl)) hSe)) ?_; rintro e wq ⟨rfl, hqb⟩; rw [hrs.out]; exact ⟨_, rfl, hRz.out _ _ ⟨hqb, rfl⟩⟩)
  intro v5 u5 x5 hG5 K hK
  have hF5 := hG5.fact
  (try dsimp only at hF5)
  subst hF5
  (try simp only [Act.put, List.setIfInBounds_toArray, List.set_cons_zero, List.set_cons_succ]); refine hK _ _ ?_; clear hK K
  repeat (first | (refine m_plain (v := ?_) (by rfl) (by rfl) ?_ ?_; rotate_left; (intro wz hSw; obtain ⟨-, hSc⟩ := hSw; (try simp only [List.forall_mem_cons, List.forall_mem_nil, and_true] at hSc); go_simp; (first | done | with_reducible rfl)); (intro K hK; (try simp only [Act.put, List.setIfInBounds_toArray, List.set_cons_zero, List.set_cons_succ]); refine hK _ _ ?_; clear hK K)) | (refine m_skip (by rfl) (by rfl) ?_; (intro K hK; (try simp only [Act.put, List.setIfInBounds_toArray, List.set_cons_zero, List.set_cons_succ]); refine hK _ _ ?_; clear hK K)))
  refine m_make (by rfl) (by rfl) ?_ ?_
  · intro wz hSw hdep R hRz
    obtain ⟨hSe, hSc⟩ := hSw
    (try simp only [List.forall_mem_cons, List.forall_mem_nil, and_true] at hSc)
    unfold does
    (go_simp; refine Calls.mono (size_ref03_Size y _ _ _ _ _ _ _ wz (ArrAt.up (ArrAt.mono (fun b _ h => hT1 b h) _ (E.out.arr 3 rfl)) hSe)) ?_; rintro e wq ⟨rfl, hqb⟩; rw [hk.out.symm]; exact ⟨_, rfl, hRz.out _ _ ⟨hqb, rfl⟩⟩)
  intro v8 u8 x8 hG8 K hK
  have hF8 := hG8.fact
  (try dsimp only at hF8)
  subst hF8
  (try simp only [Act.put, List.setIfInBounds_toArray, List.set_cons_zero, List.set_cons_succ]); refine hK _ _ ?_; clear hK K
  repeat (first | (refine m_plain (v := ?_) (by rfl) (by rfl) ?_ ?_; rotate_left; (intro wz hSw; obtain ⟨-, hSc⟩ := hSw; (try simp only [List.forall_mem_cons, List.forall_mem_nil, and_true] at hSc); go_simp; (first | done | with_reducible rfl)); (intro K hK; (try simp only [Act.put, List.setIfInBounds_toArray, List.set_cons_zero, List.set_cons_succ]); refine hK _ _ ?_; clear hK K)) | (refine m_skip (by rfl) (by rfl) ?_; (intro K hK; (try simp only [Act.put, List.setIfInBounds_toArray, List.set_cons_zero, List.set_cons_succ]); refine hK _ _ ?_; clear hK K)))
  refine m_nil ?_
  intro wf hSf hAf
  replace E := hid (E.out.up hSf.1)
  clear hSf hAf hc1 hc2 hc3 hw1 hw2 hb1 hb2 hG1 hG5 hG8 hT1 hT2 hT3
  go_wp2_with fail
  go_loopw [8] (fun v wr => ∃ i : Nat, i ≤ n ∧ v = .int .i64 i ∧ Env w S wr [.obj w.heap.size (.cells #[.int .i64 x.kind, .slice (some ⟨b2, o2, none⟩) x.shape.length cx, .slice nx x.nums.length mx, .slice ix x.items.length jx] 26 (0, 0)), .obj (w.heap.size + 1) (.cells #[.int .i64 y.kind, .slice (some ⟨b3, o3, none⟩) y.shape.length cy, .slice ny y.nums.length my, .slice iy y.items.length jy] 26 (0, 0)), .arr x (some ⟨b2, o2, none⟩) nx ix, .arr y (some ⟨b3, o3, none⟩) ny iy, .arr r (some ⟨b1, o1, none⟩) n101 i101, .obj p1 (.cells #[.int .i64 r.kind, .slice (some ⟨b1, o1, none⟩) r.shape.length c101, .slice n101 r.nums.length m101, .slice i101 r.items.length j101] 26 (0, 0))]) (fun v _ => n - (intOf v).toNat)
  case atStart => exact ⟨0, Nat.zero_le _, rfl, E.out⟩
  case round =>
    clear E
    obtain ⟨i, hi, rfl, E⟩ := hrel
    replace E := hid E
    by_cases hlt : i < n
    · have pi := hid (pf.out i hlt)
      go_upto_region 12 with fail
      obtain ⟨T, hT1, hT2, hT3⟩ := E.out.tw
      refine wp_region_mono (Sees wr [(⟨p1, 0, none⟩, .int .i64 r.kind), (⟨p1, 1, none⟩, .slice (some ⟨b1, o1, none⟩) r.shape.length c101), (⟨p1, 2, none⟩, .slice n101 r.nums.length m101), (⟨p1, 3, none⟩, .slice i101 r.items.length j101), (⟨w.heap.size, 0, none⟩, .int .i64 x.kind), (⟨w.heap.size, 1, none⟩, .slice (some ⟨b2, o2, none⟩) x.shape.length cx), (⟨w.heap.size, 2, none⟩, .slice nx x.nums.length mx), (⟨w.heap.size, 3, none⟩, .slice ix x.items.length jx)]) [2, 5, 6] (fun k v u u' => match k with | 2 => RetA u T (atS r i) (.returned v) u' | 5 => RetA u T (atS x i) (.returned v) u' | 6 => v = .bool true | _ => False) (fun _ _ h e => h.up e) (Sees.start (all_cons ((E.out.hdr 5 rfl).c0) (all_cons ((E.out.hdr 5 rfl).c1) (all_cons ((E.out.hdr 5 rfl).c2) (all_cons ((E.out.hdr 5 rfl).c3) (all_cons ((E.out.hdr 0 rfl).c0) (all_cons ((E.out.hdr 0 rfl).c1) (all_cons ((E.out.hdr 0 rfl).c2) (all_cons ((E.out.hdr 0 rfl).c3) (all_nil)))))))))) (by kernel_rfl) (by kernel_rfl) ?_
      repeat (first | (refine m_plain (v := ?_) (by rfl) (by rfl) ?_ ?_; rotate_left; (intro wz hSw; obtain ⟨-, hSc⟩ := hSw; (try simp only [List.forall_mem_cons, List.forall_mem_nil, and_true] at hSc); go_simp; (first | done | with_reducible rfl)); (intro K hK; (try simp only [Act.put, List.setIfInBounds_toArray, List.set_cons_zero, List.set_cons_succ]); refine hK _ _ ?_; clear hK K)) | (refine m_skip (by rfl) (by rfl) ?_; (intro K hK; (try simp only [Act.put, List.setIfInBounds_toArray, List.set_cons_zero, List.set_cons_succ]); refine hK _ _ ?_; clear hK K)))
      refine m_make (by rfl) (by rfl) ?_ ?_
      · intro wz hSw hdep R hRz
        obtain ⟨hSe, hSc⟩ := hSw
        (try simp only [List.forall_mem_cons, List.forall_mem_nil, and_true] at hSc)
        unfold does
        (go_simp; refine Calls.mono (ref03_At r _ _ _ _ _ _ (i : Int) _ wz (ArrAt.up (ArrAt.mono (fun b _ h => hT1 b h) _ (E.out.arr 4 rfl)) hSe)) ?_; intro e wq h; obtain ⟨v, rfl, h1⟩ := retA_arm hT2 hSe (h.eq rfl); exact ⟨_, rfl, hRz.out _ _ h1⟩)
      intro v2 u2 x2 hG2 K hK
      have hF2 := hG2.fact
      (try dsimp only at hF2)
      obtain ⟨s2, c2, n2, m2, i2, j2, he, hA2, hb2⟩ := hF2
      injection he with he
      subst he
      (try simp only [Act.put, List.setIfInBounds_toArray, List.set_cons_zero, List.set_cons_succ]); refine hK _ _ ?_; clear hK K
      repeat (first | (refine m_plain (v := ?_) (by rfl) (by rfl) ?_ ?_; rotate_left; (intro wz hSw; obtain ⟨-, hSc⟩ := hSw; (try simp only [List.forall_mem_cons, List.forall_mem_nil, and_true] at hSc); go_simp; (first | done | with_reducible rfl)); (intro K hK; (try simp only [Act.put, List.setIfInBounds_toArray, List.set_cons_zero, List.set_cons_succ]); refine hK _ _ ?_; clear hK K)) | (refine m_skip (by rfl) (by rfl) ?_; (intro K hK; (try simp only [Act.put, List.setIfInBounds_toArray, List.set_cons_zero, List.set_cons_succ]); refine hK _ _ ?_; clear hK K)))
      refine m_make (by rfl) (by rfl) ?_ ?_
      · intro wz hSw hdep R hRz
        obtain ⟨hSe, hSc⟩ := hSw
        (try simp only [List.forall_mem_cons, List.forall_mem_nil, and_true] at hSc)
        unfold does
        (go_simp; refine Calls.mono (ref03_At x _ _ _ _ _ _ (i : Int) _ wz (ArrAt.up (ArrAt.mono (fun b _ h => hT1 b h) _ (E.out.arr 2 rfl)) hSe)) ?_; intro e wq h; obtain ⟨v, rfl, h1⟩ := retA_arm hT2 hSe (h.eq rfl); exact ⟨_, rfl, hRz.out _ _ h1⟩)
      intro v5 u5 x5 hG5 K hK
      have hF5 := hG5.fact
      (try dsimp only at hF5)
      obtain ⟨s5, c5, n5, m5, i5, j5, he, hA5, hb5⟩ := hF5
      injection he with he
      subst he
      (try simp only [Act.put, List.setIfInBounds_toArray, List.set_cons_zero, List.set_cons_succ]); refine hK _ _ ?_; clear hK K
      repeat (first | (refine m_plain (v := ?_) (by rfl) (by rfl) ?_ ?_; rotate_left; (intro wz hSw; obtain ⟨-, hSc⟩ := hSw; (try simp only [List.forall_mem_cons, List.forall_mem_nil, and_true] at hSc); go_simp; (first | done | with_reducible rfl)); (intro K hK; (try simp only [Act.put, List.setIfInBounds_toArray, List.set_cons_zero, List.set_cons_succ]); refine hK _ _ ?_; clear hK K)) | (refine m_skip (by rfl) (by rfl) ?_; (intro K hK; (try simp only [Act.put, List.setIfInBounds_toArray, List.set_cons_zero, List.set_cons_succ]); refine hK _ _ ?_; clear hK K)))
      refine m_make (by rfl) (by rfl) ?_ ?_
      · intro wz hSw hdep R hRz
        obtain ⟨hSe, hSc⟩ := hSw
        (try simp only [List.forall_mem_cons, List.forall_mem_nil, and_true] at hSc)
        unfold does
        (go_simp; refine Calls.mono (ref03_Same (atS r i) (atS x i) _ _ _ _ _ _ _ _ _ _ _ _ _ _ wz (hA2.up (hdep 2 _ rfl (depB_sound (f := 4) (by kernel_rfl)))) (hA5.up (hdep 5 _ rfl (depB_sound (f := 4) (by kernel_rfl))))) ?_; rintro e wq ⟨rfl, hqb⟩; rw [pi.out]; exact ⟨_, rfl, hRz.out _ _ ⟨hqb, rfl⟩⟩)
      intro v6 u6 x6 hG6 K hK
      have hF6 := hG6.fact
      (try dsimp only at hF6)
      subst hF6
      (try simp only [Act.put, List.setIfInBounds_toArray, List.set_cons_zero, List.set_cons_succ]); refine hK _ _ ?_; clear hK K
      repeat (first | (refine m_plain (v := ?_) (by rfl) (by rfl) ?_ ?_; rotate_left; (intro wz hSw; obtain ⟨-, hSc⟩ := hSw; (try simp only [List.forall_mem_cons, List.forall_mem_nil, and_true] at hSc); go_simp; (first | done | with_reducible rfl)); (intro K hK; (try simp only [Act.put, List.setIfInBounds_toArray, List.set_cons_zero, List.set_cons_succ]); refine hK _ _ ?_; clear hK K)) | (refine m_skip (by rfl) (by rfl) ?_; (intro K hK; (try simp only [Act.put, List.setIfInBounds_toArray, List.set_cons_zero, List.set_cons_succ]); refine hK _ _ ?_; clear hK K)))
      refine m_nil ?_
      intro wf hSf hAf
      replace E := hid (E.out.up hSf.1)
      clear hSf hAf hG2 hG5 hG6 hA2 hA5 hb2 hb5 hT1 hT2 hT3
      go_wp2_with fail
      go_roundw
      case rel => exact ⟨i + 1, by omega, by go_num, E.out⟩
      case measure => simp [intOf]; omega
    · obtain rfl : i = n := by omega
      go_wp2_with fail
      go_loopw [9] (fun v wr => ∃ m : Nat, m ≤ ky ∧ v = .int .i64 m ∧ Env w S wr [.obj w.heap.size (.cells #[.int .i64 x.kind, .slice (some ⟨b2, o2, none⟩) x.shape.length cx, .slice nx x.nums.length mx, .slice ix x.items.length jx] 26 (0, 0)), .obj (w.heap.size + 1) (.cells #[.int .i64 y.kind, .slice (some ⟨b3, o3, none⟩) y.shape.length cy, .slice ny y.nums.length my, .slice iy y.items.length jy] 26 (0, 0)), .arr x (some ⟨b2, o2, none⟩) nx ix, .arr y (some ⟨b3, o3, none⟩) ny iy, .arr r (some ⟨b1, o1, none⟩) n101 i101, .obj p1 (.cells #[.int .i64 r.kind, .slice (some ⟨b1, o1, none⟩) r.shape.length c101, .slice n101 r.nums.length m101, .slice i101 r.items.length j101] 26 (0, 0))]) (fun v _ => ky - (intOf v).toNat)
      case atStart => exact ⟨0, Nat.zero_le _, rfl, E.out⟩
      case round =>
        clear E
        obtain ⟨m, hm, rfl, E⟩ := hrel
        replace E := hid E
        obtain ⟨q10, q11, q12, q13⟩ := (E.out.hdr 1 rfl).all
        go_wp2_with fail
        clear q10 q11 q12 q13
        refine (size_ref03_Size y _ _ _ _ _ _ _ _ (E.out.arr 3 rfl)).mono ?_
        rintro e w6 ⟨rfl, hb⟩
        replace E := hid (E.out.up hb)
        clear hb
        rw [← hk.out]
        by_cases hl2 : m < ky
        · have pi := hid (pg.out m hl2)
          have hw3 : IntKind.i64.wrap ((i : Int) + (m : Int)) = ((i + m : Nat) : Int) := by rw [Int.natCast_add]; exact IntWalk.i64_in _ (by omega)
          generalize hq : i + m = im at pi hw3
          replace hq := hid hq
          go_upto_region 17 with fail
          obtain ⟨T, hT1, hT2, hT3⟩ := E.out.tw
          refine wp_region_mono (Sees w6 [(⟨p1, 0, none⟩, .int .i64 r.kind), (⟨p1, 1, none⟩, .slice (some ⟨b1, o1, none⟩) r.shape.length c101), (⟨p1, 2, none⟩, .slice n101 r.nums.length m101), (⟨p1, 3, none⟩, .slice i101 r.items.length j101), (⟨w.heap.size + 1, 0, none⟩, .int .i64 y.kind), (⟨w.heap.size + 1, 1, none⟩, .slice (some ⟨b3, o3, none⟩) y.shape.length cy), (⟨w.heap.size + 1, 2, none⟩, .slice ny y.nums.length my), (⟨w.heap.size + 1, 3, none⟩, .slice iy y.items.length jy)]) [4, 7, 8] (fun k v u u' => match k with | 4 => RetA u T (atS r im) (.returned v) u' | 7 => RetA u T (atS y m) (.returned v) u' | 8 => v = .bool true | _ => False) (fun _ _ h e => h.up e) (Sees.start (all_cons ((E.out.hdr 5 rfl).c0) (all_cons ((E.out.hdr 5 rfl).c1) (all_cons ((E.out.hdr 5 rfl).c2) (all_cons ((E.out.hdr 5 rfl).c3) (all_cons ((E.out.hdr 1 rfl).c0) (all_cons ((E.out.hdr 1 rfl).c1) (all_cons ((E.out.hdr 1 rfl).c2) (all_cons ((E.out.hdr 1 rfl).c3) (all_nil)))))))))) (by kernel_rfl) (by kernel_rfl) ?_
          repeat (first | (refine m_plain (v := ?_) (by rfl) (by rfl) ?_ ?_; rotate_left; (intro wz hSw; obtain ⟨-, hSc⟩ := hSw; (try simp only [List.forall_mem_cons, List.forall_mem_nil, and_true] at hSc); go_simp; (first | done | with_reducible rfl)); (intro K hK; (try simp only [Act.put, List.setIfInBounds_toArray, List.set_cons_zero, List.set_cons_succ]); refine hK _ _ ?_; clear hK K)) | (refine m_skip (by rfl) (by rfl) ?_; (intro K hK; (try simp only [Act.put, List.setIfInBounds_toArray, List.set_cons_zero, List.set_cons_succ]); refine hK _ _ ?_; clear hK K)))
          refine m_make (by rfl) (by rfl) ?_ ?_
          · intro wz hSw hdep R hRz
            obtain ⟨hSe, hSc⟩ := hSw
            (try simp only [List.forall_mem_cons, List.forall_mem_nil, and_true] at hSc)
            unfold does
            (go_simp; refine Calls.mono (ref03_At r _ _ _ _ _ _ (im : Int) _ wz (ArrAt.up (ArrAt.mono (fun b _ h => hT1 b h) _ (E.out.arr 4 rfl)) hSe)) ?_; intro e wq h; obtain ⟨v, rfl, h1⟩ := retA_arm hT2 hSe (h.eq rfl); exact ⟨_, rfl, hRz.out _ _ h1⟩)
          intro v4 u4 x4 hG4 K hK
          have hF4 := hG4.fact
          (try dsimp only at hF4)
          obtain ⟨s4, c4, n4, m4, i4, j4, he, hA4, hb4⟩ := hF4
          injection he with he
          subst he
          (try simp only [Act.put, List.setIfInBounds_toArray, List.set_cons_zero, List.set_cons_succ]); refine hK _ _ ?_; clear hK K
          repeat (first | (refine m_plain (v := ?_) (by rfl) (by rfl) ?_ ?_; rotate_left; (intro wz hSw; obtain ⟨-, hSc⟩ := hSw; (try simp only [List.forall_mem_cons, List.forall_mem_nil, and_true] at hSc); go_simp; (first | done | with_reducible rfl)); (intro K hK; (try simp only [Act.put, List.setIfInBounds_toArray, List.set_cons_zero, List.set_cons_succ]); refine hK _ _ ?_; clear hK K)) | (refine m_skip (by rfl) (by rfl) ?_; (intro K hK; (try simp only [Act.put, List.setIfInBounds_toArray, List.set_cons_zero, List.set_cons_succ]); refine hK _ _ ?_; clear hK K)))
          refine m_make (by rfl) (by rfl) ?_ ?_
          · intro wz hSw hdep R hRz
            obtain ⟨hSe, hSc⟩ := hSw
            (try simp only [List.forall_mem_cons, List.forall_mem_nil, and_true] at hSc)
            unfold does
            (go_simp; refine Calls.mono (ref03_At y _ _ _ _ _ _ (m : Int) _ wz (ArrAt.up (ArrAt.mono (fun b _ h => hT1 b h) _ (E.out.arr 3 rfl)) hSe)) ?_; intro e wq h; obtain ⟨v, rfl, h1⟩ := retA_arm hT2 hSe (h.eq rfl); exact ⟨_, rfl, hRz.out _ _ h1⟩)
          intro v7 u7 x7 hG7 K hK
          have hF7 := hG7.fact
          (try dsimp only at hF7)
          obtain ⟨s7, c7, n7, m7, i7, j7, he, hA7, hb7⟩ := hF7
          injection he with he
          subst he
          (try simp only [Act.put, List.setIfInBounds_toArray, List.set_cons_zero, List.set_cons_succ]); refine hK _ _ ?_; clear hK K
          repeat (first | (refine m_plain (v := ?_) (by rfl) (by rfl) ?_ ?_; rotate_left; (intro wz hSw; obtain ⟨-, hSc⟩ := hSw; (try simp only [List.forall_mem_cons, List.forall_mem_nil, and_true] at hSc); go_simp; (first | done | with_reducible rfl)); (intro K hK; (try simp only [Act.put, List.setIfInBounds_toArray, List.set_cons_zero, List.set_cons_succ]); refine hK _ _ ?_; clear hK K)) | (refine m_skip (by rfl) (by rfl) ?_; (intro K hK; (try simp only [Act.put, List.setIfInBounds_toArray, List.set_cons_zero, List.set_cons_succ]); refine hK _ _ ?_; clear hK K)))
          refine m_make (by rfl) (by rfl) ?_ ?_
          · intro wz hSw hdep R hRz
            obtain ⟨hSe, hSc⟩ := hSw
            (try simp only [List.forall_mem_cons, List.forall_mem_nil, and_true] at hSc)
            unfold does
            (go_simp; refine Calls.mono (ref03_Same (atS r im) (atS y m) _ _ _ _ _ _ _ _ _ _ _ _ _ _ wz (hA4.up (hdep 4 _ rfl (depB_sound (f := 4) (by kernel_rfl)))) (hA7.up (hdep 7 _ rfl (depB_sound (f := 4) (by kernel_rfl))))) ?_; rintro e wq ⟨rfl, hqb⟩; rw [pi.out]; exact ⟨_, rfl, hRz.out _ _ ⟨hqb, rfl⟩⟩)
          intro v8 u8 x8 hG8 K hK
          have hF8 := hG8.fact
          (try dsimp only at hF8)
          subst hF8
          (try simp only [Act.put, List.setIfInBounds_toArray, List.set_cons_zero, List.set_cons_succ]); refine hK _ _ ?_; clear hK K
          repeat (first | (refine m_plain (v := ?_) (by rfl) (by rfl) ?_ ?_; rotate_left; (intro wz hSw; obtain ⟨-, hSc⟩ := hSw; (try simp only [List.forall_mem_cons, List.forall_mem_nil, and_true] at hSc); go_simp; (first | done | with_reducible rfl)); (intro K hK; (try simp only [Act.put, List.setIfInBounds_toArray, List.set_cons_zero, List.set_cons_succ]); refine hK _ _ ?_; clear hK K)) | (refine m_skip (by rfl) (by rfl) ?_; (intro K hK; (try simp only [Act.put, List.setIfInBounds_toArray, List.set_cons_zero, List.set_cons_succ]); refine hK _ _ ?_; clear hK K)))
          refine m_nil ?_
          intro wf hSf hAf
          replace E := hid (E.out.up hSf.1)
          clear hSf hAf hG4 hG7 hG8 hA4 hA7 hb4 hb7 hT1 hT2 hT3 hw3
          go_wp2_with fail
          go_roundw
          case rel => (repeat apply Exists.intro); exact ⟨⟨m + 1, by omega, by go_num, E.out⟩, rfl⟩
          case measure => simp [intOf]; omega
        · obtain rfl : m = ky := by omega
          go_wp2_with (go_at_call 16; refine (law20_example _).mono ?_; rintro e w9 ⟨rfl, hb9⟩)
          exact hR.out _ _ ⟨rfl, (E.out.up hb9).ext⟩
end Go.Proofs.Ythhffneibcpbdaa
