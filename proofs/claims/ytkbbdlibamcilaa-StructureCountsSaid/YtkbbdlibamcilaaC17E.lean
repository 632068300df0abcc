/- structure.Depth and what it visits: contracts. Conditions: the array is read. -/
import Derived.Test.YtkbbdlibamcilaaC17
set_option linter.unusedVariables false
set_option linter.unusedSimpArgs false
namespace Go.Proofs.Ytkbbdlibamcilaa
open Go.RowKit Go.Sort
attribute [local go_sem ↓] run_max2 run_min2
attribute [local go_sem] eql_ints_nil eql_arrs_nil
theorem maxD_snoc (x : Arr) : ∀ (l : List Arr) (d : Int), maxD (l ++ [x]) d = max (maxD l d) (depA x + 1)
  | [], d => rfl
  | y :: l, d => by simp only [List.cons_append, maxD]; exact maxD_snoc x l _
theorem maxD_ge : ∀ (l : List Arr) (d : Int), d ≤ maxD l d
  | [], d => Int.le_refl _
  | x :: l, d => by simp only [maxD]; have := maxD_ge l (max d (depA x + 1)); omega
theorem depA_max {y : Arr} (h : rightS y = 0) : depA y = maxD y.items 0 := by
  obtain ⟨h1, h2, h3, h4⟩ := right_iff.1 h
  obtain ⟨_, _, r, hr, _, e⟩ := chk_ok h
  have hl := form_len h1
  have := chkL_some (l := y.items) (d := 0) (w := (y.nums.length : Int) + y.items.length) (fun x hx => (h3 x hx).1) (by omega)
  rw [show min ((y.nums.length : Int) + y.items.length) 262145 = (y.nums.length : Int) + y.items.length by omega, hr] at this
  injection this with this
  unfold depA
  rw [e, this]
set_option maxHeartbeats 4000000 in
theorem depth_visit (y : Arr) : ∀ (sy : Option Addr) (cy : Nat) (ny : Option Addr) (my : Nat) (iy : Option Addr) (jy : Nat) (S : Nat → Prop) (vb : Nat) (w : World), ArrAt w S y sy ny iy → rightS y = 0 → w.cell? ⟨vb, 0, none⟩ = some (.func (.func 57) #[] #[.pointer (some ⟨vb, 0, none⟩)]) →
    Calls Try.prog 57 #[.agg #[.int .i64 y.kind, .slice sy y.shape.length cy, .slice ny y.nums.length my, .slice iy y.items.length jy], .pointer (some ⟨vb, 0, none⟩)] w fun e w' => e = .returned (.int .i64 (depA y)) ∧ Below w.heap.size w w' := by
  induction y using Arr.ind with
  | h y IH =>
    intro sy cy ny my iy jy S vb w h hr hv
    have IH := hid IH
    refine calls_post fun R' hR => ?_
    have hvb := World.block_lt_of_cell? w _ hv
    simp only at hvb
    have h0 := hid h
    have hil := h.len
    have hI := hid (right_iff.1 hr).2.2.1
    have hD := hid (depA_max hr)
    replace hv := hid hv
    replace hr := hid hr
    clear h
    go_enter Try.func57, Try.ntmps57
    go_upto_region 1 with (fail)
    generalize hEW : (w).alloc (.cells #[.int .i64 y.kind, .slice sy y.shape.length cy, .slice ny y.nums.length my, .slice iy y.items.length jy] 26) = W
    have E := hid (env1 w S hEW)
    clear hEW
    replace E := hid (E.out.arg h0.out)
    (try simp only [List.cons_append, List.nil_append, List.set_cons_zero, List.set_cons_succ] at E)
    obtain ⟨q00, q01, q02, q03⟩ := (E.out.hdr 0 rfl).all
    go_wp2_with fail
    clear q00 q01 q02 q03
    go_loopw [4, 10] (fun s i wr => ∃ k : Nat, k ≤ y.items.length ∧ i = .int .i64 k ∧ s = .int .i64 (maxD (y.items.take k) 0) ∧ maxD (y.items.take k) 0 ≤ 17 ∧ Env w S wr [.obj w.heap.size (.cells #[.int .i64 y.kind, .slice sy y.shape.length cy, .slice ny y.nums.length my, .slice iy y.items.length jy] 26 (0, 0)), .arr y sy ny iy]) (fun _ i _ => y.items.length - (intOf i).toNat)
    case atStart => exact ⟨0, Nat.zero_le _, rfl, rfl, by simp [maxD], E.out⟩
    case round =>
      clear E
      obtain ⟨k, hk, rfl, rfl, hm, E⟩ := hrel
      replace E := hid E
      have hm0 := maxD_ge (y.items.take k) 0
      by_cases hlt : k < y.items.length
      · obtain ⟨b1, o1, sz, cz, nz, mz, iz, jz, hia, hS1, hbl1, e0, e1, e2, e3, hz⟩ := (E.out.arr 1 rfl).items.at hlt
        have hmem := hid (List.getElem_mem hlt)
        have hz1 := hid (hI.out _ hmem.out)
        have hT : maxD (y.items.take (k + 1)) 0 = max (maxD (y.items.take k) 0) (depA y.items[k] + 1) := by rw [List.take_succ_eq_append_getElem hlt, maxD_snoc]
        have hz2 := (chk_bd y.items[k]).1
        have hz3 : 0 ≤ depA y.items[k] ∧ depA y.items[k] ≤ 16 := hz2
        generalize y.items[k] = z at e0 e1 e2 e3 hz hmem hz1 hT hz3
        clear hz2
        generalize maxD (y.items.take k) 0 = mk at hm hm0 hT ⊢
        replace hT := hid hT
        subst hia
        replace E := hid (E.out.addArr hz (fun _ _ h => h))
        (try simp only [List.cons_append, List.nil_append, List.set_cons_zero, List.set_cons_succ] at E)
        clear hz
        go_upto_region 5 with (refine wpl_store4 rfl (.tmp 6) (.tmp 13) rfl _ rfl rfl ((E.out.alloc _).hdr 3 rfl) ?_; intro V1 HV CV; replace E := hid ((E.out.alloc _).chg 3 rfl CV HV); clear CV HV; (try simp only [List.cons_append, List.nil_append, List.set_cons_zero, List.set_cons_succ] at E))
        clear e0 e1 e2 e3
        obtain ⟨q30, q31, q32, q33⟩ := (E.out.hdr 3 rfl).all
        have hv1 : V1.cell? ⟨vb, 0, none⟩ = some (.func (.func 57) #[] #[.pointer (some ⟨vb, 0, none⟩)]) := (E.out.ext.cell (p := ⟨vb, 0, none⟩) hvb).trans hv.out
        go_wp2_with fail
        refine (IH.out z hmem.out _ _ _ _ _ _ _ vb V1 (E.out.arr 2 rfl) hz1.out.1 hv1).mono ?_
        rintro e w2 ⟨rfl, hb⟩
        replace E := hid (E.out.up hb)
        clear hb hv1
        clear q30 q31 q32 q33
        go_wp2_with fail
        go_roundw
        case rel => exact ⟨k + 1, by omega, by go_num, by rw [hT.out]; go_num, by rw [hT.out]; omega, E.out.sub (by simp)⟩
        case measure => simp [intOf]; omega
      · have hke : y.items.take k = y.items := List.take_of_length_le (by omega)
        rw [hke, ← hD.out]
        clear hke
        go_wp2_with fail
        exact hR.out _ _ ⟨rfl, E.out.ext⟩
set_option maxHeartbeats 4000000 in
theorem structure_Depth (y : Arr) (sy : Option Addr) (cy : Nat) (ny : Option Addr) (my : Nat) (iy : Option Addr) (jy : Nat) (S : Nat → Prop) (w : World) (h : ArrAt w S y sy ny iy) : Calls Try.prog 28 #[.agg #[.int .i64 y.kind, .slice sy y.shape.length cy, .slice ny y.nums.length my, .slice iy y.items.length jy]] w (RetA w (fun b => S b ∨ w.heap.size ≤ b) (depS y)) := by
  refine calls_post fun R' hR => ?_
  have h0 := hid h
  have hsl := h.shape.1
  have hnl := h.nums.1
  have hil := h.len
  clear h
  by_cases c : rightS y = 0
  case neg =>
    have cb : (rightS y == 0) = false := by simpa using c
    have cb2 : (rightS y != 0) = true := by simpa using c
    have hv : Hid (depS y = .zero) := hid (if_neg c)
    replace c := hid c
    go_enter Try.func28, Try.ntmps28
    go_wp2_with fail
    generalize hEW : ((w).alloc (.cells #[.int .i64 y.kind, .slice sy y.shape.length cy, .slice ny y.nums.length my, .slice iy y.items.length jy] 26)).alloc (.cells #[.int .i64 0, .slice none 0 0, .slice none 0 0, .slice none 0 0] 26) = W
    have E := hid (env2 w S hEW)
    clear hEW
    replace E := hid (E.out.arg h0.out)
    (try simp only [List.cons_append, List.nil_append, List.set_cons_zero, List.set_cons_succ] at E)
    refine (structure_right y _ _ _ _ _ _ _ _ (E.out.arr 2 rfl)).mono ?_
    rintro e w1 ⟨rfl, hb⟩
    replace E := hid (E.out.up hb)
    clear hb
    go_wp2_with (refine wpl_store4 rfl (.tmp 2) (.tmp 7) rfl _ rfl rfl (E.out.hdr 1 rfl) ?_; intro V HV CV; replace E := hid (E.out.chg 1 rfl CV HV))
    exact bodyPost_ret (end_arr rfl HV rfl) rfl (hR.out _ _ (RetA.zero hv.out E.out.ext))
  have cb : (rightS y == 0) = true := by simpa using c
  have cb2 : (rightS y != 0) = false := by simpa using c
  obtain ⟨r, hr⟩ : ∃ r, r = validS (numA (depA y)) := ⟨_, rfl⟩
  have hv : Hid (depS y = r) := hid (by rw [hr]; exact if_pos c)
  have c0 := hid c
  replace c := hid c
  replace hr := hid hr
  go_enter Try.func28, Try.ntmps28
  go_wp2_with fail
  generalize hEW : ((w).alloc (.cells #[.int .i64 y.kind, .slice sy y.shape.length cy, .slice ny y.nums.length my, .slice iy y.items.length jy] 26)).alloc (.cells #[.int .i64 0, .slice none 0 0, .slice none 0 0, .slice none 0 0] 26) = W
  have E := hid (env2 w S hEW)
  clear hEW
  replace E := hid (E.out.arg h0.out)
  (try simp only [List.cons_append, List.nil_append, List.set_cons_zero, List.set_cons_succ] at E)
  refine (structure_right y _ _ _ _ _ _ _ _ (E.out.arr 2 rfl)).mono ?_
  rintro e w1 ⟨rfl, hb⟩
  replace E := hid (E.out.up hb)
  clear hb
  obtain ⟨q00, q01, q02, q03⟩ := (E.out.hdr 0 rfl).all
  go_upto_region 5 with (fail)
  clear q00 q01 q02 q03
  replace E := hid (E.out.alloc (.cells #[.func (.func 57) #[] #[.pointer (some ⟨w1.heap.size, 0, none⟩)]] 49))
  (try simp only [List.cons_append, List.nil_append, List.set_cons_zero, List.set_cons_succ] at E)
  generalize hW2 : w1.alloc (.cells #[.func (.func 57) #[] #[.pointer (some ⟨w1.heap.size, 0, none⟩)]] 49) = W2 at E ⊢
  clear hW2
  generalize w1.heap.size = vb at E ⊢
  have q3 : W2.cell? ⟨vb, 0, none⟩ = some (.func (.func 57) #[] #[.pointer (some ⟨vb, 0, none⟩)]) := by rw [cell_of_row _ _ 0 _ _ _ (E.out.obj 3 rfl)]; rfl
  obtain ⟨q00, q01, q02, q03⟩ := (E.out.hdr 0 rfl).all
  go_wp2_with fail
  clear q00 q01 q02 q03
  refine (depth_visit y _ _ _ _ _ _ _ vb _ (E.out.arr 2 rfl) c0.out q3).mono ?_
  rintro e w2 ⟨rfl, hb⟩
  replace E := hid (E.out.up hb)
  clear hb q3
  go_wp2_with fail
  refine (array_Scalar (depA y) _).mono ?_
  intro e w3 h
  obtain ⟨s1, c1, n1, m1, i1, j1, rfl, hA, hb⟩ := h.eq hr.out
  replace E := hid ((E.out.up hb).addArr hA (fun b _ hq => E.out.fresh (Ext.refl _) hq))
  clear hA hb h
  (try simp only [List.cons_append, List.nil_append, List.set_cons_zero, List.set_cons_succ] at E)
  go_wp2_with (refine wpl_store4 rfl (.tmp 2) (.tmp 12) rfl _ rfl rfl (E.out.hdr 1 rfl) ?_; intro V HV CV; replace E := hid (E.out.chg 1 rfl CV HV))
  exact bodyPost_ret (end_arr rfl HV rfl) rfl (hR.out _ _ (RetA.to hv.out (ArrAt.mono (fun b _ h => h.1) _ (E.out.arr 4 rfl)) E.out.ext))
end Go.Proofs.Ytkbbdlibamcilaa
