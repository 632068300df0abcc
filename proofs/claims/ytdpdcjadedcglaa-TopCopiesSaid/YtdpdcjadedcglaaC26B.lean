/- copying's collector: what its function does with a cell of y: contract. Conditions: the array is read; what is appended to is the call's own. -/
import Derived.Test.YtdpdcjadedcglaaC26A
import Derived.Test.YtdpdcjadedcglaaANYH
import Derived.Test.YtdpdcjadedcglaaADD
set_option linter.unusedVariables false
set_option maxRecDepth 20000
set_option linter.unusedSimpArgs false
namespace Go.Proofs.Ytdpdcjadedcglaa
open Go.RowKit Go.Sort
attribute [local go_sem ↓] run_max2 run_min2
attribute [local go_sem] eql_ints_nil eql_arrs_nil
theorem row1 {w : World} {b : Nat} {a0 : Value} {t : TypeId} (h : w.heap[b]? = some (.cells #[a0] t (0, 0))) : w.cell? ⟨b, 0, none⟩ = some a0 := by
  rw [cell_of_row w b 0 _ _ _ h]; rfl
set_option maxRecDepth 100000 in
set_option maxHeartbeats 8000000 in
theorem coll_num (kk : Int) (oa : Option Addr) (ol oc : Nat) (na : Option Addr) (nc : Nat) (nums : List Int) (ia : Option Addr) (ic : Nat) (items : List Arr) (y : Arr) (sy : Option Addr) (cy : Nat) (ny : Option Addr) (my : Nat) (iy : Option Addr) (jy : Nat) (bo pn py pp pf i n : Nat) (w0 : World) (S : Nat → Prop) (w : World) (M : List Fact)
    (E : Env w0 S w (.obj bo (.cells #[.int .i64 kk, .slice oa ol oc, .slice na (nums).length nc, .slice ia (items).length ic] 27 (0, 0)) :: .rowI na nc (nums) :: .rowA ia ic (items) :: .obj pn (.cells #[.int .i64 n] 3 (0, 0)) :: .obj py (.cells #[.int .i64 y.kind, .slice sy y.shape.length cy, .slice ny y.nums.length my, .slice iy y.items.length jy] 27 (0, 0)) :: .obj pp (.cells #[.pointer (some ⟨bo, 0, none⟩)] 53 (0, 0)) :: .arr y sy ny iy :: M)) (hn : n ≤ 65536) (hi : i ≤ 65536) (k3 : y.kind ≠ 3) (hsz : i * n + n ≤ y.nums.length) (hl1 : nums.length + n ≤ 1000000) (hl3 : y.nums.length ≤ 65536) (hcn : y.nums.length ≤ my) :
    Calls Try.prog 60 #[.int .i64 i, .pointer (some ⟨pn, 0, none⟩), .pointer (some ⟨py, 0, none⟩), .pointer (some ⟨pp, 0, none⟩), .pointer (some ⟨pf, 0, none⟩)] w fun en w' => ∃ na' nc', en = .returned (.tuple #[]) ∧ Env w0 S w' (.obj bo (.cells #[.int .i64 kk, .slice oa ol oc, .slice na' (nums ++ blkL y.nums i n).length nc', .slice ia (items).length ic] 27 (0, 0)) :: .rowI na' nc' (nums ++ blkL y.nums i n) :: .rowA ia ic (items) :: .obj pn (.cells #[.int .i64 n] 3 (0, 0)) :: .obj py (.cells #[.int .i64 y.kind, .slice sy y.shape.length cy, .slice ny y.nums.length my, .slice iy y.items.length jy] 27 (0, 0)) :: .obj pp (.cells #[.pointer (some ⟨bo, 0, none⟩)] 53 (0, 0)) :: .arr y sy ny iy :: M) := by
  refine calls_post fun R' hR => ?_
  replace E := hid E
  have kb : (y.kind == 3) = false := by simp [k3]
  have kb2 : (y.kind != 3) = true := by simp [k3]
  have ib : ¬ (i : Int) < 0 := by omega
  have ib2 : (0 : Int) ≤ (i : Int) := by omega
  replace k3 := hid k3
  have hmul : ((i : Int) * (n : Int)) = ((i * n : Nat) : Int) := by simp
  have hib : i * n ≤ 65536 := by omega
  obtain ⟨m, hm⟩ : ∃ m, m = i * n := ⟨_, rfl⟩
  rw [← hm] at hmul hib hsz
  obtain ⟨ys, hys⟩ : ∃ ys, ys = (y.nums.drop m).take n := ⟨_, rfl⟩
  have hyl : Hid (ys.length = n) := hid (by rw [hys]; simp; omega)
  have hbl : Hid (nums ++ blkL y.nums i n = nums ++ ys) := hid (by unfold blkL; rw [hys, hm])
  have hmn : n = 0 → m = 0 := fun h => by rw [hm, h, Nat.mul_zero]
  rw [hbl.out] at hR
  replace hm := hid hm
  replace hys := hid hys
  replace hmul := hid hmul
  replace hmn := hid hmn
  have c0 := row1 (E.out.obj 3 rfl)
  obtain ⟨q40, q41, q42, q43⟩ := (E.out.hdr 4 rfl).all
  go_enter Try.func60, Try.ntmps60
  go_upto_region 1 with (fail)
  go_loopw [6, 9] (fun u v wr => ∃ k : Nat, k ≤ n ∧ v = .int .i64 k ∧ wr = w) (fun _ v _ => n - (intOf v).toNat)
  case atStart => exact ⟨0, Nat.zero_le _, rfl, rfl⟩
  case round =>
    obtain ⟨k, hk, rfl, rfl⟩ := hrel
    by_cases hlt : k < n
    · go_wp2_with fail
      go_roundw
      case rel => exact ⟨k + 1, by omega, by go_num, by first | rfl | trivial⟩
      case measure => simp [intOf]; omega
    · obtain rfl : k = n := by omega
      have mS := fun w => run_makeI w k (by omega)
      go_upto_region 18 with (fail)
      clear mS
      clear c0 q40 q41 q42 q43
      replace E := hid (E.out.alloc (.cells (madeI k) 3)).front
      generalize hW2 : wr.alloc (.cells (madeI k) 3) = W2 at E ⊢
      clear hW2
      generalize wr.heap.size = gp at E ⊢
      have c2 : (m : Int) ≤ (y.nums.length : Int) := by omega
      have c3 : (0 : Int) ≤ (m : Int) := by omega
      have c4 : (m : Int).toNat = m := by omega
      have hwr : IntKind.i64.wrap ((i : Int) * (k : Int)) = (m : Int) := by rw [hmul.out]; exact IntWalk.i64_in _ (by omega)
      by_cases n0 : m < y.nums.length
      case pos =>
        obtain ⟨b1, o1, hna, hbl1, hS1, hc⟩ := (E.out.arr 7 rfl).nums.at (k := 0) (by omega)
        subst hna
        clear hc
        have hsub := hid ((E.out.arr 7 rfl).nums.drop m (by omega))
        have hsl : Hid ((y.nums.drop m).length = y.nums.length - m) := hid (by simp)
        have hln : Hid (k ≤ (y.nums.drop m).length) := hid (by simp; omega)
        have c1 : ¬ my = m := by omega
        have c0 := row1 (E.out.obj 4 rfl)
        obtain ⟨q40, q41, q42, q43⟩ := (E.out.hdr 5 rfl).all
        go_upto_region 19 with (refine wplE_copyP E.out 0 rfl (madeI_size k) rfl (.tmp 122) (.tmp 128) rfl rfl (by rw [hsl.out]; rfl) hsub.out hln.out ?_; intro V1 E1; clear E; have E := hid E1; clear E1; (try simp only [List.cons_append, List.nil_append, List.set_cons_zero, List.set_cons_succ] at E))
        rw [← hys.out] at E
        replace E := hid (E.out.filled 0 rfl (by rw [hyl.out]; omega))
        (try simp only [List.cons_append, List.nil_append, List.set_cons_zero, List.set_cons_succ] at E)
        clear q40 q41 q42 q43 c0
        go_upto_region 19 with (fail)
        obtain ⟨q10, q11, q12, q13⟩ := (E.out.hdr 1 rfl).all
        have c5 := row1 (E.out.obj 6 rfl)
        refine wp_region_load_any 8 6 (.pointer (some ⟨bo, 0, none⟩)) (fun wz => wz.cell? ⟨pp, 0, none⟩ = some (.pointer (some ⟨bo, 0, none⟩))) (Sees V1 [(⟨pp, 0, none⟩, .pointer (some ⟨bo, 0, none⟩)), (⟨bo, 2, none⟩, .slice na nums.length nc)]) [] (fun k v u u' => match k with  | _ => False) (fun wz hz => by obtain ⟨-, hSc⟩ := hz; simp only [List.forall_mem_cons] at hSc; exact hSc.1) (fun _ _ h e => h.up e) (Sees.start (all_cons (c5) (all_cons (q12) (all_nil)))) (by kernel_rfl) (by kernel_rfl) _ (by rfl) (by rfl) (by intro wz hz; go_simp; (first | done | with_reducible rfl)) (by intro c a w h; exact h) ?_
        try simp only [Act.put, List.setIfInBounds_toArray, List.set_cons_zero, List.set_cons_succ]
        simp only [List.take_succ_cons, List.take_zero, List.drop_succ_cons, List.drop_zero]
        repeat (first | (refine m_plain (v := ?_) (by rfl) (by rfl) ?_ ?_; rotate_left; (intro wz hSw; obtain ⟨-, hSc⟩ := hSw; (try simp only [List.forall_mem_cons, List.forall_mem_nil, and_true] at hSc); go_simp; (first | done | with_reducible rfl)); (intro K hK; (try simp only [Act.put, List.setIfInBounds_toArray, List.set_cons_zero, List.set_cons_succ]); refine hK _ _ ?_; clear hK K)) | (refine m_skip (by rfl) (by rfl) ?_; (intro K hK; (try simp only [Act.put, List.setIfInBounds_toArray, List.set_cons_zero, List.set_cons_succ]); refine hK _ _ ?_; clear hK K)))
        refine m_nil ?_
        intro wf hSf hAf
        replace E := hid (E.out.up hSf.1)
        clear hSf hAf c5 q10 q11 q12 q13
        refine anyH_step 6 (by kernel_rfl) (by rfl) ?_
        refine wplE_appI E.out 2 (by rfl) (by rfl) (.tmp 134) (.tmp 135) (by rfl) (by rfl) _ _ k ys (by rw [hyl.out]; rfl) (E.out.ints 0 rfl) (by rw [hyl.out]; omega) ?_
        intro V2 na2 nc2 E1
        clear E
        have E := hid E1
        clear E1
        (try simp only [List.cons_append, List.nil_append, List.set_cons_zero, List.set_cons_succ] at E)
        refine anyH_nil (row1 (E.out.obj 6 rfl)) ?_
        refine anyH_plain 7 (v := .pointer (some ⟨bo, 0, none⟩)) (by kernel_rfl) (by rfl) (by rfl) (by go_simp <;> (try (intro hh; omega))) (row1 (E.out.obj 6 rfl)) ?_
        refine anyH_plain 8 (v := .pointer (some ⟨bo, 2, none⟩)) (by kernel_rfl) (by rfl) (by rfl) (by go_simp <;> (try (intro hh; omega))) (row1 (E.out.obj 6 rfl)) ?_
        refine anyH_step 9 (by kernel_rfl) (by rfl) ?_
        refine wpl_store2 (by rfl) (.tmp 138) (.tmp 136) (by rfl) bo (by rfl) (by rfl) (E.out.hdr 1 rfl) ?_
        intro V HV CV
        replace E := hid (E.out.chg 1 rfl CV HV)
        clear HV CV
        (try simp only [List.cons_append, List.nil_append, List.set_cons_zero, List.set_cons_succ] at E)
        refine anyH_nil (row1 (E.out.obj 6 rfl)) ?_
        refine anyH_done (by kernel_rfl) ?_
        go_wp2_with fail
        exact bodyPost_ret (end_none rfl) rfl (hR.out _ _ ⟨na2, nc2, rfl, E.out.tl⟩)
      case neg =>
        have hn0 : k = 0 := by omega
        have hm0 : m = 0 := hmn.out hn0
        have hx3 : y.nums.length = 0 := by omega
        have hxe : y.nums = [] := List.length_eq_zero_iff.1 hx3
        have hye : Hid (List.map (Value.int .i64) (([] : List Int).take k) = List.map (Value.int .i64) ys) := hid (by rw [hys.out, hxe]; simp)
        have c0 := row1 (E.out.obj 4 rfl)
        obtain ⟨q40, q41, q42, q43⟩ := (E.out.hdr 5 rfl).all
        rw [hx3] at q42 c2
        have hlz : Hid (k ≤ ([] : List Int).length) := hid (by rw [hn0]; simp)
        have hmz : Hid (0 - m = ([] : List Int).length) := hid (by simp)
        replace hxe := hid hxe
        by_cases c1 : my = m
        · replace hn0 := hid hn0
          replace hm0 := hid hm0
          replace hx3 := hid hx3
          go_upto_region 19 with (refine wplE_copyP (ys := []) (T := fun _ => True) E.out 0 rfl (madeI_size k) rfl (.tmp 122) (.tmp 128) rfl rfl rfl (IntsAt.nil _ _ _) hlz.out ?_; intro V1 E1; clear E; have E := hid E1; clear E1; (try simp only [List.cons_append, List.nil_append, List.set_cons_zero, List.set_cons_succ] at E))
          rw [hye.out] at E
          replace E := hid (E.out.filled 0 rfl (by rw [hyl.out]; omega))
          (try simp only [List.cons_append, List.nil_append, List.set_cons_zero, List.set_cons_succ] at E)
          clear q40 q41 q42 q43 c0
          go_upto_region 19 with (fail)
          obtain ⟨q10, q11, q12, q13⟩ := (E.out.hdr 1 rfl).all
          have c5 := row1 (E.out.obj 6 rfl)
          refine wp_region_load_any 8 6 (.pointer (some ⟨bo, 0, none⟩)) (fun wz => wz.cell? ⟨pp, 0, none⟩ = some (.pointer (some ⟨bo, 0, none⟩))) (Sees V1 [(⟨pp, 0, none⟩, .pointer (some ⟨bo, 0, none⟩)), (⟨bo, 2, none⟩, .slice na nums.length nc)]) [] (fun k v u u' => match k with  | _ => False) (fun wz hz => by obtain ⟨-, hSc⟩ := hz; simp only [List.forall_mem_cons] at hSc; exact hSc.1) (fun _ _ h e => h.up e) (Sees.start (all_cons (c5) (all_cons (q12) (all_nil)))) (by kernel_rfl) (by kernel_rfl) _ (by rfl) (by rfl) (by intro wz hz; go_simp; (first | done | with_reducible rfl)) (by intro c a w h; exact h) ?_
          try simp only [Act.put, List.setIfInBounds_toArray, List.set_cons_zero, List.set_cons_succ]
          simp only [List.take_succ_cons, List.take_zero, List.drop_succ_cons, List.drop_zero]
          repeat (first | (refine m_plain (v := ?_) (by rfl) (by rfl) ?_ ?_; rotate_left; (intro wz hSw; obtain ⟨-, hSc⟩ := hSw; (try simp only [List.forall_mem_cons, List.forall_mem_nil, and_true] at hSc); go_simp; (first | done | with_reducible rfl)); (intro K hK; (try simp only [Act.put, List.setIfInBounds_toArray, List.set_cons_zero, List.set_cons_succ]); refine hK _ _ ?_; clear hK K)) | (refine m_skip (by rfl) (by rfl) ?_; (intro K hK; (try simp only [Act.put, List.setIfInBounds_toArray, List.set_cons_zero, List.set_cons_succ]); refine hK _ _ ?_; clear hK K)))
          refine m_nil ?_
          intro wf hSf hAf
          replace E := hid (E.out.up hSf.1)
          clear hSf hAf c5 q10 q11 q12 q13
          refine anyH_step 6 (by kernel_rfl) (by rfl) ?_
          refine wplE_appI E.out 2 (by rfl) (by rfl) (.tmp 134) (.tmp 135) (by rfl) (by rfl) _ _ k ys (by rw [hyl.out]; rfl) (E.out.ints 0 rfl) (by rw [hyl.out]; omega) ?_
          intro V2 na2 nc2 E1
          clear E
          have E := hid E1
          clear E1
          (try simp only [List.cons_append, List.nil_append, List.set_cons_zero, List.set_cons_succ] at E)
          refine anyH_nil (row1 (E.out.obj 6 rfl)) ?_
          refine anyH_plain 7 (v := .pointer (some ⟨bo, 0, none⟩)) (by kernel_rfl) (by rfl) (by rfl) (by go_simp <;> (try (intro hh; omega))) (row1 (E.out.obj 6 rfl)) ?_
          refine anyH_plain 8 (v := .pointer (some ⟨bo, 2, none⟩)) (by kernel_rfl) (by rfl) (by rfl) (by go_simp <;> (try (intro hh; omega))) (row1 (E.out.obj 6 rfl)) ?_
          refine anyH_step 9 (by kernel_rfl) (by rfl) ?_
          refine wpl_store2 (by rfl) (.tmp 138) (.tmp 136) (by rfl) bo (by rfl) (by rfl) (E.out.hdr 1 rfl) ?_
          intro V HV CV
          replace E := hid (E.out.chg 1 rfl CV HV)
          clear HV CV
          (try simp only [List.cons_append, List.nil_append, List.set_cons_zero, List.set_cons_succ] at E)
          refine anyH_nil (row1 (E.out.obj 6 rfl)) ?_
          refine anyH_done (by kernel_rfl) ?_
          go_wp2_with fail
          exact bodyPost_ret (end_none rfl) rfl (hR.out _ _ ⟨na2, nc2, rfl, E.out.tl⟩)
        · replace hn0 := hid hn0
          replace hm0 := hid hm0
          replace hx3 := hid hx3
          go_upto_region 19 with (refine wplE_copyP (ys := []) (T := fun _ => True) E.out 0 rfl (madeI_size k) rfl (.tmp 122) (.tmp 128) rfl rfl rfl (IntsAt.nil _ _ _) hlz.out ?_; intro V1 E1; clear E; have E := hid E1; clear E1; (try simp only [List.cons_append, List.nil_append, List.set_cons_zero, List.set_cons_succ] at E))
          rw [hye.out] at E
          replace E := hid (E.out.filled 0 rfl (by rw [hyl.out]; omega))
          (try simp only [List.cons_append, List.nil_append, List.set_cons_zero, List.set_cons_succ] at E)
          clear q40 q41 q42 q43 c0
          go_upto_region 19 with (fail)
          obtain ⟨q10, q11, q12, q13⟩ := (E.out.hdr 1 rfl).all
          have c5 := row1 (E.out.obj 6 rfl)
          refine wp_region_load_any 8 6 (.pointer (some ⟨bo, 0, none⟩)) (fun wz => wz.cell? ⟨pp, 0, none⟩ = some (.pointer (some ⟨bo, 0, none⟩))) (Sees V1 [(⟨pp, 0, none⟩, .pointer (some ⟨bo, 0, none⟩)), (⟨bo, 2, none⟩, .slice na nums.length nc)]) [] (fun k v u u' => match k with  | _ => False) (fun wz hz => by obtain ⟨-, hSc⟩ := hz; simp only [List.forall_mem_cons] at hSc; exact hSc.1) (fun _ _ h e => h.up e) (Sees.start (all_cons (c5) (all_cons (q12) (all_nil)))) (by kernel_rfl) (by kernel_rfl) _ (by rfl) (by rfl) (by intro wz hz; go_simp; (first | done | with_reducible rfl)) (by intro c a w h; exact h) ?_
          try simp only [Act.put, List.setIfInBounds_toArray, List.set_cons_zero, List.set_cons_succ]
          simp only [List.take_succ_cons, List.take_zero, List.drop_succ_cons, List.drop_zero]
          repeat (first | (refine m_plain (v := ?_) (by rfl) (by rfl) ?_ ?_; rotate_left; (intro wz hSw; obtain ⟨-, hSc⟩ := hSw; (try simp only [List.forall_mem_cons, List.forall_mem_nil, and_true] at hSc); go_simp; (first | done | with_reducible rfl)); (intro K hK; (try simp only [Act.put, List.setIfInBounds_toArray, List.set_cons_zero, List.set_cons_succ]); refine hK _ _ ?_; clear hK K)) | (refine m_skip (by rfl) (by rfl) ?_; (intro K hK; (try simp only [Act.put, List.setIfInBounds_toArray, List.set_cons_zero, List.set_cons_succ]); refine hK _ _ ?_; clear hK K)))
          refine m_nil ?_
          intro wf hSf hAf
          replace E := hid (E.out.up hSf.1)
          clear hSf hAf c5 q10 q11 q12 q13
          refine anyH_step 6 (by kernel_rfl) (by rfl) ?_
          refine wplE_appI E.out 2 (by rfl) (by rfl) (.tmp 134) (.tmp 135) (by rfl) (by rfl) _ _ k ys (by rw [hyl.out]; rfl) (E.out.ints 0 rfl) (by rw [hyl.out]; omega) ?_
          intro V2 na2 nc2 E1
          clear E
          have E := hid E1
          clear E1
          (try simp only [List.cons_append, List.nil_append, List.set_cons_zero, List.set_cons_succ] at E)
          refine anyH_nil (row1 (E.out.obj 6 rfl)) ?_
          refine anyH_plain 7 (v := .pointer (some ⟨bo, 0, none⟩)) (by kernel_rfl) (by rfl) (by rfl) (by go_simp <;> (try (intro hh; omega))) (row1 (E.out.obj 6 rfl)) ?_
          refine anyH_plain 8 (v := .pointer (some ⟨bo, 2, none⟩)) (by kernel_rfl) (by rfl) (by rfl) (by go_simp <;> (try (intro hh; omega))) (row1 (E.out.obj 6 rfl)) ?_
          refine anyH_step 9 (by kernel_rfl) (by rfl) ?_
          refine wpl_store2 (by rfl) (.tmp 138) (.tmp 136) (by rfl) bo (by rfl) (by rfl) (E.out.hdr 1 rfl) ?_
          intro V HV CV
          replace E := hid (E.out.chg 1 rfl CV HV)
          clear HV CV
          (try simp only [List.cons_append, List.nil_append, List.set_cons_zero, List.set_cons_succ] at E)
          refine anyH_nil (row1 (E.out.obj 6 rfl)) ?_
          refine anyH_done (by kernel_rfl) ?_
          go_wp2_with fail
          exact bodyPost_ret (end_none rfl) rfl (hR.out _ _ ⟨na2, nc2, rfl, E.out.tl⟩)
set_option maxRecDepth 100000 in
set_option maxHeartbeats 8000000 in
theorem coll_box (kk : Int) (oa : Option Addr) (ol oc : Nat) (na : Option Addr) (nc : Nat) (nums : List Int) (ia : Option Addr) (ic : Nat) (items : List Arr) (y : Arr) (sy : Option Addr) (cy : Nat) (ny : Option Addr) (my : Nat) (iy : Option Addr) (jy : Nat) (bo pn py pp pf i n : Nat) (w0 : World) (S : Nat → Prop) (w : World) (M : List Fact)
    (E : Env w0 S w (.obj bo (.cells #[.int .i64 kk, .slice oa ol oc, .slice na (nums).length nc, .slice ia (items).length ic] 27 (0, 0)) :: .rowI na nc (nums) :: .rowA ia ic (items) :: .obj pn (.cells #[.int .i64 n] 3 (0, 0)) :: .obj py (.cells #[.int .i64 y.kind, .slice sy y.shape.length cy, .slice ny y.nums.length my, .slice iy y.items.length jy] 27 (0, 0)) :: .obj pp (.cells #[.pointer (some ⟨bo, 0, none⟩)] 53 (0, 0)) :: .arr y sy ny iy :: M)) (hn : n ≤ 65536) (hi : i ≤ 65536) (k3 : y.kind = 3) (hsz : i * n + n ≤ y.items.length) (hl2 : items.length + n ≤ 1000000) (hl3 : y.items.length ≤ 65536) :
    Calls Try.prog 60 #[.int .i64 i, .pointer (some ⟨pn, 0, none⟩), .pointer (some ⟨py, 0, none⟩), .pointer (some ⟨pp, 0, none⟩), .pointer (some ⟨pf, 0, none⟩)] w fun en w' => ∃ ia' ic', en = .returned (.tuple #[]) ∧ Env w0 S w' (.obj bo (.cells #[.int .i64 kk, .slice oa ol oc, .slice na (nums).length nc, .slice ia' (items ++ blkL y.items i n).length ic'] 27 (0, 0)) :: .rowI na nc (nums) :: .rowA ia' ic' (items ++ blkL y.items i n) :: .obj pn (.cells #[.int .i64 n] 3 (0, 0)) :: .obj py (.cells #[.int .i64 y.kind, .slice sy y.shape.length cy, .slice ny y.nums.length my, .slice iy y.items.length jy] 27 (0, 0)) :: .obj pp (.cells #[.pointer (some ⟨bo, 0, none⟩)] 53 (0, 0)) :: .arr y sy ny iy :: M) := by
  refine calls_post fun R' hR => ?_
  replace E := hid E
  have kb : (y.kind == 3) = true := by simp [k3]
  have kb2 : (y.kind != 3) = false := by simp [k3]
  have ib : ¬ (i : Int) < 0 := by omega
  replace k3 := hid k3
  have hmul : ((i : Int) * (n : Int)) = ((i * n : Nat) : Int) := by simp
  have hib : i * n ≤ 65536 := by omega
  have hbl : Hid (items ++ blkL y.items i n = items ++ (y.items.drop (i * n)).take n) := hid rfl
  rw [hbl.out] at hR
  obtain ⟨m, hm⟩ : ∃ m, m = i * n := ⟨_, rfl⟩
  rw [← hm] at hmul hib hsz hR
  replace hm := hid hm
  replace hmul := hid hmul
  clear hbl
  have c0 := row1 (E.out.obj 3 rfl)
  go_enter Try.func60, Try.ntmps60
  go_upto_region 1 with (fail)
  clear c0
  go_loopw [6, 9] (fun u v wr => ∃ (k : Nat) (ia' : Option Addr) (ic' : Nat) (cur : List Arr), k ≤ n ∧ v = .int .i64 k ∧ Hid (cur = items ++ (y.items.drop m).take k) ∧ Env w0 S wr (.obj bo (.cells #[.int .i64 kk, .slice oa ol oc, .slice na (nums).length nc, .slice ia' (cur).length ic'] 27 (0, 0)) :: .rowI na nc (nums) :: .rowA ia' ic' (cur) :: .obj pn (.cells #[.int .i64 n] 3 (0, 0)) :: .obj py (.cells #[.int .i64 y.kind, .slice sy y.shape.length cy, .slice ny y.nums.length my, .slice iy y.items.length jy] 27 (0, 0)) :: .obj pp (.cells #[.pointer (some ⟨bo, 0, none⟩)] 53 (0, 0)) :: .arr y sy ny iy :: M)) (fun _ v _ => n - (intOf v).toNat)
  case atStart => exact ⟨0, ia, ic, items, Nat.zero_le _, rfl, hid (by simp), E.out⟩
  case round =>
    clear E
    obtain ⟨k, ia', ic', cur, hk, rfl, hcur, E⟩ := hrel
    replace E := hid E
    by_cases hlt : k < n
    · obtain ⟨b2, o2, sz, cz, nz, mz, iz, jz, hia, hS1, hbl1, e0, e1, e2, e3, hz⟩ := (E.out.arr 6 rfl).items.at (k := m + k) (by omega)
      subst hia
      have hstep : Hid (cur ++ [y.items[m + k]'(by omega)] = items ++ (y.items.drop m).take (k + 1)) := hid (by rw [hcur.out, List.append_assoc]; congr 1; rw [List.take_succ_eq_append_getElem (by simp; omega)]; simp)
      generalize y.items[m + k]'(by omega) = z at e0 e1 e2 e3 hz hstep
      have hll : cur.length + 1 ≤ 1759218604441 := by rw [hcur.out, List.length_append]; simp; omega
      have hwr : IntKind.i64.wrap ((i : Int) * (n : Int)) = (m : Int) := by rw [hmul.out]; exact IntWalk.i64_in _ (by omega)
      have hwr2 : IntKind.i64.wrap ((m : Int) + (k : Int)) = ((m + k : Nat) : Int) := by rw [Int.natCast_add]; exact IntWalk.i64_in _ (by omega)
      have t0 : (0 : Int) ≤ ((m + k : Nat) : Int) := by omega
      have t1 : ((m + k : Nat) : Int) < (y.items.length : Int) := by omega
      generalize m + k = t at e0 e1 e2 e3 hwr2 t0 t1
      replace E := hid (E.out.addArr hz (fun _ _ h => h)).front
      clear hz
      obtain ⟨q50, q51, q52, q53⟩ := (E.out.hdr 5 rfl).all
      go_upto_region 9 with (fail)
      go_region
      · skip
        generalize hWb : World.drew _ = wb
        have hEb : Ext wr wb := by rw [← hWb]; exact (ext_alloc _ _).trans (ext_drawn _)
        clear hWb
        replace E := hid (E.out.up hEb)
        replace e0 := up_cell e0 hEb
        replace e1 := up_cell e1 hEb
        replace e2 := up_cell e2 hEb
        replace e3 := up_cell e3 hEb
        clear hEb q50 q51 q52 q53
        obtain ⟨q10, q11, q12, q13⟩ := (E.out.hdr 1 rfl).all
        obtain ⟨q50, q51, q52, q53⟩ := (E.out.hdr 5 rfl).all
        have c4 := row1 (E.out.obj 4 rfl)
        have c6 := row1 (E.out.obj 6 rfl)
        go_upto_region 12 with (fail)
        refine wp_region_load_any 8 16 (.pointer (some ⟨bo, 0, none⟩)) (fun wz => wz.cell? ⟨pp, 0, none⟩ = some (.pointer (some ⟨bo, 0, none⟩))) (Sees wb [(⟨pp, 0, none⟩, .pointer (some ⟨bo, 0, none⟩)), (⟨bo, 3, none⟩, .slice ia' cur.length ic'), (⟨py, 3, none⟩, .slice (some ⟨b2, o2, none⟩) y.items.length jy), (⟨pn, 0, none⟩, .int .i64 n), (⟨b2, o2 + t * 4, none⟩, .int .i64 z.kind), (⟨b2, o2 + t * 4 + 1, none⟩, .slice sz z.shape.length cz), (⟨b2, o2 + t * 4 + 2, none⟩, .slice nz z.nums.length mz), (⟨b2, o2 + t * 4 + 3, none⟩, .slice iz z.items.length jz)]) [14, 15] (fun k v u u' => match k with | 14 => RetA u (fun b => wb.heap.size ≤ b) z (.returned v) u' | 15 => ∃ sa sc na nc ia ic, v = .slice (some ⟨u.heap.size, 0, none⟩) 1 1 ∧ u' = u.alloc (.cells #[.int .i64 z.kind, .slice sa z.shape.length sc, .slice na z.nums.length nc, .slice ia z.items.length ic] 27) ∧ ArrAt u (fun b => wb.heap.size ≤ b) z sa na ia | _ => False) (fun wz hz => by obtain ⟨-, hSc⟩ := hz; simp only [List.forall_mem_cons] at hSc; exact hSc.1) (fun _ _ h e => h.up e) (Sees.start (all_cons (c6) (all_cons (q13) (all_cons (q53) (all_cons (c4) (all_cons (e0) (all_cons (e1) (all_cons (e2) (all_cons (e3) (all_nil)))))))))) (by kernel_rfl) (by kernel_rfl) _ (by rfl) (by rfl) (by intro wz hz; go_simp; (first | done | with_reducible rfl)) (by intro c a w h; exact h) ?_
        try simp only [Act.put, List.setIfInBounds_toArray, List.set_cons_zero, List.set_cons_succ]
        simp only [List.take_succ_cons, List.take_zero, List.drop_succ_cons, List.drop_zero]
        repeat (first | (refine m_plain (v := ?_) (by rfl) (by rfl) ?_ ?_; rotate_left; (intro wz hSw; obtain ⟨-, hSc⟩ := hSw; (try simp only [List.forall_mem_cons, List.forall_mem_nil, and_true] at hSc); go_simp; (first | done | with_reducible rfl)); (intro K hK; (try simp only [Act.put, List.setIfInBounds_toArray, List.set_cons_zero, List.set_cons_succ]); refine hK _ _ ?_; clear hK K)) | (refine m_skip (by rfl) (by rfl) ?_; (intro K hK; (try simp only [Act.put, List.setIfInBounds_toArray, List.set_cons_zero, List.set_cons_succ]); refine hK _ _ ?_; clear hK K)))
        refine m_make (by rfl) (by rfl) ?_ ?_
        · intro wz hSw hdep R hRz
          obtain ⟨hSe, hSc⟩ := hSw
          (try simp only [List.forall_mem_cons, List.forall_mem_nil, and_true] at hSc)
          unfold does
          (go_simp; refine Calls.mono (array_Clone z _ _ _ _ _ _ _ wz ((E.out.arr 0 rfl).up hSe)) ?_; rintro e wq ⟨ta, tc, tn, tnc, ti, tic, rfl, hq, hqb⟩; exact ⟨_, rfl, hRz.out _ _ ⟨hqb, ta, tc, tn, tnc, ti, tic, rfl, ArrAt.mono (fun b _ hb => Nat.le_trans (Below.size hSe) hb) z hq, hqb⟩⟩)
        intro v14 u14 x14 hG14 K hK
        have hF14 := hG14.fact
        (try dsimp only at hF14)
        obtain ⟨s14, c14, n14, m14, i14, j14, he, hA14, hb14⟩ := hF14
        injection he with he
        subst he
        (try simp only [Act.put, List.setIfInBounds_toArray, List.set_cons_zero, List.set_cons_succ]); refine hK _ _ ?_; clear hK K
        repeat (first | (refine m_plain (v := ?_) (by rfl) (by rfl) ?_ ?_; rotate_left; (intro wz hSw; obtain ⟨-, hSc⟩ := hSw; (try simp only [List.forall_mem_cons, List.forall_mem_nil, and_true] at hSc); go_simp; (first | done | with_reducible rfl)); (intro K hK; (try simp only [Act.put, List.setIfInBounds_toArray, List.set_cons_zero, List.set_cons_succ]); refine hK _ _ ?_; clear hK K)) | (refine m_skip (by rfl) (by rfl) ?_; (intro K hK; (try simp only [Act.put, List.setIfInBounds_toArray, List.set_cons_zero, List.set_cons_succ]); refine hK _ _ ?_; clear hK K)))
        refine m_make (by rfl) (by rfl) ?_ ?_
        · intro wz hSw hdep R hRz
          obtain ⟨hSe, hSc⟩ := hSw
          (try simp only [List.forall_mem_cons, List.forall_mem_nil, and_true] at hSc)
          unfold does
          (go_simp; exact hRz.out _ _ ⟨ext_alloc _ _, s14, c14, n14, m14, i14, j14, rfl, rfl, hA14.up (hdep 14 _ rfl (depB_sound (f := 60) (by kernel_rfl)))⟩)
        intro v15 u15 x15 hG15 K hK
        have hF15 := hG15.fact
        (try dsimp only at hF15)
        obtain ⟨s15, c15, n15, m15, i15, j15, rfl, rfl, hA15⟩ := hF15
        (try simp only [Act.put, List.setIfInBounds_toArray, List.set_cons_zero, List.set_cons_succ]); refine hK _ _ ?_; clear hK K
        repeat (first | (refine m_plain (v := ?_) (by rfl) (by rfl) ?_ ?_; rotate_left; (intro wz hSw; obtain ⟨-, hSc⟩ := hSw; (try simp only [List.forall_mem_cons, List.forall_mem_nil, and_true] at hSc); go_simp; (first | done | with_reducible rfl)); (intro K hK; (try simp only [Act.put, List.setIfInBounds_toArray, List.set_cons_zero, List.set_cons_succ]); refine hK _ _ ?_; clear hK K)) | (refine m_skip (by rfl) (by rfl) ?_; (intro K hK; (try simp only [Act.put, List.setIfInBounds_toArray, List.set_cons_zero, List.set_cons_succ]); refine hK _ _ ?_; clear hK K)))
        refine m_nil ?_
        intro wf hSf hAf
        have oB := hid (box_items (z := z) (T := fun b => wb.heap.size ≤ b) (hAf 15 _ rfl) (Below.size hG15.s.1) hA15)
        have hfr : Hid (∀ b, wb.heap.size ≤ b → Tst w0 S _ b) := hid (fun b hb => E.out.fresh (Ext.refl _) hb)
        replace E := hid (E.out.up hSf.1)
        clear hSf hAf hG15 hG14 hA14 hb14 hA15 q10 q11 q12 q13 q50 q51 q52 q53 c4 c6 e0 e1 e2 e3 hwr hwr2 t0 t1
        refine anyH_step 16 (by kernel_rfl) (by rfl) ?_
        refine wplE_appA E.out 3 (by rfl) (by rfl) (.tmp 81) (.tmp 92) (by rfl) (by rfl) _ _ 1 [z] (by rfl) oB.out (fun b _ hb => hfr.out b hb) hll ?_
        intro V1 ia2 ic2 E1
        clear E oB hfr
        have E := hid E1
        clear E1
        (try simp only [List.cons_append, List.nil_append, List.set_cons_zero, List.set_cons_succ] at E)
        refine anyH_nil (row1 (E.out.obj 6 rfl)) ?_
        refine anyH_plain 17 (v := .pointer (some ⟨bo, 0, none⟩)) (by kernel_rfl) (by rfl) (by rfl) (by go_simp <;> (try (intro hh; omega))) (row1 (E.out.obj 6 rfl)) ?_
        refine anyH_plain 18 (v := .pointer (some ⟨bo, 3, none⟩)) (by kernel_rfl) (by rfl) (by rfl) (by go_simp <;> (try (intro hh; omega))) (row1 (E.out.obj 6 rfl)) ?_
        refine anyH_step 19 (by kernel_rfl) (by rfl) ?_
        refine wpl_store3 (by rfl) (.tmp 95) (.tmp 93) (by rfl) bo (by rfl) (by rfl) (E.out.hdr 1 rfl) ?_
        intro V HV CV
        replace E := hid (E.out.chg 1 rfl CV HV)
        clear HV CV
        (try simp only [List.cons_append, List.nil_append, List.set_cons_zero, List.set_cons_succ] at E)
        refine anyH_nil (row1 (E.out.obj 6 rfl)) ?_
        refine anyH_done (by kernel_rfl) ?_
        go_wp2_with fail
        go_roundw
        case rel => exact ⟨k + 1, _, ic2, cur ++ [z], by omega, by go_num, hstep, E.out.tl⟩
        case measure => simp [intOf]; omega
      · skip
        generalize hWb : World.drew _ = wb
        have hEb : Ext wr wb := by rw [← hWb]; exact (ext_alloc _ _).trans (ext_drawn _)
        clear hWb
        replace E := hid (E.out.up hEb)
        replace e0 := up_cell e0 hEb
        replace e1 := up_cell e1 hEb
        replace e2 := up_cell e2 hEb
        replace e3 := up_cell e3 hEb
        clear hEb q50 q51 q52 q53
        obtain ⟨q10, q11, q12, q13⟩ := (E.out.hdr 1 rfl).all
        obtain ⟨q50, q51, q52, q53⟩ := (E.out.hdr 5 rfl).all
        have c4 := row1 (E.out.obj 4 rfl)
        have c6 := row1 (E.out.obj 6 rfl)
        go_upto_region 10 with (fail)
        refine wp_region_mono_tail 16 (Sees wb [(⟨pp, 0, none⟩, .pointer (some ⟨bo, 0, none⟩)), (⟨bo, 3, none⟩, .slice ia' cur.length ic'), (⟨py, 3, none⟩, .slice (some ⟨b2, o2, none⟩) y.items.length jy), (⟨pn, 0, none⟩, .int .i64 n), (⟨b2, o2 + t * 4, none⟩, .int .i64 z.kind), (⟨b2, o2 + t * 4 + 1, none⟩, .slice sz z.shape.length cz), (⟨b2, o2 + t * 4 + 2, none⟩, .slice nz z.nums.length mz), (⟨b2, o2 + t * 4 + 3, none⟩, .slice iz z.items.length jz)]) [13, 15] (fun k v u u' => match k with | 13 => RetA u (fun b => wb.heap.size ≤ b) z (.returned v) u' | 15 => v = .slice (some ⟨u.heap.size, 0, none⟩) 1 1 ∧ u' = u.alloc (.cells #[.int .i64 0, .slice none 0 0, .slice none 0 0, .slice none 0 0] 27) | _ => False) (fun _ _ h e => h.up e) (Sees.start (all_cons (c6) (all_cons (q13) (all_cons (q53) (all_cons (c4) (all_cons (e0) (all_cons (e1) (all_cons (e2) (all_cons (e3) (all_nil)))))))))) (by kernel_rfl) (by kernel_rfl) ?_
        simp only [List.take_succ_cons, List.take_zero, List.drop_succ_cons, List.drop_zero]
        repeat (first | (refine m_plain (v := ?_) (by rfl) (by rfl) ?_ ?_; rotate_left; (intro wz hSw; obtain ⟨-, hSc⟩ := hSw; (try simp only [List.forall_mem_cons, List.forall_mem_nil, and_true] at hSc); go_simp; (first | done | with_reducible rfl)); (intro K hK; (try simp only [Act.put, List.setIfInBounds_toArray, List.set_cons_zero, List.set_cons_succ]); refine hK _ _ ?_; clear hK K)) | (refine m_skip (by rfl) (by rfl) ?_; (intro K hK; (try simp only [Act.put, List.setIfInBounds_toArray, List.set_cons_zero, List.set_cons_succ]); refine hK _ _ ?_; clear hK K)))
        refine m_make (by rfl) (by rfl) ?_ ?_
        · intro wz hSw hdep R hRz
          obtain ⟨hSe, hSc⟩ := hSw
          (try simp only [List.forall_mem_cons, List.forall_mem_nil, and_true] at hSc)
          unfold does
          (go_simp; refine Calls.mono (array_Clone z _ _ _ _ _ _ _ wz ((E.out.arr 0 rfl).up hSe)) ?_; rintro e wq ⟨ta, tc, tn, tnc, ti, tic, rfl, hq, hqb⟩; exact ⟨_, rfl, hRz.out _ _ ⟨hqb, ta, tc, tn, tnc, ti, tic, rfl, ArrAt.mono (fun b _ hb => Nat.le_trans (Below.size hSe) hb) z hq, hqb⟩⟩)
        intro v13 u13 x13 hG13 K hK
        have hF13 := hG13.fact
        (try dsimp only at hF13)
        obtain ⟨s13, c13, n13, m13, i13, j13, he, hA13, hb13⟩ := hF13
        injection he with he
        subst he
        (try simp only [Act.put, List.setIfInBounds_toArray, List.set_cons_zero, List.set_cons_succ]); refine hK _ _ ?_; clear hK K
        repeat (first | (refine m_plain (v := ?_) (by rfl) (by rfl) ?_ ?_; rotate_left; (intro wz hSw; obtain ⟨-, hSc⟩ := hSw; (try simp only [List.forall_mem_cons, List.forall_mem_nil, and_true] at hSc); go_simp; (first | done | with_reducible rfl)); (intro K hK; (try simp only [Act.put, List.setIfInBounds_toArray, List.set_cons_zero, List.set_cons_succ]); refine hK _ _ ?_; clear hK K)) | (refine m_skip (by rfl) (by rfl) ?_; (intro K hK; (try simp only [Act.put, List.setIfInBounds_toArray, List.set_cons_zero, List.set_cons_succ]); refine hK _ _ ?_; clear hK K)))
        refine m_make (by rfl) (by rfl) ?_ ?_
        · intro wz hSw hdep R hRz
          obtain ⟨hSe, hSc⟩ := hSw
          (try simp only [List.forall_mem_cons, List.forall_mem_nil, and_true] at hSc)
          unfold does
          (go_simp; exact hRz.out _ _ ⟨ext_alloc _ _, rfl, rfl⟩)
        intro v15 u15 x15 hG15 K hK
        have hF15 := hG15.fact
        (try dsimp only at hF15)
        obtain ⟨rfl, rfl⟩ := hF15
        (try simp only [Act.put, List.setIfInBounds_toArray, List.set_cons_zero, List.set_cons_succ]); refine hK _ _ ?_; clear hK K
        repeat (first | (refine m_plain (v := ?_) (by rfl) (by rfl) ?_ ?_; rotate_left; (intro wz hSw; obtain ⟨-, hSc⟩ := hSw; (try simp only [List.forall_mem_cons, List.forall_mem_nil, and_true] at hSc); go_simp; (first | done | with_reducible rfl)); (intro K hK; (try simp only [Act.put, List.setIfInBounds_toArray, List.set_cons_zero, List.set_cons_succ]); refine hK _ _ ?_; clear hK K)) | (refine m_skip (by rfl) (by rfl) ?_; (intro K hK; (try simp only [Act.put, List.setIfInBounds_toArray, List.set_cons_zero, List.set_cons_succ]); refine hK _ _ ?_; clear hK K)))
        refine m_nil ?_
        intro wf hSf hAf
        have oZ := hid (box_items (z := .zero) (T := fun b => wb.heap.size ≤ b) (sc := 0) (nc := 0) (ic := 0) (hAf 15 _ rfl) (Below.size hG15.s.1) (zero_at _ _ none none none))
        have hfr : Hid (∀ b, wb.heap.size ≤ b → Tst w0 S _ b) := hid (fun b hb => E.out.fresh (Ext.refl _) hb)
        replace E := hid (((E.out.up hSf.1).addArr (ArrAt.up hA13 (hAf 13 _ rfl)) (fun b _ hb => hfr.out b hb)).front)
        clear hSf hAf hG15 hG13 hA13 hb13 q10 q11 q12 q13 q50 q51 q52 q53 c4 c6 e0 e1 e2 e3 hwr hwr2 t0 t1
        refine wplE_appA E.out 4 (by rfl) (by rfl) (.tmp 60) (.tmp 72) (by rfl) (by rfl) _ _ 1 [.zero] (by rfl) oZ.out (fun b _ hb => hfr.out b hb) hll ?_
        intro V1 ia2 ic2 E1
        clear E oZ hfr
        have E := hid E1
        clear E1
        (try simp only [List.cons_append, List.nil_append, List.set_cons_zero, List.set_cons_succ] at E)
        obtain ⟨g5, hg5⟩ := (E.out.rowA 4 rfl).at (by simp)
        subst hg5
        have ti0 : (0 : Int) ≤ (cur.length : Int) := Int.natCast_nonneg _
        have ti1 : (cur.length : Int) < ((cur ++ [Arr.zero]).length : Int) := by simp; omega
        go_upto_region 11 with (refine wpl_store3 rfl (.tmp 75) (.tmp 73) rfl bo rfl rfl (E.out.hdr 2 rfl) ?_; intro V HV CV; replace E := hid (E.out.chg 2 rfl CV HV); clear HV CV; (try simp only [List.cons_append, List.nil_append, List.set_cons_zero, List.set_cons_succ] at E))
        go_wp2_with (refine wplE_last E.out 4 (by rfl) (by rfl) (.tmp 76) (.tmp 70) (by rfl) (fun g e => by cases e; rfl) (by rfl) (E.out.arr 0 rfl) ?_; intro V2 E1; clear E; have E := hid E1; clear E1; (try simp only [List.cons_append, List.nil_append, List.set_cons_zero, List.set_cons_succ] at E))
        go_roundw
        case rel => exact ⟨k + 1, _, ic2, cur ++ [z], by omega, by go_num, hstep, by rw [show (cur ++ [z]).length = cur.length + 1 by simp]; exact E.out.tl.tl⟩
        case measure => simp [intOf]; omega
    · obtain rfl : k = n := by omega
      obtain ⟨q40, q41, q42, q43⟩ := (E.out.hdr 4 rfl).all
      go_wp2_with fail
      exact bodyPost_ret (end_none rfl) rfl (hR.out _ _ ⟨ia', ic', rfl, by rw [← hcur.out]; exact E.out⟩)
end Go.Proofs.Ytdpdcjadedcglaa
