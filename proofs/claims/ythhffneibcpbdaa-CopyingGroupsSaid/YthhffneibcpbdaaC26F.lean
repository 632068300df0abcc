/- copying's collector: what its function does for a fill cell: contract. Conditions: the array is read; what is appended to is the call's own. -/
import Derived.Test.YthhffneibcpbdaaC26B
set_option linter.unusedVariables false
set_option linter.unusedSimpArgs false
namespace Go.Proofs.Ythhffneibcpbdaa
open Go.RowKit Go.Sort
attribute [local go_sem ↓] run_max2 run_min2
attribute [local go_sem] eql_ints_nil eql_arrs_nil
set_option maxRecDepth 100000 in
set_option maxHeartbeats 8000000 in
theorem coll_fillN (kk : Int) (oa : Option Addr) (ol oc : Nat) (na : Option Addr) (nc : Nat) (nums : List Int) (ia : Option Addr) (ic : Nat) (items : List Arr) (y : Arr) (sy : Option Addr) (cy : Nat) (ny : Option Addr) (my : Nat) (iy : Option Addr) (jy : Nat) (f : Arr) (sf : Option Addr) (cf : Nat) (nf : Option Addr) (mf : Nat) (jf : Option Addr) (kf : Nat) (bo pn py pp pf n : Nat) (d : Int) (w0 : World) (S : Nat → Prop) (w : World) (M : List Fact)
    (E : Env w0 S w (.obj bo (.cells #[.int .i64 kk, .slice oa ol oc, .slice na (nums).length nc, .slice ia (items).length ic] 26 (0, 0)) :: .rowI na nc (nums) :: .rowA ia ic (items) :: .obj pn (.cells #[.int .i64 n] 3 (0, 0)) :: .obj py (.cells #[.int .i64 y.kind, .slice sy y.shape.length cy, .slice ny y.nums.length my, .slice iy y.items.length jy] 26 (0, 0)) :: .obj pp (.cells #[.pointer (some ⟨bo, 0, none⟩)] 58 (0, 0)) :: .arr y sy ny iy :: .obj pf (.cells #[.int .i64 f.kind, .slice sf f.shape.length cf, .slice nf f.nums.length mf, .slice jf f.items.length kf] 26 (0, 0)) :: .arr f sf nf jf :: M)) (hn : n ≤ 65536) (k3 : y.kind ≠ 3) (hf : f.nums = [d]) (hl1 : nums.length + n ≤ 1000000) :
    Calls Try.prog 79 #[.int .i64 (-1), .pointer (some ⟨pn, 0, none⟩), .pointer (some ⟨py, 0, none⟩), .pointer (some ⟨pp, 0, none⟩), .pointer (some ⟨pf, 0, none⟩)] w fun en w' => ∃ na' nc', en = .returned (.tuple #[]) ∧ Env w0 S w' (.obj bo (.cells #[.int .i64 kk, .slice oa ol oc, .slice na' (nums ++ repL [d] n).length nc', .slice ia (items).length ic] 26 (0, 0)) :: .rowI na' nc' (nums ++ repL [d] n) :: .rowA ia ic (items) :: .obj pn (.cells #[.int .i64 n] 3 (0, 0)) :: .obj py (.cells #[.int .i64 y.kind, .slice sy y.shape.length cy, .slice ny y.nums.length my, .slice iy y.items.length jy] 26 (0, 0)) :: .obj pp (.cells #[.pointer (some ⟨bo, 0, none⟩)] 58 (0, 0)) :: .arr y sy ny iy :: .obj pf (.cells #[.int .i64 f.kind, .slice sf f.shape.length cf, .slice nf f.nums.length mf, .slice jf f.items.length kf] 26 (0, 0)) :: .arr f sf nf jf :: M) := by
  refine calls_post fun R' hR => ?_
  replace E := hid E
  have kb : (y.kind == 3) = false := by simp [k3]
  have kb2 : (y.kind != 3) = true := by simp [k3]
  have hf1 : f.nums.length = 1 := by rw [hf]; rfl
  have hgd : f.nums.getD 0 0 = d := by rw [hf]; rfl
  have hx2 : (0 : Int) < (f.nums.length : Int) := by omega
  replace k3 := hid k3
  replace hf := hid hf
  have c0 := row1 (E.out.obj 3 rfl)
  go_enter Try.func79, Try.ntmps79
  go_upto_region 1 with (fail)
  clear c0
  go_loopw [6, 9] (fun u v wr => ∃ (k : Nat) (na' : Option Addr) (nc' : Nat) (cur : List Int), k ≤ n ∧ v = .int .i64 k ∧ Hid (cur = nums ++ repL [d] k) ∧ Env w0 S wr (.obj bo (.cells #[.int .i64 kk, .slice oa ol oc, .slice na' (cur).length nc', .slice ia (items).length ic] 26 (0, 0)) :: .rowI na' nc' (cur) :: .rowA ia ic (items) :: .obj pn (.cells #[.int .i64 n] 3 (0, 0)) :: .obj py (.cells #[.int .i64 y.kind, .slice sy y.shape.length cy, .slice ny y.nums.length my, .slice iy y.items.length jy] 26 (0, 0)) :: .obj pp (.cells #[.pointer (some ⟨bo, 0, none⟩)] 58 (0, 0)) :: .arr y sy ny iy :: .obj pf (.cells #[.int .i64 f.kind, .slice sf f.shape.length cf, .slice nf f.nums.length mf, .slice jf f.items.length kf] 26 (0, 0)) :: .arr f sf nf jf :: M)) (fun _ v _ => n - (intOf v).toNat)
  case atStart => exact ⟨0, na, nc, nums, Nat.zero_le _, rfl, hid (by simp [repL]), E.out⟩
  case round =>
    clear E
    obtain ⟨k, na', nc', cur, hk, rfl, hcur, E⟩ := hrel
    replace E := hid E
    by_cases hlt : k < n
    · obtain ⟨b1, o1, hna, hbl1, hS1, hc⟩ := (E.out.arr 8 rfl).nums.at (k := 0) (by omega)
      rw [hgd, Nat.add_zero] at hc
      subst hna
      have hll : cur.length + 1 ≤ 17592186044416 := by rw [hcur.out, List.length_append, repL_len]; simp; omega
      have hstep : Hid (cur ++ [d] = nums ++ repL [d] (k + 1)) := hid (by rw [hcur.out, repL, List.append_assoc])
      obtain ⟨q40, q41, q42, q43⟩ := (E.out.hdr 4 rfl).all
      go_upto_region 14 with (fail)
      clear q40 q41 q42 q43
      obtain ⟨q00, q01, q02, q03⟩ := (E.out.hdr 0 rfl).all
      obtain ⟨q70, q71, q72, q73⟩ := (E.out.hdr 7 rfl).all
      have c5 := row1 (E.out.obj 5 rfl)
      refine wp_region_load_any 8 10 (.pointer (some ⟨bo, 0, none⟩)) (fun wz => wz.cell? ⟨pp, 0, none⟩ = some (.pointer (some ⟨bo, 0, none⟩))) (Sees wr [(⟨pp, 0, none⟩, .pointer (some ⟨bo, 0, none⟩)), (⟨bo, 2, none⟩, .slice na' cur.length nc'), (⟨pf, 2, none⟩, .slice (some ⟨b1, o1, none⟩) f.nums.length mf), (⟨b1, o1, none⟩, .int .i64 d)]) [9] (fun k v u u' => match k with | 9 => v = .slice (some ⟨u.heap.size, 0, none⟩) 1 1 ∧ u' = u.alloc (.cells (([d] : List Int).map (Value.int .i64)).toArray 3) | _ => False) (fun wz hz => by obtain ⟨-, hSc⟩ := hz; simp only [List.forall_mem_cons] at hSc; exact hSc.1) (fun _ _ h e => h.up e) (Sees.start (all_cons (c5) (all_cons (q02) (all_cons (q72) (all_cons (hc) (all_nil)))))) (by kernel_rfl) (by kernel_rfl) _ (by rfl) (by rfl) (by intro wz hz; go_simp; (first | done | with_reducible rfl)) (by intro c a w h; exact h) ?_
      try simp only [Act.put, List.setIfInBounds_toArray, List.set_cons_zero, List.set_cons_succ]
      simp only [List.take_succ_cons, List.take_zero, List.drop_succ_cons, List.drop_zero]
      repeat (first | (refine m_plain (v := ?_) (by rfl) (by rfl) ?_ ?_; rotate_left; (intro wz hSw; obtain ⟨-, hSc⟩ := hSw; (try simp only [List.forall_mem_cons, List.forall_mem_nil, and_true] at hSc); go_simp; (first | done | with_reducible rfl)); (intro K hK; (try simp only [Act.put, List.setIfInBounds_toArray, List.set_cons_zero, List.set_cons_succ]); refine hK _ _ ?_; clear hK K)) | (refine m_skip (by rfl) (by rfl) ?_; (intro K hK; (try simp only [Act.put, List.setIfInBounds_toArray, List.set_cons_zero, List.set_cons_succ]); refine hK _ _ ?_; clear hK K)))
      refine m_make (by rfl) (by rfl) ?_ ?_
      · intro wz hSw hdep R hRz
        obtain ⟨hSe, hSc⟩ := hSw
        (try simp only [List.forall_mem_cons, List.forall_mem_nil, and_true] at hSc)
        unfold does
        (go_simp; exact hRz.out _ _ ⟨ext_alloc _ _, rfl, rfl⟩)
      intro v9 u9 x9 hG9 K hK
      have hF9 := hG9.fact
      (try dsimp only at hF9)
      obtain ⟨rfl, rfl⟩ := hF9
      (try simp only [Act.put, List.setIfInBounds_toArray, List.set_cons_zero, List.set_cons_succ]); refine hK _ _ ?_; clear hK K
      repeat (first | (refine m_plain (v := ?_) (by rfl) (by rfl) ?_ ?_; rotate_left; (intro wz hSw; obtain ⟨-, hSc⟩ := hSw; (try simp only [List.forall_mem_cons, List.forall_mem_nil, and_true] at hSc); go_simp; (first | done | with_reducible rfl)); (intro K hK; (try simp only [Act.put, List.setIfInBounds_toArray, List.set_cons_zero, List.set_cons_succ]); refine hK _ _ ?_; clear hK K)) | (refine m_skip (by rfl) (by rfl) ?_; (intro K hK; (try simp only [Act.put, List.setIfInBounds_toArray, List.set_cons_zero, List.set_cons_succ]); refine hK _ _ ?_; clear hK K)))
      refine m_nil ?_
      intro wf hSf hAf
      have oF := hid (lit_at (l := [d]) (hAf 9 _ rfl) (by simp))
      replace E := hid (E.out.up hSf.1)
      clear hSf hAf hG9 c5 q00 q01 q02 q03 q70 q71 q72 q73 hc
      refine anyH_step 10 (by kernel_rfl) (by rfl) ?_
      refine wplE_appI E.out 1 (by rfl) (by rfl) (.tmp 103) (.tmp 108) (by rfl) (by rfl) _ _ 1 [d] (by rfl) oF.out hll ?_
      intro V2 na2 nc2 E1
      clear E oF
      have E := hid E1
      clear E1
      (try simp only [List.cons_append, List.nil_append, List.set_cons_zero, List.set_cons_succ] at E)
      refine anyH_nil (row1 (E.out.obj 5 rfl)) ?_
      refine anyH_plain 11 (v := .pointer (some ⟨bo, 0, none⟩)) (by kernel_rfl) (by rfl) (by rfl) (by go_simp <;> (try (intro hh; omega))) (row1 (E.out.obj 5 rfl)) ?_
      refine anyH_plain 12 (v := .pointer (some ⟨bo, 2, none⟩)) (by kernel_rfl) (by rfl) (by rfl) (by go_simp <;> (try (intro hh; omega))) (row1 (E.out.obj 5 rfl)) ?_
      refine anyH_step 13 (by kernel_rfl) (by rfl) ?_
      refine wpl_store2 (by rfl) (.tmp 111) (.tmp 109) (by rfl) bo (by rfl) (by rfl) (E.out.hdr 0 rfl) ?_
      intro V HV CV
      replace E := hid (E.out.chg 0 rfl CV HV)
      clear HV CV
      (try simp only [List.cons_append, List.nil_append, List.set_cons_zero, List.set_cons_succ] at E)
      refine anyH_nil (row1 (E.out.obj 5 rfl)) ?_
      refine anyH_done (by kernel_rfl) ?_
      go_wp2_with fail
      go_roundw
      case rel => exact ⟨k + 1, na2, nc2, cur ++ [d], by omega, by go_num, hstep, E.out⟩
      case measure => simp [intOf]; omega
    · obtain rfl : k = n := by omega
      obtain ⟨q40, q41, q42, q43⟩ := (E.out.hdr 4 rfl).all
      go_wp2_with fail
      exact bodyPost_ret (end_none rfl) rfl (hR.out _ _ ⟨na', nc', rfl, by rw [← hcur.out]; exact E.out⟩)
set_option maxRecDepth 100000 in
set_option maxHeartbeats 8000000 in
theorem coll_fillA (kk : Int) (oa : Option Addr) (ol oc : Nat) (na : Option Addr) (nc : Nat) (nums : List Int) (ia : Option Addr) (ic : Nat) (items : List Arr) (y : Arr) (sy : Option Addr) (cy : Nat) (ny : Option Addr) (my : Nat) (iy : Option Addr) (jy : Nat) (f : Arr) (sf : Option Addr) (cf : Nat) (nf : Option Addr) (mf : Nat) (jf : Option Addr) (kf : Nat) (bo pn py pp pf n : Nat) (z : Arr) (w0 : World) (S : Nat → Prop) (w : World) (M : List Fact)
    (E : Env w0 S w (.obj bo (.cells #[.int .i64 kk, .slice oa ol oc, .slice na (nums).length nc, .slice ia (items).length ic] 26 (0, 0)) :: .rowI na nc (nums) :: .rowA ia ic (items) :: .obj pn (.cells #[.int .i64 n] 3 (0, 0)) :: .obj py (.cells #[.int .i64 y.kind, .slice sy y.shape.length cy, .slice ny y.nums.length my, .slice iy y.items.length jy] 26 (0, 0)) :: .obj pp (.cells #[.pointer (some ⟨bo, 0, none⟩)] 58 (0, 0)) :: .arr y sy ny iy :: .obj pf (.cells #[.int .i64 f.kind, .slice sf f.shape.length cf, .slice nf f.nums.length mf, .slice jf f.items.length kf] 26 (0, 0)) :: .arr f sf nf jf :: M)) (hn : n ≤ 65536) (k3 : y.kind = 3) (hf : f.items = [z]) (hl1 : items.length + n ≤ 1000000) :
    Calls Try.prog 79 #[.int .i64 (-1), .pointer (some ⟨pn, 0, none⟩), .pointer (some ⟨py, 0, none⟩), .pointer (some ⟨pp, 0, none⟩), .pointer (some ⟨pf, 0, none⟩)] w fun en w' => ∃ ia' ic', en = .returned (.tuple #[]) ∧ Env w0 S w' (.obj bo (.cells #[.int .i64 kk, .slice oa ol oc, .slice na (nums).length nc, .slice ia' (items ++ repL [z] n).length ic'] 26 (0, 0)) :: .rowI na nc (nums) :: .rowA ia' ic' (items ++ repL [z] n) :: .obj pn (.cells #[.int .i64 n] 3 (0, 0)) :: .obj py (.cells #[.int .i64 y.kind, .slice sy y.shape.length cy, .slice ny y.nums.length my, .slice iy y.items.length jy] 26 (0, 0)) :: .obj pp (.cells #[.pointer (some ⟨bo, 0, none⟩)] 58 (0, 0)) :: .arr y sy ny iy :: .obj pf (.cells #[.int .i64 f.kind, .slice sf f.shape.length cf, .slice nf f.nums.length mf, .slice jf f.items.length kf] 26 (0, 0)) :: .arr f sf nf jf :: M) := by
  refine calls_post fun R' hR => ?_
  replace E := hid E
  have kb : (y.kind == 3) = true := by simp [k3]
  have kb2 : (y.kind != 3) = false := by simp [k3]
  have hf1 : f.items.length = 1 := by rw [hf]; rfl
  have hgd : Hid (∀ h : 0 < f.items.length, f.items[0]'h = z) := hid (fun h => by simp [hf])
  have hx2 : (0 : Int) < (f.items.length : Int) := by omega
  have hx3 : 0 < f.items.length := by omega
  replace k3 := hid k3
  replace hf := hid hf
  have c0 := row1 (E.out.obj 3 rfl)
  go_enter Try.func79, Try.ntmps79
  go_upto_region 1 with (fail)
  clear c0
  go_loopw [6, 9] (fun u v wr => ∃ (k : Nat) (ia' : Option Addr) (ic' : Nat) (cur : List Arr), k ≤ n ∧ v = .int .i64 k ∧ Hid (cur = items ++ repL [z] k) ∧ Env w0 S wr (.obj bo (.cells #[.int .i64 kk, .slice oa ol oc, .slice na (nums).length nc, .slice ia' (cur).length ic'] 26 (0, 0)) :: .rowI na nc (nums) :: .rowA ia' ic' (cur) :: .obj pn (.cells #[.int .i64 n] 3 (0, 0)) :: .obj py (.cells #[.int .i64 y.kind, .slice sy y.shape.length cy, .slice ny y.nums.length my, .slice iy y.items.length jy] 26 (0, 0)) :: .obj pp (.cells #[.pointer (some ⟨bo, 0, none⟩)] 58 (0, 0)) :: .arr y sy ny iy :: .obj pf (.cells #[.int .i64 f.kind, .slice sf f.shape.length cf, .slice nf f.nums.length mf, .slice jf f.items.length kf] 26 (0, 0)) :: .arr f sf nf jf :: M)) (fun _ v _ => n - (intOf v).toNat)
  case atStart => exact ⟨0, ia, ic, items, Nat.zero_le _, rfl, hid (by simp [repL]), E.out⟩
  case round =>
    clear E
    obtain ⟨k, ia', ic', cur, hk, rfl, hcur, E⟩ := hrel
    replace E := hid E
    by_cases hlt : k < n
    · obtain ⟨b2, o2, sz, cz, nz, mz, iz, jz, hia, hS1, hbl1, e0, e1, e2, e3, hz⟩ := (E.out.arr 8 rfl).items.at (k := 0) hx3
      rw [hgd.out hx3] at e0 e1 e2 e3 hz
      simp only [Nat.zero_mul, Nat.add_zero] at e0 e1 e2 e3
      subst hia
      have hll : cur.length + 1 ≤ 1759218604441 := by rw [hcur.out, List.length_append, repL_len]; simp; omega
      have hstep : Hid (cur ++ [z] = items ++ repL [z] (k + 1)) := hid (by rw [hcur.out, repL, List.append_assoc])
      replace E := hid (E.out.addArr hz (fun _ _ h => h)).front
      clear hz
      obtain ⟨q50, q51, q52, q53⟩ := (E.out.hdr 5 rfl).all
      go_upto_region 4 with (fail)
      go_region
      · skip
        generalize hWb : World.drew _ = wb
        have hEb : Ext wr wb := by rw [← hWb]; exact (ext_alloc _ _).trans (ext_drawn _)
        clear hWb
        replace E := hid (E.out.up hEb)
        replace e0 := up_cell e0 hEb
        replace e1 := up_cell e1 hEb
        replace e2 := up_cell e2 hEb
        replace e3 := up_cell e3 hEb
        clear hEb q50 q51 q52 q53
        obtain ⟨q10, q11, q12, q13⟩ := (E.out.hdr 1 rfl).all
        obtain ⟨q80, q81, q82, q83⟩ := (E.out.hdr 8 rfl).all
        have c6 := row1 (E.out.obj 6 rfl)
        go_upto_region 7 with (fail)
        refine wp_region_load_any 8 11 (.pointer (some ⟨bo, 0, none⟩)) (fun wz => wz.cell? ⟨pp, 0, none⟩ = some (.pointer (some ⟨bo, 0, none⟩))) (Sees wb [(⟨pp, 0, none⟩, .pointer (some ⟨bo, 0, none⟩)), (⟨bo, 3, none⟩, .slice ia' cur.length ic'), (⟨pf, 3, none⟩, .slice (some ⟨b2, o2, none⟩) f.items.length kf), (⟨b2, o2, none⟩, .int .i64 z.kind), (⟨b2, o2 + 1, none⟩, .slice sz z.shape.length cz), (⟨b2, o2 + 2, none⟩, .slice nz z.nums.length mz), (⟨b2, o2 + 3, none⟩, .slice iz z.items.length jz)]) [9, 10] (fun k v u u' => match k with | 9 => RetA u (fun b => wb.heap.size ≤ b) z (.returned v) u' | 10 => ∃ sa sc na nc ia ic, v = .slice (some ⟨u.heap.size, 0, none⟩) 1 1 ∧ u' = u.alloc (.cells #[.int .i64 z.kind, .slice sa z.shape.length sc, .slice na z.nums.length nc, .slice ia z.items.length ic] 26) ∧ ArrAt u (fun b => wb.heap.size ≤ b) z sa na ia | _ => False) (fun wz hz => by obtain ⟨-, hSc⟩ := hz; simp only [List.forall_mem_cons] at hSc; exact hSc.1) (fun _ _ h e => h.up e) (Sees.start (all_cons (c6) (all_cons (q13) (all_cons (q83) (all_cons (e0) (all_cons (e1) (all_cons (e2) (all_cons (e3) (all_nil))))))))) (by kernel_rfl) (by kernel_rfl) _ (by rfl) (by rfl) (by intro wz hz; go_simp; (first | done | with_reducible rfl)) (by intro c a w h; exact h) ?_
        try simp only [Act.put, List.setIfInBounds_toArray, List.set_cons_zero, List.set_cons_succ]
        simp only [List.take_succ_cons, List.take_zero, List.drop_succ_cons, List.drop_zero]
        repeat (first | (refine m_plain (v := ?_) (by rfl) (by rfl) ?_ ?_; rotate_left; (intro wz hSw; obtain ⟨-, hSc⟩ := hSw; (try simp only [List.forall_mem_cons, List.forall_mem_nil, and_true] at hSc); go_simp; (first | done | with_reducible rfl)); (intro K hK; (try simp only [Act.put, List.setIfInBounds_toArray, List.set_cons_zero, List.set_cons_succ]); refine hK _ _ ?_; clear hK K)) | (refine m_skip (by rfl) (by rfl) ?_; (intro K hK; (try simp only [Act.put, List.setIfInBounds_toArray, List.set_cons_zero, List.set_cons_succ]); refine hK _ _ ?_; clear hK K)))
        refine m_make (by rfl) (by rfl) ?_ ?_
        · intro wz hSw hdep R hRz
          obtain ⟨hSe, hSc⟩ := hSw
          (try simp only [List.forall_mem_cons, List.forall_mem_nil, and_true] at hSc)
          unfold does
          (go_simp; refine Calls.mono (array_Clone z _ _ _ _ _ _ _ wz ((E.out.arr 0 rfl).up hSe)) ?_; rintro e wq ⟨ta, tc, tn, tnc, ti, tic, rfl, hq, hqb⟩; exact ⟨_, rfl, hRz.out _ _ ⟨hqb, ta, tc, tn, tnc, ti, tic, rfl, ArrAt.mono (fun b _ hb => Nat.le_trans (Below.size hSe) hb) z hq, hqb⟩⟩)
        intro v9 u9 x9 hG9 K hK
        have hF9 := hG9.fact
        (try dsimp only at hF9)
        obtain ⟨s9, c9, n9, m9, i9, j9, he, hA9, hb9⟩ := hF9
        injection he with he
        subst he
        (try simp only [Act.put, List.setIfInBounds_toArray, List.set_cons_zero, List.set_cons_succ]); refine hK _ _ ?_; clear hK K
        repeat (first | (refine m_plain (v := ?_) (by rfl) (by rfl) ?_ ?_; rotate_left; (intro wz hSw; obtain ⟨-, hSc⟩ := hSw; (try simp only [List.forall_mem_cons, List.forall_mem_nil, and_true] at hSc); go_simp; (first | done | with_reducible rfl)); (intro K hK; (try simp only [Act.put, List.setIfInBounds_toArray, List.set_cons_zero, List.set_cons_succ]); refine hK _ _ ?_; clear hK K)) | (refine m_skip (by rfl) (by rfl) ?_; (intro K hK; (try simp only [Act.put, List.setIfInBounds_toArray, List.set_cons_zero, List.set_cons_succ]); refine hK _ _ ?_; clear hK K)))
        refine m_make (by rfl) (by rfl) ?_ ?_
        · intro wz hSw hdep R hRz
          obtain ⟨hSe, hSc⟩ := hSw
          (try simp only [List.forall_mem_cons, List.forall_mem_nil, and_true] at hSc)
          unfold does
          (go_simp; exact hRz.out _ _ ⟨ext_alloc _ _, s9, c9, n9, m9, i9, j9, rfl, rfl, hA9.up (hdep 9 _ rfl (depB_sound (f := 60) (by kernel_rfl)))⟩)
        intro v10 u10 x10 hG10 K hK
        have hF10 := hG10.fact
        (try dsimp only at hF10)
        obtain ⟨s10, c10, n10, m10, i10, j10, rfl, rfl, hA10⟩ := hF10
        (try simp only [Act.put, List.setIfInBounds_toArray, List.set_cons_zero, List.set_cons_succ]); refine hK _ _ ?_; clear hK K
        repeat (first | (refine m_plain (v := ?_) (by rfl) (by rfl) ?_ ?_; rotate_left; (intro wz hSw; obtain ⟨-, hSc⟩ := hSw; (try simp only [List.forall_mem_cons, List.forall_mem_nil, and_true] at hSc); go_simp; (first | done | with_reducible rfl)); (intro K hK; (try simp only [Act.put, List.setIfInBounds_toArray, List.set_cons_zero, List.set_cons_succ]); refine hK _ _ ?_; clear hK K)) | (refine m_skip (by rfl) (by rfl) ?_; (intro K hK; (try simp only [Act.put, List.setIfInBounds_toArray, List.set_cons_zero, List.set_cons_succ]); refine hK _ _ ?_; clear hK K)))
        refine m_nil ?_
        intro wf hSf hAf
        have oB := hid (box_items (z := z) (T := fun b => wb.heap.size ≤ b) (hAf 10 _ rfl) (Below.size hG10.s.1) hA10)
        have hfr : Hid (∀ b, wb.heap.size ≤ b → Tst w0 S _ b) := hid (fun b hb => E.out.fresh (Ext.refl _) hb)
        replace E := hid (E.out.up hSf.1)
        clear hSf hAf hG10 hG9 hA9 hb9 hA10 q10 q11 q12 q13 q80 q81 q82 q83 c6 e0 e1 e2 e3
        refine anyH_step 11 (by kernel_rfl) (by rfl) ?_
        refine wplE_appA E.out 3 (by rfl) (by rfl) (.tmp 41) (.tmp 47) (by rfl) (by rfl) _ _ 1 [z] (by rfl) oB.out (fun b _ hb => hfr.out b hb) hll ?_
        intro V1 ia2 ic2 E1
        clear E oB hfr
        have E := hid E1
        clear E1
        (try simp only [List.cons_append, List.nil_append, List.set_cons_zero, List.set_cons_succ] at E)
        refine anyH_nil (row1 (E.out.obj 6 rfl)) ?_
        refine anyH_plain 12 (v := .pointer (some ⟨bo, 0, none⟩)) (by kernel_rfl) (by rfl) (by rfl) (by go_simp <;> (try (intro hh; omega))) (row1 (E.out.obj 6 rfl)) ?_
        refine anyH_plain 13 (v := .pointer (some ⟨bo, 3, none⟩)) (by kernel_rfl) (by rfl) (by rfl) (by go_simp <;> (try (intro hh; omega))) (row1 (E.out.obj 6 rfl)) ?_
        refine anyH_step 14 (by kernel_rfl) (by rfl) ?_
        refine wpl_store3 (by rfl) (.tmp 50) (.tmp 48) (by rfl) bo (by rfl) (by rfl) (E.out.hdr 1 rfl) ?_
        intro V HV CV
        replace E := hid (E.out.chg 1 rfl CV HV)
        clear HV CV
        (try simp only [List.cons_append, List.nil_append, List.set_cons_zero, List.set_cons_succ] at E)
        refine anyH_nil (row1 (E.out.obj 6 rfl)) ?_
        refine anyH_done (by kernel_rfl) ?_
        go_wp2_with fail
        go_roundw
        case rel => exact ⟨k + 1, _, ic2, cur ++ [z], by omega, by go_num, hstep, E.out.tl⟩
        case measure => simp [intOf]; omega
      · skip
        generalize hWb : World.drew _ = wb
        have hEb : Ext wr wb := by rw [← hWb]; exact (ext_alloc _ _).trans (ext_drawn _)
        clear hWb
        replace E := hid (E.out.up hEb)
        replace e0 := up_cell e0 hEb
        replace e1 := up_cell e1 hEb
        replace e2 := up_cell e2 hEb
        replace e3 := up_cell e3 hEb
        clear hEb q50 q51 q52 q53
        obtain ⟨q10, q11, q12, q13⟩ := (E.out.hdr 1 rfl).all
        obtain ⟨q80, q81, q82, q83⟩ := (E.out.hdr 8 rfl).all
        have c6 := row1 (E.out.obj 6 rfl)
        go_upto_region 5 with (fail)
        refine wp_region_mono_tail 11 (Sees wb [(⟨pp, 0, none⟩, .pointer (some ⟨bo, 0, none⟩)), (⟨bo, 3, none⟩, .slice ia' cur.length ic'), (⟨pf, 3, none⟩, .slice (some ⟨b2, o2, none⟩) f.items.length kf), (⟨b2, o2, none⟩, .int .i64 z.kind), (⟨b2, o2 + 1, none⟩, .slice sz z.shape.length cz), (⟨b2, o2 + 2, none⟩, .slice nz z.nums.length mz), (⟨b2, o2 + 3, none⟩, .slice iz z.items.length jz)]) [8, 10] (fun k v u u' => match k with | 8 => RetA u (fun b => wb.heap.size ≤ b) z (.returned v) u' | 10 => v = .slice (some ⟨u.heap.size, 0, none⟩) 1 1 ∧ u' = u.alloc (.cells #[.int .i64 0, .slice none 0 0, .slice none 0 0, .slice none 0 0] 26) | _ => False) (fun _ _ h e => h.up e) (Sees.start (all_cons (c6) (all_cons (q13) (all_cons (q83) (all_cons (e0) (all_cons (e1) (all_cons (e2) (all_cons (e3) (all_nil))))))))) (by kernel_rfl) (by kernel_rfl) ?_
        simp only [List.take_succ_cons, List.take_zero, List.drop_succ_cons, List.drop_zero]
        repeat (first | (refine m_plain (v := ?_) (by rfl) (by rfl) ?_ ?_; rotate_left; (intro wz hSw; obtain ⟨-, hSc⟩ := hSw; (try simp only [List.forall_mem_cons, List.forall_mem_nil, and_true] at hSc); go_simp; (first | done | with_reducible rfl)); (intro K hK; (try simp only [Act.put, List.setIfInBounds_toArray, List.set_cons_zero, List.set_cons_succ]); refine hK _ _ ?_; clear hK K)) | (refine m_skip (by rfl) (by rfl) ?_; (intro K hK; (try simp only [Act.put, List.setIfInBounds_toArray, List.set_cons_zero, List.set_cons_succ]); refine hK _ _ ?_; clear hK K)))
        refine m_make (by rfl) (by rfl) ?_ ?_
        · intro wz hSw hdep R hRz
          obtain ⟨hSe, hSc⟩ := hSw
          (try simp only [List.forall_mem_cons, List.forall_mem_nil, and_true] at hSc)
          unfold does
          (go_simp; refine Calls.mono (array_Clone z _ _ _ _ _ _ _ wz ((E.out.arr 0 rfl).up hSe)) ?_; rintro e wq ⟨ta, tc, tn, tnc, ti, tic, rfl, hq, hqb⟩; exact ⟨_, rfl, hRz.out _ _ ⟨hqb, ta, tc, tn, tnc, ti, tic, rfl, ArrAt.mono (fun b _ hb => Nat.le_trans (Below.size hSe) hb) z hq, hqb⟩⟩)
        intro v8 u8 x8 hG8 K hK
        have hF8 := hG8.fact
        (try dsimp only at hF8)
        obtain ⟨s8, c8, n8, m8, i8, j8, he, hA8, hb8⟩ := hF8
        injection he with he
        subst he
        (try simp only [Act.put, List.setIfInBounds_toArray, List.set_cons_zero, List.set_cons_succ]); refine hK _ _ ?_; clear hK K
        repeat (first | (refine m_plain (v := ?_) (by rfl) (by rfl) ?_ ?_; rotate_left; (intro wz hSw; obtain ⟨-, hSc⟩ := hSw; (try simp only [List.forall_mem_cons, List.forall_mem_nil, and_true] at hSc); go_simp; (first | done | with_reducible rfl)); (intro K hK; (try simp only [Act.put, List.setIfInBounds_toArray, List.set_cons_zero, List.set_cons_succ]); refine hK _ _ ?_; clear hK K)) | (refine m_skip (by rfl) (by rfl) ?_; (intro K hK; (try simp only [Act.put, List.setIfInBounds_toArray, List.set_cons_zero, List.set_cons_succ]); refine hK _ _ ?_; clear hK K)))
        refine m_make (by rfl) (by rfl) ?_ ?_
        · intro wz hSw hdep R hRz
          obtain ⟨hSe, hSc⟩ := hSw
          (try simp only [List.forall_mem_cons, List.forall_mem_nil, and_true] at hSc)
          unfold does
          (go_simp; exact hRz.out _ _ ⟨ext_alloc _ _, rfl, rfl⟩)
        intro v10 u10 x10 hG10 K hK
        have hF10 := hG10.fact
        (try dsimp only at hF10)
        obtain ⟨rfl, rfl⟩ := hF10
        (try simp only [Act.put, List.setIfInBounds_toArray, List.set_cons_zero, List.set_cons_succ]); refine hK _ _ ?_; clear hK K
        repeat (first | (refine m_plain (v := ?_) (by rfl) (by rfl) ?_ ?_; rotate_left; (intro wz hSw; obtain ⟨-, hSc⟩ := hSw; (try simp only [List.forall_mem_cons, List.forall_mem_nil, and_true] at hSc); go_simp; (first | done | with_reducible rfl)); (intro K hK; (try simp only [Act.put, List.setIfInBounds_toArray, List.set_cons_zero, List.set_cons_succ]); refine hK _ _ ?_; clear hK K)) | (refine m_skip (by rfl) (by rfl) ?_; (intro K hK; (try simp only [Act.put, List.setIfInBounds_toArray, List.set_cons_zero, List.set_cons_succ]); refine hK _ _ ?_; clear hK K)))
        refine m_nil ?_
        intro wf hSf hAf
        have oZ := hid (box_items (z := .zero) (T := fun b => wb.heap.size ≤ b) (sc := 0) (nc := 0) (ic := 0) (hAf 10 _ rfl) (Below.size hG10.s.1) (zero_at _ _ none none none))
        have hfr : Hid (∀ b, wb.heap.size ≤ b → Tst w0 S _ b) := hid (fun b hb => E.out.fresh (Ext.refl _) hb)
        replace E := hid (((E.out.up hSf.1).addArr (ArrAt.up hA8 (hAf 8 _ rfl)) (fun b _ hb => hfr.out b hb)).front)
        clear hSf hAf hG10 hG8 hA8 hb8 q10 q11 q12 q13 q80 q81 q82 q83 c6 e0 e1 e2 e3
        refine wplE_appA E.out 4 (by rfl) (by rfl) (.tmp 25) (.tmp 32) (by rfl) (by rfl) _ _ 1 [.zero] (by rfl) oZ.out (fun b _ hb => hfr.out b hb) hll ?_
        intro V1 ia2 ic2 E1
        clear E oZ hfr
        have E := hid E1
        clear E1
        (try simp only [List.cons_append, List.nil_append, List.set_cons_zero, List.set_cons_succ] at E)
        obtain ⟨g5, hg5⟩ := (E.out.rowA 4 rfl).at (by simp)
        subst hg5
        have ti0 : (0 : Int) ≤ (cur.length : Int) := Int.natCast_nonneg _
        have ti1 : (cur.length : Int) < ((cur ++ [Arr.zero]).length : Int) := by simp; omega
        go_upto_region 6 with (refine wpl_store3 rfl (.tmp 35) (.tmp 33) rfl bo rfl rfl (E.out.hdr 2 rfl) ?_; intro V HV CV; replace E := hid (E.out.chg 2 rfl CV HV); clear HV CV; (try simp only [List.cons_append, List.nil_append, List.set_cons_zero, List.set_cons_succ] at E))
        go_wp2_with (refine wplE_last E.out 4 (by rfl) (by rfl) (.tmp 36) (.tmp 30) (by rfl) (fun g e => by cases e; rfl) (by rfl) (E.out.arr 0 rfl) ?_; intro V2 E1; clear E; have E := hid E1; clear E1; (try simp only [List.cons_append, List.nil_append, List.set_cons_zero, List.set_cons_succ] at E))
        go_roundw
        case rel => exact ⟨k + 1, _, ic2, cur ++ [z], by omega, by go_num, hstep, by rw [show (cur ++ [z]).length = cur.length + 1 by simp]; exact E.out.tl.tl⟩
        case measure => simp [intOf]; omega
    · obtain rfl : k = n := by omega
      obtain ⟨q40, q41, q42, q43⟩ := (E.out.hdr 4 rfl).all
      go_wp2_with fail
      exact bodyPost_ret (end_none rfl) rfl (hR.out _ _ ⟨ia', ic', rfl, by rw [← hcur.out]; exact E.out⟩)
end Go.Proofs.Ythhffneibcpbdaa
