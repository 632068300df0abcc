/- A group of texts (GT), each with its own conditions: those of each lemma. -/
import Derived.Test.YtdpdcjadedcglaaGS
import Derived.Test.YtdpdcjadedcglaaGR
import Derived.Test.YtdpdcjadedcglaaOWNC
set_option linter.unusedVariables false
set_option maxRecDepth 20000
set_option linter.unusedSimpArgs false
namespace Go.Proofs.Ytdpdcjadedcglaa
open Go.RowKit Go.Sort
attribute [local go_sem ↓] run_max2 run_min2
attribute [local go_sem] eql_ints_nil eql_arrs_nil
set_option maxRecDepth 100000 in
set_option maxHeartbeats 8000000 in
theorem coll_fillN (kk : Int) (oa : Option Addr) (ol oc : Nat) (na : Option Addr) (nc : Nat) (nums : List Int) (ia : Option Addr) (ic : Nat) (items : List Arr) (y : Arr) (sy : Option Addr) (cy : Nat) (ny : Option Addr) (my : Nat) (iy : Option Addr) (jy : Nat) (f : Arr) (sf : Option Addr) (cf : Nat) (nf : Option Addr) (mf : Nat) (jf : Option Addr) (kf : Nat) (bo pn py pp pf n : Nat) (d : Int) (w0 : World) (S : Nat → Prop) (w : World) (M : List Fact)
    (E : Env w0 S w (.obj bo (.cells #[.int .i64 kk, .slice oa ol oc, .slice na (nums).length nc, .slice ia (items).length ic] 27 (0, 0)) :: .rowI na nc (nums) :: .rowA ia ic (items) :: .obj pn (.cells #[.int .i64 n] 3 (0, 0)) :: .obj py (.cells #[.int .i64 y.kind, .slice sy y.shape.length cy, .slice ny y.nums.length my, .slice iy y.items.length jy] 27 (0, 0)) :: .obj pp (.cells #[.pointer (some ⟨bo, 0, none⟩)] 53 (0, 0)) :: .arr y sy ny iy :: .obj pf (.cells #[.int .i64 f.kind, .slice sf f.shape.length cf, .slice nf f.nums.length mf, .slice jf f.items.length kf] 27 (0, 0)) :: .arr f sf nf jf :: M)) (hn : n ≤ 65536) (k3 : y.kind ≠ 3) (hf : f.nums = [d]) (hl1 : nums.length + n ≤ 1000000) :
    Calls Try.prog 60 #[.int .i64 (-1), .pointer (some ⟨pn, 0, none⟩), .pointer (some ⟨py, 0, none⟩), .pointer (some ⟨pp, 0, none⟩), .pointer (some ⟨pf, 0, none⟩)] w fun en w' => ∃ na' nc', en = .returned (.tuple #[]) ∧ Env w0 S w' (.obj bo (.cells #[.int .i64 kk, .slice oa ol oc, .slice na' (nums ++ repL [d] n).length nc', .slice ia (items).length ic] 27 (0, 0)) :: .rowI na' nc' (nums ++ repL [d] n) :: .rowA ia ic (items) :: .obj pn (.cells #[.int .i64 n] 3 (0, 0)) :: .obj py (.cells #[.int .i64 y.kind, .slice sy y.shape.length cy, .slice ny y.nums.length my, .slice iy y.items.length jy] 27 (0, 0)) :: .obj pp (.cells #[.pointer (some ⟨bo, 0, none⟩)] 53 (0, 0)) :: .arr y sy ny iy :: .obj pf (.cells #[.int .i64 f.kind, .slice sf f.shape.length cf, .slice nf f.nums.length mf, .slice jf f.items.length kf] 27 (0, 0)) :: .arr f sf nf jf :: M) := by
  refine calls_post fun R' hR => ?_
  replace E := hid E
  have kb : (y.kind == 3) = false := by simp [k3]
  have kb2 : (y.kind != 3) = true := by simp [k3]
  have hf1 : f.nums.length = 1 := by rw [hf]; rfl
  have hgd : f.nums.getD 0 0 = d := by rw [hf]; rfl
  have hx2 : (0 : Int) < (f.nums.length : Int) := by omega
  replace k3 := hid k3
  replace hf := hid hf
  have c0 := row1 (E.out.obj 3 rfl)
  go_enter Try.func60, Try.ntmps60
  go_upto_region 1 with (fail)
  clear c0
  go_loopw [6, 9] (fun u v wr => ∃ (k : Nat) (na' : Option Addr) (nc' : Nat) (cur : List Int), k ≤ n ∧ v = .int .i64 k ∧ Hid (cur = nums ++ repL [d] k) ∧ Env w0 S wr (.obj bo (.cells #[.int .i64 kk, .slice oa ol oc, .slice na' (cur).length nc', .slice ia (items).length ic] 27 (0, 0)) :: .rowI na' nc' (cur) :: .rowA ia ic (items) :: .obj pn (.cells #[.int .i64 n] 3 (0, 0)) :: .obj py (.cells #[.int .i64 y.kind, .slice sy y.shape.length cy, .slice ny y.nums.length my, .slice iy y.items.length jy] 27 (0, 0)) :: .obj pp (.cells #[.pointer (some ⟨bo, 0, none⟩)] 53 (0, 0)) :: .arr y sy ny iy :: .obj pf (.cells #[.int .i64 f.kind, .slice sf f.shape.length cf, .slice nf f.nums.length mf, .slice jf f.items.length kf] 27 (0, 0)) :: .arr f sf nf jf :: M)) (fun _ v _ => n - (intOf v).toNat)
  case atStart => exact ⟨0, na, nc, nums, Nat.zero_le _, rfl, hid (by simp [repL]), E.out⟩
  case round =>
    clear E
    obtain ⟨k, na', nc', cur, hk, rfl, hcur, E⟩ := hrel
    replace E := hid E
    by_cases hlt : k < n
    · obtain ⟨b1, o1, hna, hbl1, hS1, hc⟩ := (E.out.arr 8 rfl).nums.at (k := 0) (by omega)
      rw [hgd, Nat.add_zero] at hc
      subst hna
      have hll : cur.length + 1 ≤ 17592186044416 := by rw [hcur.out, List.length_append, repL_len]; simp; omega
      have hstep : Hid (cur ++ [d] = nums ++ repL [d] (k + 1)) := hid (by rw [hcur.out, repL, List.append_assoc])
      obtain ⟨q40, q41, q42, q43⟩ := (E.out.hdr 4 rfl).all
      go_upto_region 14 with (fail)
      clear q40 q41 q42 q43
      obtain ⟨q00, q01, q02, q03⟩ := (E.out.hdr 0 rfl).all
      obtain ⟨q70, q71, q72, q73⟩ := (E.out.hdr 7 rfl).all
      have c5 := row1 (E.out.obj 5 rfl)
      refine wp_region_load_any 8 10 (.pointer (some ⟨bo, 0, none⟩)) (fun wz => wz.cell? ⟨pp, 0, none⟩ = some (.pointer (some ⟨bo, 0, none⟩))) (Sees wr [(⟨pp, 0, none⟩, .pointer (some ⟨bo, 0, none⟩)), (⟨bo, 2, none⟩, .slice na' cur.length nc'), (⟨pf, 2, none⟩, .slice (some ⟨b1, o1, none⟩) f.nums.length mf), (⟨b1, o1, none⟩, .int .i64 d)]) [9] (fun k v u u' => match k with | 9 => v = .slice (some ⟨u.heap.size, 0, none⟩) 1 1 ∧ u' = u.alloc (.cells (([d] : List Int).map (Value.int .i64)).toArray 3) | _ => False) (fun wz hz => by obtain ⟨-, hSc⟩ := hz; simp only [List.forall_mem_cons] at hSc; exact hSc.1) (fun _ _ h e => h.up e) (Sees.start (all_cons (c5) (all_cons (q02) (all_cons (q72) (all_cons (hc) (all_nil)))))) (by kernel_rfl) (by kernel_rfl) _ (by rfl) (by rfl) (by intro wz hz; go_simp; (first | done | with_reducible rfl)) (by intro c a w h; exact h) ?_
      try simp only [Act.put, List.setIfInBounds_toArray, List.set_cons_zero, List.set_cons_succ]
      simp only [List.take_succ_cons, List.take_zero, List.drop_succ_cons, List.drop_zero]
      repeat (first | (refine m_plain (v := ?_) (by rfl) (by rfl) ?_ ?_; rotate_left; (intro wz hSw; obtain ⟨-, hSc⟩ := hSw; (try simp only [List.forall_mem_cons, List.forall_mem_nil, and_true] at hSc); go_simp; (first | done | with_reducible rfl)); (intro K hK; (try simp only [Act.put, List.setIfInBounds_toArray, List.set_cons_zero, List.set_cons_succ]); refine hK _ _ ?_; clear hK K)) | (refine m_skip (by rfl) (by rfl) ?_; (intro K hK; (try simp only [Act.put, List.setIfInBounds_toArray, List.set_cons_zero, List.set_cons_succ]); refine hK _ _ ?_; clear hK K)))
      refine m_make (by rfl) (by rfl) ?_ ?_
      · intro wz hSw hdep R hRz
        obtain ⟨hSe, hSc⟩ := hSw
        (try simp only [List.forall_mem_cons, List.forall_mem_nil, and_true] at hSc)
        unfold does
        (go_simp; exact hRz.out _ _ ⟨ext_alloc _ _, rfl, rfl⟩)
      intro v9 u9 x9 hG9 K hK
      have hF9 := hG9.fact
      (try dsimp only at hF9)
      obtain ⟨rfl, rfl⟩ := hF9
      (try simp only [Act.put, List.setIfInBounds_toArray, List.set_cons_zero, List.set_cons_succ]); refine hK _ _ ?_; clear hK K
      repeat (first | (refine m_plain (v := ?_) (by rfl) (by rfl) ?_ ?_; rotate_left; (intro wz hSw; obtain ⟨-, hSc⟩ := hSw; (try simp only [List.forall_mem_cons, List.forall_mem_nil, and_true] at hSc); go_simp; (first | done | with_reducible rfl)); (intro K hK; (try simp only [Act.put, List.setIfInBounds_toArray, List.set_cons_zero, List.set_cons_succ]); refine hK _ _ ?_; clear hK K)) | (refine m_skip (by rfl) (by rfl) ?_; (intro K hK; (try simp only [Act.put, List.setIfInBounds_toArray, List.set_cons_zero, List.set_cons_succ]); refine hK _ _ ?_; clear hK K)))
      refine m_nil ?_
      intro wf hSf hAf
      have oF := hid (lit_at (l := [d]) (hAf 9 _ rfl) (by simp))
      replace E := hid (E.out.up hSf.1)
      clear hSf hAf hG9 c5 q00 q01 q02 q03 q70 q71 q72 q73 hc
      refine anyH_step 10 (by kernel_rfl) (by rfl) ?_
      refine wplE_appI E.out 1 (by rfl) (by rfl) (.tmp 103) (.tmp 108) (by rfl) (by rfl) _ _ 1 [d] (by rfl) oF.out hll ?_
      intro V2 na2 nc2 E1
      clear E oF
      have E := hid E1
      clear E1
      (try simp only [List.cons_append, List.nil_append, List.set_cons_zero, List.set_cons_succ] at E)
      refine anyH_nil (row1 (E.out.obj 5 rfl)) ?_
      refine anyH_plain 11 (v := .pointer (some ⟨bo, 0, none⟩)) (by kernel_rfl) (by rfl) (by rfl) (by go_simp <;> (try (intro hh; omega))) (row1 (E.out.obj 5 rfl)) ?_
      refine anyH_plain 12 (v := .pointer (some ⟨bo, 2, none⟩)) (by kernel_rfl) (by rfl) (by rfl) (by go_simp <;> (try (intro hh; omega))) (row1 (E.out.obj 5 rfl)) ?_
      refine anyH_step 13 (by kernel_rfl) (by rfl) ?_
      refine wpl_store2 (by rfl) (.tmp 111) (.tmp 109) (by rfl) bo (by rfl) (by rfl) (E.out.hdr 0 rfl) ?_
      intro V HV CV
      replace E := hid (E.out.chg 0 rfl CV HV)
      clear HV CV
      (try simp only [List.cons_append, List.nil_append, List.set_cons_zero, List.set_cons_succ] at E)
      refine anyH_nil (row1 (E.out.obj 5 rfl)) ?_
      refine anyH_done (by kernel_rfl) ?_
      go_wp2_with fail
      go_roundw
      case rel => exact ⟨k + 1, na2, nc2, cur ++ [d], by omega, by go_num, hstep, E.out⟩
      case measure => simp [intOf]; omega
    · obtain rfl : k = n := by omega
      obtain ⟨q40, q41, q42, q43⟩ := (E.out.hdr 4 rfl).all
      go_wp2_with fail
      exact bodyPost_ret (end_none rfl) rfl (hR.out _ _ ⟨na', nc', rfl, by rw [← hcur.out]; exact E.out⟩)
set_option maxRecDepth 100000 in
set_option maxHeartbeats 8000000 in
theorem coll_fillA (kk : Int) (oa : Option Addr) (ol oc : Nat) (na : Option Addr) (nc : Nat) (nums : List Int) (ia : Option Addr) (ic : Nat) (items : List Arr) (y : Arr) (sy : Option Addr) (cy : Nat) (ny : Option Addr) (my : Nat) (iy : Option Addr) (jy : Nat) (f : Arr) (sf : Option Addr) (cf : Nat) (nf : Option Addr) (mf : Nat) (jf : Option Addr) (kf : Nat) (bo pn py pp pf n : Nat) (z : Arr) (w0 : World) (S : Nat → Prop) (w : World) (M : List Fact)
    (E : Env w0 S w (.obj bo (.cells #[.int .i64 kk, .slice oa ol oc, .slice na (nums).length nc, .slice ia (items).length ic] 27 (0, 0)) :: .rowI na nc (nums) :: .rowA ia ic (items) :: .obj pn (.cells #[.int .i64 n] 3 (0, 0)) :: .obj py (.cells #[.int .i64 y.kind, .slice sy y.shape.length cy, .slice ny y.nums.length my, .slice iy y.items.length jy] 27 (0, 0)) :: .obj pp (.cells #[.pointer (some ⟨bo, 0, none⟩)] 53 (0, 0)) :: .arr y sy ny iy :: .obj pf (.cells #[.int .i64 f.kind, .slice sf f.shape.length cf, .slice nf f.nums.length mf, .slice jf f.items.length kf] 27 (0, 0)) :: .arr f sf nf jf :: M)) (hn : n ≤ 65536) (k3 : y.kind = 3) (hf : f.items = [z]) (hl1 : items.length + n ≤ 1000000) :
    Calls Try.prog 60 #[.int .i64 (-1), .pointer (some ⟨pn, 0, none⟩), .pointer (some ⟨py, 0, none⟩), .pointer (some ⟨pp, 0, none⟩), .pointer (some ⟨pf, 0, none⟩)] w fun en w' => ∃ ia' ic', en = .returned (.tuple #[]) ∧ Env w0 S w' (.obj bo (.cells #[.int .i64 kk, .slice oa ol oc, .slice na (nums).length nc, .slice ia' (items ++ repL [z] n).length ic'] 27 (0, 0)) :: .rowI na nc (nums) :: .rowA ia' ic' (items ++ repL [z] n) :: .obj pn (.cells #[.int .i64 n] 3 (0, 0)) :: .obj py (.cells #[.int .i64 y.kind, .slice sy y.shape.length cy, .slice ny y.nums.length my, .slice iy y.items.length jy] 27 (0, 0)) :: .obj pp (.cells #[.pointer (some ⟨bo, 0, none⟩)] 53 (0, 0)) :: .arr y sy ny iy :: .obj pf (.cells #[.int .i64 f.kind, .slice sf f.shape.length cf, .slice nf f.nums.length mf, .slice jf f.items.length kf] 27 (0, 0)) :: .arr f sf nf jf :: M) := by
  refine calls_post fun R' hR => ?_
  replace E := hid E
  have kb : (y.kind == 3) = true := by simp [k3]
  have kb2 : (y.kind != 3) = false := by simp [k3]
  have hf1 : f.items.length = 1 := by rw [hf]; rfl
  have hgd : Hid (∀ h : 0 < f.items.length, f.items[0]'h = z) := hid (fun h => by simp [hf])
  have hx2 : (0 : Int) < (f.items.length : Int) := by omega
  have hx3 : 0 < f.items.length := by omega
  replace k3 := hid k3
  replace hf := hid hf
  have c0 := row1 (E.out.obj 3 rfl)
  go_enter Try.func60, Try.ntmps60
  go_upto_region 1 with (fail)
  clear c0
  go_loopw [6, 9] (fun u v wr => ∃ (k : Nat) (ia' : Option Addr) (ic' : Nat) (cur : List Arr), k ≤ n ∧ v = .int .i64 k ∧ Hid (cur = items ++ repL [z] k) ∧ Env w0 S wr (.obj bo (.cells #[.int .i64 kk, .slice oa ol oc, .slice na (nums).length nc, .slice ia' (cur).length ic'] 27 (0, 0)) :: .rowI na nc (nums) :: .rowA ia' ic' (cur) :: .obj pn (.cells #[.int .i64 n] 3 (0, 0)) :: .obj py (.cells #[.int .i64 y.kind, .slice sy y.shape.length cy, .slice ny y.nums.length my, .slice iy y.items.length jy] 27 (0, 0)) :: .obj pp (.cells #[.pointer (some ⟨bo, 0, none⟩)] 53 (0, 0)) :: .arr y sy ny iy :: .obj pf (.cells #[.int .i64 f.kind, .slice sf f.shape.length cf, .slice nf f.nums.length mf, .slice jf f.items.length kf] 27 (0, 0)) :: .arr f sf nf jf :: M)) (fun _ v _ => n - (intOf v).toNat)
  case atStart => exact ⟨0, ia, ic, items, Nat.zero_le _, rfl, hid (by simp [repL]), E.out⟩
  case round =>
    clear E
    obtain ⟨k, ia', ic', cur, hk, rfl, hcur, E⟩ := hrel
    replace E := hid E
    by_cases hlt : k < n
    · obtain ⟨b2, o2, sz, cz, nz, mz, iz, jz, hia, hS1, hbl1, e0, e1, e2, e3, hz⟩ := (E.out.arr 8 rfl).items.at (k := 0) hx3
      rw [hgd.out hx3] at e0 e1 e2 e3 hz
      simp only [Nat.zero_mul, Nat.add_zero] at e0 e1 e2 e3
      subst hia
      have hll : cur.length + 1 ≤ 1759218604441 := by rw [hcur.out, List.length_append, repL_len]; simp; omega
      have hstep : Hid (cur ++ [z] = items ++ repL [z] (k + 1)) := hid (by rw [hcur.out, repL, List.append_assoc])
      replace E := hid (E.out.addArr hz (fun _ _ h => h)).front
      clear hz
      obtain ⟨q50, q51, q52, q53⟩ := (E.out.hdr 5 rfl).all
      go_upto_region 4 with (fail)
      go_region
      · skip
        generalize hWb : World.drew _ = wb
        have hEb : Ext wr wb := by rw [← hWb]; exact (ext_alloc _ _).trans (ext_drawn _)
        clear hWb
        replace E := hid (E.out.up hEb)
        replace e0 := up_cell e0 hEb
        replace e1 := up_cell e1 hEb
        replace e2 := up_cell e2 hEb
        replace e3 := up_cell e3 hEb
        clear hEb q50 q51 q52 q53
        obtain ⟨q10, q11, q12, q13⟩ := (E.out.hdr 1 rfl).all
        obtain ⟨q80, q81, q82, q83⟩ := (E.out.hdr 8 rfl).all
        have c6 := row1 (E.out.obj 6 rfl)
        go_upto_region 7 with (fail)
        refine wp_region_load_any 8 11 (.pointer (some ⟨bo, 0, none⟩)) (fun wz => wz.cell? ⟨pp, 0, none⟩ = some (.pointer (some ⟨bo, 0, none⟩))) (Sees wb [(⟨pp, 0, none⟩, .pointer (some ⟨bo, 0, none⟩)), (⟨bo, 3, none⟩, .slice ia' cur.length ic'), (⟨pf, 3, none⟩, .slice (some ⟨b2, o2, none⟩) f.items.length kf), (⟨b2, o2, none⟩, .int .i64 z.kind), (⟨b2, o2 + 1, none⟩, .slice sz z.shape.length cz), (⟨b2, o2 + 2, none⟩, .slice nz z.nums.length mz), (⟨b2, o2 + 3, none⟩, .slice iz z.items.length jz)]) [9, 10] (fun k v u u' => match k with | 9 => RetA u (fun b => wb.heap.size ≤ b) z (.returned v) u' | 10 => ∃ sa sc na nc ia ic, v = .slice (some ⟨u.heap.size, 0, none⟩) 1 1 ∧ u' = u.alloc (.cells #[.int .i64 z.kind, .slice sa z.shape.length sc, .slice na z.nums.length nc, .slice ia z.items.length ic] 27) ∧ ArrAt u (fun b => wb.heap.size ≤ b) z sa na ia | _ => False) (fun wz hz => by obtain ⟨-, hSc⟩ := hz; simp only [List.forall_mem_cons] at hSc; exact hSc.1) (fun _ _ h e => h.up e) (Sees.start (all_cons (c6) (all_cons (q13) (all_cons (q83) (all_cons (e0) (all_cons (e1) (all_cons (e2) (all_cons (e3) (all_nil))))))))) (by kernel_rfl) (by kernel_rfl) _ (by rfl) (by rfl) (by intro wz hz; go_simp; (first | done | with_reducible rfl)) (by intro c a w h; exact h) ?_
        try simp only [Act.put, List.setIfInBounds_toArray, List.set_cons_zero, List.set_cons_succ]
        simp only [List.take_succ_cons, List.take_zero, List.drop_succ_cons, List.drop_zero]
        repeat (first | (refine m_plain (v := ?_) (by rfl) (by rfl) ?_ ?_; rotate_left; (intro wz hSw; obtain ⟨-, hSc⟩ := hSw; (try simp only [List.forall_mem_cons, List.forall_mem_nil, and_true] at hSc); go_simp; (first | done | with_reducible rfl)); (intro K hK; (try simp only [Act.put, List.setIfInBounds_toArray, List.set_cons_zero, List.set_cons_succ]); refine hK _ _ ?_; clear hK K)) | (refine m_skip (by rfl) (by rfl) ?_; (intro K hK; (try simp only [Act.put, List.setIfInBounds_toArray, List.set_cons_zero, List.set_cons_succ]); refine hK _ _ ?_; clear hK K)))
        refine m_make (by rfl) (by rfl) ?_ ?_
        · intro wz hSw hdep R hRz
          obtain ⟨hSe, hSc⟩ := hSw
          (try simp only [List.forall_mem_cons, List.forall_mem_nil, and_true] at hSc)
          unfold does
          (go_simp; refine Calls.mono (array_Clone z _ _ _ _ _ _ _ wz ((E.out.arr 0 rfl).up hSe)) ?_; rintro e wq ⟨ta, tc, tn, tnc, ti, tic, rfl, hq, hqb⟩; exact ⟨_, rfl, hRz.out _ _ ⟨hqb, ta, tc, tn, tnc, ti, tic, rfl, ArrAt.mono (fun b _ hb => Nat.le_trans (Below.size hSe) hb) z hq, hqb⟩⟩)
        intro v9 u9 x9 hG9 K hK
        have hF9 := hG9.fact
        (try dsimp only at hF9)
        obtain ⟨s9, c9, n9, m9, i9, j9, he, hA9, hb9⟩ := hF9
        injection he with he
        subst he
        (try simp only [Act.put, List.setIfInBounds_toArray, List.set_cons_zero, List.set_cons_succ]); refine hK _ _ ?_; clear hK K
        repeat (first | (refine m_plain (v := ?_) (by rfl) (by rfl) ?_ ?_; rotate_left; (intro wz hSw; obtain ⟨-, hSc⟩ := hSw; (try simp only [List.forall_mem_cons, List.forall_mem_nil, and_true] at hSc); go_simp; (first | done | with_reducible rfl)); (intro K hK; (try simp only [Act.put, List.setIfInBounds_toArray, List.set_cons_zero, List.set_cons_succ]); refine hK _ _ ?_; clear hK K)) | (refine m_skip (by rfl) (by rfl) ?_; (intro K hK; (try simp only [Act.put, List.setIfInBounds_toArray, List.set_cons_zero, List.set_cons_succ]); refine hK _ _ ?_; clear hK K)))
        refine m_make (by rfl) (by rfl) ?_ ?_
        · intro wz hSw hdep R hRz
          obtain ⟨hSe, hSc⟩ := hSw
          (try simp only [List.forall_mem_cons, List.forall_mem_nil, and_true] at hSc)
          unfold does
          (go_simp; exact hRz.out _ _ ⟨ext_alloc _ _, s9, c9, n9, m9, i9, j9, rfl, rfl, hA9.up (hdep 9 _ rfl (depB_sound (f := 60) (by kernel_rfl)))⟩)
        intro v10 u10 x10 hG10 K hK
        have hF10 := hG10.fact
        (try dsimp only at hF10)
        obtain ⟨s10, c10, n10, m10, i10, j10, rfl, rfl, hA10⟩ := hF10
        (try simp only [Act.put, List.setIfInBounds_toArray, List.set_cons_zero, List.set_cons_succ]); refine hK _ _ ?_; clear hK K
        repeat (first | (refine m_plain (v := ?_) (by rfl) (by rfl) ?_ ?_; rotate_left; (intro wz hSw; obtain ⟨-, hSc⟩ := hSw; (try simp only [List.forall_mem_cons, List.forall_mem_nil, and_true] at hSc); go_simp; (first | done | with_reducible rfl)); (intro K hK; (try simp only [Act.put, List.setIfInBounds_toArray, List.set_cons_zero, List.set_cons_succ]); refine hK _ _ ?_; clear hK K)) | (refine m_skip (by rfl) (by rfl) ?_; (intro K hK; (try simp only [Act.put, List.setIfInBounds_toArray, List.set_cons_zero, List.set_cons_succ]); refine hK _ _ ?_; clear hK K)))
        refine m_nil ?_
        intro wf hSf hAf
        have oB := hid (box_items (z := z) (T := fun b => wb.heap.size ≤ b) (hAf 10 _ rfl) (Below.size hG10.s.1) hA10)
        have hfr : Hid (∀ b, wb.heap.size ≤ b → Tst w0 S _ b) := hid (fun b hb => E.out.fresh (Ext.refl _) hb)
        replace E := hid (E.out.up hSf.1)
        clear hSf hAf hG10 hG9 hA9 hb9 hA10 q10 q11 q12 q13 q80 q81 q82 q83 c6 e0 e1 e2 e3
        refine anyH_step 11 (by kernel_rfl) (by rfl) ?_
        refine wplE_appA E.out 3 (by rfl) (by rfl) (.tmp 41) (.tmp 47) (by rfl) (by rfl) _ _ 1 [z] (by rfl) oB.out (fun b _ hb => hfr.out b hb) hll ?_
        intro V1 ia2 ic2 E1
        clear E oB hfr
        have E := hid E1
        clear E1
        (try simp only [List.cons_append, List.nil_append, List.set_cons_zero, List.set_cons_succ] at E)
        refine anyH_nil (row1 (E.out.obj 6 rfl)) ?_
        refine anyH_plain 12 (v := .pointer (some ⟨bo, 0, none⟩)) (by kernel_rfl) (by rfl) (by rfl) (by go_simp <;> (try (intro hh; omega))) (row1 (E.out.obj 6 rfl)) ?_
        refine anyH_plain 13 (v := .pointer (some ⟨bo, 3, none⟩)) (by kernel_rfl) (by rfl) (by rfl) (by go_simp <;> (try (intro hh; omega))) (row1 (E.out.obj 6 rfl)) ?_
        refine anyH_step 14 (by kernel_rfl) (by rfl) ?_
        refine wpl_store3 (by rfl) (.tmp 50) (.tmp 48) (by rfl) bo (by rfl) (by rfl) (E.out.hdr 1 rfl) ?_
        intro V HV CV
        replace E := hid (E.out.chg 1 rfl CV HV)
        clear HV CV
        (try simp only [List.cons_append, List.nil_append, List.set_cons_zero, List.set_cons_succ] at E)
        refine anyH_nil (row1 (E.out.obj 6 rfl)) ?_
        refine anyH_done (by kernel_rfl) ?_
        go_wp2_with fail
        go_roundw
        case rel => exact ⟨k + 1, _, ic2, cur ++ [z], by omega, by go_num, hstep, E.out.tl⟩
        case measure => simp [intOf]; omega
      · skip
        generalize hWb : World.drew _ = wb
        have hEb : Ext wr wb := by rw [← hWb]; exact (ext_alloc _ _).trans (ext_drawn _)
        clear hWb
        replace E := hid (E.out.up hEb)
        replace e0 := up_cell e0 hEb
        replace e1 := up_cell e1 hEb
        replace e2 := up_cell e2 hEb
        replace e3 := up_cell e3 hEb
        clear hEb q50 q51 q52 q53
        obtain ⟨q10, q11, q12, q13⟩ := (E.out.hdr 1 rfl).all
        obtain ⟨q80, q81, q82, q83⟩ := (E.out.hdr 8 rfl).all
        have c6 := row1 (E.out.obj 6 rfl)
        go_upto_region 5 with (fail)
        refine wp_region_mono_tail 11 (Sees wb [(⟨pp, 0, none⟩, .pointer (some ⟨bo, 0, none⟩)), (⟨bo, 3, none⟩, .slice ia' cur.length ic'), (⟨pf, 3, none⟩, .slice (some ⟨b2, o2, none⟩) f.items.length kf), (⟨b2, o2, none⟩, .int .i64 z.kind), (⟨b2, o2 + 1, none⟩, .slice sz z.shape.length cz), (⟨b2, o2 + 2, none⟩, .slice nz z.nums.length mz), (⟨b2, o2 + 3, none⟩, .slice iz z.items.length jz)]) [8, 10] (fun k v u u' => match k with | 8 => RetA u (fun b => wb.heap.size ≤ b) z (.returned v) u' | 10 => v = .slice (some ⟨u.heap.size, 0, none⟩) 1 1 ∧ u' = u.alloc (.cells #[.int .i64 0, .slice none 0 0, .slice none 0 0, .slice none 0 0] 27) | _ => False) (fun _ _ h e => h.up e) (Sees.start (all_cons (c6) (all_cons (q13) (all_cons (q83) (all_cons (e0) (all_cons (e1) (all_cons (e2) (all_cons (e3) (all_nil))))))))) (by kernel_rfl) (by kernel_rfl) ?_
        simp only [List.take_succ_cons, List.take_zero, List.drop_succ_cons, List.drop_zero]
        repeat (first | (refine m_plain (v := ?_) (by rfl) (by rfl) ?_ ?_; rotate_left; (intro wz hSw; obtain ⟨-, hSc⟩ := hSw; (try simp only [List.forall_mem_cons, List.forall_mem_nil, and_true] at hSc); go_simp; (first | done | with_reducible rfl)); (intro K hK; (try simp only [Act.put, List.setIfInBounds_toArray, List.set_cons_zero, List.set_cons_succ]); refine hK _ _ ?_; clear hK K)) | (refine m_skip (by rfl) (by rfl) ?_; (intro K hK; (try simp only [Act.put, List.setIfInBounds_toArray, List.set_cons_zero, List.set_cons_succ]); refine hK _ _ ?_; clear hK K)))
        refine m_make (by rfl) (by rfl) ?_ ?_
        · intro wz hSw hdep R hRz
          obtain ⟨hSe, hSc⟩ := hSw
          (try simp only [List.forall_mem_cons, List.forall_mem_nil, and_true] at hSc)
          unfold does
          (go_simp; refine Calls.mono (array_Clone z _ _ _ _ _ _ _ wz ((E.out.arr 0 rfl).up hSe)) ?_; rintro e wq ⟨ta, tc, tn, tnc, ti, tic, rfl, hq, hqb⟩; exact ⟨_, rfl, hRz.out _ _ ⟨hqb, ta, tc, tn, tnc, ti, tic, rfl, ArrAt.mono (fun b _ hb => Nat.le_trans (Below.size hSe) hb) z hq, hqb⟩⟩)
        intro v8 u8 x8 hG8 K hK
        have hF8 := hG8.fact
        (try dsimp only at hF8)
        obtain ⟨s8, c8, n8, m8, i8, j8, he, hA8, hb8⟩ := hF8
        injection he with he
        subst he
        (try simp only [Act.put, List.setIfInBounds_toArray, List.set_cons_zero, List.set_cons_succ]); refine hK _ _ ?_; clear hK K
        repeat (first | (refine m_plain (v := ?_) (by rfl) (by rfl) ?_ ?_; rotate_left; (intro wz hSw; obtain ⟨-, hSc⟩ := hSw; (try simp only [List.forall_mem_cons, List.forall_mem_nil, and_true] at hSc); go_simp; (first | done | with_reducible rfl)); (intro K hK; (try simp only [Act.put, List.setIfInBounds_toArray, List.set_cons_zero, List.set_cons_succ]); refine hK _ _ ?_; clear hK K)) | (refine m_skip (by rfl) (by rfl) ?_; (intro K hK; (try simp only [Act.put, List.setIfInBounds_toArray, List.set_cons_zero, List.set_cons_succ]); refine hK _ _ ?_; clear hK K)))
        refine m_make (by rfl) (by rfl) ?_ ?_
        · intro wz hSw hdep R hRz
          obtain ⟨hSe, hSc⟩ := hSw
          (try simp only [List.forall_mem_cons, List.forall_mem_nil, and_true] at hSc)
          unfold does
          (go_simp; exact hRz.out _ _ ⟨ext_alloc _ _, rfl, rfl⟩)
        intro v10 u10 x10 hG10 K hK
        have hF10 := hG10.fact
        (try dsimp only at hF10)
        obtain ⟨rfl, rfl⟩ := hF10
        (try simp only [Act.put, List.setIfInBounds_toArray, List.set_cons_zero, List.set_cons_succ]); refine hK _ _ ?_; clear hK K
        repeat (first | (refine m_plain (v := ?_) (by rfl) (by rfl) ?_ ?_; rotate_left; (intro wz hSw; obtain ⟨-, hSc⟩ := hSw; (try simp only [List.forall_mem_cons, List.forall_mem_nil, and_true] at hSc); go_simp; (first | done | with_reducible rfl)); (intro K hK; (try simp only [Act.put, List.setIfInBounds_toArray, List.set_cons_zero, List.set_cons_succ]); refine hK _ _ ?_; clear hK K)) | (refine m_skip (by rfl) (by rfl) ?_; (intro K hK; (try simp only [Act.put, List.setIfInBounds_toArray, List.set_cons_zero, List.set_cons_succ]); refine hK _ _ ?_; clear hK K)))
        refine m_nil ?_
        intro wf hSf hAf
        have oZ := hid (box_items (z := .zero) (T := fun b => wb.heap.size ≤ b) (sc := 0) (nc := 0) (ic := 0) (hAf 10 _ rfl) (Below.size hG10.s.1) (zero_at _ _ none none none))
        have hfr : Hid (∀ b, wb.heap.size ≤ b → Tst w0 S _ b) := hid (fun b hb => E.out.fresh (Ext.refl _) hb)
        replace E := hid (((E.out.up hSf.1).addArr (ArrAt.up hA8 (hAf 8 _ rfl)) (fun b _ hb => hfr.out b hb)).front)
        clear hSf hAf hG10 hG8 hA8 hb8 q10 q11 q12 q13 q80 q81 q82 q83 c6 e0 e1 e2 e3
        refine wplE_appA E.out 4 (by rfl) (by rfl) (.tmp 25) (.tmp 32) (by rfl) (by rfl) _ _ 1 [.zero] (by rfl) oZ.out (fun b _ hb => hfr.out b hb) hll ?_
        intro V1 ia2 ic2 E1
        clear E oZ hfr
        have E := hid E1
        clear E1
        (try simp only [List.cons_append, List.nil_append, List.set_cons_zero, List.set_cons_succ] at E)
        obtain ⟨g5, hg5⟩ := (E.out.rowA 4 rfl).at (by simp)
        subst hg5
        have ti0 : (0 : Int) ≤ (cur.length : Int) := Int.natCast_nonneg _
        have ti1 : (cur.length : Int) < ((cur ++ [Arr.zero]).length : Int) := by simp; omega
        go_upto_region 6 with (refine wpl_store3 rfl (.tmp 35) (.tmp 33) rfl bo rfl rfl (E.out.hdr 2 rfl) ?_; intro V HV CV; replace E := hid (E.out.chg 2 rfl CV HV); clear HV CV; (try simp only [List.cons_append, List.nil_append, List.set_cons_zero, List.set_cons_succ] at E))
        go_wp2_with (refine wplE_last E.out 4 (by rfl) (by rfl) (.tmp 36) (.tmp 30) (by rfl) (fun g e => by cases e; rfl) (by rfl) (E.out.arr 0 rfl) ?_; intro V2 E1; clear E; have E := hid E1; clear E1; (try simp only [List.cons_append, List.nil_append, List.set_cons_zero, List.set_cons_succ] at E))
        go_roundw
        case rel => exact ⟨k + 1, _, ic2, cur ++ [z], by omega, by go_num, hstep, by rw [show (cur ++ [z]).length = cur.length + 1 by simp]; exact E.out.tl.tl⟩
        case measure => simp [intOf]; omega
    · obtain rfl : k = n := by omega
      obtain ⟨q40, q41, q42, q43⟩ := (E.out.hdr 4 rfl).all
      go_wp2_with fail
      exact bodyPost_ret (end_none rfl) rfl (hR.out _ _ ⟨ia', ic', rfl, by rw [← hcur.out]; exact E.out⟩)
end Go.Proofs.Ytdpdcjadedcglaa
namespace Go.Proofs.Ytdpdcjadedcglaa
open Go.RowKit Go.Sort
attribute [local go_sem ↓] run_max2 run_min2
attribute [local go_sem] eql_ints_nil eql_arrs_nil
theorem fill_parts {y : Arr} (hk : y.kind = 1 ∨ y.kind = 2 ∨ y.kind = 3) : (y.kind ≠ 3 → (∃ d, (fillS y).nums = [d]) ∧ (fillS y).items = []) ∧ (y.kind = 3 → (∃ z, (fillS y).items = [z]) ∧ (fillS y).nums = []) := by
  refine ⟨fun k => ?_, fun k => ?_⟩
  · rcases hk with h | h | h
    · unfold fillS; rw [if_pos h]; exact ⟨⟨_, rfl⟩, rfl⟩
    · unfold fillS; rw [if_neg (by omega), if_pos h]; exact ⟨⟨_, rfl⟩, rfl⟩
    · exact absurd h k
  · unfold fillS; rw [if_neg (by omega), if_neg (by omega), if_pos k]; exact ⟨⟨_, rfl⟩, rfl⟩
theorem coll_fill (kk : Int) (oa : Option Addr) (ol oc : Nat) (na : Option Addr) (nc : Nat) (nums : List Int) (ia : Option Addr) (ic : Nat) (items : List Arr) (y : Arr) (sy : Option Addr) (cy : Nat) (ny : Option Addr) (my : Nat) (iy : Option Addr) (jy : Nat) (sf : Option Addr) (cf : Nat) (nf : Option Addr) (mf : Nat) (jf : Option Addr) (kf : Nat) (bo pn py pp pf n : Nat) (w0 : World) (S : Nat → Prop) (w : World) (M : List Fact)
    (E : Env w0 S w (.obj bo (.cells #[.int .i64 kk, .slice oa ol oc, .slice na (nums).length nc, .slice ia (items).length ic] 27 (0, 0)) :: .rowI na nc (nums) :: .rowA ia ic (items) :: .obj pn (.cells #[.int .i64 n] 3 (0, 0)) :: .obj py (.cells #[.int .i64 y.kind, .slice sy y.shape.length cy, .slice ny y.nums.length my, .slice iy y.items.length jy] 27 (0, 0)) :: .obj pp (.cells #[.pointer (some ⟨bo, 0, none⟩)] 53 (0, 0)) :: .arr y sy ny iy :: .obj pf (.cells #[.int .i64 (fillS y).kind, .slice sf (fillS y).shape.length cf, .slice nf (fillS y).nums.length mf, .slice jf (fillS y).items.length kf] 27 (0, 0)) :: .arr (fillS y) sf nf jf :: M)) (hk : y.kind = 1 ∨ y.kind = 2 ∨ y.kind = 3) (hn : n ≤ 65536) (hl1 : nums.length ≤ 65536) (hl2 : items.length ≤ 65536) :
    Calls Try.prog 60 #[.int .i64 (-1), .pointer (some ⟨pn, 0, none⟩), .pointer (some ⟨py, 0, none⟩), .pointer (some ⟨pp, 0, none⟩), .pointer (some ⟨pf, 0, none⟩)] w fun en w' => ∃ na' nc' ia' ic', en = .returned (.tuple #[]) ∧ Env w0 S w' (.obj bo (.cells #[.int .i64 kk, .slice oa ol oc, .slice na' (nums ++ repL (fillS y).nums n).length nc', .slice ia' (items ++ repL (fillS y).items n).length ic'] 27 (0, 0)) :: .rowI na' nc' (nums ++ repL (fillS y).nums n) :: .rowA ia' ic' (items ++ repL (fillS y).items n) :: .obj pn (.cells #[.int .i64 n] 3 (0, 0)) :: .obj py (.cells #[.int .i64 y.kind, .slice sy y.shape.length cy, .slice ny y.nums.length my, .slice iy y.items.length jy] 27 (0, 0)) :: .obj pp (.cells #[.pointer (some ⟨bo, 0, none⟩)] 53 (0, 0)) :: .arr y sy ny iy :: .obj pf (.cells #[.int .i64 (fillS y).kind, .slice sf (fillS y).shape.length cf, .slice nf (fillS y).nums.length mf, .slice jf (fillS y).items.length kf] 27 (0, 0)) :: .arr (fillS y) sf nf jf :: M) := by
  obtain ⟨p1, p2⟩ := fill_parts hk
  by_cases k3 : y.kind = 3
  · obtain ⟨⟨z, hz⟩, h0⟩ := p2 k3
    refine (coll_fillA kk oa ol oc na nc nums ia ic items y _ _ _ _ _ _ (fillS y) _ _ _ _ _ _ bo pn py pp pf n z w0 S w M E hn k3 hz (by omega)).mono ?_
    rintro en w' ⟨ia', ic', rfl, E'⟩
    exact ⟨na, nc, ia', ic', rfl, by rw [h0, repL_nil, List.append_nil, hz]; rw [h0, hz] at E'; exact E'⟩
  · obtain ⟨⟨d, hd⟩, h0⟩ := p1 k3
    refine (coll_fillN kk oa ol oc na nc nums ia ic items y _ _ _ _ _ _ (fillS y) _ _ _ _ _ _ bo pn py pp pf n d w0 S w M E hn k3 hd (by omega)).mono ?_
    rintro en w' ⟨na', nc', rfl, E'⟩
    exact ⟨na', nc', ia, ic, rfl, by rw [h0, repL_nil, List.append_nil, hd]; rw [h0, hd] at E'; exact E'⟩
set_option maxHeartbeats 4000000 in
theorem copying_weight_neg (y : Arr) (sy : Option Addr) (cy : Nat) (ny : Option Addr) (my : Nat) (iy : Option Addr) (jy : Nat) (S : Nat → Prop) (w : World) (h : ArrAt w S y sy ny iy) (hs : shapeB y.shape = true) (hc : y.shape.length ≤ cy) :
    Calls Try.prog 28 #[.agg #[.int .i64 y.kind, .slice sy y.shape.length cy, .slice ny y.nums.length my, .slice iy y.items.length jy], .int .i64 (-1)] w fun e w' => e = .returned (.int .i64 (celN y : Nat)) ∧ Below w.heap.size w w' := by
  refine calls_post fun R' hR => ?_
  have h0 := hid h
  clear h
  go_enter Try.func28, Try.ntmps28
  go_upto_region 1 with (fail)
  generalize hEW : (w).alloc (.cells #[.int .i64 y.kind, .slice sy y.shape.length cy, .slice ny y.nums.length my, .slice iy y.items.length jy] 27) = W
  have E := hid (env1 w S hEW)
  clear hEW
  replace E := hid (E.out.arg h0.out)
  (try simp only [List.cons_append, List.nil_append, List.set_cons_zero, List.set_cons_succ] at E)
  obtain ⟨q00, q01, q02, q03⟩ := (E.out.hdr 0 rfl).all
  go_wp2_with fail
  clear q00 q01 q02 q03
  refine (copying_split y _ _ _ _ _ _ _ _ (E.out.arr 1 rfl) hs hc).mono ?_
  rintro e w2 ⟨so, sc, rfl, hI, hb⟩
  replace E := hid (E.out.up hb)
  clear hI hb
  obtain ⟨q00, q01, q02, q03⟩ := (E.out.hdr 0 rfl).all
  by_cases k3 : y.kind = 3
  case neg =>
    have kb : (y.kind != 3) = true := by simpa using k3
    replace k3 := hid k3
    go_wp2_with fail
    exact hR.out _ _ ⟨rfl, E.out.ext⟩
  have kb : (y.kind != 3) = false := by simpa using k3
  replace k3 := hid k3
  go_wp2_with fail
  exact hR.out _ _ ⟨rfl, E.out.ext⟩
theorem onesM_le {l : List Int} (b : l.all bitB = true) {k : Nat} (hk : k ≤ l.length) : onesM l k ≤ k := by
  have h1 := bits_sum b hk
  have h2 := ones_cast b hk
  omega
end Go.Proofs.Ytdpdcjadedcglaa
namespace Go.Proofs.Ytdpdcjadedcglaa
open Go.RowKit Go.Sort
attribute [local go_sem ↓] run_max2 run_min2
attribute [local go_sem] eql_ints_nil eql_arrs_nil
theorem any_not {l : List Int} : l.any (fun n => !bitB n) = !(l.all bitB) := by
  induction l with
  | nil => rfl
  | cons a l ih => simp only [List.any_cons, List.all_cons, ih, Bool.not_and]
def grL {α : Type} (a : List α) (i c k : Nat) : List α := (a.drop (i * c)).take (k * c)
theorem grL_0 {α : Type} (a : List α) (i c : Nat) : grL a i c 0 = [] := by simp [grL]
theorem grL_succ {α : Type} (a : List α) (i c k : Nat) : grL a i c (k + 1) = grL a i c k ++ blkL a (i + k) c := grp_step a i k c
theorem grL_le {α : Type} (a : List α) (i c k : Nat) : (grL a i c k).length ≤ a.length := grp_len a i k c
theorem grpA_eq (y : Arr) (i k : Nat) : grpA y (i, k) = .mk y.kind ((k : Int) :: celL y) (grL y.nums i (celN y) k) (grL y.items i (celN y) k) := rfl
set_option maxRecDepth 100000 in
set_option maxHeartbeats 8000000 in
theorem copying_Cut (x : Arr) (sx : Option Addr) (cx : Nat) (nx : Option Addr) (mx : Nat) (ix : Option Addr) (jx : Nat) (y : Arr) (sy : Option Addr) (cy : Nat) (ny : Option Addr) (my : Nat) (iy : Option Addr) (jy : Nat) (S : Nat → Prop) (w : World) (h : ArrAt w S x sx nx ix) (g : ArrAt w S y sy ny iy) (hcx : x.shape.length ≤ cx ∧ x.nums.length ≤ mx ∧ x.items.length ≤ jx) (hcy : y.shape.length ≤ cy ∧ y.nums.length ≤ my ∧ y.items.length ≤ jy) :
    Calls Try.prog 18 #[.agg #[.int .i64 x.kind, .slice sx x.shape.length cx, .slice nx x.nums.length mx, .slice ix x.items.length jx], .agg #[.int .i64 y.kind, .slice sy y.shape.length cy, .slice ny y.nums.length my, .slice iy y.items.length jy]] w (RetAEC w (fun b => S b ∨ w.heap.size ≤ b) (cutS x y) (cutE x y)) := by
  refine calls_post fun R' hR => ?_
  have h0 := hid h
  have g0 := hid g
  replace hcx := hid hcx
  replace hcy := hid hcy
  clear h g
  go_enter Try.func18, Try.ntmps18
  go_upto_region 1 with (fail)
  generalize hEW : (((w).alloc (.cells #[.int .i64 x.kind, .slice sx x.shape.length cx, .slice nx x.nums.length mx, .slice ix x.items.length jx] 27)).alloc (.cells #[.int .i64 y.kind, .slice sy y.shape.length cy, .slice ny y.nums.length my, .slice iy y.items.length jy] 27)).alloc (.cells #[.int .i64 0, .slice none 0 0, .slice none 0 0, .slice none 0 0] 27) = W
  have E := hid (env3 w S hEW)
  clear hEW
  replace E := hid ((E.out.arg h0.out).arg g0.out)
  (try simp only [List.cons_append, List.nil_append, List.set_cons_zero, List.set_cons_succ] at E)
  obtain ⟨q00, q01, q02, q03⟩ := (E.out.hdr 0 rfl).all
  obtain ⟨q10, q11, q12, q13⟩ := (E.out.hdr 1 rfl).all
  go_wp2_with fail
  clear q00 q01 q02 q03 q10 q11 q12 q13
  refine (copying_check x _ _ _ _ _ _ y _ _ _ _ _ _ _ _ (E.out.arr 3 rfl) (E.out.arr 4 rfl)).mono ?_
  rintro e w1 ⟨rfl, hb⟩
  replace E := hid (E.out.up hb)
  clear hb
  by_cases c : chkE26 x y = 0
  case neg =>
    have cb : (chkE26 x y != 0) = true := by simpa using c
    have hn := hid (cutE_c c)
    have hv := hid (cutS_no (x := x) (y := y) (by rw [hn.out]; exact c))
    replace c := hid c
    go_wp2_with (refine wpl_store4 rfl (.tmp 4) (.tmp 20) rfl _ rfl rfl (E.out.hdr 2 rfl) ?_; intro V HV CV; replace E := hid (E.out.chg 2 rfl CV HV))
    exact bodyPost_ret (end_arr2 rfl HV rfl rfl) rfl (hR.out _ _ (RetAEC.zero hv.out hn.out E.out.ext))
  have cb : (chkE26 x y != 0) = false := by simpa using c
  have K := chk26_ok c
  have hs := (right_ok K.ry).2.1
  have ht := tal_nn hs
  have ht6 := tal_le hs
  have hx6 := (right_l3 K.rx)
  replace K := hid K
  replace c := hid c
  obtain ⟨q10, q11, q12, q13⟩ := (E.out.hdr 1 rfl).all
  go_wp2_with fail
  clear q10 q11 q12 q13
  refine (copying_split y _ _ _ _ _ _ _ _ (E.out.arr 4 rfl) hs hcy.out.1).mono ?_
  rintro e w2 ⟨so, sc, rfl, hI, hb⟩
  replace E := hid ((E.out.up hb).addInts hI (fun _ _ h => h))
  clear hI hb
  (try simp only [List.cons_append, List.nil_append, List.set_cons_zero, List.set_cons_succ] at E)
  rw [← ht]
  replace ht := hid ht
  obtain ⟨t, htt⟩ : ∃ t, t = talM y := ⟨_, rfl⟩
  rw [← htt] at ht6 ⊢
  replace htt := hid htt
  by_cases o : x.nums.length = t
  case neg =>
    have ob : ((x.nums.length : Int) != (t : Int)) = true := by simp; omega
    have hn := hid (cutE_l c.out (by rw [← htt.out]; exact o))
    have hv := hid (cutS_no (x := x) (y := y) (by rw [hn.out]; decide))
    replace o := hid o
    obtain ⟨q00, q01, q02, q03⟩ := (E.out.hdr 0 rfl).all
    go_wp2_with (refine wpl_store4 rfl (.tmp 4) (.tmp 34) rfl _ rfl rfl (E.out.hdr 2 rfl) ?_; intro V HV CV; replace E := hid (E.out.chg 2 rfl CV HV))
    exact bodyPost_ret (end_arr2 rfl HV rfl rfl) rfl (hR.out _ _ (RetAEC.zero hv.out hn.out E.out.ext))
  have ob : ((x.nums.length : Int) != (t : Int)) = false := by simp; omega
  have o' := hid (show x.nums.length = talM y by rw [← htt.out]; exact o)
  replace o := hid o
  obtain ⟨q00, q01, q02, q03⟩ := (E.out.hdr 0 rfl).all
  go_wp2_with fail
  clear q00 q01 q02 q03
  refine (slices_ContainsFunc_copying_unbinary (fun n => !bitB n) x.nums _ _ _ _ (E.out.arr 3 rfl).nums (fun n => copying_unbinary n _)).mono ?_
  rintro e w3 ⟨rfl, rfl⟩
  rw [any_not]
  by_cases d : x.nums.all bitB = false
  case pos =>
    rw [d]
    have hn := hid (cutE_b c.out o'.out d)
    have hv := hid (cutS_no (x := x) (y := y) (by rw [hn.out]; decide))
    replace d := hid d
    go_wp2_with (refine wpl_store4 rfl (.tmp 4) (.tmp 39) rfl _ rfl rfl (E.out.hdr 2 rfl) ?_; intro V HV CV; replace E := hid (E.out.chg 2 rfl CV HV))
    exact bodyPost_ret (end_arr2 rfl HV rfl rfl) rfl (hR.out _ _ (RetAEC.zero hv.out hn.out E.out.ext))
  have hbits : x.nums.all bitB = true := by simpa using d
  rw [hbits]
  have S1 := hid (fun q => cutE_r c.out o'.out hbits q)
  have S0 := hid (fun q => cutE_0 c.out o'.out hbits q)
  replace hbits := hid hbits
  replace d := hid d
  go_upto_region 10 with (refine wpl_store4 rfl (.tmp 10) (.tmp 40) rfl _ rfl rfl ((E.out.alloc _).hdr 6 rfl) ?_; intro V3 HV CV; replace E := hid ((E.out.alloc _).chg 6 rfl CV HV); clear CV HV; (try simp only [List.cons_append, List.nil_append, List.set_cons_zero, List.set_cons_succ] at E))
  generalize w2.heap.size = bo at E ⊢
  replace E := hid E.out.row0A
  (try simp only [List.cons_append, List.nil_append, List.set_cons_zero, List.set_cons_succ] at E)
  replace E := hid (E.out.pick 7 rfl)
  simp only [List.eraseIdx_cons_succ, List.eraseIdx_cons_zero] at E
  replace E := hid (E.out.pick 7 rfl)
  simp only [List.eraseIdx_cons_succ, List.eraseIdx_cons_zero] at E
  go_upto_region 11 with (fail)
  go_loopw [11, 12, 13, 14] (fun v u1 u2 u3 wr => ∃ (i : Nat) (ia : Option Addr) (ic : Nat), i ≤ t ∧ v = .int .i64 i ∧ Hid (cuts x.nums i = [] ∨ i = t ∨ numF x.nums i ≠ 0) ∧ Env w S wr [.obj bo (.cells #[.int .i64 3, .slice none 0 0, .slice none 0 0, .slice ia ((cuts x.nums i).map (grpA y)).length ic] 27 (0, 0)), .rowA ia ic ((cuts x.nums i).map (grpA y)), .obj w.heap.size (.cells #[.int .i64 x.kind, .slice sx x.shape.length cx, .slice nx x.nums.length mx, .slice ix x.items.length jx] 27 (0, 0)), .obj (w.heap.size + 1) (.cells #[.int .i64 y.kind, .slice sy y.shape.length cy, .slice ny y.nums.length my, .slice iy y.items.length jy] 27 (0, 0)), .obj (w.heap.size + 1 + 1) (.cells #[.int .i64 0, .slice none 0 0, .slice none 0 0, .slice none 0 0] 27 (0, 0)), .arr x sx nx ix, .arr y sy ny iy, .ints (celL y) so]) (fun v _ _ _ _ => t - (intOf v).toNat)
  case atStart => exact ⟨0, none, 0, Nat.zero_le _, rfl, hid (Or.inl rfl), E.out⟩
  case round =>
    clear E
    obtain ⟨i, ia, ic, hi, rfl, hst, E⟩ := hrel
    replace E := hid E
    by_cases hlt : i < t
    · have hltx : i < x.nums.length := by rw [o.out]; exact hlt
      obtain ⟨b1, o1, hnx, hbl, hS1, hc1⟩ := (E.out.arr 5 rfl).nums.at hltx
      have t0 : (0 : Int) ≤ (i : Int) := by omega
      have t1 : (i : Int) < (x.nums.length : Int) := by omega
      by_cases d0 : numF x.nums i = 0
      case pos =>
        have hcd : x.nums.getD i 0 = 0 := d0
        rw [hcd] at hc1
        have hnil : Hid (cuts x.nums (i + 1) = [] ∧ cuts x.nums i = []) := hid (by
          have : cuts x.nums i = [] := by rcases hst.out with q | q | q; exact q; omega; exact absurd d0 q
          exact ⟨cuts_zero d0 this, this⟩)
        replace d0 := hid d0
        replace hcd := hid hcd
        subst hnx
        obtain ⟨q20, q21, q22, q23⟩ := (E.out.hdr 2 rfl).all
        go_wp2_with fail
        clear q20 q21 q22 q23
        go_roundw
        case rel => exact ⟨i + 1, ia, ic, by omega, by go_num, hid (Or.inl hnil.out.1), by rw [hnil.out.1]; have q := E.out; rw [hnil.out.2] at q; exact q⟩
        case measure => simp [intOf]; omega
      case neg =>
        have hcd : x.nums.getD i 0 ≠ 0 := d0
        have d0' := hid d0
        generalize x.nums.getD i 0 = d at hc1 hcd
        have db : (d == 0) = false := by simpa using hcd
        replace hcd := hid hcd
        replace d0 := hid d0
        obtain ⟨G, hG⟩ : ∃ G, G = (cuts x.nums i).map (grpA y) := ⟨_, rfl⟩
        rw [← hG] at E
        replace hG := hid hG
        subst hnx
        obtain ⟨q20, q21, q22, q23⟩ := (E.out.hdr 2 rfl).all
        go_upto_region 15 with (fail)
        clear q20 q21 q22 q23
        clear hc1 t0 t1
        go_loopw [12] (fun v wr2 => ∃ m : Nat, i + m + 1 ≤ t ∧ v = .int .i64 ((i + m + 1 : Nat) : Int) ∧ Hid (∀ j, i < j → j < i + m + 1 → numF x.nums j = 0) ∧ Env w S wr2 [.obj bo (.cells #[.int .i64 3, .slice none 0 0, .slice none 0 0, .slice ia (G).length ic] 27 (0, 0)), .rowA ia ic (G), .obj w.heap.size (.cells #[.int .i64 x.kind, .slice sx x.shape.length cx, .slice (some ⟨b1, o1, none⟩) x.nums.length mx, .slice ix x.items.length jx] 27 (0, 0)), .obj (w.heap.size + 1) (.cells #[.int .i64 y.kind, .slice sy y.shape.length cy, .slice ny y.nums.length my, .slice iy y.items.length jy] 27 (0, 0)), .obj (w.heap.size + 1 + 1) (.cells #[.int .i64 0, .slice none 0 0, .slice none 0 0, .slice none 0 0] 27 (0, 0)), .arr x sx (some ⟨b1, o1, none⟩) ix, .arr y sy ny iy, .ints (celL y) so]) (fun v _ => t - (intOf v).toNat)
        case atStart => exact ⟨0, by omega, by rfl, hid (fun j h1 h2 => by omega), E.out⟩
        case round =>
          clear E
          obtain ⟨m, hm, rfl, hz, E⟩ := hrel
          replace E := hid E
          obtain ⟨e, he⟩ : ∃ e, e = i + m + 1 := ⟨_, rfl⟩
          rw [← he] at hm hz ⊢
          by_cases hcont : e < t ∧ numF x.nums e = 0
          case pos =>
            obtain ⟨h1, h2⟩ := hcont
            have hex : e < x.nums.length := by rw [o.out]; exact h1
            obtain ⟨b2, o2, hnx, hbl, hS1, hc1⟩ := (E.out.arr 5 rfl).nums.at hex
            injection hnx with hnx
            injection hnx with q1 q2
            subst q1
            subst q2
            have hcd : x.nums.getD e 0 = 0 := h2
            rw [hcd] at hc1
            have t0 : (0 : Int) ≤ (e : Int) := by omega
            have t1 : (e : Int) < (x.nums.length : Int) := by omega
            have t2 : (e : Int) < (t : Int) := by omega
            have hz2 : Hid (∀ j, i < j → j < e + 1 → numF x.nums j = 0) := hid (fun j g1 g2 => by
              rcases Nat.lt_succ_iff_lt_or_eq.1 g2 with g3 | g3
              · exact hz.out j g1 g3
              · rw [g3]; exact h2)
            replace h2 := hid h2
            replace hcd := hid hcd
            replace he := hid he
            obtain ⟨q20, q21, q22, q23⟩ := (E.out.hdr 2 rfl).all
            go_wp2_with fail
            clear q20 q21 q22 q23
            go_roundw
            case rel => exact ⟨m + 1, by have := he.out; omega, by rw [show i + (m + 1) + 1 = e + 1 by have := he.out; omega]; go_num, by rw [show i + (m + 1) + 1 = e + 1 by have := he.out; omega]; exact hz2, E.out⟩
            case measure => simp [intOf]; omega
          case neg =>
            have hgrow : Hid (cuts x.nums e = cuts x.nums i ++ [(i, m + 1)]) := hid (by rw [he]; exact cuts_grow d0'.out (by rw [← he]; exact hz.out))
            have hnst : Hid (cuts x.nums e = [] ∨ e = t ∨ numF x.nums e ≠ 0) := hid (by
              rcases Nat.lt_or_ge e t with q | q
              · exact Or.inr (Or.inr fun q2 => hcont ⟨q, q2⟩)
              · exact Or.inr (Or.inl (by omega)))
            obtain ⟨M, hM⟩ : ∃ M, M = m + 1 := ⟨_, rfl⟩
            have heM : e = i + M := by omega
            rw [← hM] at hgrow
            by_cases het : e < t
            case pos =>
              have hex : e < x.nums.length := by rw [o.out]; exact het
              obtain ⟨b2, o2, hnx, hbl, hS1, hc1⟩ := (E.out.arr 5 rfl).nums.at hex
              injection hnx with hnx
              injection hnx with q1 q2
              subst q1
              subst q2
              have hcd : x.nums.getD e 0 ≠ 0 := fun q => hcont ⟨het, q⟩
              generalize x.nums.getD e 0 = d2 at hc1 hcd
              have db2 : (d2 == 0) = false := by simpa using hcd
              have t0 : (0 : Int) ≤ (e : Int) := by omega
              have t1 : (e : Int) < (x.nums.length : Int) := by omega
              have t2 : (e : Int) < (t : Int) := by omega
              clear hcont
              replace hcd := hid hcd
              replace heM := hid heM
              replace hM := hid hM
              replace he := hid he
              obtain ⟨q20, q21, q22, q23⟩ := (E.out.hdr 2 rfl).all
              go_upto_region 17 with (fail)
              clear q20 q21 q22 q23
              clear hc1 t0 t1 t2
              obtain ⟨s, hsx⟩ : ∃ s, s = [(M : Int)] ++ celL y := ⟨_, rfl⟩
              have hcl8 : (celL y).length ≤ 8 := (shapeB_iff.1 (celL_ok hs)).1
              have sl9 : s.length ≤ 9 := by rw [hsx, List.length_append]; simp only [List.length_cons, List.length_nil]; omega
              replace hsx := hid hsx
              have hwr : IntKind.i64.wrap ((e : Int) - (i : Int)) = (M : Int) := by rw [show (e : Int) - (i : Int) = (M : Int) by have := heM.out; omega]; exact IntWalk.i64_in _ (by have := heM.out; omega)
              obtain ⟨q30, q31, q32, q33⟩ := (E.out.hdr 3 rfl).all
              refine wp_region_mono_tail 11 (Sees wr [(⟨(w.heap.size+1), 0, none⟩, .int .i64 y.kind), (⟨(w.heap.size+1), 1, none⟩, .slice sy y.shape.length cy), (⟨(w.heap.size+1), 2, none⟩, .slice ny y.nums.length my), (⟨(w.heap.size+1), 3, none⟩, .slice iy y.items.length jy)]) [5, 7, 8, 10] (fun k v u u' => match k with | 5 => v = .slice (some ⟨u.heap.size, 0, none⟩) 1 1 ∧ u' = u.alloc (.cells (([(M : Int)] : List Int).map (Value.int .i64)).toArray 3) | 7 => ∃ g, v = .slice (some ⟨u.heap.size, 0, none⟩) 2 2 ∧ u' = u.alloc (.cells #[.slice (some ⟨g, 0, none⟩) 1 1, .slice so (celL y).length sc] 24) ∧ IntsAt u (fun _ => True) (some ⟨g, 0, none⟩) [(M : Int)] | 8 => ∃ oa oc, v = .slice oa s.length oc ∧ OwnI u' u.heap.size oa oc s | 10 => v = .pointer (some ⟨u.heap.size, 0, none⟩) ∧ u' = u.alloc (.cells #[.int .i64 0, .slice none 0 0, .slice none 0 0, .slice none 0 0] 27) | _ => False) (fun _ _ h e => h.up e) (Sees.start (all_cons ((E.out.hdr 3 rfl).c0) (all_cons ((E.out.hdr 3 rfl).c1) (all_cons ((E.out.hdr 3 rfl).c2) (all_cons ((E.out.hdr 3 rfl).c3) (all_nil)))))) (by kernel_rfl) (by kernel_rfl) ?_
              simp only [List.take_succ_cons, List.take_zero, List.drop_succ_cons, List.drop_zero]
              repeat (first | (refine m_plain (v := ?_) (by rfl) (by rfl) ?_ ?_; rotate_left; (intro wz hSw; obtain ⟨-, hSc⟩ := hSw; (try simp only [List.forall_mem_cons, List.forall_mem_nil, and_true] at hSc); go_simp; (first | done | with_reducible rfl)); (intro K hK; (try simp only [Act.put, List.setIfInBounds_toArray, List.set_cons_zero, List.set_cons_succ]); refine hK _ _ ?_; clear hK K)) | (refine m_skip (by rfl) (by rfl) ?_; (intro K hK; (try simp only [Act.put, List.setIfInBounds_toArray, List.set_cons_zero, List.set_cons_succ]); refine hK _ _ ?_; clear hK K)))
              refine m_make (by rfl) (by rfl) ?_ ?_
              · intro wz hSw hdep R hRz
                obtain ⟨hSe, hSc⟩ := hSw
                (try simp only [List.forall_mem_cons, List.forall_mem_nil, and_true] at hSc)
                unfold does
                (go_simp; exact hRz.out _ _ ⟨ext_alloc _ _, rfl, rfl⟩)
              intro v5 u5 x5 hG5 K hK
              have hF5 := hG5.fact
              (try dsimp only at hF5)
              obtain ⟨rfl, rfl⟩ := hF5
              (try simp only [Act.put, List.setIfInBounds_toArray, List.set_cons_zero, List.set_cons_succ]); refine hK _ _ ?_; clear hK K
              repeat (first | (refine m_plain (v := ?_) (by rfl) (by rfl) ?_ ?_; rotate_left; (intro wz hSw; obtain ⟨-, hSc⟩ := hSw; (try simp only [List.forall_mem_cons, List.forall_mem_nil, and_true] at hSc); go_simp; (first | done | with_reducible rfl)); (intro K hK; (try simp only [Act.put, List.setIfInBounds_toArray, List.set_cons_zero, List.set_cons_succ]); refine hK _ _ ?_; clear hK K)) | (refine m_skip (by rfl) (by rfl) ?_; (intro K hK; (try simp only [Act.put, List.setIfInBounds_toArray, List.set_cons_zero, List.set_cons_succ]); refine hK _ _ ?_; clear hK K)))
              refine m_make (by rfl) (by rfl) ?_ ?_
              · intro wz hSw hdep R hRz
                obtain ⟨hSe, hSc⟩ := hSw
                (try simp only [List.forall_mem_cons, List.forall_mem_nil, and_true] at hSc)
                unfold does
                (go_simp; exact hRz.out _ _ ⟨ext_alloc _ _, _, rfl, rfl, (lit_at (hdep 5 _ rfl (depB_sound (f := 4) (by kernel_rfl))) (by simp)).mono (fun _ _ _ => trivial)⟩)
              intro v7 u7 x7 hG7 K hK
              have hF7 := hG7.fact
              (try dsimp only at hF7)
              obtain ⟨g7, rfl, rfl, hI7⟩ := hF7
              (try simp only [Act.put, List.setIfInBounds_toArray, List.set_cons_zero, List.set_cons_succ]); refine hK _ _ ?_; clear hK K
              repeat (first | (refine m_plain (v := ?_) (by rfl) (by rfl) ?_ ?_; rotate_left; (intro wz hSw; obtain ⟨-, hSc⟩ := hSw; (try simp only [List.forall_mem_cons, List.forall_mem_nil, and_true] at hSc); go_simp; (first | done | with_reducible rfl)); (intro K hK; (try simp only [Act.put, List.setIfInBounds_toArray, List.set_cons_zero, List.set_cons_succ]); refine hK _ _ ?_; clear hK K)) | (refine m_skip (by rfl) (by rfl) ?_; (intro K hK; (try simp only [Act.put, List.setIfInBounds_toArray, List.set_cons_zero, List.set_cons_succ]); refine hK _ _ ?_; clear hK K)))
              refine m_make (by rfl) (by rfl) ?_ ?_
              · intro wz hSw hdep R hRz
                obtain ⟨hSe, hSc⟩ := hSw
                (try simp only [List.forall_mem_cons, List.forall_mem_nil, and_true] at hSc)
                unfold does
                (go_simp; refine Calls.mono (slices_Concat2 [(M : Int)] (celL y) _ _ _ _ _ (fun _ => True) wz (hI7.up ((ext_alloc _ _).trans (hdep 7 _ rfl (depB_sound (f := 4) (by kernel_rfl))))) (((E.out.ints 7 rfl).mono (fun _ _ _ => trivial)).up hSe) (row2 (made_blk (hdep 7 _ rfl (depB_sound (f := 4) (by kernel_rfl))))).1 (row2 (made_blk (hdep 7 _ rfl (depB_sound (f := 4) (by kernel_rfl))))).2 (by simp only [List.length_cons, List.length_nil]; omega)) ?_; rw [← hsx.out]; rintro e' wq ⟨oa, oc, rfl, hO, hb⟩; exact ⟨_, rfl, hRz.out _ _ ⟨hb, oa, oc, rfl, hO⟩⟩)
              intro v8 u8 x8 hG8 K hK
              have hF8 := hG8.fact
              (try dsimp only at hF8)
              obtain ⟨oa, oc, rfl, hO⟩ := hF8
              (try simp only [Act.put, List.setIfInBounds_toArray, List.set_cons_zero, List.set_cons_succ]); refine hK _ _ ?_; clear hK K
              repeat (first | (refine m_plain (v := ?_) (by rfl) (by rfl) ?_ ?_; rotate_left; (intro wz hSw; obtain ⟨-, hSc⟩ := hSw; (try simp only [List.forall_mem_cons, List.forall_mem_nil, and_true] at hSc); go_simp; (first | done | with_reducible rfl)); (intro K hK; (try simp only [Act.put, List.setIfInBounds_toArray, List.set_cons_zero, List.set_cons_succ]); refine hK _ _ ?_; clear hK K)) | (refine m_skip (by rfl) (by rfl) ?_; (intro K hK; (try simp only [Act.put, List.setIfInBounds_toArray, List.set_cons_zero, List.set_cons_succ]); refine hK _ _ ?_; clear hK K)))
              refine m_make (by rfl) (by rfl) ?_ ?_
              · intro wz hSw hdep R hRz
                obtain ⟨hSe, hSc⟩ := hSw
                (try simp only [List.forall_mem_cons, List.forall_mem_nil, and_true] at hSc)
                unfold does
                (go_simp; exact hRz.out _ _ ⟨ext_alloc _ _, rfl, rfl⟩)
              intro v10 u10 x10 hG10 K hK
              have hF10 := hG10.fact
              (try dsimp only at hF10)
              obtain ⟨rfl, rfl⟩ := hF10
              (try simp only [Act.put, List.setIfInBounds_toArray, List.set_cons_zero, List.set_cons_succ]); refine hK _ _ ?_; clear hK K
              repeat (first | (refine m_plain (v := ?_) (by rfl) (by rfl) ?_ ?_; rotate_left; (intro wz hSw; obtain ⟨-, hSc⟩ := hSw; (try simp only [List.forall_mem_cons, List.forall_mem_nil, and_true] at hSc); go_simp; (first | done | with_reducible rfl)); (intro K hK; (try simp only [Act.put, List.setIfInBounds_toArray, List.set_cons_zero, List.set_cons_succ]); refine hK _ _ ?_; clear hK K)) | (refine m_skip (by rfl) (by rfl) ?_; (intro K hK; (try simp only [Act.put, List.setIfInBounds_toArray, List.set_cons_zero, List.set_cons_succ]); refine hK _ _ ?_; clear hK K)))
              refine m_nil ?_
              intro wf hSf hAf
              have hcap := hid hO.cap
              replace E := hid (E.out.madeI ((hO.ints (by omega)).mono fun b _ hb => hb.1) (hAf 8 _ rfl) (hG10.order 8 _ rfl) hG8.s.1 hG10.s.1 (hAf 10 _ rfl) hSf.1)
              clear hSf hAf hG5 hG7 hG8 hG10 hO hI7 hwr
              clear q30 q31 q32 q33
              (try simp only [List.cons_append, List.nil_append, List.set_cons_zero, List.set_cons_succ] at E)
              generalize u10.heap.size = bg at E ⊢
              refine wpl_store4 (by rfl) (.tmp 13) (.tmp 76) (by rfl) _ (by rfl) (by rfl) (E.out.hdr 8 rfl) ?_
              intro V4 HV CV
              replace E := hid (E.out.chg 8 rfl CV HV)
              clear HV CV
              (try simp only [List.cons_append, List.nil_append, List.set_cons_zero, List.set_cons_succ] at E)
              obtain ⟨q30, q31, q32, q33⟩ := (E.out.hdr 3 rfl).all
              go_wp2_with fail
              clear q30 q31 q32 q33
              refine (copying_collector bg y _ _ _ _ _ _ w S _ _ E.out (E.out.arr 6 rfl) hs hcy.out.1).mono ?_
              rintro e' w7 ⟨pn, py, pp, pf, sf, cf, nf, mf, jf, kf, rfl, E1⟩
              clear E
              have E := hid ((E1.row0I).row0A)
              clear E1
              (try simp only [List.cons_append, List.nil_append, List.set_cons_zero, List.set_cons_succ] at E)
              replace E := hid (E.out.pick 4 rfl)
              simp only [List.eraseIdx_cons_succ, List.eraseIdx_cons_zero] at E
              replace E := hid (E.out.pick 4 rfl)
              simp only [List.eraseIdx_cons_succ, List.eraseIdx_cons_zero] at E
              replace E := hid (E.out.pick 11 rfl)
              simp only [List.eraseIdx_cons_succ, List.eraseIdx_cons_zero] at E
              replace E := hid (E.out.pick 5 rfl)
              simp only [List.eraseIdx_cons_succ, List.eraseIdx_cons_zero] at E
              replace E := hid (E.out.pick 5 rfl)
              simp only [List.eraseIdx_cons_succ, List.eraseIdx_cons_zero] at E
              replace E := hid (E.out.pick 5 rfl)
              simp only [List.eraseIdx_cons_succ, List.eraseIdx_cons_zero] at E
              replace E := hid (E.out.pick 16 rfl)
              simp only [List.eraseIdx_cons_succ, List.eraseIdx_cons_zero] at E
              replace E := hid (E.out.pick 16 rfl)
              simp only [List.eraseIdx_cons_succ, List.eraseIdx_cons_zero] at E
              replace E := hid (E.out.pick 15 rfl)
              simp only [List.eraseIdx_cons_succ, List.eraseIdx_cons_zero] at E
              go_upto_region 19 with (fail)
              go_loopw [11] (fun v wr => ∃ (k : Nat) (na : Option Addr) (nc : Nat) (ja : Option Addr) (jc : Nat), k ≤ M ∧ v = .int .i64 ((i + k : Nat) : Int) ∧ Env w S wr [.obj bg (.cells #[.int .i64 y.kind, .slice oa s.length oc, .slice na (grL y.nums i (celN y) k).length nc, .slice ja (grL y.items i (celN y) k).length jc] 27 (0, 0)), .rowI na nc (grL y.nums i (celN y) k), .rowA ja jc (grL y.items i (celN y) k), .obj pn (.cells #[.int .i64 (celN y : Nat)] 3 (0, 0)), .obj py (.cells #[.int .i64 y.kind, .slice sy y.shape.length cy, .slice ny y.nums.length my, .slice iy y.items.length jy] 27 (0, 0)), .obj pp (.cells #[.pointer (some ⟨bg, 0, none⟩)] 53 (0, 0)), .arr y sy ny iy, .obj pf (.cells #[.int .i64 (fillS y).kind, .slice sf (fillS y).shape.length cf, .slice nf (fillS y).nums.length mf, .slice jf (fillS y).items.length kf] 27 (0, 0)), .arr (fillS y) sf nf jf, .obj bo (.cells #[.int .i64 3, .slice none 0 0, .slice none 0 0, .slice ia G.length ic] 27 (0, 0)), .rowA ia ic G, .obj w.heap.size (.cells #[.int .i64 x.kind, .slice sx x.shape.length cx, .slice (some ⟨b1, o1, none⟩) x.nums.length mx, .slice ix x.items.length jx] 27 (0, 0)), .obj (w.heap.size + 1) (.cells #[.int .i64 y.kind, .slice sy y.shape.length cy, .slice ny y.nums.length my, .slice iy y.items.length jy] 27 (0, 0)), .obj (w.heap.size + 1 + 1) (.cells #[.int .i64 0, .slice none 0 0, .slice none 0 0, .slice none 0 0] 27 (0, 0)), .arr x sx (some ⟨b1, o1, none⟩) ix, .ints (celL y) so, .ints s oa]) (fun v _ => e - (intOf v).toNat)
              case atStart => exact ⟨0, none, 0, none, 0, Nat.zero_le _, rfl, by rw [grL_0, grL_0]; exact E.out⟩
              case round =>
                clear E
                obtain ⟨k, na, nc, ja, jc, hkM, rfl, E⟩ := hrel
                replace E := hid E
                have hgn := grL_le y.nums i (celN y) k
                have hgi := grL_le y.items i (celN y) k
                have hy6 := right_l3 K.out.ry
                by_cases hlk : k < M
                case pos =>
                  have hot : i + k < talM y := by rw [← htt.out]; have := heM.out; omega
                  have hek : ((i + k : Nat) : Int) < (e : Int) := by have := heM.out; omega
                  obtain ⟨ik, hik⟩ : ∃ q, q = i + k := ⟨_, rfl⟩
                  rw [← hik] at hot hek ⊢
                  have hik2 : ik ≤ 65536 := by have := htt.out; omega
                  have g1 : Hid (grL y.nums i (celN y) (k + 1) = grL y.nums i (celN y) k ++ blkL y.nums ik (celN y)) := hid (by rw [grL_succ, hik])
                  have g2 : Hid (grL y.items i (celN y) (k + 1) = grL y.items i (celN y) k ++ blkL y.items ik (celN y)) := hid (by rw [grL_succ, hik])
                  replace hik := hid hik
                  go_wp2_with fail
                  refine (coll_add y.kind oa s.length oc na nc (grL y.nums i (celN y) k) ja jc (grL y.items i (celN y) k) y sy cy ny my iy jy bg pn py pp pf ik (celN y) w S _ _ E.out K.out.ry rfl hot (by omega) (by omega) hcy.out.2.1).mono ?_
                  rintro e' w9 ⟨na2, nc2, ja2, jc2, rfl, E1⟩
                  rw [← g1.out, ← g2.out] at E1
                  clear E
                  have E := hid E1
                  clear E1
                  go_wp2_with fail
                  go_roundw
                  case rel => exact ⟨k + 1, na2, nc2, ja2, jc2, by omega, by rw [show i + (k + 1) = ik + 1 by have := hik.out; omega]; go_num, E.out⟩
                  case measure => simp [intOf]; omega
                case neg =>
                  have hkM2 : k = M := by omega
                  have hek : ¬ ((i + k : Nat) : Int) < (e : Int) := by have := heM.out; omega
                  obtain ⟨ik, hik⟩ : ∃ q, q = i + k := ⟨_, rfl⟩
                  rw [← hik] at hek ⊢
                  have hGr : Hid ((cuts x.nums e).map (grpA y) = G ++ [.mk y.kind s (grL y.nums i (celN y) k) (grL y.items i (celN y) k)]) := hid (by rw [hgrow.out, List.map_append, ← hG.out]; congr 1; simp only [List.map_cons, List.map_nil]; rw [grpA_eq, hkM2, hsx.out]; rfl)
                  have hie : Hid (ik = e) := hid (by rw [hik, hkM2]; exact heM.out.symm)
                  replace hik := hid hik
                  replace hkM2 := hid hkM2
                  replace E := hid (E.out.doneI 1 rfl (by omega))
                  (try simp only [List.cons_append, List.nil_append, List.set_cons_zero, List.set_cons_succ] at E)
                  replace E := hid (E.out.doneA 2 rfl)
                  (try simp only [List.cons_append, List.nil_append, List.set_cons_zero, List.set_cons_succ] at E)
                  obtain ⟨nn, hnn⟩ : ∃ q, q = grL y.nums i (celN y) k := ⟨_, rfl⟩
                  obtain ⟨ii, hii⟩ : ∃ q, q = grL y.items i (celN y) k := ⟨_, rfl⟩
                  rw [← hnn, ← hii] at E
                  rw [← hnn, ← hii] at hGr
                  rw [← hii] at hgi
                  replace hnn := hid hnn
                  replace hii := hid hii
                  have hGl : G.length ≤ 65536 := by rw [hG.out, List.length_map]; have := cuts_len x.nums i; omega
                  have hll : G.length + [Arr.mk y.kind s nn ii].length ≤ 1759218604441 := by simp only [List.length_cons, List.length_nil]; omega
                  have oB := hid (box_items (z := .mk y.kind s nn ii) (sc := oc) (nc := nc) (ic := jc) (Ext.refl _) (E.out.fresh (Ext.refl _) (Nat.le_refl _)) (ArrAt.iff.2 ⟨E.out.ints 16 rfl, E.out.ints 1 rfl, by show ii.length ≤ _; omega, E.out.items 2 rfl⟩))
                  obtain ⟨q00, q01, q02, q03⟩ := (E.out.hdr 0 rfl).all
                  obtain ⟨q90, q91, q92, q93⟩ := (E.out.hdr 9 rfl).all
                  go_wp2_with (first
                    | (at_builtin; replace E := hid (E.out.up (ext_alloc _ (.cells #[.int .i64 y.kind, .slice oa s.length oc, .slice na nn.length nc, .slice ja ii.length jc] 27))); refine wplE_appA E.out 10 rfl rfl (.tmp 88) (.tmp 90) rfl rfl _ _ 1 [.mk y.kind s nn ii] rfl oB.out (fun _ _ h => h) hll ?_; intro V5 ia2 ic2 E1; clear E; have E := hid E1; clear E1; (try simp only [List.cons_append, List.nil_append, List.set_cons_zero, List.set_cons_succ] at E))
                    | (refine wpl_store3 rfl (.tmp 92) (.tmp 91) rfl bo rfl rfl (E.out.hdr 9 rfl) ?_; intro V HV CV; replace E := hid (E.out.chg 9 rfl CV HV); clear HV CV; (try simp only [List.cons_append, List.nil_append, List.set_cons_zero, List.set_cons_succ] at E)))
                  go_roundw
                  case rel =>
                    rw [hie.out]
                    rw [← hGr.out] at E
                    rw [show G.length + 1 = (cuts x.nums e).length by have q := congrArg List.length hGr.out; simpa using q.symm] at E
                    replace E := hid (E.out.pick 15 rfl)
                    simp only [List.eraseIdx_cons_succ, List.eraseIdx_cons_zero] at E
                    replace E := hid (E.out.pick 7 rfl)
                    simp only [List.eraseIdx_cons_succ, List.eraseIdx_cons_zero] at E
                    replace E := hid (E.out.pick 15 rfl)
                    simp only [List.eraseIdx_cons_succ, List.eraseIdx_cons_zero] at E
                    replace E := hid (E.out.pick 15 rfl)
                    simp only [List.eraseIdx_cons_succ, List.eraseIdx_cons_zero] at E
                    replace E := hid (E.out.pick 15 rfl)
                    simp only [List.eraseIdx_cons_succ, List.eraseIdx_cons_zero] at E
                    replace E := hid (E.out.pick 15 rfl)
                    simp only [List.eraseIdx_cons_succ, List.eraseIdx_cons_zero] at E
                    replace E := hid (E.out.pick 15 rfl)
                    simp only [List.eraseIdx_cons_succ, List.eraseIdx_cons_zero] at E
                    replace E := hid (E.out.pick 15 rfl)
                    simp only [List.eraseIdx_cons_succ, List.eraseIdx_cons_zero] at E
                    exact ⟨e, by omega, rfl, hnst, ia2, ic2, E.out.sub (List.Sublist.cons_cons _ (List.Sublist.cons_cons _ (List.Sublist.cons_cons _ (List.Sublist.cons_cons _ (List.Sublist.cons_cons _ (List.Sublist.cons_cons _ (List.Sublist.cons_cons _ (List.Sublist.cons_cons _ (List.nil_sublist _)))))))))⟩
                  case measure => have q1 := heM.out; have q2 := hM.out; have q3 := hie.out; simp [intOf]; omega
            case neg =>
              have t2 : ¬ (e : Int) < (t : Int) := by omega
              clear hcont
              replace heM := hid heM
              replace hM := hid hM
              replace he := hid he
              go_upto_region 17 with (fail)
              obtain ⟨s, hsx⟩ : ∃ s, s = [(M : Int)] ++ celL y := ⟨_, rfl⟩
              have hcl8 : (celL y).length ≤ 8 := (shapeB_iff.1 (celL_ok hs)).1
              have sl9 : s.length ≤ 9 := by rw [hsx, List.length_append]; simp only [List.length_cons, List.length_nil]; omega
              replace hsx := hid hsx
              have hwr : IntKind.i64.wrap ((e : Int) - (i : Int)) = (M : Int) := by rw [show (e : Int) - (i : Int) = (M : Int) by have := heM.out; omega]; exact IntWalk.i64_in _ (by have := heM.out; omega)
              obtain ⟨q30, q31, q32, q33⟩ := (E.out.hdr 3 rfl).all
              refine wp_region_mono_tail 11 (Sees wr [(⟨(w.heap.size+1), 0, none⟩, .int .i64 y.kind), (⟨(w.heap.size+1), 1, none⟩, .slice sy y.shape.length cy), (⟨(w.heap.size+1), 2, none⟩, .slice ny y.nums.length my), (⟨(w.heap.size+1), 3, none⟩, .slice iy y.items.length jy)]) [5, 7, 8, 10] (fun k v u u' => match k with | 5 => v = .slice (some ⟨u.heap.size, 0, none⟩) 1 1 ∧ u' = u.alloc (.cells (([(M : Int)] : List Int).map (Value.int .i64)).toArray 3) | 7 => ∃ g, v = .slice (some ⟨u.heap.size, 0, none⟩) 2 2 ∧ u' = u.alloc (.cells #[.slice (some ⟨g, 0, none⟩) 1 1, .slice so (celL y).length sc] 24) ∧ IntsAt u (fun _ => True) (some ⟨g, 0, none⟩) [(M : Int)] | 8 => ∃ oa oc, v = .slice oa s.length oc ∧ OwnI u' u.heap.size oa oc s | 10 => v = .pointer (some ⟨u.heap.size, 0, none⟩) ∧ u' = u.alloc (.cells #[.int .i64 0, .slice none 0 0, .slice none 0 0, .slice none 0 0] 27) | _ => False) (fun _ _ h e => h.up e) (Sees.start (all_cons ((E.out.hdr 3 rfl).c0) (all_cons ((E.out.hdr 3 rfl).c1) (all_cons ((E.out.hdr 3 rfl).c2) (all_cons ((E.out.hdr 3 rfl).c3) (all_nil)))))) (by kernel_rfl) (by kernel_rfl) ?_
              simp only [List.take_succ_cons, List.take_zero, List.drop_succ_cons, List.drop_zero]
              repeat (first | (refine m_plain (v := ?_) (by rfl) (by rfl) ?_ ?_; rotate_left; (intro wz hSw; obtain ⟨-, hSc⟩ := hSw; (try simp only [List.forall_mem_cons, List.forall_mem_nil, and_true] at hSc); go_simp; (first | done | with_reducible rfl)); (intro K hK; (try simp only [Act.put, List.setIfInBounds_toArray, List.set_cons_zero, List.set_cons_succ]); refine hK _ _ ?_; clear hK K)) | (refine m_skip (by rfl) (by rfl) ?_; (intro K hK; (try simp only [Act.put, List.setIfInBounds_toArray, List.set_cons_zero, List.set_cons_succ]); refine hK _ _ ?_; clear hK K)))
              refine m_make (by rfl) (by rfl) ?_ ?_
              · intro wz hSw hdep R hRz
                obtain ⟨hSe, hSc⟩ := hSw
                (try simp only [List.forall_mem_cons, List.forall_mem_nil, and_true] at hSc)
                unfold does
                (go_simp; exact hRz.out _ _ ⟨ext_alloc _ _, rfl, rfl⟩)
              intro v5 u5 x5 hG5 K hK
              have hF5 := hG5.fact
              (try dsimp only at hF5)
              obtain ⟨rfl, rfl⟩ := hF5
              (try simp only [Act.put, List.setIfInBounds_toArray, List.set_cons_zero, List.set_cons_succ]); refine hK _ _ ?_; clear hK K
              repeat (first | (refine m_plain (v := ?_) (by rfl) (by rfl) ?_ ?_; rotate_left; (intro wz hSw; obtain ⟨-, hSc⟩ := hSw; (try simp only [List.forall_mem_cons, List.forall_mem_nil, and_true] at hSc); go_simp; (first | done | with_reducible rfl)); (intro K hK; (try simp only [Act.put, List.setIfInBounds_toArray, List.set_cons_zero, List.set_cons_succ]); refine hK _ _ ?_; clear hK K)) | (refine m_skip (by rfl) (by rfl) ?_; (intro K hK; (try simp only [Act.put, List.setIfInBounds_toArray, List.set_cons_zero, List.set_cons_succ]); refine hK _ _ ?_; clear hK K)))
              refine m_make (by rfl) (by rfl) ?_ ?_
              · intro wz hSw hdep R hRz
                obtain ⟨hSe, hSc⟩ := hSw
                (try simp only [List.forall_mem_cons, List.forall_mem_nil, and_true] at hSc)
                unfold does
                (go_simp; exact hRz.out _ _ ⟨ext_alloc _ _, _, rfl, rfl, (lit_at (hdep 5 _ rfl (depB_sound (f := 4) (by kernel_rfl))) (by simp)).mono (fun _ _ _ => trivial)⟩)
              intro v7 u7 x7 hG7 K hK
              have hF7 := hG7.fact
              (try dsimp only at hF7)
              obtain ⟨g7, rfl, rfl, hI7⟩ := hF7
              (try simp only [Act.put, List.setIfInBounds_toArray, List.set_cons_zero, List.set_cons_succ]); refine hK _ _ ?_; clear hK K
              repeat (first | (refine m_plain (v := ?_) (by rfl) (by rfl) ?_ ?_; rotate_left; (intro wz hSw; obtain ⟨-, hSc⟩ := hSw; (try simp only [List.forall_mem_cons, List.forall_mem_nil, and_true] at hSc); go_simp; (first | done | with_reducible rfl)); (intro K hK; (try simp only [Act.put, List.setIfInBounds_toArray, List.set_cons_zero, List.set_cons_succ]); refine hK _ _ ?_; clear hK K)) | (refine m_skip (by rfl) (by rfl) ?_; (intro K hK; (try simp only [Act.put, List.setIfInBounds_toArray, List.set_cons_zero, List.set_cons_succ]); refine hK _ _ ?_; clear hK K)))
              refine m_make (by rfl) (by rfl) ?_ ?_
              · intro wz hSw hdep R hRz
                obtain ⟨hSe, hSc⟩ := hSw
                (try simp only [List.forall_mem_cons, List.forall_mem_nil, and_true] at hSc)
                unfold does
                (go_simp; refine Calls.mono (slices_Concat2 [(M : Int)] (celL y) _ _ _ _ _ (fun _ => True) wz (hI7.up ((ext_alloc _ _).trans (hdep 7 _ rfl (depB_sound (f := 4) (by kernel_rfl))))) (((E.out.ints 7 rfl).mono (fun _ _ _ => trivial)).up hSe) (row2 (made_blk (hdep 7 _ rfl (depB_sound (f := 4) (by kernel_rfl))))).1 (row2 (made_blk (hdep 7 _ rfl (depB_sound (f := 4) (by kernel_rfl))))).2 (by simp only [List.length_cons, List.length_nil]; omega)) ?_; rw [← hsx.out]; rintro e' wq ⟨oa, oc, rfl, hO, hb⟩; exact ⟨_, rfl, hRz.out _ _ ⟨hb, oa, oc, rfl, hO⟩⟩)
              intro v8 u8 x8 hG8 K hK
              have hF8 := hG8.fact
              (try dsimp only at hF8)
              obtain ⟨oa, oc, rfl, hO⟩ := hF8
              (try simp only [Act.put, List.setIfInBounds_toArray, List.set_cons_zero, List.set_cons_succ]); refine hK _ _ ?_; clear hK K
              repeat (first | (refine m_plain (v := ?_) (by rfl) (by rfl) ?_ ?_; rotate_left; (intro wz hSw; obtain ⟨-, hSc⟩ := hSw; (try simp only [List.forall_mem_cons, List.forall_mem_nil, and_true] at hSc); go_simp; (first | done | with_reducible rfl)); (intro K hK; (try simp only [Act.put, List.setIfInBounds_toArray, List.set_cons_zero, List.set_cons_succ]); refine hK _ _ ?_; clear hK K)) | (refine m_skip (by rfl) (by rfl) ?_; (intro K hK; (try simp only [Act.put, List.setIfInBounds_toArray, List.set_cons_zero, List.set_cons_succ]); refine hK _ _ ?_; clear hK K)))
              refine m_make (by rfl) (by rfl) ?_ ?_
              · intro wz hSw hdep R hRz
                obtain ⟨hSe, hSc⟩ := hSw
                (try simp only [List.forall_mem_cons, List.forall_mem_nil, and_true] at hSc)
                unfold does
                (go_simp; exact hRz.out _ _ ⟨ext_alloc _ _, rfl, rfl⟩)
              intro v10 u10 x10 hG10 K hK
              have hF10 := hG10.fact
              (try dsimp only at hF10)
              obtain ⟨rfl, rfl⟩ := hF10
              (try simp only [Act.put, List.setIfInBounds_toArray, List.set_cons_zero, List.set_cons_succ]); refine hK _ _ ?_; clear hK K
              repeat (first | (refine m_plain (v := ?_) (by rfl) (by rfl) ?_ ?_; rotate_left; (intro wz hSw; obtain ⟨-, hSc⟩ := hSw; (try simp only [List.forall_mem_cons, List.forall_mem_nil, and_true] at hSc); go_simp; (first | done | with_reducible rfl)); (intro K hK; (try simp only [Act.put, List.setIfInBounds_toArray, List.set_cons_zero, List.set_cons_succ]); refine hK _ _ ?_; clear hK K)) | (refine m_skip (by rfl) (by rfl) ?_; (intro K hK; (try simp only [Act.put, List.setIfInBounds_toArray, List.set_cons_zero, List.set_cons_succ]); refine hK _ _ ?_; clear hK K)))
              refine m_nil ?_
              intro wf hSf hAf
              have hcap := hid hO.cap
              replace E := hid (E.out.madeI ((hO.ints (by omega)).mono fun b _ hb => hb.1) (hAf 8 _ rfl) (hG10.order 8 _ rfl) hG8.s.1 hG10.s.1 (hAf 10 _ rfl) hSf.1)
              clear hSf hAf hG5 hG7 hG8 hG10 hO hI7 hwr
              clear q30 q31 q32 q33
              (try simp only [List.cons_append, List.nil_append, List.set_cons_zero, List.set_cons_succ] at E)
              generalize u10.heap.size = bg at E ⊢
              refine wpl_store4 (by rfl) (.tmp 13) (.tmp 76) (by rfl) _ (by rfl) (by rfl) (E.out.hdr 8 rfl) ?_
              intro V4 HV CV
              replace E := hid (E.out.chg 8 rfl CV HV)
              clear HV CV
              (try simp only [List.cons_append, List.nil_append, List.set_cons_zero, List.set_cons_succ] at E)
              obtain ⟨q30, q31, q32, q33⟩ := (E.out.hdr 3 rfl).all
              go_wp2_with fail
              clear q30 q31 q32 q33
              refine (copying_collector bg y _ _ _ _ _ _ w S _ _ E.out (E.out.arr 6 rfl) hs hcy.out.1).mono ?_
              rintro e' w7 ⟨pn, py, pp, pf, sf, cf, nf, mf, jf, kf, rfl, E1⟩
              clear E
              have E := hid ((E1.row0I).row0A)
              clear E1
              (try simp only [List.cons_append, List.nil_append, List.set_cons_zero, List.set_cons_succ] at E)
              replace E := hid (E.out.pick 4 rfl)
              simp only [List.eraseIdx_cons_succ, List.eraseIdx_cons_zero] at E
              replace E := hid (E.out.pick 4 rfl)
              simp only [List.eraseIdx_cons_succ, List.eraseIdx_cons_zero] at E
              replace E := hid (E.out.pick 11 rfl)
              simp only [List.eraseIdx_cons_succ, List.eraseIdx_cons_zero] at E
              replace E := hid (E.out.pick 5 rfl)
              simp only [List.eraseIdx_cons_succ, List.eraseIdx_cons_zero] at E
              replace E := hid (E.out.pick 5 rfl)
              simp only [List.eraseIdx_cons_succ, List.eraseIdx_cons_zero] at E
              replace E := hid (E.out.pick 5 rfl)
              simp only [List.eraseIdx_cons_succ, List.eraseIdx_cons_zero] at E
              replace E := hid (E.out.pick 16 rfl)
              simp only [List.eraseIdx_cons_succ, List.eraseIdx_cons_zero] at E
              replace E := hid (E.out.pick 16 rfl)
              simp only [List.eraseIdx_cons_succ, List.eraseIdx_cons_zero] at E
              replace E := hid (E.out.pick 15 rfl)
              simp only [List.eraseIdx_cons_succ, List.eraseIdx_cons_zero] at E
              go_upto_region 19 with (fail)
              go_loopw [11] (fun v wr => ∃ (k : Nat) (na : Option Addr) (nc : Nat) (ja : Option Addr) (jc : Nat), k ≤ M ∧ v = .int .i64 ((i + k : Nat) : Int) ∧ Env w S wr [.obj bg (.cells #[.int .i64 y.kind, .slice oa s.length oc, .slice na (grL y.nums i (celN y) k).length nc, .slice ja (grL y.items i (celN y) k).length jc] 27 (0, 0)), .rowI na nc (grL y.nums i (celN y) k), .rowA ja jc (grL y.items i (celN y) k), .obj pn (.cells #[.int .i64 (celN y : Nat)] 3 (0, 0)), .obj py (.cells #[.int .i64 y.kind, .slice sy y.shape.length cy, .slice ny y.nums.length my, .slice iy y.items.length jy] 27 (0, 0)), .obj pp (.cells #[.pointer (some ⟨bg, 0, none⟩)] 53 (0, 0)), .arr y sy ny iy, .obj pf (.cells #[.int .i64 (fillS y).kind, .slice sf (fillS y).shape.length cf, .slice nf (fillS y).nums.length mf, .slice jf (fillS y).items.length kf] 27 (0, 0)), .arr (fillS y) sf nf jf, .obj bo (.cells #[.int .i64 3, .slice none 0 0, .slice none 0 0, .slice ia G.length ic] 27 (0, 0)), .rowA ia ic G, .obj w.heap.size (.cells #[.int .i64 x.kind, .slice sx x.shape.length cx, .slice (some ⟨b1, o1, none⟩) x.nums.length mx, .slice ix x.items.length jx] 27 (0, 0)), .obj (w.heap.size + 1) (.cells #[.int .i64 y.kind, .slice sy y.shape.length cy, .slice ny y.nums.length my, .slice iy y.items.length jy] 27 (0, 0)), .obj (w.heap.size + 1 + 1) (.cells #[.int .i64 0, .slice none 0 0, .slice none 0 0, .slice none 0 0] 27 (0, 0)), .arr x sx (some ⟨b1, o1, none⟩) ix, .ints (celL y) so, .ints s oa]) (fun v _ => e - (intOf v).toNat)
              case atStart => exact ⟨0, none, 0, none, 0, Nat.zero_le _, rfl, by rw [grL_0, grL_0]; exact E.out⟩
              case round =>
                clear E
                obtain ⟨k, na, nc, ja, jc, hkM, rfl, E⟩ := hrel
                replace E := hid E
                have hgn := grL_le y.nums i (celN y) k
                have hgi := grL_le y.items i (celN y) k
                have hy6 := right_l3 K.out.ry
                by_cases hlk : k < M
                case pos =>
                  have hot : i + k < talM y := by rw [← htt.out]; have := heM.out; omega
                  have hek : ((i + k : Nat) : Int) < (e : Int) := by have := heM.out; omega
                  obtain ⟨ik, hik⟩ : ∃ q, q = i + k := ⟨_, rfl⟩
                  rw [← hik] at hot hek ⊢
                  have hik2 : ik ≤ 65536 := by have := htt.out; omega
                  have g1 : Hid (grL y.nums i (celN y) (k + 1) = grL y.nums i (celN y) k ++ blkL y.nums ik (celN y)) := hid (by rw [grL_succ, hik])
                  have g2 : Hid (grL y.items i (celN y) (k + 1) = grL y.items i (celN y) k ++ blkL y.items ik (celN y)) := hid (by rw [grL_succ, hik])
                  replace hik := hid hik
                  go_wp2_with fail
                  refine (coll_add y.kind oa s.length oc na nc (grL y.nums i (celN y) k) ja jc (grL y.items i (celN y) k) y sy cy ny my iy jy bg pn py pp pf ik (celN y) w S _ _ E.out K.out.ry rfl hot (by omega) (by omega) hcy.out.2.1).mono ?_
                  rintro e' w9 ⟨na2, nc2, ja2, jc2, rfl, E1⟩
                  rw [← g1.out, ← g2.out] at E1
                  clear E
                  have E := hid E1
                  clear E1
                  go_wp2_with fail
                  go_roundw
                  case rel => exact ⟨k + 1, na2, nc2, ja2, jc2, by omega, by rw [show i + (k + 1) = ik + 1 by have := hik.out; omega]; go_num, E.out⟩
                  case measure => simp [intOf]; omega
                case neg =>
                  have hkM2 : k = M := by omega
                  have hek : ¬ ((i + k : Nat) : Int) < (e : Int) := by have := heM.out; omega
                  obtain ⟨ik, hik⟩ : ∃ q, q = i + k := ⟨_, rfl⟩
                  rw [← hik] at hek ⊢
                  have hGr : Hid ((cuts x.nums e).map (grpA y) = G ++ [.mk y.kind s (grL y.nums i (celN y) k) (grL y.items i (celN y) k)]) := hid (by rw [hgrow.out, List.map_append, ← hG.out]; congr 1; simp only [List.map_cons, List.map_nil]; rw [grpA_eq, hkM2, hsx.out]; rfl)
                  have hie : Hid (ik = e) := hid (by rw [hik, hkM2]; exact heM.out.symm)
                  replace hik := hid hik
                  replace hkM2 := hid hkM2
                  replace E := hid (E.out.doneI 1 rfl (by omega))
                  (try simp only [List.cons_append, List.nil_append, List.set_cons_zero, List.set_cons_succ] at E)
                  replace E := hid (E.out.doneA 2 rfl)
                  (try simp only [List.cons_append, List.nil_append, List.set_cons_zero, List.set_cons_succ] at E)
                  obtain ⟨nn, hnn⟩ : ∃ q, q = grL y.nums i (celN y) k := ⟨_, rfl⟩
                  obtain ⟨ii, hii⟩ : ∃ q, q = grL y.items i (celN y) k := ⟨_, rfl⟩
                  rw [← hnn, ← hii] at E
                  rw [← hnn, ← hii] at hGr
                  rw [← hii] at hgi
                  replace hnn := hid hnn
                  replace hii := hid hii
                  have hGl : G.length ≤ 65536 := by rw [hG.out, List.length_map]; have := cuts_len x.nums i; omega
                  have hll : G.length + [Arr.mk y.kind s nn ii].length ≤ 1759218604441 := by simp only [List.length_cons, List.length_nil]; omega
                  have oB := hid (box_items (z := .mk y.kind s nn ii) (sc := oc) (nc := nc) (ic := jc) (Ext.refl _) (E.out.fresh (Ext.refl _) (Nat.le_refl _)) (ArrAt.iff.2 ⟨E.out.ints 16 rfl, E.out.ints 1 rfl, by show ii.length ≤ _; omega, E.out.items 2 rfl⟩))
                  obtain ⟨q00, q01, q02, q03⟩ := (E.out.hdr 0 rfl).all
                  obtain ⟨q90, q91, q92, q93⟩ := (E.out.hdr 9 rfl).all
                  go_wp2_with (first
                    | (at_builtin; replace E := hid (E.out.up (ext_alloc _ (.cells #[.int .i64 y.kind, .slice oa s.length oc, .slice na nn.length nc, .slice ja ii.length jc] 27))); refine wplE_appA E.out 10 rfl rfl (.tmp 88) (.tmp 90) rfl rfl _ _ 1 [.mk y.kind s nn ii] rfl oB.out (fun _ _ h => h) hll ?_; intro V5 ia2 ic2 E1; clear E; have E := hid E1; clear E1; (try simp only [List.cons_append, List.nil_append, List.set_cons_zero, List.set_cons_succ] at E))
                    | (refine wpl_store3 rfl (.tmp 92) (.tmp 91) rfl bo rfl rfl (E.out.hdr 9 rfl) ?_; intro V HV CV; replace E := hid (E.out.chg 9 rfl CV HV); clear HV CV; (try simp only [List.cons_append, List.nil_append, List.set_cons_zero, List.set_cons_succ] at E)))
                  go_roundw
                  case rel =>
                    rw [hie.out]
                    rw [← hGr.out] at E
                    rw [show G.length + 1 = (cuts x.nums e).length by have q := congrArg List.length hGr.out; simpa using q.symm] at E
                    replace E := hid (E.out.pick 15 rfl)
                    simp only [List.eraseIdx_cons_succ, List.eraseIdx_cons_zero] at E
                    replace E := hid (E.out.pick 7 rfl)
                    simp only [List.eraseIdx_cons_succ, List.eraseIdx_cons_zero] at E
                    replace E := hid (E.out.pick 15 rfl)
                    simp only [List.eraseIdx_cons_succ, List.eraseIdx_cons_zero] at E
                    replace E := hid (E.out.pick 15 rfl)
                    simp only [List.eraseIdx_cons_succ, List.eraseIdx_cons_zero] at E
                    replace E := hid (E.out.pick 15 rfl)
                    simp only [List.eraseIdx_cons_succ, List.eraseIdx_cons_zero] at E
                    replace E := hid (E.out.pick 15 rfl)
                    simp only [List.eraseIdx_cons_succ, List.eraseIdx_cons_zero] at E
                    replace E := hid (E.out.pick 15 rfl)
                    simp only [List.eraseIdx_cons_succ, List.eraseIdx_cons_zero] at E
                    replace E := hid (E.out.pick 15 rfl)
                    simp only [List.eraseIdx_cons_succ, List.eraseIdx_cons_zero] at E
                    exact ⟨e, by omega, rfl, hnst, ia2, ic2, E.out.sub (List.Sublist.cons_cons _ (List.Sublist.cons_cons _ (List.Sublist.cons_cons _ (List.Sublist.cons_cons _ (List.Sublist.cons_cons _ (List.Sublist.cons_cons _ (List.Sublist.cons_cons _ (List.Sublist.cons_cons _ (List.nil_sublist _)))))))))⟩
                  case measure => have q1 := heM.out; have q2 := hM.out; have q3 := hie.out; simp [intOf]; omega
    · obtain rfl : t = i := by omega
      obtain ⟨G, hG⟩ : ∃ G, G = (cuts x.nums t).map (grpA y) := ⟨_, rfl⟩
      rw [← hG] at E
      have hGl : G.length ≤ 65536 := by rw [hG, List.length_map]; have := cuts_len x.nums t; omega
      have hcA : cutA x y = .mk 3 [(G.length : Int)] [] G := by unfold cutA; rw [o.out, ← hG, hG, List.length_map]
      have T1 := S1.out
      have T0 := S0.out
      have hyes := fun q => cutS_yes (x := x) (y := y) q
      rw [hcA] at T1 T0 hyes
      replace hcA := hid hcA
      replace hG := hid hG
      replace T1 := hid T1
      replace T0 := hid T0
      replace hyes := hid hyes
      have hc3 := hid (OwnA.cap (E.out.rowA 1 rfl))
      replace E := hid (E.out.doneA 1 rfl)
      (try simp only [List.cons_append, List.nil_append, List.set_cons_zero, List.set_cons_succ] at E)
      obtain ⟨q00, q01, q02, q03⟩ := (E.out.hdr 0 rfl).all
      go_wp2_with (first
        | (refine wpl_buildV rfl (G.length : Int) (.tmp 95) rfl rfl ?_; have E1 : Env w S (wr.alloc (.cells #[.int .i64 (G.length : Int)] 3)) _ := E.out.lit [(G.length : Int)] (show (1 : Nat) ≤ 17592186044416 by decide); clear E; have E := hid E1; clear E1; generalize World.alloc _ (.cells #[.int .i64 (G.length : Int)] 3) = V1 at E ⊢; generalize wr.heap.size = p1 at E ⊢; (try simp only [List.cons_append, List.nil_append, List.set_cons_zero, List.set_cons_succ] at E); clear q00 q01 q02 q03; obtain ⟨q00, q01, q02, q03⟩ := (E.out.hdr 0 rfl).all)
        | (refine wpl_store1 rfl (.tmp 97) (.tmp 96) rfl bo rfl rfl (E.out.hdr 0 rfl) ?_; intro V HV CV; replace E := hid (E.out.chg 0 rfl CV HV); clear HV CV; (try simp only [List.cons_append, List.nil_append, List.set_cons_zero, List.set_cons_succ] at E); clear q00 q01 q02 q03; obtain ⟨q00, q01, q02, q03⟩ := (E.out.hdr 0 rfl).all))
      clear q00 q01 q02 q03
      have hQ : ArrAt _ _ (.mk 3 [(G.length : Int)] [] G) _ _ _ := ArrAt.iff.2 ⟨E.out.ints 8 rfl, IntsAt.nil _ _ none, by show G.length ≤ _; omega, E.out.items 1 rfl⟩
      refine (array_Right (.mk 3 [(G.length : Int)] [] G) _ 1 none 0 _ ic _ _ hQ).mono ?_
      rintro e' w9 ⟨rfl, hb9⟩
      replace E := hid (E.out.up hb9)
      clear hb9 hQ
      by_cases r : rightS (.mk 3 [(G.length : Int)] [] G) = 0
      case neg =>
        have rb : (rightS (.mk 3 [(G.length : Int)] [] G) != 0) = true := by simpa using r
        have hn := hid (T1.out r)
        have hv := hid (cutS_no (x := x) (y := y) (by rw [hn.out]; decide))
        replace r := hid r
        go_wp2_with (refine wpl_store4 rfl (.tmp 4) (.tmp 101) rfl _ rfl rfl (E.out.hdr 4 rfl) ?_; intro V HV CV; replace E := hid (E.out.chg 4 rfl CV HV))
        exact bodyPost_ret (end_arr2 rfl HV rfl rfl) rfl (hR.out _ _ (RetAEC.zero hv.out hn.out E.out.ext))
      have rb : (rightS (.mk 3 [(G.length : Int)] [] G) != 0) = false := by simpa using r
      have hn := hid (T0.out r)
      have hv := hid (hyes.out hn.out)
      replace r := hid r
      obtain ⟨q00, q01, q02, q03⟩ := (E.out.hdr 0 rfl).all
      go_wp2_with (refine wpl_store4 rfl (.tmp 4) (.tmp 102) rfl _ rfl rfl (E.out.hdr 4 rfl) ?_; intro V6 HV CV; replace E := hid (E.out.chg 4 rfl CV HV); clear CV; (try simp only [List.cons_append, List.nil_append, List.set_cons_zero, List.set_cons_succ] at E))
      refine bodyPost_ret (end_arr2 rfl HV rfl rfl) rfl (hR.out _ _ ?_)
      exact RetAEC.of hv.out hn.out rfl ((E.out.ints 8 rfl).mono fun b _ h => h.1) (IntsAt.nil _ _ none) (by omega) ((E.out.items 1 rfl).mono fun b _ h => h.1) E.out.ext (Nat.le_refl 1) (Nat.zero_le _) hc3.out
end Go.Proofs.Ytdpdcjadedcglaa
namespace Go.Proofs.Ytdpdcjadedcglaa
open Go.RowKit Go.Sort
attribute [local go_sem ↓] run_max2 run_min2
attribute [local go_sem] eql_ints_nil eql_arrs_nil
/-- a result, with the capacities of its items' slices -/
def RetCC (w : World) (S : Nat → Prop) (a : Arr) (n : Int) (e : Ending) (w' : World) : Prop :=
  ∃ sa sc na nc ia ic, e = .returned (.tuple #[.agg #[.int .i64 a.kind, .slice sa a.shape.length sc, .slice na a.nums.length nc, .slice ia a.items.length ic], .int .i64 n]) ∧ ArrAt w' S a sa na ia ∧ Below w.heap.size w w' ∧ (a.shape.length ≤ sc ∧ a.nums.length ≤ nc ∧ a.items.length ≤ ic) ∧ CapsAt w' ia a.items
theorem RetCC.zero {w V : World} {S : Nat → Prop} {a : Arr} {n m : Int} (E : a = .zero) (E2 : n = m) (hb : Below w.heap.size w V) : RetCC w S a n (.returned (.tuple #[.agg #[.int .i64 0, .slice none 0 0, .slice none 0 0, .slice none 0 0], .int .i64 m])) V := by
  subst E; subst E2; exact ⟨none, 0, none, 0, none, 0, rfl, zero_at _ _ _ _ _, hb, ⟨Nat.le_refl _, Nat.le_refl _, Nat.le_refl _⟩, fun j hj => by simp [Arr.zero, Arr.items] at hj⟩
set_option maxRecDepth 100000 in
set_option maxHeartbeats 8000000 in
theorem copying_CutK (x : Arr) (sx : Option Addr) (cx : Nat) (nx : Option Addr) (mx : Nat) (ix : Option Addr) (jx : Nat) (y : Arr) (sy : Option Addr) (cy : Nat) (ny : Option Addr) (my : Nat) (iy : Option Addr) (jy : Nat) (S : Nat → Prop) (w : World) (h : ArrAt w S x sx nx ix) (g : ArrAt w S y sy ny iy) (hcx : x.shape.length ≤ cx ∧ x.nums.length ≤ mx ∧ x.items.length ≤ jx) (hcy : y.shape.length ≤ cy ∧ y.nums.length ≤ my ∧ y.items.length ≤ jy) :
    Calls Try.prog 18 #[.agg #[.int .i64 x.kind, .slice sx x.shape.length cx, .slice nx x.nums.length mx, .slice ix x.items.length jx], .agg #[.int .i64 y.kind, .slice sy y.shape.length cy, .slice ny y.nums.length my, .slice iy y.items.length jy]] w (RetCC w (fun b => S b ∨ w.heap.size ≤ b) (cutS x y) (cutE x y)) := by
  refine calls_post fun R' hR => ?_
  have h0 := hid h
  have g0 := hid g
  replace hcx := hid hcx
  replace hcy := hid hcy
  clear h g
  go_enter Try.func18, Try.ntmps18
  go_upto_region 1 with (fail)
  generalize hEW : (((w).alloc (.cells #[.int .i64 x.kind, .slice sx x.shape.length cx, .slice nx x.nums.length mx, .slice ix x.items.length jx] 27)).alloc (.cells #[.int .i64 y.kind, .slice sy y.shape.length cy, .slice ny y.nums.length my, .slice iy y.items.length jy] 27)).alloc (.cells #[.int .i64 0, .slice none 0 0, .slice none 0 0, .slice none 0 0] 27) = W
  have E := hid (env3 w S hEW)
  clear hEW
  replace E := hid ((E.out.arg h0.out).arg g0.out)
  (try simp only [List.cons_append, List.nil_append, List.set_cons_zero, List.set_cons_succ] at E)
  obtain ⟨q00, q01, q02, q03⟩ := (E.out.hdr 0 rfl).all
  obtain ⟨q10, q11, q12, q13⟩ := (E.out.hdr 1 rfl).all
  go_wp2_with fail
  clear q00 q01 q02 q03 q10 q11 q12 q13
  refine (copying_check x _ _ _ _ _ _ y _ _ _ _ _ _ _ _ (E.out.arr 3 rfl) (E.out.arr 4 rfl)).mono ?_
  rintro e w1 ⟨rfl, hb⟩
  replace E := hid (E.out.up hb)
  clear hb
  by_cases c : chkE26 x y = 0
  case neg =>
    have cb : (chkE26 x y != 0) = true := by simpa using c
    have hn := hid (cutE_c c)
    have hv := hid (cutS_no (x := x) (y := y) (by rw [hn.out]; exact c))
    replace c := hid c
    go_wp2_with (refine wpl_store4 rfl (.tmp 4) (.tmp 20) rfl _ rfl rfl (E.out.hdr 2 rfl) ?_; intro V HV CV; replace E := hid (E.out.chg 2 rfl CV HV))
    exact bodyPost_ret (end_arr2 rfl HV rfl rfl) rfl (hR.out _ _ (RetCC.zero hv.out hn.out E.out.ext))
  have cb : (chkE26 x y != 0) = false := by simpa using c
  have K := chk26_ok c
  have hs := (right_ok K.ry).2.1
  have ht := tal_nn hs
  have ht6 := tal_le hs
  have hx6 := (right_l3 K.rx)
  replace K := hid K
  replace c := hid c
  obtain ⟨q10, q11, q12, q13⟩ := (E.out.hdr 1 rfl).all
  go_wp2_with fail
  clear q10 q11 q12 q13
  refine (copying_split y _ _ _ _ _ _ _ _ (E.out.arr 4 rfl) hs hcy.out.1).mono ?_
  rintro e w2 ⟨so, sc, rfl, hI, hb⟩
  replace E := hid ((E.out.up hb).addInts hI (fun _ _ h => h))
  clear hI hb
  (try simp only [List.cons_append, List.nil_append, List.set_cons_zero, List.set_cons_succ] at E)
  rw [← ht]
  replace ht := hid ht
  obtain ⟨t, htt⟩ : ∃ t, t = talM y := ⟨_, rfl⟩
  rw [← htt] at ht6 ⊢
  replace htt := hid htt
  by_cases o : x.nums.length = t
  case neg =>
    have ob : ((x.nums.length : Int) != (t : Int)) = true := by simp; omega
    have hn := hid (cutE_l c.out (by rw [← htt.out]; exact o))
    have hv := hid (cutS_no (x := x) (y := y) (by rw [hn.out]; decide))
    replace o := hid o
    obtain ⟨q00, q01, q02, q03⟩ := (E.out.hdr 0 rfl).all
    go_wp2_with (refine wpl_store4 rfl (.tmp 4) (.tmp 34) rfl _ rfl rfl (E.out.hdr 2 rfl) ?_; intro V HV CV; replace E := hid (E.out.chg 2 rfl CV HV))
    exact bodyPost_ret (end_arr2 rfl HV rfl rfl) rfl (hR.out _ _ (RetCC.zero hv.out hn.out E.out.ext))
  have ob : ((x.nums.length : Int) != (t : Int)) = false := by simp; omega
  have o' := hid (show x.nums.length = talM y by rw [← htt.out]; exact o)
  replace o := hid o
  obtain ⟨q00, q01, q02, q03⟩ := (E.out.hdr 0 rfl).all
  go_wp2_with fail
  clear q00 q01 q02 q03
  refine (slices_ContainsFunc_copying_unbinary (fun n => !bitB n) x.nums _ _ _ _ (E.out.arr 3 rfl).nums (fun n => copying_unbinary n _)).mono ?_
  rintro e w3 ⟨rfl, rfl⟩
  rw [any_not]
  by_cases d : x.nums.all bitB = false
  case pos =>
    rw [d]
    have hn := hid (cutE_b c.out o'.out d)
    have hv := hid (cutS_no (x := x) (y := y) (by rw [hn.out]; decide))
    replace d := hid d
    go_wp2_with (refine wpl_store4 rfl (.tmp 4) (.tmp 39) rfl _ rfl rfl (E.out.hdr 2 rfl) ?_; intro V HV CV; replace E := hid (E.out.chg 2 rfl CV HV))
    exact bodyPost_ret (end_arr2 rfl HV rfl rfl) rfl (hR.out _ _ (RetCC.zero hv.out hn.out E.out.ext))
  have hbits : x.nums.all bitB = true := by simpa using d
  rw [hbits]
  have S1 := hid (fun q => cutE_r c.out o'.out hbits q)
  have S0 := hid (fun q => cutE_0 c.out o'.out hbits q)
  replace hbits := hid hbits
  replace d := hid d
  go_upto_region 10 with (refine wpl_store4 rfl (.tmp 10) (.tmp 40) rfl _ rfl rfl ((E.out.alloc _).hdr 6 rfl) ?_; intro V3 HV CV; replace E := hid ((E.out.alloc _).chg 6 rfl CV HV); clear CV HV; (try simp only [List.cons_append, List.nil_append, List.set_cons_zero, List.set_cons_succ] at E))
  generalize w2.heap.size = bo at E ⊢
  replace E := hid E.out.row0AC
  (try simp only [List.cons_append, List.nil_append, List.set_cons_zero, List.set_cons_succ] at E)
  replace E := hid (E.out.pick 7 rfl)
  simp only [List.eraseIdx_cons_succ, List.eraseIdx_cons_zero] at E
  replace E := hid (E.out.pick 7 rfl)
  simp only [List.eraseIdx_cons_succ, List.eraseIdx_cons_zero] at E
  go_upto_region 11 with (fail)
  go_loopw [11, 12, 13, 14] (fun v u1 u2 u3 wr => ∃ (i : Nat) (ia : Option Addr) (ic : Nat), i ≤ t ∧ v = .int .i64 i ∧ Hid (cuts x.nums i = [] ∨ i = t ∨ numF x.nums i ≠ 0) ∧ Env w S wr [.obj bo (.cells #[.int .i64 3, .slice none 0 0, .slice none 0 0, .slice ia ((cuts x.nums i).map (grpA y)).length ic] 27 (0, 0)), Go.Proofs.Ytdpdcjadedcglaa.rowAC ia ic ((cuts x.nums i).map (grpA y)), .obj w.heap.size (.cells #[.int .i64 x.kind, .slice sx x.shape.length cx, .slice nx x.nums.length mx, .slice ix x.items.length jx] 27 (0, 0)), .obj (w.heap.size + 1) (.cells #[.int .i64 y.kind, .slice sy y.shape.length cy, .slice ny y.nums.length my, .slice iy y.items.length jy] 27 (0, 0)), .obj (w.heap.size + 1 + 1) (.cells #[.int .i64 0, .slice none 0 0, .slice none 0 0, .slice none 0 0] 27 (0, 0)), .arr x sx nx ix, .arr y sy ny iy, .ints (celL y) so]) (fun v _ _ _ _ => t - (intOf v).toNat)
  case atStart => exact ⟨0, none, 0, Nat.zero_le _, rfl, hid (Or.inl rfl), E.out⟩
  case round =>
    clear E
    obtain ⟨i, ia, ic, hi, rfl, hst, E⟩ := hrel
    replace E := hid E
    by_cases hlt : i < t
    · have hltx : i < x.nums.length := by rw [o.out]; exact hlt
      obtain ⟨b1, o1, hnx, hbl, hS1, hc1⟩ := (E.out.arr 5 rfl).nums.at hltx
      have t0 : (0 : Int) ≤ (i : Int) := by omega
      have t1 : (i : Int) < (x.nums.length : Int) := by omega
      by_cases d0 : numF x.nums i = 0
      case pos =>
        have hcd : x.nums.getD i 0 = 0 := d0
        rw [hcd] at hc1
        have hnil : Hid (cuts x.nums (i + 1) = [] ∧ cuts x.nums i = []) := hid (by
          have : cuts x.nums i = [] := by rcases hst.out with q | q | q; exact q; omega; exact absurd d0 q
          exact ⟨cuts_zero d0 this, this⟩)
        replace d0 := hid d0
        replace hcd := hid hcd
        subst hnx
        obtain ⟨q20, q21, q22, q23⟩ := (E.out.hdr 2 rfl).all
        go_wp2_with fail
        clear q20 q21 q22 q23
        go_roundw
        case rel => exact ⟨i + 1, ia, ic, by omega, by go_num, hid (Or.inl hnil.out.1), by rw [hnil.out.1]; have q := E.out; rw [hnil.out.2] at q; exact q⟩
        case measure => simp [intOf]; omega
      case neg =>
        have hcd : x.nums.getD i 0 ≠ 0 := d0
        have d0' := hid d0
        generalize x.nums.getD i 0 = d at hc1 hcd
        have db : (d == 0) = false := by simpa using hcd
        replace hcd := hid hcd
        replace d0 := hid d0
        obtain ⟨G, hG⟩ : ∃ G, G = (cuts x.nums i).map (grpA y) := ⟨_, rfl⟩
        rw [← hG] at E
        replace hG := hid hG
        subst hnx
        obtain ⟨q20, q21, q22, q23⟩ := (E.out.hdr 2 rfl).all
        go_upto_region 15 with (fail)
        clear q20 q21 q22 q23
        clear hc1 t0 t1
        go_loopw [12] (fun v wr2 => ∃ m : Nat, i + m + 1 ≤ t ∧ v = .int .i64 ((i + m + 1 : Nat) : Int) ∧ Hid (∀ j, i < j → j < i + m + 1 → numF x.nums j = 0) ∧ Env w S wr2 [.obj bo (.cells #[.int .i64 3, .slice none 0 0, .slice none 0 0, .slice ia (G).length ic] 27 (0, 0)), Go.Proofs.Ytdpdcjadedcglaa.rowAC ia ic (G), .obj w.heap.size (.cells #[.int .i64 x.kind, .slice sx x.shape.length cx, .slice (some ⟨b1, o1, none⟩) x.nums.length mx, .slice ix x.items.length jx] 27 (0, 0)), .obj (w.heap.size + 1) (.cells #[.int .i64 y.kind, .slice sy y.shape.length cy, .slice ny y.nums.length my, .slice iy y.items.length jy] 27 (0, 0)), .obj (w.heap.size + 1 + 1) (.cells #[.int .i64 0, .slice none 0 0, .slice none 0 0, .slice none 0 0] 27 (0, 0)), .arr x sx (some ⟨b1, o1, none⟩) ix, .arr y sy ny iy, .ints (celL y) so]) (fun v _ => t - (intOf v).toNat)
        case atStart => exact ⟨0, by omega, by rfl, hid (fun j h1 h2 => by omega), E.out⟩
        case round =>
          clear E
          obtain ⟨m, hm, rfl, hz, E⟩ := hrel
          replace E := hid E
          obtain ⟨e, he⟩ : ∃ e, e = i + m + 1 := ⟨_, rfl⟩
          rw [← he] at hm hz ⊢
          by_cases hcont : e < t ∧ numF x.nums e = 0
          case pos =>
            obtain ⟨h1, h2⟩ := hcont
            have hex : e < x.nums.length := by rw [o.out]; exact h1
            obtain ⟨b2, o2, hnx, hbl, hS1, hc1⟩ := (E.out.arr 5 rfl).nums.at hex
            injection hnx with hnx
            injection hnx with q1 q2
            subst q1
            subst q2
            have hcd : x.nums.getD e 0 = 0 := h2
            rw [hcd] at hc1
            have t0 : (0 : Int) ≤ (e : Int) := by omega
            have t1 : (e : Int) < (x.nums.length : Int) := by omega
            have t2 : (e : Int) < (t : Int) := by omega
            have hz2 : Hid (∀ j, i < j → j < e + 1 → numF x.nums j = 0) := hid (fun j g1 g2 => by
              rcases Nat.lt_succ_iff_lt_or_eq.1 g2 with g3 | g3
              · exact hz.out j g1 g3
              · rw [g3]; exact h2)
            replace h2 := hid h2
            replace hcd := hid hcd
            replace he := hid he
            obtain ⟨q20, q21, q22, q23⟩ := (E.out.hdr 2 rfl).all
            go_wp2_with fail
            clear q20 q21 q22 q23
            go_roundw
            case rel => exact ⟨m + 1, by have := he.out; omega, by rw [show i + (m + 1) + 1 = e + 1 by have := he.out; omega]; go_num, by rw [show i + (m + 1) + 1 = e + 1 by have := he.out; omega]; exact hz2, E.out⟩
            case measure => simp [intOf]; omega
          case neg =>
            have hgrow : Hid (cuts x.nums e = cuts x.nums i ++ [(i, m + 1)]) := hid (by rw [he]; exact cuts_grow d0'.out (by rw [← he]; exact hz.out))
            have hnst : Hid (cuts x.nums e = [] ∨ e = t ∨ numF x.nums e ≠ 0) := hid (by
              rcases Nat.lt_or_ge e t with q | q
              · exact Or.inr (Or.inr fun q2 => hcont ⟨q, q2⟩)
              · exact Or.inr (Or.inl (by omega)))
            obtain ⟨M, hM⟩ : ∃ M, M = m + 1 := ⟨_, rfl⟩
            have heM : e = i + M := by omega
            rw [← hM] at hgrow
            by_cases het : e < t
            case pos =>
              have hex : e < x.nums.length := by rw [o.out]; exact het
              obtain ⟨b2, o2, hnx, hbl, hS1, hc1⟩ := (E.out.arr 5 rfl).nums.at hex
              injection hnx with hnx
              injection hnx with q1 q2
              subst q1
              subst q2
              have hcd : x.nums.getD e 0 ≠ 0 := fun q => hcont ⟨het, q⟩
              generalize x.nums.getD e 0 = d2 at hc1 hcd
              have db2 : (d2 == 0) = false := by simpa using hcd
              have t0 : (0 : Int) ≤ (e : Int) := by omega
              have t1 : (e : Int) < (x.nums.length : Int) := by omega
              have t2 : (e : Int) < (t : Int) := by omega
              clear hcont
              replace hcd := hid hcd
              replace heM := hid heM
              replace hM := hid hM
              replace he := hid he
              obtain ⟨q20, q21, q22, q23⟩ := (E.out.hdr 2 rfl).all
              go_upto_region 17 with (fail)
              clear q20 q21 q22 q23
              clear hc1 t0 t1 t2
              obtain ⟨s, hsx⟩ : ∃ s, s = [(M : Int)] ++ celL y := ⟨_, rfl⟩
              have hcl8 : (celL y).length ≤ 8 := (shapeB_iff.1 (celL_ok hs)).1
              have sl9 : s.length ≤ 9 := by rw [hsx, List.length_append]; simp only [List.length_cons, List.length_nil]; omega
              replace hsx := hid hsx
              have hwr : IntKind.i64.wrap ((e : Int) - (i : Int)) = (M : Int) := by rw [show (e : Int) - (i : Int) = (M : Int) by have := heM.out; omega]; exact IntWalk.i64_in _ (by have := heM.out; omega)
              obtain ⟨q30, q31, q32, q33⟩ := (E.out.hdr 3 rfl).all
              refine wp_region_mono_tail 11 (Sees wr [(⟨(w.heap.size+1), 0, none⟩, .int .i64 y.kind), (⟨(w.heap.size+1), 1, none⟩, .slice sy y.shape.length cy), (⟨(w.heap.size+1), 2, none⟩, .slice ny y.nums.length my), (⟨(w.heap.size+1), 3, none⟩, .slice iy y.items.length jy)]) [5, 7, 8, 10] (fun k v u u' => match k with | 5 => v = .slice (some ⟨u.heap.size, 0, none⟩) 1 1 ∧ u' = u.alloc (.cells (([(M : Int)] : List Int).map (Value.int .i64)).toArray 3) | 7 => ∃ g, v = .slice (some ⟨u.heap.size, 0, none⟩) 2 2 ∧ u' = u.alloc (.cells #[.slice (some ⟨g, 0, none⟩) 1 1, .slice so (celL y).length sc] 24) ∧ IntsAt u (fun _ => True) (some ⟨g, 0, none⟩) [(M : Int)] | 8 => ∃ oa oc, v = .slice oa s.length oc ∧ OwnI u' u.heap.size oa oc s | 10 => v = .pointer (some ⟨u.heap.size, 0, none⟩) ∧ u' = u.alloc (.cells #[.int .i64 0, .slice none 0 0, .slice none 0 0, .slice none 0 0] 27) | _ => False) (fun _ _ h e => h.up e) (Sees.start (all_cons ((E.out.hdr 3 rfl).c0) (all_cons ((E.out.hdr 3 rfl).c1) (all_cons ((E.out.hdr 3 rfl).c2) (all_cons ((E.out.hdr 3 rfl).c3) (all_nil)))))) (by kernel_rfl) (by kernel_rfl) ?_
              simp only [List.take_succ_cons, List.take_zero, List.drop_succ_cons, List.drop_zero]
              repeat (first | (refine m_plain (v := ?_) (by rfl) (by rfl) ?_ ?_; rotate_left; (intro wz hSw; obtain ⟨-, hSc⟩ := hSw; (try simp only [List.forall_mem_cons, List.forall_mem_nil, and_true] at hSc); go_simp; (first | done | with_reducible rfl)); (intro K hK; (try simp only [Act.put, List.setIfInBounds_toArray, List.set_cons_zero, List.set_cons_succ]); refine hK _ _ ?_; clear hK K)) | (refine m_skip (by rfl) (by rfl) ?_; (intro K hK; (try simp only [Act.put, List.setIfInBounds_toArray, List.set_cons_zero, List.set_cons_succ]); refine hK _ _ ?_; clear hK K)))
              refine m_make (by rfl) (by rfl) ?_ ?_
              · intro wz hSw hdep R hRz
                obtain ⟨hSe, hSc⟩ := hSw
                (try simp only [List.forall_mem_cons, List.forall_mem_nil, and_true] at hSc)
                unfold does
                (go_simp; exact hRz.out _ _ ⟨ext_alloc _ _, rfl, rfl⟩)
              intro v5 u5 x5 hG5 K hK
              have hF5 := hG5.fact
              (try dsimp only at hF5)
              obtain ⟨rfl, rfl⟩ := hF5
              (try simp only [Act.put, List.setIfInBounds_toArray, List.set_cons_zero, List.set_cons_succ]); refine hK _ _ ?_; clear hK K
              repeat (first | (refine m_plain (v := ?_) (by rfl) (by rfl) ?_ ?_; rotate_left; (intro wz hSw; obtain ⟨-, hSc⟩ := hSw; (try simp only [List.forall_mem_cons, List.forall_mem_nil, and_true] at hSc); go_simp; (first | done | with_reducible rfl)); (intro K hK; (try simp only [Act.put, List.setIfInBounds_toArray, List.set_cons_zero, List.set_cons_succ]); refine hK _ _ ?_; clear hK K)) | (refine m_skip (by rfl) (by rfl) ?_; (intro K hK; (try simp only [Act.put, List.setIfInBounds_toArray, List.set_cons_zero, List.set_cons_succ]); refine hK _ _ ?_; clear hK K)))
              refine m_make (by rfl) (by rfl) ?_ ?_
              · intro wz hSw hdep R hRz
                obtain ⟨hSe, hSc⟩ := hSw
                (try simp only [List.forall_mem_cons, List.forall_mem_nil, and_true] at hSc)
                unfold does
                (go_simp; exact hRz.out _ _ ⟨ext_alloc _ _, _, rfl, rfl, (lit_at (hdep 5 _ rfl (depB_sound (f := 4) (by kernel_rfl))) (by simp)).mono (fun _ _ _ => trivial)⟩)
              intro v7 u7 x7 hG7 K hK
              have hF7 := hG7.fact
              (try dsimp only at hF7)
              obtain ⟨g7, rfl, rfl, hI7⟩ := hF7
              (try simp only [Act.put, List.setIfInBounds_toArray, List.set_cons_zero, List.set_cons_succ]); refine hK _ _ ?_; clear hK K
              repeat (first | (refine m_plain (v := ?_) (by rfl) (by rfl) ?_ ?_; rotate_left; (intro wz hSw; obtain ⟨-, hSc⟩ := hSw; (try simp only [List.forall_mem_cons, List.forall_mem_nil, and_true] at hSc); go_simp; (first | done | with_reducible rfl)); (intro K hK; (try simp only [Act.put, List.setIfInBounds_toArray, List.set_cons_zero, List.set_cons_succ]); refine hK _ _ ?_; clear hK K)) | (refine m_skip (by rfl) (by rfl) ?_; (intro K hK; (try simp only [Act.put, List.setIfInBounds_toArray, List.set_cons_zero, List.set_cons_succ]); refine hK _ _ ?_; clear hK K)))
              refine m_make (by rfl) (by rfl) ?_ ?_
              · intro wz hSw hdep R hRz
                obtain ⟨hSe, hSc⟩ := hSw
                (try simp only [List.forall_mem_cons, List.forall_mem_nil, and_true] at hSc)
                unfold does
                (go_simp; refine Calls.mono (slices_Concat2 [(M : Int)] (celL y) _ _ _ _ _ (fun _ => True) wz (hI7.up ((ext_alloc _ _).trans (hdep 7 _ rfl (depB_sound (f := 4) (by kernel_rfl))))) (((E.out.ints 7 rfl).mono (fun _ _ _ => trivial)).up hSe) (row2 (made_blk (hdep 7 _ rfl (depB_sound (f := 4) (by kernel_rfl))))).1 (row2 (made_blk (hdep 7 _ rfl (depB_sound (f := 4) (by kernel_rfl))))).2 (by simp only [List.length_cons, List.length_nil]; omega)) ?_; rw [← hsx.out]; rintro e' wq ⟨oa, oc, rfl, hO, hb⟩; exact ⟨_, rfl, hRz.out _ _ ⟨hb, oa, oc, rfl, hO⟩⟩)
              intro v8 u8 x8 hG8 K hK
              have hF8 := hG8.fact
              (try dsimp only at hF8)
              obtain ⟨oa, oc, rfl, hO⟩ := hF8
              (try simp only [Act.put, List.setIfInBounds_toArray, List.set_cons_zero, List.set_cons_succ]); refine hK _ _ ?_; clear hK K
              repeat (first | (refine m_plain (v := ?_) (by rfl) (by rfl) ?_ ?_; rotate_left; (intro wz hSw; obtain ⟨-, hSc⟩ := hSw; (try simp only [List.forall_mem_cons, List.forall_mem_nil, and_true] at hSc); go_simp; (first | done | with_reducible rfl)); (intro K hK; (try simp only [Act.put, List.setIfInBounds_toArray, List.set_cons_zero, List.set_cons_succ]); refine hK _ _ ?_; clear hK K)) | (refine m_skip (by rfl) (by rfl) ?_; (intro K hK; (try simp only [Act.put, List.setIfInBounds_toArray, List.set_cons_zero, List.set_cons_succ]); refine hK _ _ ?_; clear hK K)))
              refine m_make (by rfl) (by rfl) ?_ ?_
              · intro wz hSw hdep R hRz
                obtain ⟨hSe, hSc⟩ := hSw
                (try simp only [List.forall_mem_cons, List.forall_mem_nil, and_true] at hSc)
                unfold does
                (go_simp; exact hRz.out _ _ ⟨ext_alloc _ _, rfl, rfl⟩)
              intro v10 u10 x10 hG10 K hK
              have hF10 := hG10.fact
              (try dsimp only at hF10)
              obtain ⟨rfl, rfl⟩ := hF10
              (try simp only [Act.put, List.setIfInBounds_toArray, List.set_cons_zero, List.set_cons_succ]); refine hK _ _ ?_; clear hK K
              repeat (first | (refine m_plain (v := ?_) (by rfl) (by rfl) ?_ ?_; rotate_left; (intro wz hSw; obtain ⟨-, hSc⟩ := hSw; (try simp only [List.forall_mem_cons, List.forall_mem_nil, and_true] at hSc); go_simp; (first | done | with_reducible rfl)); (intro K hK; (try simp only [Act.put, List.setIfInBounds_toArray, List.set_cons_zero, List.set_cons_succ]); refine hK _ _ ?_; clear hK K)) | (refine m_skip (by rfl) (by rfl) ?_; (intro K hK; (try simp only [Act.put, List.setIfInBounds_toArray, List.set_cons_zero, List.set_cons_succ]); refine hK _ _ ?_; clear hK K)))
              refine m_nil ?_
              intro wf hSf hAf
              have hcap := hid hO.cap
              replace E := hid (E.out.madeI ((hO.ints (by omega)).mono fun b _ hb => hb.1) (hAf 8 _ rfl) (hG10.order 8 _ rfl) hG8.s.1 hG10.s.1 (hAf 10 _ rfl) hSf.1)
              clear hSf hAf hG5 hG7 hG8 hG10 hO hI7 hwr
              clear q30 q31 q32 q33
              (try simp only [List.cons_append, List.nil_append, List.set_cons_zero, List.set_cons_succ] at E)
              generalize u10.heap.size = bg at E ⊢
              refine wpl_store4 (by rfl) (.tmp 13) (.tmp 76) (by rfl) _ (by rfl) (by rfl) (E.out.hdr 8 rfl) ?_
              intro V4 HV CV
              replace E := hid (E.out.chg 8 rfl CV HV)
              clear HV CV
              (try simp only [List.cons_append, List.nil_append, List.set_cons_zero, List.set_cons_succ] at E)
              obtain ⟨q30, q31, q32, q33⟩ := (E.out.hdr 3 rfl).all
              go_wp2_with fail
              clear q30 q31 q32 q33
              refine (copying_collector bg y _ _ _ _ _ _ w S _ _ E.out (E.out.arr 6 rfl) hs hcy.out.1).mono ?_
              rintro e' w7 ⟨pn, py, pp, pf, sf, cf, nf, mf, jf, kf, rfl, E1⟩
              clear E
              have E := hid ((E1.row0I).row0A)
              clear E1
              (try simp only [List.cons_append, List.nil_append, List.set_cons_zero, List.set_cons_succ] at E)
              replace E := hid (E.out.pick 4 rfl)
              simp only [List.eraseIdx_cons_succ, List.eraseIdx_cons_zero] at E
              replace E := hid (E.out.pick 4 rfl)
              simp only [List.eraseIdx_cons_succ, List.eraseIdx_cons_zero] at E
              replace E := hid (E.out.pick 11 rfl)
              simp only [List.eraseIdx_cons_succ, List.eraseIdx_cons_zero] at E
              replace E := hid (E.out.pick 5 rfl)
              simp only [List.eraseIdx_cons_succ, List.eraseIdx_cons_zero] at E
              replace E := hid (E.out.pick 5 rfl)
              simp only [List.eraseIdx_cons_succ, List.eraseIdx_cons_zero] at E
              replace E := hid (E.out.pick 5 rfl)
              simp only [List.eraseIdx_cons_succ, List.eraseIdx_cons_zero] at E
              replace E := hid (E.out.pick 16 rfl)
              simp only [List.eraseIdx_cons_succ, List.eraseIdx_cons_zero] at E
              replace E := hid (E.out.pick 16 rfl)
              simp only [List.eraseIdx_cons_succ, List.eraseIdx_cons_zero] at E
              replace E := hid (E.out.pick 15 rfl)
              simp only [List.eraseIdx_cons_succ, List.eraseIdx_cons_zero] at E
              go_upto_region 19 with (fail)
              go_loopw [11] (fun v wr => ∃ (k : Nat) (na : Option Addr) (nc : Nat) (ja : Option Addr) (jc : Nat), k ≤ M ∧ v = .int .i64 ((i + k : Nat) : Int) ∧ Env w S wr [.obj bg (.cells #[.int .i64 y.kind, .slice oa s.length oc, .slice na (grL y.nums i (celN y) k).length nc, .slice ja (grL y.items i (celN y) k).length jc] 27 (0, 0)), .rowI na nc (grL y.nums i (celN y) k), .rowA ja jc (grL y.items i (celN y) k), .obj pn (.cells #[.int .i64 (celN y : Nat)] 3 (0, 0)), .obj py (.cells #[.int .i64 y.kind, .slice sy y.shape.length cy, .slice ny y.nums.length my, .slice iy y.items.length jy] 27 (0, 0)), .obj pp (.cells #[.pointer (some ⟨bg, 0, none⟩)] 53 (0, 0)), .arr y sy ny iy, .obj pf (.cells #[.int .i64 (fillS y).kind, .slice sf (fillS y).shape.length cf, .slice nf (fillS y).nums.length mf, .slice jf (fillS y).items.length kf] 27 (0, 0)), .arr (fillS y) sf nf jf, .obj bo (.cells #[.int .i64 3, .slice none 0 0, .slice none 0 0, .slice ia G.length ic] 27 (0, 0)), Go.Proofs.Ytdpdcjadedcglaa.rowAC ia ic G, .obj w.heap.size (.cells #[.int .i64 x.kind, .slice sx x.shape.length cx, .slice (some ⟨b1, o1, none⟩) x.nums.length mx, .slice ix x.items.length jx] 27 (0, 0)), .obj (w.heap.size + 1) (.cells #[.int .i64 y.kind, .slice sy y.shape.length cy, .slice ny y.nums.length my, .slice iy y.items.length jy] 27 (0, 0)), .obj (w.heap.size + 1 + 1) (.cells #[.int .i64 0, .slice none 0 0, .slice none 0 0, .slice none 0 0] 27 (0, 0)), .arr x sx (some ⟨b1, o1, none⟩) ix, .ints (celL y) so, .ints s oa]) (fun v _ => e - (intOf v).toNat)
              case atStart => exact ⟨0, none, 0, none, 0, Nat.zero_le _, rfl, by rw [grL_0, grL_0]; exact E.out⟩
              case round =>
                clear E
                obtain ⟨k, na, nc, ja, jc, hkM, rfl, E⟩ := hrel
                replace E := hid E
                have hgn := grL_le y.nums i (celN y) k
                have hgi := grL_le y.items i (celN y) k
                have hy6 := right_l3 K.out.ry
                by_cases hlk : k < M
                case pos =>
                  have hot : i + k < talM y := by rw [← htt.out]; have := heM.out; omega
                  have hek : ((i + k : Nat) : Int) < (e : Int) := by have := heM.out; omega
                  obtain ⟨ik, hik⟩ : ∃ q, q = i + k := ⟨_, rfl⟩
                  rw [← hik] at hot hek ⊢
                  have hik2 : ik ≤ 65536 := by have := htt.out; omega
                  have g1 : Hid (grL y.nums i (celN y) (k + 1) = grL y.nums i (celN y) k ++ blkL y.nums ik (celN y)) := hid (by rw [grL_succ, hik])
                  have g2 : Hid (grL y.items i (celN y) (k + 1) = grL y.items i (celN y) k ++ blkL y.items ik (celN y)) := hid (by rw [grL_succ, hik])
                  replace hik := hid hik
                  go_wp2_with fail
                  refine (coll_add y.kind oa s.length oc na nc (grL y.nums i (celN y) k) ja jc (grL y.items i (celN y) k) y sy cy ny my iy jy bg pn py pp pf ik (celN y) w S _ _ E.out K.out.ry rfl hot (by omega) (by omega) hcy.out.2.1).mono ?_
                  rintro e' w9 ⟨na2, nc2, ja2, jc2, rfl, E1⟩
                  rw [← g1.out, ← g2.out] at E1
                  clear E
                  have E := hid E1
                  clear E1
                  go_wp2_with fail
                  go_roundw
                  case rel => exact ⟨k + 1, na2, nc2, ja2, jc2, by omega, by rw [show i + (k + 1) = ik + 1 by have := hik.out; omega]; go_num, E.out⟩
                  case measure => simp [intOf]; omega
                case neg =>
                  have hkM2 : k = M := by omega
                  have hek : ¬ ((i + k : Nat) : Int) < (e : Int) := by have := heM.out; omega
                  obtain ⟨ik, hik⟩ : ∃ q, q = i + k := ⟨_, rfl⟩
                  rw [← hik] at hek ⊢
                  have hGr : Hid ((cuts x.nums e).map (grpA y) = G ++ [.mk y.kind s (grL y.nums i (celN y) k) (grL y.items i (celN y) k)]) := hid (by rw [hgrow.out, List.map_append, ← hG.out]; congr 1; simp only [List.map_cons, List.map_nil]; rw [grpA_eq, hkM2, hsx.out]; rfl)
                  have hie : Hid (ik = e) := hid (by rw [hik, hkM2]; exact heM.out.symm)
                  replace hik := hid hik
                  replace hkM2 := hid hkM2
                  have hcn1 := OwnI.cap (E.out.rowI 1 rfl)
                  have hci1 := OwnA.cap (E.out.rowA 2 rfl)
                  replace E := hid (E.out.doneI 1 rfl (by omega))
                  (try simp only [List.cons_append, List.nil_append, List.set_cons_zero, List.set_cons_succ] at E)
                  replace E := hid (E.out.doneA 2 rfl)
                  (try simp only [List.cons_append, List.nil_append, List.set_cons_zero, List.set_cons_succ] at E)
                  obtain ⟨nn, hnn⟩ : ∃ q, q = grL y.nums i (celN y) k := ⟨_, rfl⟩
                  obtain ⟨ii, hii⟩ : ∃ q, q = grL y.items i (celN y) k := ⟨_, rfl⟩
                  rw [← hnn, ← hii] at E
                  rw [← hnn, ← hii] at hGr
                  rw [← hii] at hgi hci1
                  rw [← hnn] at hcn1
                  replace hcn1 := hid hcn1
                  replace hci1 := hid hci1
                  replace hnn := hid hnn
                  replace hii := hid hii
                  have hGl : G.length ≤ 65536 := by rw [hG.out, List.length_map]; have := cuts_len x.nums i; omega
                  have hll : G.length + [Arr.mk y.kind s nn ii].length ≤ 1759218604441 := by simp only [List.length_cons, List.length_nil]; omega
                  obtain ⟨q00, q01, q02, q03⟩ := (E.out.hdr 0 rfl).all
                  obtain ⟨q90, q91, q92, q93⟩ := (E.out.hdr 9 rfl).all
                  go_wp2_with (first
                    | (at_builtin; replace E := hid (E.out.up (ext_alloc _ (.cells #[.int .i64 y.kind, .slice oa s.length oc, .slice na nn.length nc, .slice ja ii.length jc] 27))); refine wplE_appAC E.out 10 rfl rfl (.tmp 88) (.tmp 90) rfl rfl _ (.mk y.kind s nn ii) oa na ja oc nc jc rfl (heap_alloc_new _ _) (ArrAt.iff.2 ⟨E.out.ints 16 rfl, E.out.ints 1 rfl, by show ii.length ≤ _; omega, E.out.items 2 rfl⟩) ⟨hcap.out, hcn1.out, hci1.out⟩ (by omega) ?_; intro V5 ia2 ic2 E1; clear E; have E := hid E1; clear E1; (try simp only [List.cons_append, List.nil_append, List.set_cons_zero, List.set_cons_succ] at E))
                    | (refine wpl_store3 rfl (.tmp 92) (.tmp 91) rfl bo rfl rfl (E.out.hdr 9 rfl) ?_; intro V HV CV; replace E := hid (E.out.chg 9 rfl CV HV); clear HV CV; (try simp only [List.cons_append, List.nil_append, List.set_cons_zero, List.set_cons_succ] at E)))
                  go_roundw
                  case rel =>
                    rw [hie.out]
                    rw [← hGr.out] at E
                    rw [show G.length + 1 = (cuts x.nums e).length by have q := congrArg List.length hGr.out; simpa using q.symm] at E
                    replace E := hid (E.out.pick 15 rfl)
                    simp only [List.eraseIdx_cons_succ, List.eraseIdx_cons_zero] at E
                    replace E := hid (E.out.pick 7 rfl)
                    simp only [List.eraseIdx_cons_succ, List.eraseIdx_cons_zero] at E
                    replace E := hid (E.out.pick 15 rfl)
                    simp only [List.eraseIdx_cons_succ, List.eraseIdx_cons_zero] at E
                    replace E := hid (E.out.pick 15 rfl)
                    simp only [List.eraseIdx_cons_succ, List.eraseIdx_cons_zero] at E
                    replace E := hid (E.out.pick 15 rfl)
                    simp only [List.eraseIdx_cons_succ, List.eraseIdx_cons_zero] at E
                    replace E := hid (E.out.pick 15 rfl)
                    simp only [List.eraseIdx_cons_succ, List.eraseIdx_cons_zero] at E
                    replace E := hid (E.out.pick 15 rfl)
                    simp only [List.eraseIdx_cons_succ, List.eraseIdx_cons_zero] at E
                    replace E := hid (E.out.pick 15 rfl)
                    simp only [List.eraseIdx_cons_succ, List.eraseIdx_cons_zero] at E
                    exact ⟨e, by omega, rfl, hnst, ia2, ic2, E.out.sub (List.Sublist.cons_cons _ (List.Sublist.cons_cons _ (List.Sublist.cons_cons _ (List.Sublist.cons_cons _ (List.Sublist.cons_cons _ (List.Sublist.cons_cons _ (List.Sublist.cons_cons _ (List.Sublist.cons_cons _ (List.nil_sublist _)))))))))⟩
                  case measure => have q1 := heM.out; have q2 := hM.out; have q3 := hie.out; simp [intOf]; omega
            case neg =>
              have t2 : ¬ (e : Int) < (t : Int) := by omega
              clear hcont
              replace heM := hid heM
              replace hM := hid hM
              replace he := hid he
              go_upto_region 17 with (fail)
              obtain ⟨s, hsx⟩ : ∃ s, s = [(M : Int)] ++ celL y := ⟨_, rfl⟩
              have hcl8 : (celL y).length ≤ 8 := (shapeB_iff.1 (celL_ok hs)).1
              have sl9 : s.length ≤ 9 := by rw [hsx, List.length_append]; simp only [List.length_cons, List.length_nil]; omega
              replace hsx := hid hsx
              have hwr : IntKind.i64.wrap ((e : Int) - (i : Int)) = (M : Int) := by rw [show (e : Int) - (i : Int) = (M : Int) by have := heM.out; omega]; exact IntWalk.i64_in _ (by have := heM.out; omega)
              obtain ⟨q30, q31, q32, q33⟩ := (E.out.hdr 3 rfl).all
              refine wp_region_mono_tail 11 (Sees wr [(⟨(w.heap.size+1), 0, none⟩, .int .i64 y.kind), (⟨(w.heap.size+1), 1, none⟩, .slice sy y.shape.length cy), (⟨(w.heap.size+1), 2, none⟩, .slice ny y.nums.length my), (⟨(w.heap.size+1), 3, none⟩, .slice iy y.items.length jy)]) [5, 7, 8, 10] (fun k v u u' => match k with | 5 => v = .slice (some ⟨u.heap.size, 0, none⟩) 1 1 ∧ u' = u.alloc (.cells (([(M : Int)] : List Int).map (Value.int .i64)).toArray 3) | 7 => ∃ g, v = .slice (some ⟨u.heap.size, 0, none⟩) 2 2 ∧ u' = u.alloc (.cells #[.slice (some ⟨g, 0, none⟩) 1 1, .slice so (celL y).length sc] 24) ∧ IntsAt u (fun _ => True) (some ⟨g, 0, none⟩) [(M : Int)] | 8 => ∃ oa oc, v = .slice oa s.length oc ∧ OwnI u' u.heap.size oa oc s | 10 => v = .pointer (some ⟨u.heap.size, 0, none⟩) ∧ u' = u.alloc (.cells #[.int .i64 0, .slice none 0 0, .slice none 0 0, .slice none 0 0] 27) | _ => False) (fun _ _ h e => h.up e) (Sees.start (all_cons ((E.out.hdr 3 rfl).c0) (all_cons ((E.out.hdr 3 rfl).c1) (all_cons ((E.out.hdr 3 rfl).c2) (all_cons ((E.out.hdr 3 rfl).c3) (all_nil)))))) (by kernel_rfl) (by kernel_rfl) ?_
              simp only [List.take_succ_cons, List.take_zero, List.drop_succ_cons, List.drop_zero]
              repeat (first | (refine m_plain (v := ?_) (by rfl) (by rfl) ?_ ?_; rotate_left; (intro wz hSw; obtain ⟨-, hSc⟩ := hSw; (try simp only [List.forall_mem_cons, List.forall_mem_nil, and_true] at hSc); go_simp; (first | done | with_reducible rfl)); (intro K hK; (try simp only [Act.put, List.setIfInBounds_toArray, List.set_cons_zero, List.set_cons_succ]); refine hK _ _ ?_; clear hK K)) | (refine m_skip (by rfl) (by rfl) ?_; (intro K hK; (try simp only [Act.put, List.setIfInBounds_toArray, List.set_cons_zero, List.set_cons_succ]); refine hK _ _ ?_; clear hK K)))
              refine m_make (by rfl) (by rfl) ?_ ?_
              · intro wz hSw hdep R hRz
                obtain ⟨hSe, hSc⟩ := hSw
                (try simp only [List.forall_mem_cons, List.forall_mem_nil, and_true] at hSc)
                unfold does
                (go_simp; exact hRz.out _ _ ⟨ext_alloc _ _, rfl, rfl⟩)
              intro v5 u5 x5 hG5 K hK
              have hF5 := hG5.fact
              (try dsimp only at hF5)
              obtain ⟨rfl, rfl⟩ := hF5
              (try simp only [Act.put, List.setIfInBounds_toArray, List.set_cons_zero, List.set_cons_succ]); refine hK _ _ ?_; clear hK K
              repeat (first | (refine m_plain (v := ?_) (by rfl) (by rfl) ?_ ?_; rotate_left; (intro wz hSw; obtain ⟨-, hSc⟩ := hSw; (try simp only [List.forall_mem_cons, List.forall_mem_nil, and_true] at hSc); go_simp; (first | done | with_reducible rfl)); (intro K hK; (try simp only [Act.put, List.setIfInBounds_toArray, List.set_cons_zero, List.set_cons_succ]); refine hK _ _ ?_; clear hK K)) | (refine m_skip (by rfl) (by rfl) ?_; (intro K hK; (try simp only [Act.put, List.setIfInBounds_toArray, List.set_cons_zero, List.set_cons_succ]); refine hK _ _ ?_; clear hK K)))
              refine m_make (by rfl) (by rfl) ?_ ?_
              · intro wz hSw hdep R hRz
                obtain ⟨hSe, hSc⟩ := hSw
                (try simp only [List.forall_mem_cons, List.forall_mem_nil, and_true] at hSc)
                unfold does
                (go_simp; exact hRz.out _ _ ⟨ext_alloc _ _, _, rfl, rfl, (lit_at (hdep 5 _ rfl (depB_sound (f := 4) (by kernel_rfl))) (by simp)).mono (fun _ _ _ => trivial)⟩)
              intro v7 u7 x7 hG7 K hK
              have hF7 := hG7.fact
              (try dsimp only at hF7)
              obtain ⟨g7, rfl, rfl, hI7⟩ := hF7
              (try simp only [Act.put, List.setIfInBounds_toArray, List.set_cons_zero, List.set_cons_succ]); refine hK _ _ ?_; clear hK K
              repeat (first | (refine m_plain (v := ?_) (by rfl) (by rfl) ?_ ?_; rotate_left; (intro wz hSw; obtain ⟨-, hSc⟩ := hSw; (try simp only [List.forall_mem_cons, List.forall_mem_nil, and_true] at hSc); go_simp; (first | done | with_reducible rfl)); (intro K hK; (try simp only [Act.put, List.setIfInBounds_toArray, List.set_cons_zero, List.set_cons_succ]); refine hK _ _ ?_; clear hK K)) | (refine m_skip (by rfl) (by rfl) ?_; (intro K hK; (try simp only [Act.put, List.setIfInBounds_toArray, List.set_cons_zero, List.set_cons_succ]); refine hK _ _ ?_; clear hK K)))
              refine m_make (by rfl) (by rfl) ?_ ?_
              · intro wz hSw hdep R hRz
                obtain ⟨hSe, hSc⟩ := hSw
                (try simp only [List.forall_mem_cons, List.forall_mem_nil, and_true] at hSc)
                unfold does
                (go_simp; refine Calls.mono (slices_Concat2 [(M : Int)] (celL y) _ _ _ _ _ (fun _ => True) wz (hI7.up ((ext_alloc _ _).trans (hdep 7 _ rfl (depB_sound (f := 4) (by kernel_rfl))))) (((E.out.ints 7 rfl).mono (fun _ _ _ => trivial)).up hSe) (row2 (made_blk (hdep 7 _ rfl (depB_sound (f := 4) (by kernel_rfl))))).1 (row2 (made_blk (hdep 7 _ rfl (depB_sound (f := 4) (by kernel_rfl))))).2 (by simp only [List.length_cons, List.length_nil]; omega)) ?_; rw [← hsx.out]; rintro e' wq ⟨oa, oc, rfl, hO, hb⟩; exact ⟨_, rfl, hRz.out _ _ ⟨hb, oa, oc, rfl, hO⟩⟩)
              intro v8 u8 x8 hG8 K hK
              have hF8 := hG8.fact
              (try dsimp only at hF8)
              obtain ⟨oa, oc, rfl, hO⟩ := hF8
              (try simp only [Act.put, List.setIfInBounds_toArray, List.set_cons_zero, List.set_cons_succ]); refine hK _ _ ?_; clear hK K
              repeat (first | (refine m_plain (v := ?_) (by rfl) (by rfl) ?_ ?_; rotate_left; (intro wz hSw; obtain ⟨-, hSc⟩ := hSw; (try simp only [List.forall_mem_cons, List.forall_mem_nil, and_true] at hSc); go_simp; (first | done | with_reducible rfl)); (intro K hK; (try simp only [Act.put, List.setIfInBounds_toArray, List.set_cons_zero, List.set_cons_succ]); refine hK _ _ ?_; clear hK K)) | (refine m_skip (by rfl) (by rfl) ?_; (intro K hK; (try simp only [Act.put, List.setIfInBounds_toArray, List.set_cons_zero, List.set_cons_succ]); refine hK _ _ ?_; clear hK K)))
              refine m_make (by rfl) (by rfl) ?_ ?_
              · intro wz hSw hdep R hRz
                obtain ⟨hSe, hSc⟩ := hSw
                (try simp only [List.forall_mem_cons, List.forall_mem_nil, and_true] at hSc)
                unfold does
                (go_simp; exact hRz.out _ _ ⟨ext_alloc _ _, rfl, rfl⟩)
              intro v10 u10 x10 hG10 K hK
              have hF10 := hG10.fact
              (try dsimp only at hF10)
              obtain ⟨rfl, rfl⟩ := hF10
              (try simp only [Act.put, List.setIfInBounds_toArray, List.set_cons_zero, List.set_cons_succ]); refine hK _ _ ?_; clear hK K
              repeat (first | (refine m_plain (v := ?_) (by rfl) (by rfl) ?_ ?_; rotate_left; (intro wz hSw; obtain ⟨-, hSc⟩ := hSw; (try simp only [List.forall_mem_cons, List.forall_mem_nil, and_true] at hSc); go_simp; (first | done | with_reducible rfl)); (intro K hK; (try simp only [Act.put, List.setIfInBounds_toArray, List.set_cons_zero, List.set_cons_succ]); refine hK _ _ ?_; clear hK K)) | (refine m_skip (by rfl) (by rfl) ?_; (intro K hK; (try simp only [Act.put, List.setIfInBounds_toArray, List.set_cons_zero, List.set_cons_succ]); refine hK _ _ ?_; clear hK K)))
              refine m_nil ?_
              intro wf hSf hAf
              have hcap := hid hO.cap
              replace E := hid (E.out.madeI ((hO.ints (by omega)).mono fun b _ hb => hb.1) (hAf 8 _ rfl) (hG10.order 8 _ rfl) hG8.s.1 hG10.s.1 (hAf 10 _ rfl) hSf.1)
              clear hSf hAf hG5 hG7 hG8 hG10 hO hI7 hwr
              clear q30 q31 q32 q33
              (try simp only [List.cons_append, List.nil_append, List.set_cons_zero, List.set_cons_succ] at E)
              generalize u10.heap.size = bg at E ⊢
              refine wpl_store4 (by rfl) (.tmp 13) (.tmp 76) (by rfl) _ (by rfl) (by rfl) (E.out.hdr 8 rfl) ?_
              intro V4 HV CV
              replace E := hid (E.out.chg 8 rfl CV HV)
              clear HV CV
              (try simp only [List.cons_append, List.nil_append, List.set_cons_zero, List.set_cons_succ] at E)
              obtain ⟨q30, q31, q32, q33⟩ := (E.out.hdr 3 rfl).all
              go_wp2_with fail
              clear q30 q31 q32 q33
              refine (copying_collector bg y _ _ _ _ _ _ w S _ _ E.out (E.out.arr 6 rfl) hs hcy.out.1).mono ?_
              rintro e' w7 ⟨pn, py, pp, pf, sf, cf, nf, mf, jf, kf, rfl, E1⟩
              clear E
              have E := hid ((E1.row0I).row0A)
              clear E1
              (try simp only [List.cons_append, List.nil_append, List.set_cons_zero, List.set_cons_succ] at E)
              replace E := hid (E.out.pick 4 rfl)
              simp only [List.eraseIdx_cons_succ, List.eraseIdx_cons_zero] at E
              replace E := hid (E.out.pick 4 rfl)
              simp only [List.eraseIdx_cons_succ, List.eraseIdx_cons_zero] at E
              replace E := hid (E.out.pick 11 rfl)
              simp only [List.eraseIdx_cons_succ, List.eraseIdx_cons_zero] at E
              replace E := hid (E.out.pick 5 rfl)
              simp only [List.eraseIdx_cons_succ, List.eraseIdx_cons_zero] at E
              replace E := hid (E.out.pick 5 rfl)
              simp only [List.eraseIdx_cons_succ, List.eraseIdx_cons_zero] at E
              replace E := hid (E.out.pick 5 rfl)
              simp only [List.eraseIdx_cons_succ, List.eraseIdx_cons_zero] at E
              replace E := hid (E.out.pick 16 rfl)
              simp only [List.eraseIdx_cons_succ, List.eraseIdx_cons_zero] at E
              replace E := hid (E.out.pick 16 rfl)
              simp only [List.eraseIdx_cons_succ, List.eraseIdx_cons_zero] at E
              replace E := hid (E.out.pick 15 rfl)
              simp only [List.eraseIdx_cons_succ, List.eraseIdx_cons_zero] at E
              go_upto_region 19 with (fail)
              go_loopw [11] (fun v wr => ∃ (k : Nat) (na : Option Addr) (nc : Nat) (ja : Option Addr) (jc : Nat), k ≤ M ∧ v = .int .i64 ((i + k : Nat) : Int) ∧ Env w S wr [.obj bg (.cells #[.int .i64 y.kind, .slice oa s.length oc, .slice na (grL y.nums i (celN y) k).length nc, .slice ja (grL y.items i (celN y) k).length jc] 27 (0, 0)), .rowI na nc (grL y.nums i (celN y) k), .rowA ja jc (grL y.items i (celN y) k), .obj pn (.cells #[.int .i64 (celN y : Nat)] 3 (0, 0)), .obj py (.cells #[.int .i64 y.kind, .slice sy y.shape.length cy, .slice ny y.nums.length my, .slice iy y.items.length jy] 27 (0, 0)), .obj pp (.cells #[.pointer (some ⟨bg, 0, none⟩)] 53 (0, 0)), .arr y sy ny iy, .obj pf (.cells #[.int .i64 (fillS y).kind, .slice sf (fillS y).shape.length cf, .slice nf (fillS y).nums.length mf, .slice jf (fillS y).items.length kf] 27 (0, 0)), .arr (fillS y) sf nf jf, .obj bo (.cells #[.int .i64 3, .slice none 0 0, .slice none 0 0, .slice ia G.length ic] 27 (0, 0)), Go.Proofs.Ytdpdcjadedcglaa.rowAC ia ic G, .obj w.heap.size (.cells #[.int .i64 x.kind, .slice sx x.shape.length cx, .slice (some ⟨b1, o1, none⟩) x.nums.length mx, .slice ix x.items.length jx] 27 (0, 0)), .obj (w.heap.size + 1) (.cells #[.int .i64 y.kind, .slice sy y.shape.length cy, .slice ny y.nums.length my, .slice iy y.items.length jy] 27 (0, 0)), .obj (w.heap.size + 1 + 1) (.cells #[.int .i64 0, .slice none 0 0, .slice none 0 0, .slice none 0 0] 27 (0, 0)), .arr x sx (some ⟨b1, o1, none⟩) ix, .ints (celL y) so, .ints s oa]) (fun v _ => e - (intOf v).toNat)
              case atStart => exact ⟨0, none, 0, none, 0, Nat.zero_le _, rfl, by rw [grL_0, grL_0]; exact E.out⟩
              case round =>
                clear E
                obtain ⟨k, na, nc, ja, jc, hkM, rfl, E⟩ := hrel
                replace E := hid E
                have hgn := grL_le y.nums i (celN y) k
                have hgi := grL_le y.items i (celN y) k
                have hy6 := right_l3 K.out.ry
                by_cases hlk : k < M
                case pos =>
                  have hot : i + k < talM y := by rw [← htt.out]; have := heM.out; omega
                  have hek : ((i + k : Nat) : Int) < (e : Int) := by have := heM.out; omega
                  obtain ⟨ik, hik⟩ : ∃ q, q = i + k := ⟨_, rfl⟩
                  rw [← hik] at hot hek ⊢
                  have hik2 : ik ≤ 65536 := by have := htt.out; omega
                  have g1 : Hid (grL y.nums i (celN y) (k + 1) = grL y.nums i (celN y) k ++ blkL y.nums ik (celN y)) := hid (by rw [grL_succ, hik])
                  have g2 : Hid (grL y.items i (celN y) (k + 1) = grL y.items i (celN y) k ++ blkL y.items ik (celN y)) := hid (by rw [grL_succ, hik])
                  replace hik := hid hik
                  go_wp2_with fail
                  refine (coll_add y.kind oa s.length oc na nc (grL y.nums i (celN y) k) ja jc (grL y.items i (celN y) k) y sy cy ny my iy jy bg pn py pp pf ik (celN y) w S _ _ E.out K.out.ry rfl hot (by omega) (by omega) hcy.out.2.1).mono ?_
                  rintro e' w9 ⟨na2, nc2, ja2, jc2, rfl, E1⟩
                  rw [← g1.out, ← g2.out] at E1
                  clear E
                  have E := hid E1
                  clear E1
                  go_wp2_with fail
                  go_roundw
                  case rel => exact ⟨k + 1, na2, nc2, ja2, jc2, by omega, by rw [show i + (k + 1) = ik + 1 by have := hik.out; omega]; go_num, E.out⟩
                  case measure => simp [intOf]; omega
                case neg =>
                  have hkM2 : k = M := by omega
                  have hek : ¬ ((i + k : Nat) : Int) < (e : Int) := by have := heM.out; omega
                  obtain ⟨ik, hik⟩ : ∃ q, q = i + k := ⟨_, rfl⟩
                  rw [← hik] at hek ⊢
                  have hGr : Hid ((cuts x.nums e).map (grpA y) = G ++ [.mk y.kind s (grL y.nums i (celN y) k) (grL y.items i (celN y) k)]) := hid (by rw [hgrow.out, List.map_append, ← hG.out]; congr 1; simp only [List.map_cons, List.map_nil]; rw [grpA_eq, hkM2, hsx.out]; rfl)
                  have hie : Hid (ik = e) := hid (by rw [hik, hkM2]; exact heM.out.symm)
                  replace hik := hid hik
                  replace hkM2 := hid hkM2
                  have hcn1 := OwnI.cap (E.out.rowI 1 rfl)
                  have hci1 := OwnA.cap (E.out.rowA 2 rfl)
                  replace E := hid (E.out.doneI 1 rfl (by omega))
                  (try simp only [List.cons_append, List.nil_append, List.set_cons_zero, List.set_cons_succ] at E)
                  replace E := hid (E.out.doneA 2 rfl)
                  (try simp only [List.cons_append, List.nil_append, List.set_cons_zero, List.set_cons_succ] at E)
                  obtain ⟨nn, hnn⟩ : ∃ q, q = grL y.nums i (celN y) k := ⟨_, rfl⟩
                  obtain ⟨ii, hii⟩ : ∃ q, q = grL y.items i (celN y) k := ⟨_, rfl⟩
                  rw [← hnn, ← hii] at E
                  rw [← hnn, ← hii] at hGr
                  rw [← hii] at hgi hci1
                  rw [← hnn] at hcn1
                  replace hcn1 := hid hcn1
                  replace hci1 := hid hci1
                  replace hnn := hid hnn
                  replace hii := hid hii
                  have hGl : G.length ≤ 65536 := by rw [hG.out, List.length_map]; have := cuts_len x.nums i; omega
                  have hll : G.length + [Arr.mk y.kind s nn ii].length ≤ 1759218604441 := by simp only [List.length_cons, List.length_nil]; omega
                  obtain ⟨q00, q01, q02, q03⟩ := (E.out.hdr 0 rfl).all
                  obtain ⟨q90, q91, q92, q93⟩ := (E.out.hdr 9 rfl).all
                  go_wp2_with (first
                    | (at_builtin; replace E := hid (E.out.up (ext_alloc _ (.cells #[.int .i64 y.kind, .slice oa s.length oc, .slice na nn.length nc, .slice ja ii.length jc] 27))); refine wplE_appAC E.out 10 rfl rfl (.tmp 88) (.tmp 90) rfl rfl _ (.mk y.kind s nn ii) oa na ja oc nc jc rfl (heap_alloc_new _ _) (ArrAt.iff.2 ⟨E.out.ints 16 rfl, E.out.ints 1 rfl, by show ii.length ≤ _; omega, E.out.items 2 rfl⟩) ⟨hcap.out, hcn1.out, hci1.out⟩ (by omega) ?_; intro V5 ia2 ic2 E1; clear E; have E := hid E1; clear E1; (try simp only [List.cons_append, List.nil_append, List.set_cons_zero, List.set_cons_succ] at E))
                    | (refine wpl_store3 rfl (.tmp 92) (.tmp 91) rfl bo rfl rfl (E.out.hdr 9 rfl) ?_; intro V HV CV; replace E := hid (E.out.chg 9 rfl CV HV); clear HV CV; (try simp only [List.cons_append, List.nil_append, List.set_cons_zero, List.set_cons_succ] at E)))
                  go_roundw
                  case rel =>
                    rw [hie.out]
                    rw [← hGr.out] at E
                    rw [show G.length + 1 = (cuts x.nums e).length by have q := congrArg List.length hGr.out; simpa using q.symm] at E
                    replace E := hid (E.out.pick 15 rfl)
                    simp only [List.eraseIdx_cons_succ, List.eraseIdx_cons_zero] at E
                    replace E := hid (E.out.pick 7 rfl)
                    simp only [List.eraseIdx_cons_succ, List.eraseIdx_cons_zero] at E
                    replace E := hid (E.out.pick 15 rfl)
                    simp only [List.eraseIdx_cons_succ, List.eraseIdx_cons_zero] at E
                    replace E := hid (E.out.pick 15 rfl)
                    simp only [List.eraseIdx_cons_succ, List.eraseIdx_cons_zero] at E
                    replace E := hid (E.out.pick 15 rfl)
                    simp only [List.eraseIdx_cons_succ, List.eraseIdx_cons_zero] at E
                    replace E := hid (E.out.pick 15 rfl)
                    simp only [List.eraseIdx_cons_succ, List.eraseIdx_cons_zero] at E
                    replace E := hid (E.out.pick 15 rfl)
                    simp only [List.eraseIdx_cons_succ, List.eraseIdx_cons_zero] at E
                    replace E := hid (E.out.pick 15 rfl)
                    simp only [List.eraseIdx_cons_succ, List.eraseIdx_cons_zero] at E
                    exact ⟨e, by omega, rfl, hnst, ia2, ic2, E.out.sub (List.Sublist.cons_cons _ (List.Sublist.cons_cons _ (List.Sublist.cons_cons _ (List.Sublist.cons_cons _ (List.Sublist.cons_cons _ (List.Sublist.cons_cons _ (List.Sublist.cons_cons _ (List.Sublist.cons_cons _ (List.nil_sublist _)))))))))⟩
                  case measure => have q1 := heM.out; have q2 := hM.out; have q3 := hie.out; simp [intOf]; omega
    · obtain rfl : t = i := by omega
      obtain ⟨G, hG⟩ : ∃ G, G = (cuts x.nums t).map (grpA y) := ⟨_, rfl⟩
      rw [← hG] at E
      have hGl : G.length ≤ 65536 := by rw [hG, List.length_map]; have := cuts_len x.nums t; omega
      have hcA : cutA x y = .mk 3 [(G.length : Int)] [] G := by unfold cutA; rw [o.out, ← hG, hG, List.length_map]
      have T1 := S1.out
      have T0 := S0.out
      have hyes := fun q => cutS_yes (x := x) (y := y) q
      rw [hcA] at T1 T0 hyes
      replace hcA := hid hcA
      replace hG := hid hG
      replace T1 := hid T1
      replace T0 := hid T0
      replace hyes := hid hyes
      have hc3 := hid (OwnA.cap (E.out.rowAC 1 rfl).to)
      obtain ⟨q00, q01, q02, q03⟩ := (E.out.hdr 0 rfl).all
      go_wp2_with (first
        | (refine wpl_buildV rfl (G.length : Int) (.tmp 95) rfl rfl ?_; have E1 : Env w S (wr.alloc (.cells #[.int .i64 (G.length : Int)] 3)) _ := E.out.lit [(G.length : Int)] (show (1 : Nat) ≤ 17592186044416 by decide); clear E; have E := hid E1; clear E1; generalize World.alloc _ (.cells #[.int .i64 (G.length : Int)] 3) = V1 at E ⊢; generalize wr.heap.size = p1 at E ⊢; (try simp only [List.cons_append, List.nil_append, List.set_cons_zero, List.set_cons_succ] at E); clear q00 q01 q02 q03; obtain ⟨q00, q01, q02, q03⟩ := (E.out.hdr 0 rfl).all)
        | (refine wpl_store1 rfl (.tmp 97) (.tmp 96) rfl bo rfl rfl (E.out.hdr 0 rfl) ?_; intro V HV CV; replace E := hid (E.out.chg 0 rfl CV HV); clear HV CV; (try simp only [List.cons_append, List.nil_append, List.set_cons_zero, List.set_cons_succ] at E); clear q00 q01 q02 q03; obtain ⟨q00, q01, q02, q03⟩ := (E.out.hdr 0 rfl).all))
      clear q00 q01 q02 q03
      have hQ : ArrAt _ (fun _ => True) (.mk 3 [(G.length : Int)] [] G) _ _ _ := ArrAt.iff.2 ⟨(E.out.ints 8 rfl).mono fun _ _ _ => trivial, IntsAt.nil _ _ none, by show G.length ≤ _; omega, (E.out.rowAC 1 rfl).to.items.mono fun _ _ _ => trivial⟩
      refine (array_Right (.mk 3 [(G.length : Int)] [] G) _ 1 none 0 _ ic _ _ hQ).mono ?_
      rintro e' w9 ⟨rfl, hb9⟩
      replace E := hid (E.out.up hb9)
      clear hb9 hQ
      by_cases r : rightS (.mk 3 [(G.length : Int)] [] G) = 0
      case neg =>
        have rb : (rightS (.mk 3 [(G.length : Int)] [] G) != 0) = true := by simpa using r
        have hn := hid (T1.out r)
        have hv := hid (cutS_no (x := x) (y := y) (by rw [hn.out]; decide))
        replace r := hid r
        go_wp2_with (refine wpl_store4 rfl (.tmp 4) (.tmp 101) rfl _ rfl rfl (E.out.hdr 4 rfl) ?_; intro V HV CV; replace E := hid (E.out.chg 4 rfl CV HV))
        exact bodyPost_ret (end_arr2 rfl HV rfl rfl) rfl (hR.out _ _ (RetCC.zero hv.out hn.out E.out.ext))
      have rb : (rightS (.mk 3 [(G.length : Int)] [] G) != 0) = false := by simpa using r
      have hn := hid (T0.out r)
      have hv := hid (hyes.out hn.out)
      replace r := hid r
      obtain ⟨q00, q01, q02, q03⟩ := (E.out.hdr 0 rfl).all
      go_wp2_with (refine wpl_store4 rfl (.tmp 4) (.tmp 102) rfl _ rfl rfl (E.out.hdr 4 rfl) ?_; intro V6 HV CV; replace E := hid (E.out.chg 4 rfl CV HV); clear CV; (try simp only [List.cons_append, List.nil_append, List.set_cons_zero, List.set_cons_succ] at E))
      refine bodyPost_ret (end_arr2 rfl HV rfl rfl) rfl (hR.out _ _ ?_)
      have hCC := (E.out.rowAC 1 rfl).caps
      replace E := hid (E.out.doneAC 1 rfl)
      (try simp only [List.cons_append, List.nil_append, List.set_cons_zero, List.set_cons_succ] at E)
      rw [hv.out, hn.out]
      exact ⟨_, _, none, 0, _, _, rfl, ArrAt.iff.2 ⟨(E.out.ints 8 rfl).mono fun b _ h => h.1, IntsAt.nil _ _ none, by show G.length ≤ _; omega, (E.out.items 1 rfl).mono fun b _ h => h.1⟩, E.out.ext, ⟨Nat.le_refl 1, Nat.zero_le _, hc3.out⟩, hCC⟩
end Go.Proofs.Ytdpdcjadedcglaa
