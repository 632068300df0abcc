/- A group of texts (GS), each with its own conditions: those of each lemma. -/
import Derived.Test.YtdpdcjadedcglaaREF26A
import Derived.Test.YtdpdcjadedcglaaP26
import Derived.Test.YtdpdcjadedcglaaCONC
import Derived.Test.YtdpdcjadedcglaaGK
import Derived.Test.YtdpdcjadedcglaaANYH
import Derived.Test.YtdpdcjadedcglaaGV
import Derived.Deep.CutRange
import Derived.Deep.DeepCutAuto
set_option linter.unusedVariables false
set_option maxRecDepth 20000
set_option linter.unusedSimpArgs false
namespace Go.Proofs.Ytdpdcjadedcglaa
open Go.RowKit Go.Sort
attribute [local go_sem ↓] run_max2 run_min2
attribute [local go_sem] eql_ints_nil eql_arrs_nil
def RetSplit (w : World) (S : Nat → Prop) (y : Arr) (e : Ending) (w' : World) : Prop :=
  ∃ so sc, e = .returned (.tuple #[.int .i64 (talN y), .slice so (celL y).length sc, .int .i64 (celN y : Nat)]) ∧ IntsAt w' S so (celL y) ∧ Below w.heap.size w w'
set_option maxHeartbeats 4000000 in
theorem copying_split (y : Arr) (sy : Option Addr) (cy : Nat) (ny : Option Addr) (my : Nat) (iy : Option Addr) (jy : Nat) (S : Nat → Prop) (w : World) (h : ArrAt w S y sy ny iy) (hs : shapeB y.shape = true) (hc : y.shape.length ≤ cy) : Calls Try.prog 24 #[.agg #[.int .i64 y.kind, .slice sy y.shape.length cy, .slice ny y.nums.length my, .slice iy y.items.length jy]] w (RetSplit w S y) := by
  refine calls_post fun R' hR => ?_
  have h0 := hid h
  have hsl := h.shape.1
  clear h
  obtain ⟨cl, hcl⟩ : ∃ l, l = celL y := ⟨_, rfl⟩
  have hcl2 : cl = y.shape.drop 1 := hcl
  have hcn := celN_eq hs
  have s8 := (shapeB_iff.1 hs).1
  by_cases c : y.shape.length = 0
  · have ht : Hid (cl = []) := hid (by rw [hcl2, List.eq_nil_of_length_eq_zero c]; rfl)
    have h1 : Hid (talN y = 1) := hid (if_pos c)
    have h2 : Hid (celN y = 1) := hid (by unfold celN; rw [← hcl, ht.out, cnt_nil]; rfl)
    have cb : ((y.shape.length : Int) == 0) = true := by simpa using c
    replace c := hid c
    replace hcl := hid hcl
    replace hcl2 := hid hcl2
    replace hcn := hid hcn
    go_enter Try.func24, Try.ntmps24
    go_upto_region 1 with (fail)
    generalize hEW : (w).alloc (.cells #[.int .i64 y.kind, .slice sy y.shape.length cy, .slice ny y.nums.length my, .slice iy y.items.length jy] 27) = W
    have E := hid (env1 w S hEW)
    clear hEW
    obtain ⟨q00, q01, q02, q03⟩ := (E.out.hdr 0 rfl).all
    go_wp2_with fail
    refine bodyPost_ret (v := .tuple #[.int .i64 1, .slice none 0 0, .int .i64 1]) (by simp [results, Try.results24, go_sem]) rfl (hR.out _ _ ?_)
    exact ⟨none, 0, by rw [← hcl.out, ht.out, h1.out, h2.out] <;> rfl, by rw [← hcl.out, ht.out]; exact IntsAt.nil _ _ _, E.out.ext⟩
  · have cb : ((y.shape.length : Int) == 0) = false := by simpa using c
    have hln : Hid (cl.length = y.shape.length - 1) := hid (by rw [hcl2]; simp)
    have ht : Hid (talN y = y.shape.getD 0 0) := hid (if_neg c)
    have hcd : Hid (cnt (y.shape.drop 1) = (celN y : Nat)) := hid hcn.symm
    clear hcn
    replace hcl := hid hcl
    replace hcl2 := hid hcl2
    go_enter Try.func24, Try.ntmps24
    go_upto_region 1 with (fail)
    generalize hEW : (w).alloc (.cells #[.int .i64 y.kind, .slice sy y.shape.length cy, .slice ny y.nums.length my, .slice iy y.items.length jy] 27) = W
    have E := hid (env1 w S hEW)
    clear hEW
    replace E := hid (E.out.arg h0.out)
    (try simp only [List.cons_append, List.nil_append, List.set_cons_zero, List.set_cons_succ] at E)
    obtain ⟨q00, q01, q02, q03⟩ := (E.out.hdr 0 rfl).all
    go_wp2_with fail
    clear q00 q01 q02 q03
    refine (shape_Row y.shape _ _ 1 _ _ (E.out.arr 1 rfl).shape hs (by omega) hc).mono ?_
    rintro e w2 ⟨rfl, hb⟩
    replace E := hid (E.out.up hb)
    clear hb
    rw [hcd.out]
    generalize cnt (y.shape.take 1) = dum
    obtain ⟨b1, o1, hs1, hbl1, hS1, hc1⟩ := (E.out.arr 1 rfl).shape.at (k := 0) (by omega)
    have lx : 0 < y.shape.length := by omega
    have hA := hid (E.out.arr 1 rfl).shape
    have hI : IntsAt w S sy y.shape := h0.out.shape
    generalize y.shape.getD 0 0 = d at hc1 ht
    rw [Nat.add_zero] at hc1
    subst hs1
    have s0 : ¬ (y.shape.length : Int) < 1 := by omega
    have s1 : (1 : Int) ≤ (y.shape.length : Int) := by omega
    have s2 : (1 : Int) ≤ (cy : Int) := by omega
    have s3 : (0 : Int) < (y.shape.length : Int) := by omega
    have c0 : ¬ cy = 0 := by omega
    replace hI := hid hI
    go_upto_region 4 with (fail)
    obtain ⟨q00, q01, q02, q03⟩ := (E.out.hdr 0 rfl).all
    by_cases c1 : cy = 1
    · subst c1
      have hq : y.shape.length ≤ 1 := by omega
      have e0 : y.shape.length - 1 = 0 := by omega
      replace c := hid c
      refine wp_region_mono (Sees w2 [(⟨w.heap.size, 1, none⟩, .slice (some ⟨b1, o1, none⟩) y.shape.length 1), (⟨b1, o1, none⟩, .int .i64 d)]) [] (fun k v u u' => match k with  | _ => False) (fun _ _ h e => h.up e) (Sees.start (all_cons (q01) (all_cons (hc1) (all_nil)))) (by kernel_rfl) (by kernel_rfl) ?_
      repeat (first | (refine m_plain (v := ?_) (by rfl) (by rfl) ?_ ?_; rotate_left; (intro wz hSw; obtain ⟨-, hSc⟩ := hSw; (try simp only [List.forall_mem_cons, List.forall_mem_nil, and_true] at hSc); go_simp; (first | done | with_reducible rfl)); (intro K hK; (try simp only [Act.put, List.setIfInBounds_toArray, List.set_cons_zero, List.set_cons_succ]); refine hK _ _ ?_; clear hK K)) | (refine m_skip (by rfl) (by rfl) ?_; (intro K hK; (try simp only [Act.put, List.setIfInBounds_toArray, List.set_cons_zero, List.set_cons_succ]); refine hK _ _ ?_; clear hK K)))
      refine m_nil ?_
      intro wf hSf hAf
      have ef := hid (E.out.up hSf.1).ext
      clear hSf hAf
      clear q00 q01 q02 q03
      go_wp2_with fail
      refine bodyPost_ret (v := .tuple #[.int .i64 d, .slice (some ⟨b1, o1, none⟩) 0 0, .int .i64 (celN y : Nat)]) (by simp [results, Try.results24, go_sem]) rfl (hR.out _ _ ?_)
      exact ⟨some ⟨b1, o1, none⟩, 0, by rw [← hcl.out, hln.out, e0, ht.out] <;> rfl, by rw [← hcl.out, hcl2.out]; exact (hI.out.cut0 hq).later ef.out, ef.out⟩
    · replace c := hid c
      refine wp_region_mono (Sees w2 [(⟨w.heap.size, 1, none⟩, .slice (some ⟨b1, o1, none⟩) y.shape.length cy), (⟨b1, o1, none⟩, .int .i64 d)]) [] (fun k v u u' => match k with  | _ => False) (fun _ _ h e => h.up e) (Sees.start (all_cons (q01) (all_cons (hc1) (all_nil)))) (by kernel_rfl) (by kernel_rfl) ?_
      repeat (first | (refine m_plain (v := ?_) (by rfl) (by rfl) ?_ ?_; rotate_left; (intro wz hSw; obtain ⟨-, hSc⟩ := hSw; (try simp only [List.forall_mem_cons, List.forall_mem_nil, and_true] at hSc); go_simp; (first | done | with_reducible rfl)); (intro K hK; (try simp only [Act.put, List.setIfInBounds_toArray, List.set_cons_zero, List.set_cons_succ]); refine hK _ _ ?_; clear hK K)) | (refine m_skip (by rfl) (by rfl) ?_; (intro K hK; (try simp only [Act.put, List.setIfInBounds_toArray, List.set_cons_zero, List.set_cons_succ]); refine hK _ _ ?_; clear hK K)))
      refine m_nil ?_
      intro wf hSf hAf
      have ef := hid (E.out.up hSf.1).ext
      clear hSf hAf
      clear q00 q01 q02 q03
      go_wp2_with fail
      refine bodyPost_ret (v := .tuple #[.int .i64 d, .slice (some ⟨b1, o1 + 1, none⟩) (y.shape.length - 1) (cy - 1), .int .i64 (celN y : Nat)]) (by simp [results, Try.results24, go_sem]) rfl (hR.out _ _ ?_)
      exact ⟨_, _, by rw [← hcl.out, hln.out, ht.out] <;> rfl, by rw [← hcl.out, hcl2.out]; exact (hI.out.cut 1).later ef.out, ef.out⟩
end Go.Proofs.Ytdpdcjadedcglaa
namespace Go.Proofs.Ytdpdcjadedcglaa
open Go.RowKit Go.Sort
attribute [local go_sem ↓] run_max2 run_min2
attribute [local go_sem] eql_ints_nil eql_arrs_nil
theorem row1 {w : World} {b : Nat} {a0 : Value} {t : TypeId} (h : w.heap[b]? = some (.cells #[a0] t (0, 0))) : w.cell? ⟨b, 0, none⟩ = some a0 := by
  rw [cell_of_row w b 0 _ _ _ h]; rfl
set_option maxRecDepth 100000 in
set_option maxHeartbeats 8000000 in
theorem coll_num (kk : Int) (oa : Option Addr) (ol oc : Nat) (na : Option Addr) (nc : Nat) (nums : List Int) (ia : Option Addr) (ic : Nat) (items : List Arr) (y : Arr) (sy : Option Addr) (cy : Nat) (ny : Option Addr) (my : Nat) (iy : Option Addr) (jy : Nat) (bo pn py pp pf i n : Nat) (w0 : World) (S : Nat → Prop) (w : World) (M : List Fact)
    (E : Env w0 S w (.obj bo (.cells #[.int .i64 kk, .slice oa ol oc, .slice na (nums).length nc, .slice ia (items).length ic] 27 (0, 0)) :: .rowI na nc (nums) :: .rowA ia ic (items) :: .obj pn (.cells #[.int .i64 n] 3 (0, 0)) :: .obj py (.cells #[.int .i64 y.kind, .slice sy y.shape.length cy, .slice ny y.nums.length my, .slice iy y.items.length jy] 27 (0, 0)) :: .obj pp (.cells #[.pointer (some ⟨bo, 0, none⟩)] 53 (0, 0)) :: .arr y sy ny iy :: M)) (hn : n ≤ 65536) (hi : i ≤ 65536) (k3 : y.kind ≠ 3) (hsz : i * n + n ≤ y.nums.length) (hl1 : nums.length + n ≤ 1000000) (hl3 : y.nums.length ≤ 65536) (hcn : y.nums.length ≤ my) :
    Calls Try.prog 60 #[.int .i64 i, .pointer (some ⟨pn, 0, none⟩), .pointer (some ⟨py, 0, none⟩), .pointer (some ⟨pp, 0, none⟩), .pointer (some ⟨pf, 0, none⟩)] w fun en w' => ∃ na' nc', en = .returned (.tuple #[]) ∧ Env w0 S w' (.obj bo (.cells #[.int .i64 kk, .slice oa ol oc, .slice na' (nums ++ blkL y.nums i n).length nc', .slice ia (items).length ic] 27 (0, 0)) :: .rowI na' nc' (nums ++ blkL y.nums i n) :: .rowA ia ic (items) :: .obj pn (.cells #[.int .i64 n] 3 (0, 0)) :: .obj py (.cells #[.int .i64 y.kind, .slice sy y.shape.length cy, .slice ny y.nums.length my, .slice iy y.items.length jy] 27 (0, 0)) :: .obj pp (.cells #[.pointer (some ⟨bo, 0, none⟩)] 53 (0, 0)) :: .arr y sy ny iy :: M) := by
  refine calls_post fun R' hR => ?_
  replace E := hid E
  have kb : (y.kind == 3) = false := by simp [k3]
  have kb2 : (y.kind != 3) = true := by simp [k3]
  have ib : ¬ (i : Int) < 0 := by omega
  have ib2 : (0 : Int) ≤ (i : Int) := by omega
  replace k3 := hid k3
  have hmul : ((i : Int) * (n : Int)) = ((i * n : Nat) : Int) := by simp
  have hib : i * n ≤ 65536 := by omega
  obtain ⟨m, hm⟩ : ∃ m, m = i * n := ⟨_, rfl⟩
  rw [← hm] at hmul hib hsz
  obtain ⟨ys, hys⟩ : ∃ ys, ys = (y.nums.drop m).take n := ⟨_, rfl⟩
  have hyl : Hid (ys.length = n) := hid (by rw [hys]; simp; omega)
  have hbl : Hid (nums ++ blkL y.nums i n = nums ++ ys) := hid (by unfold blkL; rw [hys, hm])
  have hmn : n = 0 → m = 0 := fun h => by rw [hm, h, Nat.mul_zero]
  rw [hbl.out] at hR
  replace hm := hid hm
  replace hys := hid hys
  replace hmul := hid hmul
  replace hmn := hid hmn
  have c0 := row1 (E.out.obj 3 rfl)
  obtain ⟨q40, q41, q42, q43⟩ := (E.out.hdr 4 rfl).all
  go_enter Try.func60, Try.ntmps60
  go_upto_region 1 with (fail)
  go_loopw [6, 9] (fun u v wr => ∃ k : Nat, k ≤ n ∧ v = .int .i64 k ∧ wr = w) (fun _ v _ => n - (intOf v).toNat)
  case atStart => exact ⟨0, Nat.zero_le _, rfl, rfl⟩
  case round =>
    obtain ⟨k, hk, rfl, rfl⟩ := hrel
    by_cases hlt : k < n
    · go_wp2_with fail
      go_roundw
      case rel => exact ⟨k + 1, by omega, by go_num, by first | rfl | trivial⟩
      case measure => simp [intOf]; omega
    · obtain rfl : k = n := by omega
      have mS := fun w => run_makeI w k (by omega)
      go_upto_region 18 with (fail)
      clear mS
      clear c0 q40 q41 q42 q43
      replace E := hid (E.out.alloc (.cells (madeI k) 3)).front
      generalize hW2 : wr.alloc (.cells (madeI k) 3) = W2 at E ⊢
      clear hW2
      generalize wr.heap.size = gp at E ⊢
      have c2 : (m : Int) ≤ (y.nums.length : Int) := by omega
      have c3 : (0 : Int) ≤ (m : Int) := by omega
      have c4 : (m : Int).toNat = m := by omega
      have hwr : IntKind.i64.wrap ((i : Int) * (k : Int)) = (m : Int) := by rw [hmul.out]; exact IntWalk.i64_in _ (by omega)
      by_cases n0 : m < y.nums.length
      case pos =>
        obtain ⟨b1, o1, hna, hbl1, hS1, hc⟩ := (E.out.arr 7 rfl).nums.at (k := 0) (by omega)
        subst hna
        clear hc
        have hsub := hid ((E.out.arr 7 rfl).nums.drop m (by omega))
        have hsl : Hid ((y.nums.drop m).length = y.nums.length - m) := hid (by simp)
        have hln : Hid (k ≤ (y.nums.drop m).length) := hid (by simp; omega)
        have c1 : ¬ my = m := by omega
        have c0 := row1 (E.out.obj 4 rfl)
        obtain ⟨q40, q41, q42, q43⟩ := (E.out.hdr 5 rfl).all
        go_upto_region 19 with (refine wplE_copyP E.out 0 rfl (madeI_size k) rfl (.tmp 122) (.tmp 128) rfl rfl (by rw [hsl.out]; rfl) hsub.out hln.out ?_; intro V1 E1; clear E; have E := hid E1; clear E1; (try simp only [List.cons_append, List.nil_append, List.set_cons_zero, List.set_cons_succ] at E))
        rw [← hys.out] at E
        replace E := hid (E.out.filled 0 rfl (by rw [hyl.out]; omega))
        (try simp only [List.cons_append, List.nil_append, List.set_cons_zero, List.set_cons_succ] at E)
        clear q40 q41 q42 q43 c0
        go_upto_region 19 with (fail)
        obtain ⟨q10, q11, q12, q13⟩ := (E.out.hdr 1 rfl).all
        have c5 := row1 (E.out.obj 6 rfl)
        refine wp_region_load_any 8 6 (.pointer (some ⟨bo, 0, none⟩)) (fun wz => wz.cell? ⟨pp, 0, none⟩ = some (.pointer (some ⟨bo, 0, none⟩))) (Sees V1 [(⟨pp, 0, none⟩, .pointer (some ⟨bo, 0, none⟩)), (⟨bo, 2, none⟩, .slice na nums.length nc)]) [] (fun k v u u' => match k with  | _ => False) (fun wz hz => by obtain ⟨-, hSc⟩ := hz; simp only [List.forall_mem_cons] at hSc; exact hSc.1) (fun _ _ h e => h.up e) (Sees.start (all_cons (c5) (all_cons (q12) (all_nil)))) (by kernel_rfl) (by kernel_rfl) _ (by rfl) (by rfl) (by intro wz hz; go_simp; (first | done | with_reducible rfl)) (by intro c a w h; exact h) ?_
        try simp only [Act.put, List.setIfInBounds_toArray, List.set_cons_zero, List.set_cons_succ]
        simp only [List.take_succ_cons, List.take_zero, List.drop_succ_cons, List.drop_zero]
        repeat (first | (refine m_plain (v := ?_) (by rfl) (by rfl) ?_ ?_; rotate_left; (intro wz hSw; obtain ⟨-, hSc⟩ := hSw; (try simp only [List.forall_mem_cons, List.forall_mem_nil, and_true] at hSc); go_simp; (first | done | with_reducible rfl)); (intro K hK; (try simp only [Act.put, List.setIfInBounds_toArray, List.set_cons_zero, List.set_cons_succ]); refine hK _ _ ?_; clear hK K)) | (refine m_skip (by rfl) (by rfl) ?_; (intro K hK; (try simp only [Act.put, List.setIfInBounds_toArray, List.set_cons_zero, List.set_cons_succ]); refine hK _ _ ?_; clear hK K)))
        refine m_nil ?_
        intro wf hSf hAf
        replace E := hid (E.out.up hSf.1)
        clear hSf hAf c5 q10 q11 q12 q13
        refine anyH_step 6 (by kernel_rfl) (by rfl) ?_
        refine wplE_appI E.out 2 (by rfl) (by rfl) (.tmp 134) (.tmp 135) (by rfl) (by rfl) _ _ k ys (by rw [hyl.out]; rfl) (E.out.ints 0 rfl) (by rw [hyl.out]; omega) ?_
        intro V2 na2 nc2 E1
        clear E
        have E := hid E1
        clear E1
        (try simp only [List.cons_append, List.nil_append, List.set_cons_zero, List.set_cons_succ] at E)
        refine anyH_nil (row1 (E.out.obj 6 rfl)) ?_
        refine anyH_plain 7 (v := .pointer (some ⟨bo, 0, none⟩)) (by kernel_rfl) (by rfl) (by rfl) (by go_simp <;> (try (intro hh; omega))) (row1 (E.out.obj 6 rfl)) ?_
        refine anyH_plain 8 (v := .pointer (some ⟨bo, 2, none⟩)) (by kernel_rfl) (by rfl) (by rfl) (by go_simp <;> (try (intro hh; omega))) (row1 (E.out.obj 6 rfl)) ?_
        refine anyH_step 9 (by kernel_rfl) (by rfl) ?_
        refine wpl_store2 (by rfl) (.tmp 138) (.tmp 136) (by rfl) bo (by rfl) (by rfl) (E.out.hdr 1 rfl) ?_
        intro V HV CV
        replace E := hid (E.out.chg 1 rfl CV HV)
        clear HV CV
        (try simp only [List.cons_append, List.nil_append, List.set_cons_zero, List.set_cons_succ] at E)
        refine anyH_nil (row1 (E.out.obj 6 rfl)) ?_
        refine anyH_done (by kernel_rfl) ?_
        go_wp2_with fail
        exact bodyPost_ret (end_none rfl) rfl (hR.out _ _ ⟨na2, nc2, rfl, E.out.tl⟩)
      case neg =>
        have hn0 : k = 0 := by omega
        have hm0 : m = 0 := hmn.out hn0
        have hx3 : y.nums.length = 0 := by omega
        have hxe : y.nums = [] := List.length_eq_zero_iff.1 hx3
        have hye : Hid (List.map (Value.int .i64) (([] : List Int).take k) = List.map (Value.int .i64) ys) := hid (by rw [hys.out, hxe]; simp)
        have c0 := row1 (E.out.obj 4 rfl)
        obtain ⟨q40, q41, q42, q43⟩ := (E.out.hdr 5 rfl).all
        rw [hx3] at q42 c2
        have hlz : Hid (k ≤ ([] : List Int).length) := hid (by rw [hn0]; simp)
        have hmz : Hid (0 - m = ([] : List Int).length) := hid (by simp)
        replace hxe := hid hxe
        by_cases c1 : my = m
        · replace hn0 := hid hn0
          replace hm0 := hid hm0
          replace hx3 := hid hx3
          go_upto_region 19 with (refine wplE_copyP (ys := []) (T := fun _ => True) E.out 0 rfl (madeI_size k) rfl (.tmp 122) (.tmp 128) rfl rfl rfl (IntsAt.nil _ _ _) hlz.out ?_; intro V1 E1; clear E; have E := hid E1; clear E1; (try simp only [List.cons_append, List.nil_append, List.set_cons_zero, List.set_cons_succ] at E))
          rw [hye.out] at E
          replace E := hid (E.out.filled 0 rfl (by rw [hyl.out]; omega))
          (try simp only [List.cons_append, List.nil_append, List.set_cons_zero, List.set_cons_succ] at E)
          clear q40 q41 q42 q43 c0
          go_upto_region 19 with (fail)
          obtain ⟨q10, q11, q12, q13⟩ := (E.out.hdr 1 rfl).all
          have c5 := row1 (E.out.obj 6 rfl)
          refine wp_region_load_any 8 6 (.pointer (some ⟨bo, 0, none⟩)) (fun wz => wz.cell? ⟨pp, 0, none⟩ = some (.pointer (some ⟨bo, 0, none⟩))) (Sees V1 [(⟨pp, 0, none⟩, .pointer (some ⟨bo, 0, none⟩)), (⟨bo, 2, none⟩, .slice na nums.length nc)]) [] (fun k v u u' => match k with  | _ => False) (fun wz hz => by obtain ⟨-, hSc⟩ := hz; simp only [List.forall_mem_cons] at hSc; exact hSc.1) (fun _ _ h e => h.up e) (Sees.start (all_cons (c5) (all_cons (q12) (all_nil)))) (by kernel_rfl) (by kernel_rfl) _ (by rfl) (by rfl) (by intro wz hz; go_simp; (first | done | with_reducible rfl)) (by intro c a w h; exact h) ?_
          try simp only [Act.put, List.setIfInBounds_toArray, List.set_cons_zero, List.set_cons_succ]
          simp only [List.take_succ_cons, List.take_zero, List.drop_succ_cons, List.drop_zero]
          repeat (first | (refine m_plain (v := ?_) (by rfl) (by rfl) ?_ ?_; rotate_left; (intro wz hSw; obtain ⟨-, hSc⟩ := hSw; (try simp only [List.forall_mem_cons, List.forall_mem_nil, and_true] at hSc); go_simp; (first | done | with_reducible rfl)); (intro K hK; (try simp only [Act.put, List.setIfInBounds_toArray, List.set_cons_zero, List.set_cons_succ]); refine hK _ _ ?_; clear hK K)) | (refine m_skip (by rfl) (by rfl) ?_; (intro K hK; (try simp only [Act.put, List.setIfInBounds_toArray, List.set_cons_zero, List.set_cons_succ]); refine hK _ _ ?_; clear hK K)))
          refine m_nil ?_
          intro wf hSf hAf
          replace E := hid (E.out.up hSf.1)
          clear hSf hAf c5 q10 q11 q12 q13
          refine anyH_step 6 (by kernel_rfl) (by rfl) ?_
          refine wplE_appI E.out 2 (by rfl) (by rfl) (.tmp 134) (.tmp 135) (by rfl) (by rfl) _ _ k ys (by rw [hyl.out]; rfl) (E.out.ints 0 rfl) (by rw [hyl.out]; omega) ?_
          intro V2 na2 nc2 E1
          clear E
          have E := hid E1
          clear E1
          (try simp only [List.cons_append, List.nil_append, List.set_cons_zero, List.set_cons_succ] at E)
          refine anyH_nil (row1 (E.out.obj 6 rfl)) ?_
          refine anyH_plain 7 (v := .pointer (some ⟨bo, 0, none⟩)) (by kernel_rfl) (by rfl) (by rfl) (by go_simp <;> (try (intro hh; omega))) (row1 (E.out.obj 6 rfl)) ?_
          refine anyH_plain 8 (v := .pointer (some ⟨bo, 2, none⟩)) (by kernel_rfl) (by rfl) (by rfl) (by go_simp <;> (try (intro hh; omega))) (row1 (E.out.obj 6 rfl)) ?_
          refine anyH_step 9 (by kernel_rfl) (by rfl) ?_
          refine wpl_store2 (by rfl) (.tmp 138) (.tmp 136) (by rfl) bo (by rfl) (by rfl) (E.out.hdr 1 rfl) ?_
          intro V HV CV
          replace E := hid (E.out.chg 1 rfl CV HV)
          clear HV CV
          (try simp only [List.cons_append, List.nil_append, List.set_cons_zero, List.set_cons_succ] at E)
          refine anyH_nil (row1 (E.out.obj 6 rfl)) ?_
          refine anyH_done (by kernel_rfl) ?_
          go_wp2_with fail
          exact bodyPost_ret (end_none rfl) rfl (hR.out _ _ ⟨na2, nc2, rfl, E.out.tl⟩)
        · replace hn0 := hid hn0
          replace hm0 := hid hm0
          replace hx3 := hid hx3
          go_upto_region 19 with (refine wplE_copyP (ys := []) (T := fun _ => True) E.out 0 rfl (madeI_size k) rfl (.tmp 122) (.tmp 128) rfl rfl rfl (IntsAt.nil _ _ _) hlz.out ?_; intro V1 E1; clear E; have E := hid E1; clear E1; (try simp only [List.cons_append, List.nil_append, List.set_cons_zero, List.set_cons_succ] at E))
          rw [hye.out] at E
          replace E := hid (E.out.filled 0 rfl (by rw [hyl.out]; omega))
          (try simp only [List.cons_append, List.nil_append, List.set_cons_zero, List.set_cons_succ] at E)
          clear q40 q41 q42 q43 c0
          go_upto_region 19 with (fail)
          obtain ⟨q10, q11, q12, q13⟩ := (E.out.hdr 1 rfl).all
          have c5 := row1 (E.out.obj 6 rfl)
          refine wp_region_load_any 8 6 (.pointer (some ⟨bo, 0, none⟩)) (fun wz => wz.cell? ⟨pp, 0, none⟩ = some (.pointer (some ⟨bo, 0, none⟩))) (Sees V1 [(⟨pp, 0, none⟩, .pointer (some ⟨bo, 0, none⟩)), (⟨bo, 2, none⟩, .slice na nums.length nc)]) [] (fun k v u u' => match k with  | _ => False) (fun wz hz => by obtain ⟨-, hSc⟩ := hz; simp only [List.forall_mem_cons] at hSc; exact hSc.1) (fun _ _ h e => h.up e) (Sees.start (all_cons (c5) (all_cons (q12) (all_nil)))) (by kernel_rfl) (by kernel_rfl) _ (by rfl) (by rfl) (by intro wz hz; go_simp; (first | done | with_reducible rfl)) (by intro c a w h; exact h) ?_
          try simp only [Act.put, List.setIfInBounds_toArray, List.set_cons_zero, List.set_cons_succ]
          simp only [List.take_succ_cons, List.take_zero, List.drop_succ_cons, List.drop_zero]
          repeat (first | (refine m_plain (v := ?_) (by rfl) (by rfl) ?_ ?_; rotate_left; (intro wz hSw; obtain ⟨-, hSc⟩ := hSw; (try simp only [List.forall_mem_cons, List.forall_mem_nil, and_true] at hSc); go_simp; (first | done | with_reducible rfl)); (intro K hK; (try simp only [Act.put, List.setIfInBounds_toArray, List.set_cons_zero, List.set_cons_succ]); refine hK _ _ ?_; clear hK K)) | (refine m_skip (by rfl) (by rfl) ?_; (intro K hK; (try simp only [Act.put, List.setIfInBounds_toArray, List.set_cons_zero, List.set_cons_succ]); refine hK _ _ ?_; clear hK K)))
          refine m_nil ?_
          intro wf hSf hAf
          replace E := hid (E.out.up hSf.1)
          clear hSf hAf c5 q10 q11 q12 q13
          refine anyH_step 6 (by kernel_rfl) (by rfl) ?_
          refine wplE_appI E.out 2 (by rfl) (by rfl) (.tmp 134) (.tmp 135) (by rfl) (by rfl) _ _ k ys (by rw [hyl.out]; rfl) (E.out.ints 0 rfl) (by rw [hyl.out]; omega) ?_
          intro V2 na2 nc2 E1
          clear E
          have E := hid E1
          clear E1
          (try simp only [List.cons_append, List.nil_append, List.set_cons_zero, List.set_cons_succ] at E)
          refine anyH_nil (row1 (E.out.obj 6 rfl)) ?_
          refine anyH_plain 7 (v := .pointer (some ⟨bo, 0, none⟩)) (by kernel_rfl) (by rfl) (by rfl) (by go_simp <;> (try (intro hh; omega))) (row1 (E.out.obj 6 rfl)) ?_
          refine anyH_plain 8 (v := .pointer (some ⟨bo, 2, none⟩)) (by kernel_rfl) (by rfl) (by rfl) (by go_simp <;> (try (intro hh; omega))) (row1 (E.out.obj 6 rfl)) ?_
          refine anyH_step 9 (by kernel_rfl) (by rfl) ?_
          refine wpl_store2 (by rfl) (.tmp 138) (.tmp 136) (by rfl) bo (by rfl) (by rfl) (E.out.hdr 1 rfl) ?_
          intro V HV CV
          replace E := hid (E.out.chg 1 rfl CV HV)
          clear HV CV
          (try simp only [List.cons_append, List.nil_append, List.set_cons_zero, List.set_cons_succ] at E)
          refine anyH_nil (row1 (E.out.obj 6 rfl)) ?_
          refine anyH_done (by kernel_rfl) ?_
          go_wp2_with fail
          exact bodyPost_ret (end_none rfl) rfl (hR.out _ _ ⟨na2, nc2, rfl, E.out.tl⟩)
set_option maxRecDepth 100000 in
set_option maxHeartbeats 8000000 in
theorem coll_box (kk : Int) (oa : Option Addr) (ol oc : Nat) (na : Option Addr) (nc : Nat) (nums : List Int) (ia : Option Addr) (ic : Nat) (items : List Arr) (y : Arr) (sy : Option Addr) (cy : Nat) (ny : Option Addr) (my : Nat) (iy : Option Addr) (jy : Nat) (bo pn py pp pf i n : Nat) (w0 : World) (S : Nat → Prop) (w : World) (M : List Fact)
    (E : Env w0 S w (.obj bo (.cells #[.int .i64 kk, .slice oa ol oc, .slice na (nums).length nc, .slice ia (items).length ic] 27 (0, 0)) :: .rowI na nc (nums) :: .rowA ia ic (items) :: .obj pn (.cells #[.int .i64 n] 3 (0, 0)) :: .obj py (.cells #[.int .i64 y.kind, .slice sy y.shape.length cy, .slice ny y.nums.length my, .slice iy y.items.length jy] 27 (0, 0)) :: .obj pp (.cells #[.pointer (some ⟨bo, 0, none⟩)] 53 (0, 0)) :: .arr y sy ny iy :: M)) (hn : n ≤ 65536) (hi : i ≤ 65536) (k3 : y.kind = 3) (hsz : i * n + n ≤ y.items.length) (hl2 : items.length + n ≤ 1000000) (hl3 : y.items.length ≤ 65536) :
    Calls Try.prog 60 #[.int .i64 i, .pointer (some ⟨pn, 0, none⟩), .pointer (some ⟨py, 0, none⟩), .pointer (some ⟨pp, 0, none⟩), .pointer (some ⟨pf, 0, none⟩)] w fun en w' => ∃ ia' ic', en = .returned (.tuple #[]) ∧ Env w0 S w' (.obj bo (.cells #[.int .i64 kk, .slice oa ol oc, .slice na (nums).length nc, .slice ia' (items ++ blkL y.items i n).length ic'] 27 (0, 0)) :: .rowI na nc (nums) :: .rowA ia' ic' (items ++ blkL y.items i n) :: .obj pn (.cells #[.int .i64 n] 3 (0, 0)) :: .obj py (.cells #[.int .i64 y.kind, .slice sy y.shape.length cy, .slice ny y.nums.length my, .slice iy y.items.length jy] 27 (0, 0)) :: .obj pp (.cells #[.pointer (some ⟨bo, 0, none⟩)] 53 (0, 0)) :: .arr y sy ny iy :: M) := by
  refine calls_post fun R' hR => ?_
  replace E := hid E
  have kb : (y.kind == 3) = true := by simp [k3]
  have kb2 : (y.kind != 3) = false := by simp [k3]
  have ib : ¬ (i : Int) < 0 := by omega
  replace k3 := hid k3
  have hmul : ((i : Int) * (n : Int)) = ((i * n : Nat) : Int) := by simp
  have hib : i * n ≤ 65536 := by omega
  have hbl : Hid (items ++ blkL y.items i n = items ++ (y.items.drop (i * n)).take n) := hid rfl
  rw [hbl.out] at hR
  obtain ⟨m, hm⟩ : ∃ m, m = i * n := ⟨_, rfl⟩
  rw [← hm] at hmul hib hsz hR
  replace hm := hid hm
  replace hmul := hid hmul
  clear hbl
  have c0 := row1 (E.out.obj 3 rfl)
  go_enter Try.func60, Try.ntmps60
  go_upto_region 1 with (fail)
  clear c0
  go_loopw [6, 9] (fun u v wr => ∃ (k : Nat) (ia' : Option Addr) (ic' : Nat) (cur : List Arr), k ≤ n ∧ v = .int .i64 k ∧ Hid (cur = items ++ (y.items.drop m).take k) ∧ Env w0 S wr (.obj bo (.cells #[.int .i64 kk, .slice oa ol oc, .slice na (nums).length nc, .slice ia' (cur).length ic'] 27 (0, 0)) :: .rowI na nc (nums) :: .rowA ia' ic' (cur) :: .obj pn (.cells #[.int .i64 n] 3 (0, 0)) :: .obj py (.cells #[.int .i64 y.kind, .slice sy y.shape.length cy, .slice ny y.nums.length my, .slice iy y.items.length jy] 27 (0, 0)) :: .obj pp (.cells #[.pointer (some ⟨bo, 0, none⟩)] 53 (0, 0)) :: .arr y sy ny iy :: M)) (fun _ v _ => n - (intOf v).toNat)
  case atStart => exact ⟨0, ia, ic, items, Nat.zero_le _, rfl, hid (by simp), E.out⟩
  case round =>
    clear E
    obtain ⟨k, ia', ic', cur, hk, rfl, hcur, E⟩ := hrel
    replace E := hid E
    by_cases hlt : k < n
    · obtain ⟨b2, o2, sz, cz, nz, mz, iz, jz, hia, hS1, hbl1, e0, e1, e2, e3, hz⟩ := (E.out.arr 6 rfl).items.at (k := m + k) (by omega)
      subst hia
      have hstep : Hid (cur ++ [y.items[m + k]'(by omega)] = items ++ (y.items.drop m).take (k + 1)) := hid (by rw [hcur.out, List.append_assoc]; congr 1; rw [List.take_succ_eq_append_getElem (by simp; omega)]; simp)
      generalize y.items[m + k]'(by omega) = z at e0 e1 e2 e3 hz hstep
      have hll : cur.length + 1 ≤ 1759218604441 := by rw [hcur.out, List.length_append]; simp; omega
      have hwr : IntKind.i64.wrap ((i : Int) * (n : Int)) = (m : Int) := by rw [hmul.out]; exact IntWalk.i64_in _ (by omega)
      have hwr2 : IntKind.i64.wrap ((m : Int) + (k : Int)) = ((m + k : Nat) : Int) := by rw [Int.natCast_add]; exact IntWalk.i64_in _ (by omega)
      have t0 : (0 : Int) ≤ ((m + k : Nat) : Int) := by omega
      have t1 : ((m + k : Nat) : Int) < (y.items.length : Int) := by omega
      generalize m + k = t at e0 e1 e2 e3 hwr2 t0 t1
      replace E := hid (E.out.addArr hz (fun _ _ h => h)).front
      clear hz
      obtain ⟨q50, q51, q52, q53⟩ := (E.out.hdr 5 rfl).all
      go_upto_region 9 with (fail)
      go_region
      · skip
        generalize hWb : World.drew _ = wb
        have hEb : Ext wr wb := by rw [← hWb]; exact (ext_alloc _ _).trans (ext_drawn _)
        clear hWb
        replace E := hid (E.out.up hEb)
        replace e0 := up_cell e0 hEb
        replace e1 := up_cell e1 hEb
        replace e2 := up_cell e2 hEb
        replace e3 := up_cell e3 hEb
        clear hEb q50 q51 q52 q53
        obtain ⟨q10, q11, q12, q13⟩ := (E.out.hdr 1 rfl).all
        obtain ⟨q50, q51, q52, q53⟩ := (E.out.hdr 5 rfl).all
        have c4 := row1 (E.out.obj 4 rfl)
        have c6 := row1 (E.out.obj 6 rfl)
        go_upto_region 12 with (fail)
        refine wp_region_load_any 8 16 (.pointer (some ⟨bo, 0, none⟩)) (fun wz => wz.cell? ⟨pp, 0, none⟩ = some (.pointer (some ⟨bo, 0, none⟩))) (Sees wb [(⟨pp, 0, none⟩, .pointer (some ⟨bo, 0, none⟩)), (⟨bo, 3, none⟩, .slice ia' cur.length ic'), (⟨py, 3, none⟩, .slice (some ⟨b2, o2, none⟩) y.items.length jy), (⟨pn, 0, none⟩, .int .i64 n), (⟨b2, o2 + t * 4, none⟩, .int .i64 z.kind), (⟨b2, o2 + t * 4 + 1, none⟩, .slice sz z.shape.length cz), (⟨b2, o2 + t * 4 + 2, none⟩, .slice nz z.nums.length mz), (⟨b2, o2 + t * 4 + 3, none⟩, .slice iz z.items.length jz)]) [14, 15] (fun k v u u' => match k with | 14 => RetA u (fun b => wb.heap.size ≤ b) z (.returned v) u' | 15 => ∃ sa sc na nc ia ic, v = .slice (some ⟨u.heap.size, 0, none⟩) 1 1 ∧ u' = u.alloc (.cells #[.int .i64 z.kind, .slice sa z.shape.length sc, .slice na z.nums.length nc, .slice ia z.items.length ic] 27) ∧ ArrAt u (fun b => wb.heap.size ≤ b) z sa na ia | _ => False) (fun wz hz => by obtain ⟨-, hSc⟩ := hz; simp only [List.forall_mem_cons] at hSc; exact hSc.1) (fun _ _ h e => h.up e) (Sees.start (all_cons (c6) (all_cons (q13) (all_cons (q53) (all_cons (c4) (all_cons (e0) (all_cons (e1) (all_cons (e2) (all_cons (e3) (all_nil)))))))))) (by kernel_rfl) (by kernel_rfl) _ (by rfl) (by rfl) (by intro wz hz; go_simp; (first | done | with_reducible rfl)) (by intro c a w h; exact h) ?_
        try simp only [Act.put, List.setIfInBounds_toArray, List.set_cons_zero, List.set_cons_succ]
        simp only [List.take_succ_cons, List.take_zero, List.drop_succ_cons, List.drop_zero]
        repeat (first | (refine m_plain (v := ?_) (by rfl) (by rfl) ?_ ?_; rotate_left; (intro wz hSw; obtain ⟨-, hSc⟩ := hSw; (try simp only [List.forall_mem_cons, List.forall_mem_nil, and_true] at hSc); go_simp; (first | done | with_reducible rfl)); (intro K hK; (try simp only [Act.put, List.setIfInBounds_toArray, List.set_cons_zero, List.set_cons_succ]); refine hK _ _ ?_; clear hK K)) | (refine m_skip (by rfl) (by rfl) ?_; (intro K hK; (try simp only [Act.put, List.setIfInBounds_toArray, List.set_cons_zero, List.set_cons_succ]); refine hK _ _ ?_; clear hK K)))
        refine m_make (by rfl) (by rfl) ?_ ?_
        · intro wz hSw hdep R hRz
          obtain ⟨hSe, hSc⟩ := hSw
          (try simp only [List.forall_mem_cons, List.forall_mem_nil, and_true] at hSc)
          unfold does
          (go_simp; refine Calls.mono (array_Clone z _ _ _ _ _ _ _ wz ((E.out.arr 0 rfl).up hSe)) ?_; rintro e wq ⟨ta, tc, tn, tnc, ti, tic, rfl, hq, hqb⟩; exact ⟨_, rfl, hRz.out _ _ ⟨hqb, ta, tc, tn, tnc, ti, tic, rfl, ArrAt.mono (fun b _ hb => Nat.le_trans (Below.size hSe) hb) z hq, hqb⟩⟩)
        intro v14 u14 x14 hG14 K hK
        have hF14 := hG14.fact
        (try dsimp only at hF14)
        obtain ⟨s14, c14, n14, m14, i14, j14, he, hA14, hb14⟩ := hF14
        injection he with he
        subst he
        (try simp only [Act.put, List.setIfInBounds_toArray, List.set_cons_zero, List.set_cons_succ]); refine hK _ _ ?_; clear hK K
        repeat (first | (refine m_plain (v := ?_) (by rfl) (by rfl) ?_ ?_; rotate_left; (intro wz hSw; obtain ⟨-, hSc⟩ := hSw; (try simp only [List.forall_mem_cons, List.forall_mem_nil, and_true] at hSc); go_simp; (first | done | with_reducible rfl)); (intro K hK; (try simp only [Act.put, List.setIfInBounds_toArray, List.set_cons_zero, List.set_cons_succ]); refine hK _ _ ?_; clear hK K)) | (refine m_skip (by rfl) (by rfl) ?_; (intro K hK; (try simp only [Act.put, List.setIfInBounds_toArray, List.set_cons_zero, List.set_cons_succ]); refine hK _ _ ?_; clear hK K)))
        refine m_make (by rfl) (by rfl) ?_ ?_
        · intro wz hSw hdep R hRz
          obtain ⟨hSe, hSc⟩ := hSw
          (try simp only [List.forall_mem_cons, List.forall_mem_nil, and_true] at hSc)
          unfold does
          (go_simp; exact hRz.out _ _ ⟨ext_alloc _ _, s14, c14, n14, m14, i14, j14, rfl, rfl, hA14.up (hdep 14 _ rfl (depB_sound (f := 60) (by kernel_rfl)))⟩)
        intro v15 u15 x15 hG15 K hK
        have hF15 := hG15.fact
        (try dsimp only at hF15)
        obtain ⟨s15, c15, n15, m15, i15, j15, rfl, rfl, hA15⟩ := hF15
        (try simp only [Act.put, List.setIfInBounds_toArray, List.set_cons_zero, List.set_cons_succ]); refine hK _ _ ?_; clear hK K
        repeat (first | (refine m_plain (v := ?_) (by rfl) (by rfl) ?_ ?_; rotate_left; (intro wz hSw; obtain ⟨-, hSc⟩ := hSw; (try simp only [List.forall_mem_cons, List.forall_mem_nil, and_true] at hSc); go_simp; (first | done | with_reducible rfl)); (intro K hK; (try simp only [Act.put, List.setIfInBounds_toArray, List.set_cons_zero, List.set_cons_succ]); refine hK _ _ ?_; clear hK K)) | (refine m_skip (by rfl) (by rfl) ?_; (intro K hK; (try simp only [Act.put, List.setIfInBounds_toArray, List.set_cons_zero, List.set_cons_succ]); refine hK _ _ ?_; clear hK K)))
        refine m_nil ?_
        intro wf hSf hAf
        have oB := hid (box_items (z := z) (T := fun b => wb.heap.size ≤ b) (hAf 15 _ rfl) (Below.size hG15.s.1) hA15)
        have hfr : Hid (∀ b, wb.heap.size ≤ b → Tst w0 S _ b) := hid (fun b hb => E.out.fresh (Ext.refl _) hb)
        replace E := hid (E.out.up hSf.1)
        clear hSf hAf hG15 hG14 hA14 hb14 hA15 q10 q11 q12 q13 q50 q51 q52 q53 c4 c6 e0 e1 e2 e3 hwr hwr2 t0 t1
        refine anyH_step 16 (by kernel_rfl) (by rfl) ?_
        refine wplE_appA E.out 3 (by rfl) (by rfl) (.tmp 81) (.tmp 92) (by rfl) (by rfl) _ _ 1 [z] (by rfl) oB.out (fun b _ hb => hfr.out b hb) hll ?_
        intro V1 ia2 ic2 E1
        clear E oB hfr
        have E := hid E1
        clear E1
        (try simp only [List.cons_append, List.nil_append, List.set_cons_zero, List.set_cons_succ] at E)
        refine anyH_nil (row1 (E.out.obj 6 rfl)) ?_
        refine anyH_plain 17 (v := .pointer (some ⟨bo, 0, none⟩)) (by kernel_rfl) (by rfl) (by rfl) (by go_simp <;> (try (intro hh; omega))) (row1 (E.out.obj 6 rfl)) ?_
        refine anyH_plain 18 (v := .pointer (some ⟨bo, 3, none⟩)) (by kernel_rfl) (by rfl) (by rfl) (by go_simp <;> (try (intro hh; omega))) (row1 (E.out.obj 6 rfl)) ?_
        refine anyH_step 19 (by kernel_rfl) (by rfl) ?_
        refine wpl_store3 (by rfl) (.tmp 95) (.tmp 93) (by rfl) bo (by rfl) (by rfl) (E.out.hdr 1 rfl) ?_
        intro V HV CV
        replace E := hid (E.out.chg 1 rfl CV HV)
        clear HV CV
        (try simp only [List.cons_append, List.nil_append, List.set_cons_zero, List.set_cons_succ] at E)
        refine anyH_nil (row1 (E.out.obj 6 rfl)) ?_
        refine anyH_done (by kernel_rfl) ?_
        go_wp2_with fail
        go_roundw
        case rel => exact ⟨k + 1, _, ic2, cur ++ [z], by omega, by go_num, hstep, E.out.tl⟩
        case measure => simp [intOf]; omega
      · skip
        generalize hWb : World.drew _ = wb
        have hEb : Ext wr wb := by rw [← hWb]; exact (ext_alloc _ _).trans (ext_drawn _)
        clear hWb
        replace E := hid (E.out.up hEb)
        replace e0 := up_cell e0 hEb
        replace e1 := up_cell e1 hEb
        replace e2 := up_cell e2 hEb
        replace e3 := up_cell e3 hEb
        clear hEb q50 q51 q52 q53
        obtain ⟨q10, q11, q12, q13⟩ := (E.out.hdr 1 rfl).all
        obtain ⟨q50, q51, q52, q53⟩ := (E.out.hdr 5 rfl).all
        have c4 := row1 (E.out.obj 4 rfl)
        have c6 := row1 (E.out.obj 6 rfl)
        go_upto_region 10 with (fail)
        refine wp_region_mono_tail 16 (Sees wb [(⟨pp, 0, none⟩, .pointer (some ⟨bo, 0, none⟩)), (⟨bo, 3, none⟩, .slice ia' cur.length ic'), (⟨py, 3, none⟩, .slice (some ⟨b2, o2, none⟩) y.items.length jy), (⟨pn, 0, none⟩, .int .i64 n), (⟨b2, o2 + t * 4, none⟩, .int .i64 z.kind), (⟨b2, o2 + t * 4 + 1, none⟩, .slice sz z.shape.length cz), (⟨b2, o2 + t * 4 + 2, none⟩, .slice nz z.nums.length mz), (⟨b2, o2 + t * 4 + 3, none⟩, .slice iz z.items.length jz)]) [13, 15] (fun k v u u' => match k with | 13 => RetA u (fun b => wb.heap.size ≤ b) z (.returned v) u' | 15 => v = .slice (some ⟨u.heap.size, 0, none⟩) 1 1 ∧ u' = u.alloc (.cells #[.int .i64 0, .slice none 0 0, .slice none 0 0, .slice none 0 0] 27) | _ => False) (fun _ _ h e => h.up e) (Sees.start (all_cons (c6) (all_cons (q13) (all_cons (q53) (all_cons (c4) (all_cons (e0) (all_cons (e1) (all_cons (e2) (all_cons (e3) (all_nil)))))))))) (by kernel_rfl) (by kernel_rfl) ?_
        simp only [List.take_succ_cons, List.take_zero, List.drop_succ_cons, List.drop_zero]
        repeat (first | (refine m_plain (v := ?_) (by rfl) (by rfl) ?_ ?_; rotate_left; (intro wz hSw; obtain ⟨-, hSc⟩ := hSw; (try simp only [List.forall_mem_cons, List.forall_mem_nil, and_true] at hSc); go_simp; (first | done | with_reducible rfl)); (intro K hK; (try simp only [Act.put, List.setIfInBounds_toArray, List.set_cons_zero, List.set_cons_succ]); refine hK _ _ ?_; clear hK K)) | (refine m_skip (by rfl) (by rfl) ?_; (intro K hK; (try simp only [Act.put, List.setIfInBounds_toArray, List.set_cons_zero, List.set_cons_succ]); refine hK _ _ ?_; clear hK K)))
        refine m_make (by rfl) (by rfl) ?_ ?_
        · intro wz hSw hdep R hRz
          obtain ⟨hSe, hSc⟩ := hSw
          (try simp only [List.forall_mem_cons, List.forall_mem_nil, and_true] at hSc)
          unfold does
          (go_simp; refine Calls.mono (array_Clone z _ _ _ _ _ _ _ wz ((E.out.arr 0 rfl).up hSe)) ?_; rintro e wq ⟨ta, tc, tn, tnc, ti, tic, rfl, hq, hqb⟩; exact ⟨_, rfl, hRz.out _ _ ⟨hqb, ta, tc, tn, tnc, ti, tic, rfl, ArrAt.mono (fun b _ hb => Nat.le_trans (Below.size hSe) hb) z hq, hqb⟩⟩)
        intro v13 u13 x13 hG13 K hK
        have hF13 := hG13.fact
        (try dsimp only at hF13)
        obtain ⟨s13, c13, n13, m13, i13, j13, he, hA13, hb13⟩ := hF13
        injection he with he
        subst he
        (try simp only [Act.put, List.setIfInBounds_toArray, List.set_cons_zero, List.set_cons_succ]); refine hK _ _ ?_; clear hK K
        repeat (first | (refine m_plain (v := ?_) (by rfl) (by rfl) ?_ ?_; rotate_left; (intro wz hSw; obtain ⟨-, hSc⟩ := hSw; (try simp only [List.forall_mem_cons, List.forall_mem_nil, and_true] at hSc); go_simp; (first | done | with_reducible rfl)); (intro K hK; (try simp only [Act.put, List.setIfInBounds_toArray, List.set_cons_zero, List.set_cons_succ]); refine hK _ _ ?_; clear hK K)) | (refine m_skip (by rfl) (by rfl) ?_; (intro K hK; (try simp only [Act.put, List.setIfInBounds_toArray, List.set_cons_zero, List.set_cons_succ]); refine hK _ _ ?_; clear hK K)))
        refine m_make (by rfl) (by rfl) ?_ ?_
        · intro wz hSw hdep R hRz
          obtain ⟨hSe, hSc⟩ := hSw
          (try simp only [List.forall_mem_cons, List.forall_mem_nil, and_true] at hSc)
          unfold does
          (go_simp; exact hRz.out _ _ ⟨ext_alloc _ _, rfl, rfl⟩)
        intro v15 u15 x15 hG15 K hK
        have hF15 := hG15.fact
        (try dsimp only at hF15)
        obtain ⟨rfl, rfl⟩ := hF15
        (try simp only [Act.put, List.setIfInBounds_toArray, List.set_cons_zero, List.set_cons_succ]); refine hK _ _ ?_; clear hK K
        repeat (first | (refine m_plain (v := ?_) (by rfl) (by rfl) ?_ ?_; rotate_left; (intro wz hSw; obtain ⟨-, hSc⟩ := hSw; (try simp only [List.forall_mem_cons, List.forall_mem_nil, and_true] at hSc); go_simp; (first | done | with_reducible rfl)); (intro K hK; (try simp only [Act.put, List.setIfInBounds_toArray, List.set_cons_zero, List.set_cons_succ]); refine hK _ _ ?_; clear hK K)) | (refine m_skip (by rfl) (by rfl) ?_; (intro K hK; (try simp only [Act.put, List.setIfInBounds_toArray, List.set_cons_zero, List.set_cons_succ]); refine hK _ _ ?_; clear hK K)))
        refine m_nil ?_
        intro wf hSf hAf
        have oZ := hid (box_items (z := .zero) (T := fun b => wb.heap.size ≤ b) (sc := 0) (nc := 0) (ic := 0) (hAf 15 _ rfl) (Below.size hG15.s.1) (zero_at _ _ none none none))
        have hfr : Hid (∀ b, wb.heap.size ≤ b → Tst w0 S _ b) := hid (fun b hb => E.out.fresh (Ext.refl _) hb)
        replace E := hid (((E.out.up hSf.1).addArr (ArrAt.up hA13 (hAf 13 _ rfl)) (fun b _ hb => hfr.out b hb)).front)
        clear hSf hAf hG15 hG13 hA13 hb13 q10 q11 q12 q13 q50 q51 q52 q53 c4 c6 e0 e1 e2 e3 hwr hwr2 t0 t1
        refine wplE_appA E.out 4 (by rfl) (by rfl) (.tmp 60) (.tmp 72) (by rfl) (by rfl) _ _ 1 [.zero] (by rfl) oZ.out (fun b _ hb => hfr.out b hb) hll ?_
        intro V1 ia2 ic2 E1
        clear E oZ hfr
        have E := hid E1
        clear E1
        (try simp only [List.cons_append, List.nil_append, List.set_cons_zero, List.set_cons_succ] at E)
        obtain ⟨g5, hg5⟩ := (E.out.rowA 4 rfl).at (by simp)
        subst hg5
        have ti0 : (0 : Int) ≤ (cur.length : Int) := Int.natCast_nonneg _
        have ti1 : (cur.length : Int) < ((cur ++ [Arr.zero]).length : Int) := by simp; omega
        go_upto_region 11 with (refine wpl_store3 rfl (.tmp 75) (.tmp 73) rfl bo rfl rfl (E.out.hdr 2 rfl) ?_; intro V HV CV; replace E := hid (E.out.chg 2 rfl CV HV); clear HV CV; (try simp only [List.cons_append, List.nil_append, List.set_cons_zero, List.set_cons_succ] at E))
        go_wp2_with (refine wplE_last E.out 4 (by rfl) (by rfl) (.tmp 76) (.tmp 70) (by rfl) (fun g e => by cases e; rfl) (by rfl) (E.out.arr 0 rfl) ?_; intro V2 E1; clear E; have E := hid E1; clear E1; (try simp only [List.cons_append, List.nil_append, List.set_cons_zero, List.set_cons_succ] at E))
        go_roundw
        case rel => exact ⟨k + 1, _, ic2, cur ++ [z], by omega, by go_num, hstep, by rw [show (cur ++ [z]).length = cur.length + 1 by simp]; exact E.out.tl.tl⟩
        case measure => simp [intOf]; omega
    · obtain rfl : k = n := by omega
      obtain ⟨q40, q41, q42, q43⟩ := (E.out.hdr 4 rfl).all
      go_wp2_with fail
      exact bodyPost_ret (end_none rfl) rfl (hR.out _ _ ⟨ia', ic', rfl, by rw [← hcur.out]; exact E.out⟩)
end Go.Proofs.Ytdpdcjadedcglaa
namespace Go.Proofs.Ytdpdcjadedcglaa
open Go.RowKit Go.Sort
attribute [local go_sem ↓] run_max2 run_min2
attribute [local go_sem] eql_ints_nil eql_arrs_nil
section
variable {ops : Array Oper} {rest : List Oper} {o : Oper} {a : Act} {Q : Exit → Act → World → Prop} {w : World}
theorem wpl_storeI1 (hgd : o.guard = none) (p x : Operand) (ho : o.op = .store 3 p x) (b : Nat) (old v : Int) (hp : a.eval p = .pointer (some ⟨b, 0, none⟩)) (hx : a.eval x = .int .i64 v) (hg : w.heap[b]? = some (.cells #[.int .i64 old] 3 (0, 0)))
    (h : ∀ V, V.heap[b]? = some (.cells #[.int .i64 v] 3 (0, 0)) → Chg w V b → wpList Try.prog ops Q rest (a.put o.dst undef) V) : wpList Try.prog ops Q (o :: rest) a w := by
  refine wpList_plain hgd fun K hK => ?_
  have h1 := heap_setCell_same w b 0 _ _ (.int .i64 v) hg
  have := hK _ _ (h _ (by simpa using h1) (chg_setCell w b _ _))
  unfold Oper.wp execOp
  simp only [ho, hp, hx]
  have d2 := row1 hg
  have d3 := frozen_of_row w b 0 _ _ hg
  simp [go_sem, d2, d3]
  exact this
end
set_option maxHeartbeats 4000000 in
theorem copying_check (x : Arr) (sx : Option Addr) (cx : Nat) (nx : Option Addr) (mx : Nat) (ix : Option Addr) (jx : Nat) (y : Arr) (sy : Option Addr) (cy : Nat) (ny : Option Addr) (my : Nat) (iy : Option Addr) (jy : Nat) (S : Nat → Prop) (w : World) (h : ArrAt w S x sx nx ix) (g : ArrAt w S y sy ny iy) :
    Calls Try.prog 23 #[.agg #[.int .i64 x.kind, .slice sx x.shape.length cx, .slice nx x.nums.length mx, .slice ix x.items.length jx], .agg #[.int .i64 y.kind, .slice sy y.shape.length cy, .slice ny y.nums.length my, .slice iy y.items.length jy]] w fun e w' => e = .returned (.int .i64 (chkE26 x y)) ∧ Below w.heap.size w w' := by
  refine calls_post fun R' hR => ?_
  have h0 := hid h
  have g0 := hid g
  have hsx := h.shape.1
  clear h g
  go_enter Try.func23, Try.ntmps23
  go_upto_region 1 with (fail)
  generalize hEW : ((w).alloc (.cells #[.int .i64 x.kind, .slice sx x.shape.length cx, .slice nx x.nums.length mx, .slice ix x.items.length jx] 27)).alloc (.cells #[.int .i64 y.kind, .slice sy y.shape.length cy, .slice ny y.nums.length my, .slice iy y.items.length jy] 27) = W
  have E := hid (env2 w S hEW)
  clear hEW
  replace E := hid ((E.out.arg h0.out).arg g0.out)
  (try simp only [List.cons_append, List.nil_append, List.set_cons_zero, List.set_cons_succ] at E)
  obtain ⟨q00, q01, q02, q03⟩ := (E.out.hdr 0 rfl).all
  go_wp2_with fail
  clear q00 q01 q02 q03
  refine (array_Right x _ _ _ _ _ _ _ _ (E.out.arr 2 rfl)).mono ?_
  rintro e w1 ⟨rfl, hb⟩
  replace E := hid (E.out.up hb)
  clear hb
  by_cases c : rightS x = 0
  case neg =>
    have cb : (rightS x != 0) = true := by simpa using c
    have hn := hid (chkE_x (y := y) c)
    replace c := hid c
    go_wp2_with fail
    exact hR.out _ _ ⟨by rw [hn.out] <;> rfl, E.out.ext⟩
  have cb : (rightS x != 0) = false := by simpa using c
  obtain ⟨q10, q11, q12, q13⟩ := (E.out.hdr 1 rfl).all
  go_wp2_with fail
  clear q10 q11 q12 q13
  refine (array_Right y _ _ _ _ _ _ _ _ (E.out.arr 3 rfl)).mono ?_
  rintro e w2 ⟨rfl, hb⟩
  replace E := hid (E.out.up hb)
  clear hb
  by_cases d : rightS y = 0
  case neg =>
    have db : (rightS y != 0) = true := by simpa using d
    have hn := hid (chkE_y (x := x) d)
    replace c := hid c
    replace d := hid d
    go_wp2_with fail
    exact hR.out _ _ ⟨by rw [hn.out] <;> rfl, E.out.ext⟩
  have db : (rightS y != 0) = false := by simpa using d
  by_cases k : x.kind = 1
  case neg =>
    have kb : (x.kind != 1) = true := by simpa using k
    have hn := hid (chkE_k c d k)
    replace c := hid c
    replace d := hid d
    replace k := hid k
    obtain ⟨q00, q01, q02, q03⟩ := (E.out.hdr 0 rfl).all
    go_wp2_with fail
    exact hR.out _ _ ⟨by rw [hn.out] <;> rfl, E.out.ext⟩
  have kb : (x.kind != 1) = false := by simpa using k
  by_cases r : 1 < x.shape.length
  case pos =>
    have rb : (1 : Int) < (x.shape.length : Int) := by omega
    have hn := hid (chkE_r c d k r)
    replace c := hid c
    replace d := hid d
    replace k := hid k
    obtain ⟨q00, q01, q02, q03⟩ := (E.out.hdr 0 rfl).all
    go_wp2_with fail
    exact hR.out _ _ ⟨by rw [hn.out] <;> rfl, E.out.ext⟩
  have rb : ¬ (1 : Int) < (x.shape.length : Int) := by omega
  have hn := hid (chk26_of ⟨c, d, k, by omega⟩)
  replace c := hid c
  replace d := hid d
  replace k := hid k
  obtain ⟨q00, q01, q02, q03⟩ := (E.out.hdr 0 rfl).all
  go_wp2_with fail
  exact hR.out _ _ ⟨by rw [hn.out] <;> rfl, E.out.ext⟩
theorem copy_1 (d : Int) (w : World) : Calls Try.prog 26 #[.int .i64 d] w fun e w' => e = .returned (.bool (negB d)) ∧ w = w' := by
  refine calls_post fun R' hR => ?_
  go_enter Try.func26, Try.ntmps26
  go_wp2
  exact hR.out _ _ ⟨rfl, rfl⟩
set_option maxHeartbeats 2000000 in
theorem copy_2 (x : Arr) (sx : Option Addr) (cx : Nat) (nx : Option Addr) (mx : Nat) (ix : Option Addr) (jx : Nat) (px i : Nat) (S : Nat → Prop) (w : World) (h : ArrAt w S x sx nx ix) (q1 : w.cell? ⟨px, 1, none⟩ = some (.slice sx x.shape.length cx)) (q2 : w.cell? ⟨px, 2, none⟩ = some (.slice nx x.nums.length mx)) (hi : (if x.shape.length = 0 then 0 else i) < x.nums.length) :
    Calls Try.prog 27 #[.int .i64 i, .pointer (some ⟨px, 0, none⟩)] w fun e w' => e = .returned (.int .i64 (min (cpK x i) 65537)) ∧ w = w' := by
  refine calls_post fun R' hR => ?_
  have hsx := h.shape.1
  have hnx := h.nums.1
  obtain ⟨b1, o1, hs1, hbl1, hS1, hc1⟩ := h.nums.at hi
  have hk : Hid (cpK x i = x.nums.getD (if x.shape.length = 0 then 0 else i) 0) := hid rfl
  clear h
  subst hs1
  by_cases c : x.shape.length = 0
  · have cb : ((x.shape.length : Int) == 0) = true := by simpa using c
    rw [if_pos c] at hi hc1 hk
    generalize x.nums.getD 0 0 = d at hc1 hk
    rw [Nat.add_zero] at hc1
    have t1 : (0 : Int) < (x.nums.length : Int) := by omega
    replace c := hid c
    go_enter Try.func27, Try.ntmps27
    go_wp2_with fail
    refine hR.out _ _ ⟨?_, rfl⟩
    rw [hk.out]
    congr 2
  · have cb : ((x.shape.length : Int) == 0) = false := by simpa using c
    rw [if_neg c] at hi hc1 hk
    generalize x.nums.getD i 0 = d at hc1 hk
    have t0 : (0 : Int) ≤ (i : Int) := by omega
    have t1 : (i : Int) < (x.nums.length : Int) := by omega
    replace c := hid c
    go_enter Try.func27, Try.ntmps27
    go_wp2_with fail
    refine hR.out _ _ ⟨?_, rfl⟩
    rw [hk.out]
    congr 2
theorem copying_unbinary (d : Int) (w : World) : Calls Try.prog 46 #[.int .i64 d] w fun e w' => e = .returned (.bool (!bitB d)) ∧ w = w' := by
  refine calls_post fun R' hR => ?_
  by_cases c0 : d = 0
  · have e0 : (d != 0) = false := by simp [c0]
    have hb : Hid (bitB d = true) := hid (by simp [bitB, c0])
    replace c0 := hid c0
    go_enter Try.func46, Try.ntmps46
    go_wp2
    exact hR.out _ _ ⟨by rw [hb.out] <;> rfl, rfl⟩
  · have e0 : (d != 0) = true := by simp [c0]
    by_cases c1 : d = 1
    · have e1 : (d != 1) = false := by simp [c1]
      have hb : Hid (bitB d = true) := hid (by simp [bitB, c1])
      replace c0 := hid c0
      replace c1 := hid c1
      go_enter Try.func46, Try.ntmps46
      go_wp2
      exact hR.out _ _ ⟨by rw [hb.out] <;> rfl, rfl⟩
    · have e1 : (d != 1) = true := by simp [c1]
      have hb : Hid (bitB d = false) := hid (by simp [bitB, c0, c1])
      replace c0 := hid c0
      replace c1 := hid c1
      go_enter Try.func46, Try.ntmps46
      go_wp2
      exact hR.out _ _ ⟨by rw [hb.out] <;> rfl, rfl⟩
/-- what the collector leaves behind: its variables -/
def CollPost (w0 : World) (S : Nat → Prop) (bo n : Nat) (y : Arr) (sy : Option Addr) (cy : Nat) (ny : Option Addr) (my : Nat) (iy : Option Addr) (jy : Nat) (L : List Fact) (en : Ending) (w' : World) : Prop :=
  ∃ pn py pp pf sf cf nf mf jf kf, en = .returned (.func (.func 60) #[] #[.pointer (some ⟨pn, 0, none⟩), .pointer (some ⟨py, 0, none⟩), .pointer (some ⟨pp, 0, none⟩), .pointer (some ⟨pf, 0, none⟩)]) ∧
    Env w0 S w' (.obj pn (.cells #[.int .i64 n] 3 (0, 0)) :: .obj py (.cells #[.int .i64 y.kind, .slice sy y.shape.length cy, .slice ny y.nums.length my, .slice iy y.items.length jy] 27 (0, 0)) :: .obj pp (.cells #[.pointer (some ⟨bo, 0, none⟩)] 53 (0, 0)) ::
      .obj pf (.cells #[.int .i64 (fillS y).kind, .slice sf (fillS y).shape.length cf, .slice nf (fillS y).nums.length mf, .slice jf (fillS y).items.length kf] 27 (0, 0)) :: .arr (fillS y) sf nf jf :: L)
set_option maxHeartbeats 4000000 in
theorem copying_collector (bo : Nat) (y : Arr) (sy : Option Addr) (cy : Nat) (ny : Option Addr) (my : Nat) (iy : Option Addr) (jy : Nat) (w0 : World) (S : Nat → Prop) (w : World) (L : List Fact) (E : Env w0 S w L) (h : ArrAt w (Tst w0 S L) y sy ny iy) (hs : shapeB y.shape = true) (hc : y.shape.length ≤ cy) :
    Calls Try.prog 31 #[.pointer (some ⟨bo, 0, none⟩), .agg #[.int .i64 y.kind, .slice sy y.shape.length cy, .slice ny y.nums.length my, .slice iy y.items.length jy]] w (CollPost w0 S bo (celN y) y sy cy ny my iy jy L) := by
  refine calls_post fun R' hR => ?_
  replace E := hid (E.addArr h (fun _ _ q => q)).front
  clear h
  go_enter Try.func31, Try.ntmps31
  go_upto_region 1 with (fail)
  generalize hEW : ((w).alloc (.cells #[.pointer (some ⟨bo, 0, none⟩)] 53)).alloc (.cells #[.int .i64 y.kind, .slice sy y.shape.length cy, .slice ny y.nums.length my, .slice iy y.items.length jy] 27) = W
  replace E := hid (envF2 E.out hEW)
  clear hEW
  (try simp only [List.cons_append, List.nil_append, List.set_cons_zero, List.set_cons_succ] at E)
  obtain ⟨q10, q11, q12, q13⟩ := (E.out.hdr 1 rfl).all
  go_wp2_with fail
  clear q10 q11 q12 q13
  refine (copying_split y _ _ _ _ _ _ _ _ (E.out.arr 2 rfl) hs hc).mono ?_
  rintro e w2 ⟨so, sc, rfl, hI, hb⟩
  replace E := hid (E.out.up hb)
  clear hI hb
  generalize w.heap.size + 1 = py at E ⊢
  generalize w.heap.size = pp at E ⊢
  go_upto_region 2 with (refine wpl_storeI1 rfl (.tmp 7) (.tmp 14) rfl _ _ _ rfl rfl ((E.out.alloc _).front.obj 0 rfl) ?_; intro V1 HV CV; replace E := hid ((E.out.alloc _).front.chg 0 rfl CV HV); clear CV HV; (try simp only [List.cons_append, List.nil_append, List.set_cons_zero, List.set_cons_succ] at E))
  generalize w2.heap.size = pn at E ⊢
  obtain ⟨q20, q21, q22, q23⟩ := (E.out.hdr 2 rfl).all
  go_wp2_with fail
  clear q20 q21 q22 q23
  refine (fill_array_Fill y _ _ _ _ _ _ V1).mono ?_
  rintro e w3 ⟨sf, cf, nf, mf, jf, kf, rfl, aF, hb⟩
  replace E := hid ((E.out.up hb).addArr aF (fun b _ hq => E.out.fresh (Ext.refl _) hq)).front
  clear aF hb
  go_upto_region 3 with (refine wpl_store4 rfl (.tmp 8) (.tmp 16) rfl _ rfl rfl ((E.out.alloc _).front.hdr 0 rfl) ?_; intro V2 HV CV; replace E := hid ((E.out.alloc _).front.chg 0 rfl CV HV); clear CV HV; (try simp only [List.cons_append, List.nil_append, List.set_cons_zero, List.set_cons_succ] at E))
  generalize w3.heap.size = pf at E ⊢
  go_wp2_with fail
  replace E := hid (E.out.pick 1 rfl)
  simp only [List.eraseIdx_cons_succ, List.eraseIdx_cons_zero] at E
  replace E := hid (E.out.pick 1 rfl)
  simp only [List.eraseIdx_cons_succ, List.eraseIdx_cons_zero] at E
  replace E := hid (E.out.pick 3 rfl)
  simp only [List.eraseIdx_cons_succ, List.eraseIdx_cons_zero] at E
  replace E := hid (E.out.pick 4 rfl)
  simp only [List.eraseIdx_cons_succ, List.eraseIdx_cons_zero] at E
  replace E := hid (E.out.pick 4 rfl)
  simp only [List.eraseIdx_cons_succ, List.eraseIdx_cons_zero] at E
  exact hR.out _ _ ⟨pn, py, pp, pf, sf, cf, nf, mf, jf, kf, rfl, E.out.sub ((((((List.Sublist.refl _).cons _).cons_cons _).cons_cons _).cons_cons _).cons_cons _ |>.cons_cons _)⟩
theorem celW_3 {y : Arr} (k : y.kind = 3) (i : Nat) : celW y i = (celN y : Int) + sumW (blkL y.items i (celN y)) := if_pos k
theorem celW_n {y : Arr} (k : y.kind ≠ 3) (i : Nat) : celW y i = celN y := if_neg k
theorem sumW_take_le (l : List Arr) (k : Nat) : sumW (l.take k) ≤ sumW l := by
  have h : sumW l = sumW (l.take k) + sumW (l.drop k) := by rw [← sumW_append, List.take_append_drop]
  have := sumW_nn (l.drop k)
  omega
theorem sumW_snoc (l : List Arr) (z : Arr) : sumW (l ++ [z]) = sumW l + wtS z := by rw [sumW_append]; simp [sumW]
set_option maxRecDepth 100000 in
set_option maxHeartbeats 8000000 in
theorem copying_weight (y : Arr) (sy : Option Addr) (cy : Nat) (ny : Option Addr) (my : Nat) (iy : Option Addr) (jy : Nat) (i : Nat) (S : Nat → Prop) (w : World) (h : ArrAt w S y sy ny iy) (hr : rightS y = 0) (hc : y.shape.length ≤ cy) (hci : y.items.length ≤ jy) (hi : i < talM y) :
    Calls Try.prog 28 #[.agg #[.int .i64 y.kind, .slice sy y.shape.length cy, .slice ny y.nums.length my, .slice iy y.items.length jy], .int .i64 i] w fun e w' => e = .returned (.int .i64 (celW y i)) ∧ Below w.heap.size w w' := by
  refine calls_post fun R' hR => ?_
  have h0 := hid h
  clear h
  have hs := (right_ok hr).2.1
  have hn6 := celN_le hs
  have ht6 := tal_le hs
  go_enter Try.func28, Try.ntmps28
  go_upto_region 1 with (fail)
  generalize hEW : (w).alloc (.cells #[.int .i64 y.kind, .slice sy y.shape.length cy, .slice ny y.nums.length my, .slice iy y.items.length jy] 27) = W
  have E := hid (env1 w S hEW)
  clear hEW
  replace E := hid (E.out.arg h0.out)
  (try simp only [List.cons_append, List.nil_append, List.set_cons_zero, List.set_cons_succ] at E)
  obtain ⟨q00, q01, q02, q03⟩ := (E.out.hdr 0 rfl).all
  go_wp2_with fail
  clear q00 q01 q02 q03
  refine (copying_split y _ _ _ _ _ _ _ _ (E.out.arr 1 rfl) hs hc).mono ?_
  rintro e w2 ⟨so, sc, rfl, hI, hb⟩
  replace E := hid (E.out.up hb)
  clear hI hb
  by_cases k3 : y.kind = 3
  case neg =>
    have kb : (y.kind != 3) = true := by simpa using k3
    have hw := hid (celW_n k3 i)
    replace k3 := hid k3
    obtain ⟨q00, q01, q02, q03⟩ := (E.out.hdr 0 rfl).all
    go_wp2_with fail
    exact hR.out _ _ ⟨by rw [hw.out] <;> rfl, E.out.ext⟩
  have kb : (y.kind != 3) = false := by simpa using k3
  have hw := hid (celW_3 k3 i)
  have hbd := celW_bd hr hi
  rw [hw.out] at hbd
  have hlen := sz_tal hr
  unfold szA szN at hlen
  rw [if_neg (by omega), if_pos k3] at hlen
  obtain ⟨n, hn⟩ : ∃ n, n = celN y := ⟨_, rfl⟩
  rw [← hn] at hw hbd hlen hn6 ⊢
  have hsz' : i * n + n ≤ y.items.length := by
    have := Nat.mul_le_mul_right n (show i + 1 ≤ talM y from hi)
    rw [Nat.succ_mul] at this; omega
  have hl6 : y.items.length ≤ 65536 := by have := cnt_tal hs; have := cnt_le hs; rw [← hn] at *; omega
  have ib : ¬ (i : Int) < 0 := by omega
  have hmul : ((i : Int) * (n : Int)) = ((i * n : Nat) : Int) := by simp
  have hib : i * n ≤ 65536 := by omega
  obtain ⟨m, hm⟩ : ∃ m, m = i * n := ⟨_, rfl⟩
  have hbl : Hid (blkL y.items i n = (y.items.drop m).take n) := hid (by unfold blkL; rw [hm])
  rw [← hm] at hmul hib hsz'
  rw [hbl.out] at hw hbd
  have hwr : IntKind.i64.wrap ((i : Int) * (n : Int)) = (m : Int) := by rw [hmul]; exact IntWalk.i64_in _ (by omega)
  have hwr2 : IntKind.i64.wrap ((m : Int) + (n : Int)) = ((m + n : Nat) : Int) := by rw [show (m : Int) + (n : Int) = ((m + n : Nat) : Int) by simp]; exact IntWalk.i64_in _ (by omega)
  have c2 : (m : Int) ≤ ((m + n : Nat) : Int) := by omega
  have c3 : (0 : Int) ≤ (m : Int) := by omega
  have c4 : (m : Int).toNat = m := by omega
  have c5 : (0 : Int) ≤ ((m + n : Nat) : Int) := by omega
  have c6 : ((m + n : Nat) : Int) ≤ (jy : Int) := by omega
  have c7 : ((m + n : Nat) : Int).toNat = m + n := by omega
  have c8 : m + n - m = n := by omega
  replace k3 := hid k3
  replace hm := hid hm
  replace hn := hid hn
  replace hlen := hid hlen
  obtain ⟨q00, q01, q02, q03⟩ := (E.out.hdr 0 rfl).all
  by_cases hnz : n = 0
  case pos =>
    have c9 : ¬ (0 : Int) < (n : Int) := by omega
    have hz : Hid (celW y i = 0) := hid (by rw [hw.out, hnz]; simp [sumW])
    replace hnz := hid hnz
    by_cases c1 : jy = m
    · go_upto_region 8 with (fail)
      go_loopw [8, 36] (fun u v wr => u = .int .i64 0 ∧ v = .int .i64 0 ∧ wr = w2) (fun _ _ _ => 0)
      case atStart => exact ⟨rfl, rfl, rfl⟩
      case round =>
        obtain ⟨rfl, rfl, rfl⟩ := hrel
        go_wp2_with fail
        exact hR.out _ _ ⟨by rw [hz.out] <;> rfl, E.out.ext⟩
    · go_upto_region 8 with (fail)
      go_loopw [8, 36] (fun u v wr => u = .int .i64 0 ∧ v = .int .i64 0 ∧ wr = w2) (fun _ _ _ => 0)
      case atStart => exact ⟨rfl, rfl, rfl⟩
      case round =>
        obtain ⟨rfl, rfl, rfl⟩ := hrel
        go_wp2_with fail
        exact hR.out _ _ ⟨by rw [hz.out] <;> rfl, E.out.ext⟩
  case neg =>
    have c1 : ¬ jy = m := by omega
    obtain ⟨b1, o1, _, _, _, _, _, _, hia, -⟩ := (E.out.arr 1 rfl).items.at (k := 0) (by omega)
    subst hia
    go_upto_region 8 with (fail)
    (try rw [c8])
    clear hwr hwr2 c2 c3 c4 c5 c6 c7 c8
    clear q00 q01 q02 q03
    obtain ⟨bl, hbl2⟩ : ∃ bl, bl = (y.items.drop m).take n := ⟨_, rfl⟩
    have hbln : bl.length = n := by rw [hbl2]; simp; omega
    have hbg : ∀ k (hk : k < n), bl[k]'(by omega) = y.items[m + k]'(by omega) := fun k hk => by simp [hbl2]
    rw [← hbl2] at hw hbd
    replace hbl2 := hid hbl2
    go_loopw [8, 36] (fun u v wr => ∃ (k : Nat) (s : Int), k ≤ n ∧ v = .int .i64 k ∧ u = .int .i64 s ∧ Hid (s = (k : Int) + sumW (bl.take k)) ∧ 0 ≤ s ∧ s ≤ 262144 ∧ Env w S wr [.obj w.heap.size (.cells #[.int .i64 y.kind, .slice sy y.shape.length cy, .slice ny y.nums.length my, .slice (some ⟨b1, o1, none⟩) y.items.length jy] 27 (0, 0)), .arr y sy ny (some ⟨b1, o1, none⟩)]) (fun _ v _ => n - (intOf v).toNat)
    case atStart => exact ⟨0, 0, Nat.zero_le _, rfl, rfl, hid (by simp [sumW]), Int.le_refl _, by decide, E.out⟩
    case round =>
      clear E
      obtain ⟨k, s, hk, rfl, rfl, hsk, hs0, hs1, E⟩ := hrel
      replace E := hid E
      by_cases hlt : k < n
      · obtain ⟨b2, o2, sz, cz, nz, mz, iz, jz, hia, hS1, hbl1, e0, e1, e2, e3, hz⟩ := (E.out.arr 1 rfl).items.at (k := m + k) (by omega)
        injection hia with hia
        injection hia with hia1 hia2
        subst hia1
        subst hia2
        have hstep : Hid (sumW (bl.take (k + 1)) = sumW (bl.take k) + wtS (y.items[m + k]'(by omega))) := hid (by rw [List.take_succ_eq_append_getElem (by omega), sumW_snoc, hbg k hlt])
        have hsl2 := sumW_take_le bl (k + 1)
        have hsn2 := hsk.out
        rw [hstep.out] at hsl2
        generalize y.items[m + k]'(by omega) = z at e0 e1 e2 e3 hz hstep hsl2
        have hnx : s + (1 + wtS z) = ((k + 1 : Nat) : Int) + (sumW (bl.take k) + wtS z) := by omega
        have hbx : s + (1 + wtS z) ≤ 262144 := by omega
        rw [← hstep.out] at hnx
        replace hnx := hid hnx
        clear hsn2 hsl2
        rw [show o1 + (m + k) * 4 = o1 + m * 4 + k * 4 by omega] at e0 e1 e2 e3
        replace E := hid (E.out.addArr hz (fun _ _ h => h))
        (try simp only [List.cons_append, List.nil_append, List.set_cons_zero, List.set_cons_succ] at E)
        clear hz
        have hz0 := wtS_bd z
        have k1 : (0 : Int) ≤ (k : Int) := by omega
        have k2 : (k : Int) < (n : Int) := by omega
        go_upto_region 10 with (refine wpl_store4 rfl (.tmp 10) (.tmp 39) rfl _ rfl rfl ((E.out.alloc _).hdr 3 rfl) ?_; intro V1 HV CV; replace E := hid ((E.out.alloc _).chg 3 rfl CV HV); clear CV HV; (try simp only [List.cons_append, List.nil_append, List.set_cons_zero, List.set_cons_succ] at E))
        generalize wr.heap.size = by1 at E ⊢
        clear e0 e1 e2 e3
        obtain ⟨q30, q31, q32, q33⟩ := (E.out.hdr 3 rfl).all
        go_wp2_with fail
        clear q30 q31 q32 q33
        refine (array_Weight z _ _ _ _ _ _ _ _ (E.out.arr 2 rfl)).mono ?_
        rintro e w9 ⟨rfl, hb⟩
        replace E := hid (E.out.up hb)
        clear hb
        go_wp2_with fail
        go_roundw
        case rel => exact ⟨k + 1, _, by omega, by go_num, rfl, hnx, by omega, hbx, E.out.sub (by simp [List.Sublist.refl])⟩
        case measure => simp [intOf]; omega
      · obtain rfl : k = n := by omega
        have hta : bl.take k = bl := List.take_of_length_le (by omega)
        have hfin := hsk.out
        rw [hta] at hfin
        replace hfin := hid hfin
        replace hta := hid hta
        go_wp2_with fail
        exact hR.out _ _ ⟨by rw [hw.out, ← hfin.out] <;> rfl, E.out.ext⟩
end Go.Proofs.Ytdpdcjadedcglaa
namespace Go.Proofs.Ytdpdcjadedcglaa
open Go.RowKit Go.Sort
attribute [local go_sem ↓] run_max2 run_min2
attribute [local go_sem] eql_ints_nil eql_arrs_nil
theorem coll_add (kk : Int) (oa : Option Addr) (ol oc : Nat) (na : Option Addr) (nc : Nat) (nums : List Int) (ia : Option Addr) (ic : Nat) (items : List Arr) (y : Arr) (sy : Option Addr) (cy : Nat) (ny : Option Addr) (my : Nat) (iy : Option Addr) (jy : Nat) (bo pn py pp pf i n : Nat) (w0 : World) (S : Nat → Prop) (w : World) (M : List Fact)
    (E : Env w0 S w (.obj bo (.cells #[.int .i64 kk, .slice oa ol oc, .slice na (nums).length nc, .slice ia (items).length ic] 27 (0, 0)) :: .rowI na nc (nums) :: .rowA ia ic (items) :: .obj pn (.cells #[.int .i64 n] 3 (0, 0)) :: .obj py (.cells #[.int .i64 y.kind, .slice sy y.shape.length cy, .slice ny y.nums.length my, .slice iy y.items.length jy] 27 (0, 0)) :: .obj pp (.cells #[.pointer (some ⟨bo, 0, none⟩)] 53 (0, 0)) :: .arr y sy ny iy :: M)) (hr : rightS y = 0) (hn : n = celN y) (hi : i < talM y) (hl1 : nums.length ≤ 65536) (hl2 : items.length ≤ 65536) (hcn : y.nums.length ≤ my) :
    Calls Try.prog 60 #[.int .i64 i, .pointer (some ⟨pn, 0, none⟩), .pointer (some ⟨py, 0, none⟩), .pointer (some ⟨pp, 0, none⟩), .pointer (some ⟨pf, 0, none⟩)] w fun en w' => ∃ na' nc' ia' ic', en = .returned (.tuple #[]) ∧ Env w0 S w' (.obj bo (.cells #[.int .i64 kk, .slice oa ol oc, .slice na' (nums ++ blkL y.nums i n).length nc', .slice ia' (items ++ blkL y.items i n).length ic'] 27 (0, 0)) :: .rowI na' nc' (nums ++ blkL y.nums i n) :: .rowA ia' ic' (items ++ blkL y.items i n) :: .obj pn (.cells #[.int .i64 n] 3 (0, 0)) :: .obj py (.cells #[.int .i64 y.kind, .slice sy y.shape.length cy, .slice ny y.nums.length my, .slice iy y.items.length jy] 27 (0, 0)) :: .obj pp (.cells #[.pointer (some ⟨bo, 0, none⟩)] 53 (0, 0)) :: .arr y sy ny iy :: M) := by
  have hs := (right_ok hr).2.1
  have hn6 := celN_le hs
  have ht6 := tal_le hs
  have hz := sz_tal hr
  have F := flat_of hr
  have hk := F.k
  have h5 : i * n + n ≤ szA y := by
    have := Nat.mul_le_mul_right n (show i + 1 ≤ talM y from hi)
    rw [Nat.succ_mul] at this
    rw [hz, ← hn]; omega
  have h6 := szA_le hr
  subst hn
  unfold szA szN at h5 h6
  by_cases k3 : y.kind = 3
  · rw [if_neg (by omega), if_pos k3] at h5 h6
    have e : blkL y.nums i (celN y) = [] := by rw [F.n k3]; exact blkL_nil _ _
    refine (coll_box kk oa ol oc na nc nums ia ic items y _ _ _ _ _ _ bo pn py pp pf i (celN y) w0 S w M E hn6 (by omega) k3 h5 (by omega) h6).mono ?_
    rintro en w' ⟨ia', ic', rfl, E'⟩
    exact ⟨na, nc, ia', ic', rfl, by rw [e, List.append_nil]; exact E'⟩
  · rw [if_pos (by omega)] at h5 h6
    have e : blkL y.items i (celN y) = [] := by rw [F.i k3]; exact blkL_nil _ _
    refine (coll_num kk oa ol oc na nc nums ia ic items y _ _ _ _ _ _ bo pn py pp pf i (celN y) w0 S w M E hn6 (by omega) k3 h5 (by omega) h6 hcn).mono ?_
    rintro en w' ⟨na', nc', rfl, E'⟩
    exact ⟨na', nc', ia, ic, rfl, by rw [e, List.append_nil]; exact E'⟩
theorem cp_idx {x y : Arr} (h : Chk26 x y) (l : ¬ (x.shape.length = 1 ∧ x.nums.length ≠ talM y)) {k : Nat} (hk : k < talM y) : (if x.shape.length = 0 then 0 else k) < x.nums.length := by
  have hc := formE_zero (right_form h.rx)
  have hr := h.r
  split
  · rename_i q
    have : cnt x.shape = 1 := by rw [List.eq_nil_of_length_eq_zero q]; exact cnt_nil
    have := hc.2.2
    have := h.k
    omega
  · omega
theorem min_step (s c m : Int) (h : 0 ≤ c) : min (min s m + min c m) m = min (s + c) m ∨ s < 0 ∨ m < 0 := by omega
theorem min_step2 (s c m : Int) (h : 0 ≤ c) (g : 0 ≤ s) (k : 0 ≤ m) : min (min s m + c) m = min (s + c) m := by omega
set_option maxRecDepth 100000 in
set_option maxHeartbeats 8000000 in
theorem copying_Copy (x : Arr) (sx : Option Addr) (cx : Nat) (nx : Option Addr) (mx : Nat) (ix : Option Addr) (jx : Nat) (y : Arr) (sy : Option Addr) (cy : Nat) (ny : Option Addr) (my : Nat) (iy : Option Addr) (jy : Nat) (S : Nat → Prop) (w : World) (h : ArrAt w S x sx nx ix) (g : ArrAt w S y sy ny iy) (hcx : x.shape.length ≤ cx ∧ x.nums.length ≤ mx ∧ x.items.length ≤ jx) (hcy : y.shape.length ≤ cy ∧ y.nums.length ≤ my ∧ y.items.length ≤ jy) :
    Calls Try.prog 9 #[.agg #[.int .i64 x.kind, .slice sx x.shape.length cx, .slice nx x.nums.length mx, .slice ix x.items.length jx], .agg #[.int .i64 y.kind, .slice sy y.shape.length cy, .slice ny y.nums.length my, .slice iy y.items.length jy]] w (RetAEC w (fun b => S b ∨ w.heap.size ≤ b) (copyS x y) (copyE x y)) := by
  refine calls_post fun R' hR => ?_
  have h0 := hid h
  have g0 := hid g
  replace hcx := hid hcx
  replace hcy := hid hcy
  clear h g
  go_enter Try.func9, Try.ntmps9
  go_upto_region 1 with (fail)
  generalize hEW : (((w).alloc (.cells #[.int .i64 x.kind, .slice sx x.shape.length cx, .slice nx x.nums.length mx, .slice ix x.items.length jx] 27)).alloc (.cells #[.int .i64 y.kind, .slice sy y.shape.length cy, .slice ny y.nums.length my, .slice iy y.items.length jy] 27)).alloc (.cells #[.int .i64 0, .slice none 0 0, .slice none 0 0, .slice none 0 0] 27) = W
  have E := hid (env3 w S hEW)
  clear hEW
  replace E := hid ((E.out.arg h0.out).arg g0.out)
  (try simp only [List.cons_append, List.nil_append, List.set_cons_zero, List.set_cons_succ] at E)
  obtain ⟨q00, q01, q02, q03⟩ := (E.out.hdr 0 rfl).all
  obtain ⟨q10, q11, q12, q13⟩ := (E.out.hdr 1 rfl).all
  go_wp2_with fail
  clear q00 q01 q02 q03 q10 q11 q12 q13
  refine (copying_check x _ _ _ _ _ _ y _ _ _ _ _ _ _ _ (E.out.arr 3 rfl) (E.out.arr 4 rfl)).mono ?_
  rintro e w1 ⟨rfl, hb⟩
  replace E := hid (E.out.up hb)
  clear hb
  by_cases c : chkE26 x y = 0
  case neg =>
    have cb : (chkE26 x y != 0) = true := by simpa using c
    have hn := hid (copyE_c c)
    have hv := hid (copyS_no (x := x) (y := y) (by rw [hn.out]; exact c))
    replace c := hid c
    go_wp2_with (refine wpl_store4 rfl (.tmp 4) (.tmp 23) rfl _ rfl rfl (E.out.hdr 2 rfl) ?_; intro V HV CV; replace E := hid (E.out.chg 2 rfl CV HV))
    exact bodyPost_ret (end_arr2 rfl HV rfl rfl) rfl (hR.out _ _ (RetAEC.zero hv.out hn.out E.out.ext))
  have cb : (chkE26 x y != 0) = false := by simpa using c
  have K := chk26_ok c
  have hs := (right_ok K.ry).2.1
  have ht := tal_nn hs
  have ht6 := tal_le hs
  have xl := K.r
  have hx6 := (right_l3 K.rx)
  replace K := hid K
  replace c := hid c
  obtain ⟨q10, q11, q12, q13⟩ := (E.out.hdr 1 rfl).all
  go_wp2_with fail
  clear q10 q11 q12 q13
  refine (copying_split y _ _ _ _ _ _ _ _ (E.out.arr 4 rfl) hs hcy.out.1).mono ?_
  rintro e w2 ⟨so, sc, rfl, hI, hb⟩
  replace E := hid ((E.out.up hb).addInts hI (fun _ _ h => h))
  clear hI hb
  (try simp only [List.cons_append, List.nil_append, List.set_cons_zero, List.set_cons_succ] at E)
  rw [← ht]
  replace ht := hid ht
  obtain ⟨t, htt⟩ : ∃ t, t = talM y := ⟨_, rfl⟩
  rw [← htt] at ht6 ⊢
  by_cases l : x.shape.length = 1 ∧ x.nums.length ≠ t
  case pos =>
    have l1 : ((x.shape.length : Int) == 1) = true := by simp; omega
    have l2 : ((x.nums.length : Int) != (t : Int)) = true := by simp; omega
    have hn := hid (copyE_l c.out (by rw [← htt]; exact l))
    have hv := hid (copyS_no (x := x) (y := y) (by rw [hn.out]; decide))
    replace l := hid l
    obtain ⟨q00, q01, q02, q03⟩ := (E.out.hdr 0 rfl).all
    go_wp2_with (refine wpl_store4 rfl (.tmp 4) (.tmp 43) rfl _ rfl rfl (E.out.hdr 2 rfl) ?_; intro V HV CV; replace E := hid (E.out.chg 2 rfl CV HV))
    exact bodyPost_ret (end_arr2 rfl HV rfl rfl) rfl (hR.out _ _ (RetAEC.zero hv.out hn.out E.out.ext))
  replace htt := hid htt
  go_upto_region 5 with (fail)
  go_cut [31] (fun v wc => v = .bool false ∧ Env w S wc [.obj w.heap.size (.cells #[.int .i64 x.kind, .slice sx x.shape.length cx, .slice nx x.nums.length mx, .slice ix x.items.length jx] 27 (0, 0)), .obj (w.heap.size + 1) (.cells #[.int .i64 y.kind, .slice sy y.shape.length cy, .slice ny y.nums.length my, .slice iy y.items.length jy] 27 (0, 0)), .obj (w.heap.size + 1 + 1) (.cells #[.int .i64 0, .slice none 0 0, .slice none 0 0, .slice none 0 0] 27 (0, 0)), .arr x sx nx ix, .arr y sy ny iy, .ints (celL y) so])
  case first =>
    by_cases l1 : x.shape.length = 1
    · have b1 : ((x.shape.length : Int) == 1) = true := by simp; omega
      have b2 : ((x.nums.length : Int) != (t : Int)) = false := by simp; omega
      replace l1 := hid l1
      replace l := hid l
      obtain ⟨q00, q01, q02, q03⟩ := (E.out.hdr 0 rfl).all
      go_wp2_with fail
      go_meet
      case rel => exact ⟨rfl, E.out⟩
    · have b1 : ((x.shape.length : Int) == 1) = false := by simp; omega
      replace l1 := hid l1
      replace l := hid l
      obtain ⟨q00, q01, q02, q03⟩ := (E.out.hdr 0 rfl).all
      go_wp2_with fail
      go_meet
      case rel => exact ⟨rfl, E.out⟩
  case rest =>
  clear E
  obtain ⟨rfl, E⟩ := hcut
  replace E := hid E
  have LL : Hid (¬ (x.shape.length = 1 ∧ x.nums.length ≠ talM y)) := hid (by rw [← htt.out]; exact l)
  replace l := hid l
  obtain ⟨q00, q01, q02, q03⟩ := (E.out.hdr 0 rfl).all
  go_wp2_with fail
  clear q00 q01 q02 q03
  refine (slices_ContainsFunc_copying_Copy_1 negB x.nums _ _ _ _ (E.out.arr 3 rfl).nums (fun n => copy_1 n _)).mono ?_
  rintro e w3 ⟨rfl, rfl⟩
  by_cases d : x.nums.any negB = true
  case pos =>
    rw [d]
    have hn := hid (copyE_d c.out LL.out d)
    have hv := hid (copyS_no (x := x) (y := y) (by rw [hn.out]; decide))
    replace d := hid d
    go_wp2_with (refine wpl_store4 rfl (.tmp 4) (.tmp 48) rfl _ rfl rfl (E.out.hdr 2 rfl) ?_; intro V HV CV; replace E := hid (E.out.chg 2 rfl CV HV))
    exact bodyPost_ret (end_arr2 rfl HV rfl rfl) rfl (hR.out _ _ (RetAEC.zero hv.out hn.out E.out.ext))
  have d' : x.nums.any negB = false := by simpa using d
  rw [d']
  have hcn := hid (fun i => cpK_nn d' i)
  have hix := hid (fun k (hk : k < t) => cp_idx K.out LL.out (k := k) (by rw [← htt.out]; exact hk))
  have hcw := hid (fun k (hk : k < t) => celW_bd K.out.ry (i := k) (by rw [← htt.out]; exact hk))
  have hww := hid (fun k (hk : k < t) (T : Nat → Prop) wz (hz : ArrAt wz T y sy ny iy) => copying_weight y sy cy ny my iy jy k T wz hz K.out.ry hcy.out.1 hcy.out.2.2 (by rw [← htt.out]; exact hk))
  have SS := fun q => copyE_s c.out LL.out d' q
  have S0 := fun q1 q2 => copyE_0 c.out LL.out d' q1 q2
  have CK := fun q => (CpOk.mk c.out LL.out d' q : CpOk x y)
  replace SS := hid SS
  replace S0 := hid S0
  replace CK := hid CK
  replace d := hid d
  clear d'
  go_upto_region 12 with (fail)
  go_loopw [11, 12, 13, 51] (fun s hv i v wr => ∃ k : Nat, k ≤ t ∧ v = .int .i64 k ∧ s = .int .i64 (min (sumF (cpK x) k) 65537) ∧ hv = .int .i64 (min (sumF (fun i => min (cpK x i) 65537 * celW y i) k) 262145) ∧ Env w S wr [.obj w.heap.size (.cells #[.int .i64 x.kind, .slice sx x.shape.length cx, .slice nx x.nums.length mx, .slice ix x.items.length jx] 27 (0, 0)), .obj (w.heap.size + 1) (.cells #[.int .i64 y.kind, .slice sy y.shape.length cy, .slice ny y.nums.length my, .slice iy y.items.length jy] 27 (0, 0)), .obj (w.heap.size + 1 + 1) (.cells #[.int .i64 0, .slice none 0 0, .slice none 0 0, .slice none 0 0] 27 (0, 0)), .arr x sx nx ix, .arr y sy ny iy, .ints (celL y) so]) (fun _ _ _ v _ => t - (intOf v).toNat)
  case atStart => exact ⟨0, Nat.zero_le _, rfl, by simp [sumF]; decide, by simp [sumF]; decide, E.out⟩
  case round =>
    clear E
    obtain ⟨k, hk, rfl, rfl, rfl, E⟩ := hrel
    replace E := hid E
    by_cases hlt : k < t
    · have hc0 := hcn.out k
      have hw0 := hcw.out k hlt
      have hs0 := sumF_nn (f := cpK x) (n := k) (fun i _ => hcn.out i)
      have hh0 := sumF_nn (f := fun i => min (cpK x i) 65537 * celW y i) (n := k) (fun i hi => Int.mul_nonneg (by have := hcn.out i; omega) (hcw.out i (by omega)).1)
      have hS1 : sumF (cpK x) (k + 1) = sumF (cpK x) k + cpK x k := rfl
      have hH1 : sumF (fun i => min (cpK x i) 65537 * celW y i) (k + 1) = sumF (fun i => min (cpK x i) 65537 * celW y i) k + min (cpK x k) 65537 * celW y k := rfl
      obtain ⟨cv, hcv⟩ : ∃ cv, cv = min (cpK x k) 65537 := ⟨_, rfl⟩
      obtain ⟨wv, hwv⟩ : ∃ cv, cv = celW y k := ⟨_, rfl⟩
      obtain ⟨pv, hpv⟩ : ∃ p, p = cv * wv := ⟨_, rfl⟩
      rw [← hcv, ← hwv, ← hpv] at hH1
      rw [← hwv] at hw0
      have hcb : 0 ≤ cv ∧ cv ≤ 65537 := by omega
      have hpb : 0 ≤ pv ∧ pv ≤ 17180131328 := by
        rw [hpv]
        refine ⟨Int.mul_nonneg hcb.1 hw0.1, ?_⟩
        have := Int.mul_le_mul hcb.2 hw0.2 hw0.1 (by omega)
        omega
      obtain ⟨s0, hs0'⟩ : ∃ s, s = sumF (cpK x) k := ⟨_, rfl⟩
      obtain ⟨h0', hh0'⟩ : ∃ s, s = sumF (fun i => min (cpK x i) 65537 * celW y i) k := ⟨_, rfl⟩
      rw [← hs0'] at hs0 hS1 ⊢
      rw [← hh0'] at hh0 hH1 ⊢
      have hS2 : min (min s0 65537 + cv) 65537 = min (sumF (cpK x) (k + 1)) 65537 := by rw [hS1]; omega
      have hH2 : min (min h0' 262145 + pv) 262145 = min (sumF (fun i => min (cpK x i) 65537 * celW y i) (k + 1)) 262145 := by rw [hH1]; omega
      obtain ⟨sa, hsa⟩ : ∃ s, s = min s0 65537 := ⟨_, rfl⟩
      obtain ⟨ha, hha⟩ : ∃ s, s = min h0' 262145 := ⟨_, rfl⟩
      have hsb : 0 ≤ sa ∧ sa ≤ 65537 := by omega
      have hhb : 0 ≤ ha ∧ ha ≤ 262145 := by omega
      rw [← hsa] at hS2 ⊢
      rw [← hha] at hH2 ⊢
      clear hs0 hh0 hc0
      replace hS1 := hid hS1
      replace hH1 := hid hH1
      replace hS2 := hid hS2
      replace hH2 := hid hH2
      replace hcv := hid hcv
      replace hwv := hid hwv
      replace hsa := hid hsa
      replace hha := hid hha
      replace hs0' := hid hs0'
      replace hh0' := hid hh0'
      go_wp2_with fail
      refine (copy_2 x sx cx nx mx ix jx w.heap.size k _ _ (E.out.arr 3 rfl) (E.out.hdr 0 rfl).c1 (E.out.hdr 0 rfl).c2 (hix.out k hlt)).mono ?_
      rintro e w4 ⟨rfl, rfl⟩
      rw [← hcv.out]
      go_upto_region 15 with (fail)
      have hw3 : Hid (IntKind.i64.wrap (ha + cv * wv) = ha + pv) := hid (by rw [← hpv]; exact IntWalk.i64_in _ (by omega))
      have hw1 : IntKind.i64.wrap (cv * wv) = pv := by rw [← hpv]; exact IntWalk.i64_in _ (by omega)
      have hw2 : IntKind.i64.wrap (ha + pv) = ha + pv := IntWalk.i64_in _ (by omega)
      obtain ⟨q00, q01, q02, q03⟩ := (E.out.hdr 0 rfl).all
      obtain ⟨q10, q11, q12, q13⟩ := (E.out.hdr 1 rfl).all
      obtain ⟨T, hT1, hT2, hT3⟩ := E.out.tw
      refine wp_region_mono (Sees wr [(⟨(w.heap.size+1), 0, none⟩, .int .i64 y.kind), (⟨(w.heap.size+1), 1, none⟩, .slice sy y.shape.length cy), (⟨(w.heap.size+1), 2, none⟩, .slice ny y.nums.length my), (⟨(w.heap.size+1), 3, none⟩, .slice iy y.items.length jy)]) [3, 6] (fun k v u u' => match k with | 3 => v = .int .i64 cv | 6 => v = .int .i64 wv | _ => False) (fun _ _ h e => h.up e) (Sees.start (all_cons ((E.out.hdr 1 rfl).c0) (all_cons ((E.out.hdr 1 rfl).c1) (all_cons ((E.out.hdr 1 rfl).c2) (all_cons ((E.out.hdr 1 rfl).c3) (all_nil)))))) (by kernel_rfl) (by kernel_rfl) ?_
      repeat (first | (refine m_plain (v := ?_) (by rfl) (by rfl) ?_ ?_; rotate_left; (intro wz hSw; obtain ⟨-, hSc⟩ := hSw; (try simp only [List.forall_mem_cons, List.forall_mem_nil, and_true] at hSc); go_simp; (first | done | with_reducible rfl)); (intro K hK; (try simp only [Act.put, List.setIfInBounds_toArray, List.set_cons_zero, List.set_cons_succ]); refine hK _ _ ?_; clear hK K)) | (refine m_skip (by rfl) (by rfl) ?_; (intro K hK; (try simp only [Act.put, List.setIfInBounds_toArray, List.set_cons_zero, List.set_cons_succ]); refine hK _ _ ?_; clear hK K)))
      refine m_make (by rfl) (by rfl) ?_ ?_
      · intro wz hSw hdep R hRz
        obtain ⟨hSe, hSc⟩ := hSw
        (try simp only [List.forall_mem_cons, List.forall_mem_nil, and_true] at hSc)
        unfold does
        (go_simp; refine Calls.mono (copy_2 x sx cx nx mx ix jx w.heap.size k _ wz (ArrAt.up (ArrAt.mono (fun b _ h => hT1 b h) _ (E.out.arr 3 rfl)) hSe) (up_cell (E.out.hdr 0 rfl).c1 hSe) (up_cell (E.out.hdr 0 rfl).c2 hSe) (hix.out k hlt)) ?_; rintro e wq ⟨rfl, rfl⟩; rw [hcv.out.symm]; exact ⟨_, rfl, hRz.out _ _ ⟨Ext.refl _, rfl⟩⟩)
      intro v3 u3 x3 hG3 K hK
      have hF3 := hG3.fact
      (try dsimp only at hF3)
      subst hF3
      (try simp only [Act.put, List.setIfInBounds_toArray, List.set_cons_zero, List.set_cons_succ]); refine hK _ _ ?_; clear hK K
      repeat (first | (refine m_plain (v := ?_) (by rfl) (by rfl) ?_ ?_; rotate_left; (intro wz hSw; obtain ⟨-, hSc⟩ := hSw; (try simp only [List.forall_mem_cons, List.forall_mem_nil, and_true] at hSc); go_simp; (first | done | with_reducible rfl)); (intro K hK; (try simp only [Act.put, List.setIfInBounds_toArray, List.set_cons_zero, List.set_cons_succ]); refine hK _ _ ?_; clear hK K)) | (refine m_skip (by rfl) (by rfl) ?_; (intro K hK; (try simp only [Act.put, List.setIfInBounds_toArray, List.set_cons_zero, List.set_cons_succ]); refine hK _ _ ?_; clear hK K)))
      refine m_make (by rfl) (by rfl) ?_ ?_
      · intro wz hSw hdep R hRz
        obtain ⟨hSe, hSc⟩ := hSw
        (try simp only [List.forall_mem_cons, List.forall_mem_nil, and_true] at hSc)
        unfold does
        (go_simp; refine Calls.mono (hww.out k hlt _ wz (ArrAt.up (ArrAt.mono (fun b _ h => hT1 b h) _ (E.out.arr 4 rfl)) hSe)) ?_; rintro e wq ⟨rfl, hqb⟩; rw [hwv.out.symm]; exact ⟨_, rfl, hRz.out _ _ ⟨hqb, rfl⟩⟩)
      intro v6 u6 x6 hG6 K hK
      have hF6 := hG6.fact
      (try dsimp only at hF6)
      subst hF6
      (try simp only [Act.put, List.setIfInBounds_toArray, List.set_cons_zero, List.set_cons_succ]); refine hK _ _ ?_; clear hK K
      repeat (first | (refine m_plain (v := ?_) (by rfl) (by rfl) ?_ ?_; rotate_left; (intro wz hSw; obtain ⟨-, hSc⟩ := hSw; (try simp only [List.forall_mem_cons, List.forall_mem_nil, and_true] at hSc); go_simp; (first | done | with_reducible rfl)); (intro K hK; (try simp only [Act.put, List.setIfInBounds_toArray, List.set_cons_zero, List.set_cons_succ]); refine hK _ _ ?_; clear hK K)) | (refine m_skip (by rfl) (by rfl) ?_; (intro K hK; (try simp only [Act.put, List.setIfInBounds_toArray, List.set_cons_zero, List.set_cons_succ]); refine hK _ _ ?_; clear hK K)))
      refine m_nil ?_
      intro wf hSf hAf
      replace E := hid (E.out.up hSf.1)
      clear hSf hAf hG3 hG6 hT1 hT2 hT3 hw1 hw2
      clear q00 q01 q02 q03 q10 q11 q12 q13
      go_wp2_with fail
      go_roundw
      case rel => exact ⟨k + 1, by omega, by go_num, by rw [hS2.out], by rw [hw3.out, hH2.out], E.out⟩
      case measure => simp [intOf]; omega
    · obtain rfl : t = k := by omega
      have eS : sumF (cpK x) t = cpSum x y := by rw [htt.out]; rfl
      have eH : sumF (fun i => min (cpK x i) 65537 * celW y i) t = cpHvy x y := by rw [htt.out]; rfl
      rw [eS, eH]
      have hS0 : 0 ≤ cpSum x y := sumF_nn (f := cpK x) (n := talM y) (fun i _ => hcn.out i)
      obtain ⟨sm, hsm⟩ : ∃ s, s = min (cpSum x y) 65537 := ⟨_, rfl⟩
      obtain ⟨hm, hhm⟩ : ∃ s, s = min (cpHvy x y) 262145 := ⟨_, rfl⟩
      have hsh : cpShape x y = [sm] ++ celL y := by rw [hsm]; rfl
      have hhv : ¬ 262144 < hm ↔ ¬ 262144 < cpHvy x y := by omega
      have hcl : (celL y).length ≤ 8 := by have := (shapeB_iff.1 (celL_ok hs)).1; exact this
      rw [← hsm, ← hhm]
      replace hsm := hid hsm
      replace hhm := hid hhm
      replace eS := hid eS
      replace eH := hid eH
      have hS0' := hid hS0
      clear hS0
      go_wp2_with (refine wpl_buildV rfl sm (.tmp 71) rfl rfl ?_; have E1 : Env w S (wr.alloc (.cells #[.int .i64 sm] 3)) _ := E.out.lit [sm] (show (1 : Nat) ≤ 17592186044416 by decide); clear E; have E := hid E1; clear E1; generalize World.alloc _ (.cells #[.int .i64 sm] 3) = V1 at E ⊢; generalize wr.heap.size = p1 at E ⊢; (try simp only [List.cons_append, List.nil_append, List.set_cons_zero, List.set_cons_succ] at E))
      replace E := hid (E.out.alloc (.cells #[.slice (some ⟨p1, 0, none⟩) 1 1, .slice so (celL y).length sc] 24))
      generalize World.alloc _ _ = V2 at E ⊢
      generalize V1.heap.size = p2 at E ⊢
      (try simp only [List.cons_append, List.nil_append, List.set_cons_zero, List.set_cons_succ] at E)
      obtain ⟨r0, r1⟩ := row2 (E.out.obj 7 rfl)
      refine (slices_Concat2 [sm] (celL y) _ _ _ _ p2 _ V2 (E.out.ints 6 rfl) (E.out.ints 5 rfl) r0 r1 (by simp only [List.length_cons, List.length_nil]; omega)).mono ?_
      rintro e w5 ⟨oa, oc, rfl, hO, hb⟩
      clear r0 r1
      obtain ⟨s, hss⟩ : ∃ s, s = cpShape x y := ⟨_, rfl⟩
      rw [← hss] at hsh
      rw [← hsh] at hO ⊢
      replace E := hid (E.out.addRowI hO hb)
      clear hO hb
      (try simp only [List.cons_append, List.nil_append, List.set_cons_zero, List.set_cons_succ] at E)
      have sl9 : s.length ≤ 9 := by rw [hsh, List.length_append]; simp only [List.length_cons, List.length_nil]; omega
      have hcap := hid (OwnI.cap (E.out.rowI 8 rfl))
      replace E := hid (E.out.doneI 8 rfl (by omega))
      (try simp only [List.cons_append, List.nil_append, List.set_cons_zero, List.set_cons_succ] at E)
      replace hsh := hid hsh
      replace hss := hid hss
      go_wp2_with fail
      refine (shape_Right s _ _ _ _ (E.out.ints 8 rfl)).mono ?_
      rintro e w6 ⟨rfl, rfl⟩
      cases hsS : shapeB s with
      | false =>
        have hn := hid (SS.out (Or.inl (by rw [← hss.out]; exact hsS)))
        have hv := hid (copyS_no (x := x) (y := y) (by rw [hn.out]; decide))
        replace hsS := hid hsS
        go_wp2_with (refine wpl_store4 rfl (.tmp 4) (.tmp 83) rfl _ rfl rfl (E.out.hdr 2 rfl) ?_; intro V HV CV; replace E := hid (E.out.chg 2 rfl CV HV))
        exact bodyPost_ret (end_arr2 rfl HV rfl rfl) rfl (hR.out _ _ (RetAEC.zero hv.out hn.out E.out.ext))
      | true =>
      by_cases hw : 262144 < hm
      case pos =>
        have hn := hid (SS.out (Or.inr (by have := hhm.out; omega)))
        have hv := hid (copyS_no (x := x) (y := y) (by rw [hn.out]; decide))
        replace hsS := hid hsS
        go_wp2_with (refine wpl_store4 rfl (.tmp 4) (.tmp 83) rfl _ rfl rfl (E.out.hdr 2 rfl) ?_; intro V HV CV; replace E := hid (E.out.chg 2 rfl CV HV))
        exact bodyPost_ret (end_arr2 rfl HV rfl rfl) rfl (hR.out _ _ (RetAEC.zero hv.out hn.out E.out.ext))
      have OK := hid (CK.out (by rw [← hss.out]; exact hsS))
      have hn := hid (S0.out (by rw [← hss.out]; exact hsS) (by have := hhm.out; omega))
      have hv : Hid (copyS x y = .mk y.kind s (cpN x y t 0) (cpI x y t 0)) := hid (by rw [copyS_yes hn.out, copyA_eq, ← hss.out, ← htt.out])
      replace hsS := hid hsS
      clear hhv
      obtain ⟨q10, q11, q12, q13⟩ := (E.out.hdr 1 rfl).all
      go_upto_region 21 with (refine wpl_store4 rfl (.tmp 15) (.tmp 87) rfl _ rfl rfl ((E.out.alloc _).hdr 9 rfl) ?_; intro V3 HV CV; replace E := hid ((E.out.alloc _).chg 9 rfl CV HV); clear CV HV; (try simp only [List.cons_append, List.nil_append, List.set_cons_zero, List.set_cons_succ] at E))
      clear q10 q11 q12 q13
      generalize w5.heap.size = bo at E ⊢
      obtain ⟨q10, q11, q12, q13⟩ := (E.out.hdr 1 rfl).all
      go_wp2_with fail
      clear q10 q11 q12 q13
      refine (copying_collector bo y _ _ _ _ _ _ w S _ _ E.out (E.out.arr 4 rfl) hs hcy.out.1).mono ?_
      rintro e w7 ⟨pn, py, pp, pf, sf, cf, nf, mf, jf, kf, rfl, E1⟩
      clear E
      have E := hid ((E1.row0I).row0A)
      clear E1
      (try simp only [List.cons_append, List.nil_append, List.set_cons_zero, List.set_cons_succ] at E)
      replace E := hid (E.out.pick 9 rfl)
      simp only [List.eraseIdx_cons_succ, List.eraseIdx_cons_zero] at E
      replace E := hid (E.out.pick 3 rfl)
      simp only [List.eraseIdx_cons_succ, List.eraseIdx_cons_zero] at E
      replace E := hid (E.out.pick 3 rfl)
      simp only [List.eraseIdx_cons_succ, List.eraseIdx_cons_zero] at E
      replace E := hid (E.out.pick 3 rfl)
      simp only [List.eraseIdx_cons_succ, List.eraseIdx_cons_zero] at E
      replace E := hid (E.out.pick 16 rfl)
      simp only [List.eraseIdx_cons_succ, List.eraseIdx_cons_zero] at E
      replace E := hid (E.out.pick 16 rfl)
      simp only [List.eraseIdx_cons_succ, List.eraseIdx_cons_zero] at E
      replace E := hid (E.out.pick 16 rfl)
      simp only [List.eraseIdx_cons_succ, List.eraseIdx_cons_zero] at E
      go_upto_region 23 with (fail)
      go_loopw [17, 91] (fun u v wr => ∃ (k : Nat) (na : Option Addr) (nc : Nat) (ia : Option Addr) (ic : Nat), k ≤ t ∧ v = .int .i64 k ∧ Env w S wr [.obj bo (.cells #[.int .i64 y.kind, .slice oa s.length oc, .slice na (cpN x y k 0).length nc, .slice ia (cpI x y k 0).length ic] 27 (0, 0)), .rowI na nc (cpN x y k 0), .rowA ia ic (cpI x y k 0), .obj pn (.cells #[.int .i64 (celN y : Nat)] 3 (0, 0)), .obj py (.cells #[.int .i64 y.kind, .slice sy y.shape.length cy, .slice ny y.nums.length my, .slice iy y.items.length jy] 27 (0, 0)), .obj pp (.cells #[.pointer (some ⟨bo, 0, none⟩)] 53 (0, 0)), .arr y sy ny iy, .obj pf (.cells #[.int .i64 (fillS y).kind, .slice sf (fillS y).shape.length cf, .slice nf (fillS y).nums.length mf, .slice jf (fillS y).items.length kf] 27 (0, 0)), .arr (fillS y) sf nf jf, .obj w.heap.size (.cells #[.int .i64 x.kind, .slice sx x.shape.length cx, .slice nx x.nums.length mx, .slice ix x.items.length jx] 27 (0, 0)), .obj (w.heap.size + 1) (.cells #[.int .i64 y.kind, .slice sy y.shape.length cy, .slice ny y.nums.length my, .slice iy y.items.length jy] 27 (0, 0)), .obj (w.heap.size + 1 + 1) (.cells #[.int .i64 0, .slice none 0 0, .slice none 0 0, .slice none 0 0] 27 (0, 0)), .arr x sx nx ix, .ints (celL y) so, .ints [sm] (some ⟨p1, 0, none⟩), .obj p2 (.cells #[.slice (some ⟨p1, 0, none⟩) 1 1, .slice so (celL y).length sc] 24 (0, 0)), .ints s oa]) (fun _ v _ => t - (intOf v).toNat)
      case atStart => exact ⟨0, none, 0, none, 0, Nat.zero_le _, rfl, by rw [cpN_0, cpI_0]; exact E.out⟩
      case round =>
        clear E
        obtain ⟨k, na, nc, ia, ic, hk2, rfl, E⟩ := hrel
        replace E := hid E
        by_cases hlt : k < t
        · have hkt : k < talM y := by rw [← htt.out]; exact hlt
          have hkle := OK.out.le hkt
          obtain ⟨kc, hkc⟩ : ∃ kc, kc = (cpK x k).toNat := ⟨_, rfl⟩
          have hkm : min (cpK x k) 65537 = (kc : Int) := by have := hcn.out k; omega
          have hlen := fun j (hj : j ≤ kc) => OK.out.len (i := k) (j := j) hkt (by rw [← hkc]; exact hj)
          have hkb : kc ≤ 65536 := by omega
          replace hlen := hid hlen
          replace hkm := hid hkm
          replace hkc := hid hkc
          clear hkle
          go_wp2_with fail
          refine (copy_2 x sx cx nx mx ix jx w.heap.size k _ _ (E.out.arr 12 rfl) (E.out.hdr 9 rfl).c1 (E.out.hdr 9 rfl).c2 (hix.out k hlt)).mono ?_
          rintro e w8 ⟨rfl, rfl⟩
          rw [hkm.out]
          go_upto_region 26 with (fail)
          go_loopw [97] (fun v wr => ∃ (j : Nat) (na : Option Addr) (nc : Nat) (ia : Option Addr) (ic : Nat), j ≤ kc ∧ v = .int .i64 j ∧ Env w S wr [.obj bo (.cells #[.int .i64 y.kind, .slice oa s.length oc, .slice na (cpN x y k j).length nc, .slice ia (cpI x y k j).length ic] 27 (0, 0)), .rowI na nc (cpN x y k j), .rowA ia ic (cpI x y k j), .obj pn (.cells #[.int .i64 (celN y : Nat)] 3 (0, 0)), .obj py (.cells #[.int .i64 y.kind, .slice sy y.shape.length cy, .slice ny y.nums.length my, .slice iy y.items.length jy] 27 (0, 0)), .obj pp (.cells #[.pointer (some ⟨bo, 0, none⟩)] 53 (0, 0)), .arr y sy ny iy, .obj pf (.cells #[.int .i64 (fillS y).kind, .slice sf (fillS y).shape.length cf, .slice nf (fillS y).nums.length mf, .slice jf (fillS y).items.length kf] 27 (0, 0)), .arr (fillS y) sf nf jf, .obj w.heap.size (.cells #[.int .i64 x.kind, .slice sx x.shape.length cx, .slice nx x.nums.length mx, .slice ix x.items.length jx] 27 (0, 0)), .obj (w.heap.size + 1) (.cells #[.int .i64 y.kind, .slice sy y.shape.length cy, .slice ny y.nums.length my, .slice iy y.items.length jy] 27 (0, 0)), .obj (w.heap.size + 1 + 1) (.cells #[.int .i64 0, .slice none 0 0, .slice none 0 0, .slice none 0 0] 27 (0, 0)), .arr x sx nx ix, .ints (celL y) so, .ints [sm] (some ⟨p1, 0, none⟩), .obj p2 (.cells #[.slice (some ⟨p1, 0, none⟩) 1 1, .slice so (celL y).length sc] 24 (0, 0)), .ints s oa]) (fun v _ => kc - (intOf v).toNat)
          case atStart => exact ⟨0, na, nc, ia, ic, Nat.zero_le _, rfl, E.out⟩
          case round =>
            clear E na nc ia ic
            obtain ⟨j, na, nc, ia, ic, hj, rfl, E⟩ := hrel
            replace E := hid E
            by_cases hl2 : j < kc
            · go_wp2_with fail
              refine (coll_add y.kind oa s.length oc na nc (cpN x y k j) ia ic (cpI x y k j) y sy cy ny my iy jy bo pn py pp pf k (celN y) w S _ _ E.out K.out.ry rfl hkt (hlen.out j hj).1 (hlen.out j hj).2 hcy.out.2.1).mono ?_
              rintro e w9 ⟨na2, nc2, ia2, ic2, rfl, E1⟩
              rw [← cpN_succ, ← cpI_succ] at E1
              clear E
              have E := hid E1
              clear E1
              go_wp2_with fail
              go_roundw
              case rel => exact ⟨j + 1, na2, nc2, ia2, ic2, by omega, by go_num, E.out⟩
              case measure => simp [intOf]; omega
            · obtain rfl : j = kc := by omega
              rw [hkc.out, cpN_next, cpI_next] at E
              go_wp2_with fail
              go_roundw
              case rel => exact ⟨k + 1, na, nc, ia, ic, by omega, by go_num, E.out⟩
              case measure => simp [intOf]; omega
        · obtain rfl : t = k := by omega
          obtain ⟨ln1, ln2⟩ := OK.out.lens (i := t) (by rw [← htt.out]; exact Nat.le_refl _)
          obtain ⟨q00, q01, q02, q03⟩ := (E.out.hdr 0 rfl).all
          go_wp2_with (refine wpl_store4 rfl (.tmp 4) (.tmp 104) rfl _ rfl rfl (E.out.hdr 11 rfl) ?_; intro V6 HV CV; replace E := hid (E.out.chg 11 rfl CV HV); clear CV; (try simp only [List.cons_append, List.nil_append, List.set_cons_zero, List.set_cons_succ] at E))
          have c2 := OwnI.cap (E.out.rowI 1 rfl)
          have c3 := OwnA.cap (E.out.rowA 2 rfl)
          replace E := hid (E.out.doneI 1 rfl (by omega))
          (try simp only [List.cons_append, List.nil_append, List.set_cons_zero, List.set_cons_succ] at E)
          replace E := hid (E.out.doneA 2 rfl)
          (try simp only [List.cons_append, List.nil_append, List.set_cons_zero, List.set_cons_succ] at E)
          refine bodyPost_ret (end_arr2 rfl HV rfl rfl) rfl (hR.out _ _ ?_)
          exact RetAEC.of hv.out hn.out rfl ((E.out.ints 16 rfl).mono fun b _ h => h.1) ((E.out.ints 1 rfl).mono fun b _ h => h.1) (by omega) ((E.out.items 2 rfl).mono fun b _ h => h.1) E.out.ext hcap.out c2 c3
end Go.Proofs.Ytdpdcjadedcglaa
