/- copying.split, check, unbinary, weight: contracts. Conditions: the arrays are read; a slice's capacity is at least its length. -/
import Derived.Test.YtdpdcjadedcglaaREF26A
import Derived.Test.YtdpdcjadedcglaaP26
import Derived.Test.YtdpdcjadedcglaaCONC
import Derived.Test.YtdpdcjadedcglaaGK
set_option linter.unusedVariables false
set_option maxRecDepth 20000
set_option linter.unusedSimpArgs false
namespace Go.Proofs.Ytdpdcjadedcglaa
open Go.RowKit Go.Sort
attribute [local go_sem ↓] run_max2 run_min2
attribute [local go_sem] eql_ints_nil eql_arrs_nil
def RetSplit (w : World) (S : Nat → Prop) (y : Arr) (e : Ending) (w' : World) : Prop :=
  ∃ so sc, e = .returned (.tuple #[.int .i64 (talN y), .slice so (celL y).length sc, .int .i64 (celN y : Nat)]) ∧ IntsAt w' S so (celL y) ∧ Below w.heap.size w w'
set_option maxHeartbeats 4000000 in
theorem copying_split (y : Arr) (sy : Option Addr) (cy : Nat) (ny : Option Addr) (my : Nat) (iy : Option Addr) (jy : Nat) (S : Nat → Prop) (w : World) (h : ArrAt w S y sy ny iy) (hs : shapeB y.shape = true) (hc : y.shape.length ≤ cy) : Calls Try.prog 24 #[.agg #[.int .i64 y.kind, .slice sy y.shape.length cy, .slice ny y.nums.length my, .slice iy y.items.length jy]] w (RetSplit w S y) := by
  refine calls_post fun R' hR => ?_
  have h0 := hid h
  have hsl := h.shape.1
  clear h
  obtain ⟨cl, hcl⟩ : ∃ l, l = celL y := ⟨_, rfl⟩
  have hcl2 : cl = y.shape.drop 1 := hcl
  have hcn := celN_eq hs
  have s8 := (shapeB_iff.1 hs).1
  by_cases c : y.shape.length = 0
  · have ht : Hid (cl = []) := hid (by rw [hcl2, List.eq_nil_of_length_eq_zero c]; rfl)
    have h1 : Hid (talN y = 1) := hid (if_pos c)
    have h2 : Hid (celN y = 1) := hid (by unfold celN; rw [← hcl, ht.out, cnt_nil]; rfl)
    have cb : ((y.shape.length : Int) == 0) = true := by simpa using c
    replace c := hid c
    replace hcl := hid hcl
    replace hcl2 := hid hcl2
    replace hcn := hid hcn
    go_enter Try.func24, Try.ntmps24
    go_upto_region 1 with (fail)
    generalize hEW : (w).alloc (.cells #[.int .i64 y.kind, .slice sy y.shape.length cy, .slice ny y.nums.length my, .slice iy y.items.length jy] 27) = W
    have E := hid (env1 w S hEW)
    clear hEW
    obtain ⟨q00, q01, q02, q03⟩ := (E.out.hdr 0 rfl).all
    go_wp2_with fail
    refine bodyPost_ret (v := .tuple #[.int .i64 1, .slice none 0 0, .int .i64 1]) (by simp [results, Try.results24, go_sem]) rfl (hR.out _ _ ?_)
    exact ⟨none, 0, by rw [← hcl.out, ht.out, h1.out, h2.out] <;> rfl, by rw [← hcl.out, ht.out]; exact IntsAt.nil _ _ _, E.out.ext⟩
  · have cb : ((y.shape.length : Int) == 0) = false := by simpa using c
    have hln : Hid (cl.length = y.shape.length - 1) := hid (by rw [hcl2]; simp)
    have ht : Hid (talN y = y.shape.getD 0 0) := hid (if_neg c)
    have hcd : Hid (cnt (y.shape.drop 1) = (celN y : Nat)) := hid hcn.symm
    clear hcn
    replace hcl := hid hcl
    replace hcl2 := hid hcl2
    go_enter Try.func24, Try.ntmps24
    go_upto_region 1 with (fail)
    generalize hEW : (w).alloc (.cells #[.int .i64 y.kind, .slice sy y.shape.length cy, .slice ny y.nums.length my, .slice iy y.items.length jy] 27) = W
    have E := hid (env1 w S hEW)
    clear hEW
    replace E := hid (E.out.arg h0.out)
    (try simp only [List.cons_append, List.nil_append, List.set_cons_zero, List.set_cons_succ] at E)
    obtain ⟨q00, q01, q02, q03⟩ := (E.out.hdr 0 rfl).all
    go_wp2_with fail
    clear q00 q01 q02 q03
    refine (shape_Row y.shape _ _ 1 _ _ (E.out.arr 1 rfl).shape hs (by omega) hc).mono ?_
    rintro e w2 ⟨rfl, hb⟩
    replace E := hid (E.out.up hb)
    clear hb
    rw [hcd.out]
    generalize cnt (y.shape.take 1) = dum
    obtain ⟨b1, o1, hs1, hbl1, hS1, hc1⟩ := (E.out.arr 1 rfl).shape.at (k := 0) (by omega)
    have lx : 0 < y.shape.length := by omega
    have hA := hid (E.out.arr 1 rfl).shape
    have hI : IntsAt w S sy y.shape := h0.out.shape
    generalize y.shape.getD 0 0 = d at hc1 ht
    rw [Nat.add_zero] at hc1
    subst hs1
    have s0 : ¬ (y.shape.length : Int) < 1 := by omega
    have s1 : (1 : Int) ≤ (y.shape.length : Int) := by omega
    have s2 : (1 : Int) ≤ (cy : Int) := by omega
    have s3 : (0 : Int) < (y.shape.length : Int) := by omega
    have c0 : ¬ cy = 0 := by omega
    replace hI := hid hI
    go_upto_region 4 with (fail)
    obtain ⟨q00, q01, q02, q03⟩ := (E.out.hdr 0 rfl).all
    by_cases c1 : cy = 1
    · subst c1
      have hq : y.shape.length ≤ 1 := by omega
      have e0 : y.shape.length - 1 = 0 := by omega
      replace c := hid c
      refine wp_region_mono (Sees w2 [(⟨w.heap.size, 1, none⟩, .slice (some ⟨b1, o1, none⟩) y.shape.length 1), (⟨b1, o1, none⟩, .int .i64 d)]) [] (fun k v u u' => match k with  | _ => False) (fun _ _ h e => h.up e) (Sees.start (all_cons (q01) (all_cons (hc1) (all_nil)))) (by kernel_rfl) (by kernel_rfl) ?_
      repeat (first | (refine m_plain (v := ?_) (by rfl) (by rfl) ?_ ?_; rotate_left; (intro wz hSw; obtain ⟨-, hSc⟩ := hSw; (try simp only [List.forall_mem_cons, List.forall_mem_nil, and_true] at hSc); go_simp; (first | done | with_reducible rfl)); (intro K hK; (try simp only [Act.put, List.setIfInBounds_toArray, List.set_cons_zero, List.set_cons_succ]); refine hK _ _ ?_; clear hK K)) | (refine m_skip (by rfl) (by rfl) ?_; (intro K hK; (try simp only [Act.put, List.setIfInBounds_toArray, List.set_cons_zero, List.set_cons_succ]); refine hK _ _ ?_; clear hK K)))
      refine m_nil ?_
      intro wf hSf hAf
      have ef := hid (E.out.up hSf.1).ext
      clear hSf hAf
      clear q00 q01 q02 q03
      go_wp2_with fail
      refine bodyPost_ret (v := .tuple #[.int .i64 d, .slice (some ⟨b1, o1, none⟩) 0 0, .int .i64 (celN y : Nat)]) (by simp [results, Try.results24, go_sem]) rfl (hR.out _ _ ?_)
      exact ⟨some ⟨b1, o1, none⟩, 0, by rw [← hcl.out, hln.out, e0, ht.out] <;> rfl, by rw [← hcl.out, hcl2.out]; exact (hI.out.cut0 hq).later ef.out, ef.out⟩
    · replace c := hid c
      refine wp_region_mono (Sees w2 [(⟨w.heap.size, 1, none⟩, .slice (some ⟨b1, o1, none⟩) y.shape.length cy), (⟨b1, o1, none⟩, .int .i64 d)]) [] (fun k v u u' => match k with  | _ => False) (fun _ _ h e => h.up e) (Sees.start (all_cons (q01) (all_cons (hc1) (all_nil)))) (by kernel_rfl) (by kernel_rfl) ?_
      repeat (first | (refine m_plain (v := ?_) (by rfl) (by rfl) ?_ ?_; rotate_left; (intro wz hSw; obtain ⟨-, hSc⟩ := hSw; (try simp only [List.forall_mem_cons, List.forall_mem_nil, and_true] at hSc); go_simp; (first | done | with_reducible rfl)); (intro K hK; (try simp only [Act.put, List.setIfInBounds_toArray, List.set_cons_zero, List.set_cons_succ]); refine hK _ _ ?_; clear hK K)) | (refine m_skip (by rfl) (by rfl) ?_; (intro K hK; (try simp only [Act.put, List.setIfInBounds_toArray, List.set_cons_zero, List.set_cons_succ]); refine hK _ _ ?_; clear hK K)))
      refine m_nil ?_
      intro wf hSf hAf
      have ef := hid (E.out.up hSf.1).ext
      clear hSf hAf
      clear q00 q01 q02 q03
      go_wp2_with fail
      refine bodyPost_ret (v := .tuple #[.int .i64 d, .slice (some ⟨b1, o1 + 1, none⟩) (y.shape.length - 1) (cy - 1), .int .i64 (celN y : Nat)]) (by simp [results, Try.results24, go_sem]) rfl (hR.out _ _ ?_)
      exact ⟨_, _, by rw [← hcl.out, hln.out, ht.out] <;> rfl, by rw [← hcl.out, hcl2.out]; exact (hI.out.cut 1).later ef.out, ef.out⟩
end Go.Proofs.Ytdpdcjadedcglaa
