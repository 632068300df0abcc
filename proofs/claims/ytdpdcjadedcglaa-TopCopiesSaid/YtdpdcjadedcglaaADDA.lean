/- joining's side.add: boxes of an array that is no scalar: contract. Conditions: the array is read; what is appended to is the call's own. -/
import Derived.Test.YtdpdcjadedcglaaSIDE
import Derived.Test.YtdpdcjadedcglaaGG
set_option linter.unusedVariables false
set_option maxRecDepth 20000
set_option linter.unusedSimpArgs false
namespace Go.Proofs.Ytdpdcjadedcglaa
open Go.RowKit Go.Sort
attribute [local go_sem ↓] run_max2 run_min2
attribute [local go_sem] eql_ints_nil eql_arrs_nil
theorem end_none {fn : Func} (hres : fn.results = #[]) {w : World} {tmps : Array Value} : (results fn tmps).run Try.prog w = .ok (.tuple #[]) w := by
  simp [results, hres]
set_option maxRecDepth 100000 in
set_option maxHeartbeats 8000000 in
theorem side_addA (x : Arr) (sx : Option Addr) (cx : Nat) (nx : Option Addr) (mx : Nat) (ix : Option Addr) (jx : Nat) (so : Option Addr) (sl sc : Nat) (kk : Int) (oa : Option Addr) (ol oc : Nat) (na : Option Addr) (nc : Nat) (nums : List Int) (ia : Option Addr) (ic : Nat) (items : List Arr) (bo i n : Nat) (w0 : World) (S : Nat → Prop) (w : World) (M : List Fact)
    (E : Hid (Env w0 S w (.arr x sx nx ix :: .obj bo (.cells #[.int .i64 kk, .slice oa ol oc, .slice na (nums).length nc, .slice ia (items).length ic] 27 (0, 0)) :: .rowI na nc nums :: .rowA ia ic items :: M)))
    (hn : n ≤ 65536) (hi : i ≤ 65536) (c : ¬ x.shape.length = 0) (k3 : x.kind = 3) (hx0 : x.nums = []) (hsz' : i * n + n ≤ x.items.length) (hl2 : items.length + n ≤ 1000000) (hl3 : x.items.length ≤ 65536) (hci : x.items.length ≤ jx) (R' : Ending → World → Prop)
    (hR : Hid (∀ en w', (∃ na' nc' ia' ic', en = .returned (.tuple #[]) ∧
      Env w0 S w' (.obj bo (.cells #[.int .i64 kk, .slice oa ol oc, .slice na' (nums ++ addL x.shape x.nums i n).length nc', .slice ia' (items ++ addL x.shape x.items i n).length ic'] 27 (0, 0)) :: .rowI na' nc' (nums ++ addL x.shape x.nums i n) :: .rowA ia' ic' (items ++ addL x.shape x.items i n) :: M)) → R' en w')) :
    Calls Try.prog 79 #[.agg #[.int .i64 x.kind, .slice sx x.shape.length cx, .slice nx x.nums.length mx, .slice ix x.items.length jx, .slice so sl sc], .pointer (some ⟨bo, 0, none⟩), .int .i64 i, .int .i64 n] w R' := by
  have cb : ((x.shape.length : Int) == 0) = false := by rw [beq_eq_false_iff_ne]; omega
  have kb : (x.kind != 3) = false := by simp [k3]
  have hmul : ((i : Int) * (n : Int)) = ((i * n : Nat) : Int) := by simp
  have hib : i * n ≤ 65536 := by omega
  have eI : Hid (items ++ addL x.shape x.items i n = items ++ (x.items.drop (i * n)).take n) := hid (by unfold addL blkL; rw [if_neg c])
  have eN : Hid (nums ++ addL x.shape x.nums i n = nums) := hid (by unfold addL; rw [if_neg c, hx0, blkL_nil, List.append_nil])
  obtain ⟨m, hm⟩ : ∃ m, m = i * n := ⟨_, rfl⟩
  rw [← hm] at hmul hib hsz' eI
  have hwr : IntKind.i64.wrap ((i : Int) * (n : Int)) = (m : Int) := by rw [hmul]; exact IntWalk.i64_in _ (by omega)
  have hwr2 : IntKind.i64.wrap ((m : Int) + (n : Int)) = ((m + n : Nat) : Int) := by rw [show (m : Int) + (n : Int) = ((m + n : Nat) : Int) by simp]; exact IntWalk.i64_in _ (by omega)
  have c2 : (m : Int) ≤ ((m + n : Nat) : Int) := by omega
  have c3 : (0 : Int) ≤ (m : Int) := by omega
  have c4 : (m : Int).toNat = m := by omega
  have c5 : (0 : Int) ≤ ((m + n : Nat) : Int) := by omega
  have c6 : ((m + n : Nat) : Int) ≤ (jx : Int) := by omega
  have c7 : ((m + n : Nat) : Int).toNat = m + n := by omega
  have c8 : m + n - m = n := by omega
  replace hx0 := hid hx0
  replace c := hid c
  replace k3 := hid k3
  replace hm := hid hm
  go_enter Try.func79, Try.ntmps79
  go_upto_region 1 with (fail)
  generalize hEW : (w).alloc (.cells #[.int .i64 x.kind, .slice sx x.shape.length cx, .slice nx x.nums.length mx, .slice ix x.items.length jx, .slice so sl sc] 99) = W
  replace E := hid (envF1 E.out hEW)
  clear hEW
  obtain ⟨q00, q01, q02, q03, q04⟩ := row5 (E.out.obj 0 rfl)
  by_cases hnz : n = 0
  case pos =>
    have c9 : ¬ (0 : Int) < (n : Int) := by omega
    have hz : Hid (items ++ addL x.shape x.items i n = items) := hid (by rw [eI.out, hnz]; simp)
    replace hnz := hid hnz
    by_cases c1 : jx = m
    · go_upto_region 13 with (fail)
      go_loopw [91] (fun v wr => v = .int .i64 0 ∧ Env w0 S wr (.obj w.heap.size (.cells #[.int .i64 x.kind, .slice sx x.shape.length cx, .slice nx x.nums.length mx, .slice ix x.items.length jx, .slice so sl sc] 99 (0, 0)) :: .arr x sx nx ix :: .obj bo (.cells #[.int .i64 kk, .slice oa ol oc, .slice na (nums).length nc, .slice ia (items).length ic] 27 (0, 0)) :: .rowI na nc nums :: .rowA ia ic items :: M)) (fun _ _ => 0)
      case atStart => exact ⟨rfl, E.out⟩
      case round =>
        clear E
        obtain ⟨rfl, E⟩ := hrel
        go_wp2_with fail
        exact bodyPost_ret (end_none rfl) rfl (hR.out _ _ ⟨na, nc, ia, ic, rfl, by rw [eN.out, hz.out]; exact E.tl.tl⟩)
    · go_upto_region 13 with (fail)
      go_loopw [91] (fun v wr => v = .int .i64 0 ∧ Env w0 S wr (.obj w.heap.size (.cells #[.int .i64 x.kind, .slice sx x.shape.length cx, .slice nx x.nums.length mx, .slice ix x.items.length jx, .slice so sl sc] 99 (0, 0)) :: .arr x sx nx ix :: .obj bo (.cells #[.int .i64 kk, .slice oa ol oc, .slice na (nums).length nc, .slice ia (items).length ic] 27 (0, 0)) :: .rowI na nc nums :: .rowA ia ic items :: M)) (fun _ _ => 0)
      case atStart => exact ⟨rfl, E.out⟩
      case round =>
        clear E
        obtain ⟨rfl, E⟩ := hrel
        go_wp2_with fail
        exact bodyPost_ret (end_none rfl) rfl (hR.out _ _ ⟨na, nc, ia, ic, rfl, by rw [eN.out, hz.out]; exact E.tl.tl⟩)
  case neg =>
    have c1 : ¬ jx = m := by omega
    obtain ⟨b1, o1, _, _, _, _, _, _, hia, -⟩ := (E.out.arr 1 rfl).items.at (k := 0) (by omega)
    subst hia
    go_upto_region 13 with (fail)
    clear q00 q01 q02 q03 q04 hwr hwr2 c2 c3 c4 c5 c6 c7 c8
    go_loopw [91] (fun v wr => ∃ (k : Nat) (ia' : Option Addr) (ic' : Nat) (cur : List Arr), k ≤ n ∧ v = .int .i64 k ∧ Hid (cur = items ++ (x.items.drop m).take k) ∧ Env w0 S wr (.obj w.heap.size (.cells #[.int .i64 x.kind, .slice sx x.shape.length cx, .slice nx x.nums.length mx, .slice (some ⟨b1, o1, none⟩) x.items.length jx, .slice so sl sc] 99 (0, 0)) :: .arr x sx nx (some ⟨b1, o1, none⟩) :: .obj bo (.cells #[.int .i64 kk, .slice oa ol oc, .slice na (nums).length nc, .slice ia' (cur).length ic'] 27 (0, 0)) :: .rowI na nc nums :: .rowA ia' ic' cur :: M)) (fun v _ => n - (intOf v).toNat)
    case atStart => exact ⟨0, ia, ic, items, Nat.zero_le _, rfl, hid (by simp), E.out⟩
    case round =>
      clear E
      obtain ⟨k, ia', ic', cur, hk, rfl, hcur, E⟩ := hrel
      replace E := hid E
      by_cases hlt : k < n
      · obtain ⟨b2, o2, sz, cz, nz, mz, iz, jz, hia, hS1, hbl1, e0, e1, e2, e3, hz⟩ := (E.out.arr 1 rfl).items.at (k := m + k) (by omega)
        injection hia with hia
        injection hia with hia1 hia2
        subst hia1
        subst hia2
        have hstep : Hid (cur ++ [x.items[m + k]'(by omega)] = items ++ (x.items.drop m).take (k + 1)) := hid (by rw [hcur.out, List.append_assoc]; congr 1; rw [List.take_succ_eq_append_getElem (by simp; omega)]; simp)
        generalize x.items[m + k]'(by omega) = z at e0 e1 e2 e3 hz hstep
        rw [show o1 + (m + k) * 4 = o1 + m * 4 + k * 4 by omega] at e0 e1 e2 e3
        have hll : cur.length + 1 ≤ 1759218604441 := by rw [hcur.out, List.length_append]; simp; omega
        replace E := hid (E.out.addArr hz (fun _ _ h => h)).front
        clear hz
        have k1 : (0 : Int) ≤ (k : Int) := by omega
        have k2 : (k : Int) < (n : Int) := by omega
        go_upto_region 15 with (refine wpl_store4 rfl (.tmp 10) (.tmp 94) rfl _ rfl rfl ((E.out.alloc _).front.hdr 0 rfl) ?_; intro V1 HV CV; replace E := hid ((E.out.alloc _).front.chg 0 rfl CV HV); clear CV HV; (try simp only [List.cons_append, List.nil_append, List.set_cons_zero, List.set_cons_succ] at E))
        generalize wr.heap.size = by1 at E ⊢
        obtain ⟨q00, q01, q02, q03⟩ := (E.out.hdr 0 rfl).all
        obtain ⟨q40, q41, q42, q43⟩ := (E.out.hdr 4 rfl).all
        refine wp_region_mono_any 8 (Sees V1 [(⟨by1, 0, none⟩, .int .i64 z.kind), (⟨by1, 1, none⟩, .slice sz z.shape.length cz), (⟨by1, 2, none⟩, .slice nz z.nums.length mz), (⟨by1, 3, none⟩, .slice iz z.items.length jz), (⟨bo, 3, none⟩, .slice ia' cur.length ic')]) [5, 7] (fun k v u u' => match k with | 5 => RetA u (fun b => V1.heap.size ≤ b) z (.returned v) u' | 7 => v = .slice (some ⟨u.heap.size, 0, none⟩) 1 1 ∧ u' = u.alloc (.cells #[.int .i64 0, .slice none 0 0, .slice none 0 0, .slice none 0 0] 27) | _ => False) (fun _ _ h e => h.up e) (Sees.start (all_cons (q00) (all_cons (q01) (all_cons (q02) (all_cons (q03) (all_cons (q43) (all_nil))))))) (by kernel_rfl) (by kernel_rfl) ?_
        simp only [List.take_succ_cons, List.take_zero, List.drop_succ_cons, List.drop_zero]
        repeat (first | (refine m_plain (v := ?_) (by rfl) (by rfl) ?_ ?_; rotate_left; (intro wz hSw; obtain ⟨-, hSc⟩ := hSw; (try simp only [List.forall_mem_cons, List.forall_mem_nil, and_true] at hSc); go_simp; (first | done | with_reducible rfl)); (intro K hK; (try simp only [Act.put, List.setIfInBounds_toArray, List.set_cons_zero, List.set_cons_succ]); refine hK _ _ ?_; clear hK K)) | (refine m_skip (by rfl) (by rfl) ?_; (intro K hK; (try simp only [Act.put, List.setIfInBounds_toArray, List.set_cons_zero, List.set_cons_succ]); refine hK _ _ ?_; clear hK K)))
        refine m_make (by rfl) (by rfl) ?_ ?_
        · intro wz hSw hdep R hRz
          obtain ⟨hSe, hSc⟩ := hSw
          (try simp only [List.forall_mem_cons, List.forall_mem_nil, and_true] at hSc)
          unfold does
          (go_simp; refine Calls.mono (array_Clone z _ _ _ _ _ _ _ wz ((E.out.arr 1 rfl).up hSe)) ?_; rintro e wq ⟨ta, tc, tn, tnc, ti, tic, rfl, hq, hqb⟩; exact ⟨_, rfl, hRz.out _ _ ⟨hqb, ta, tc, tn, tnc, ti, tic, rfl, ArrAt.mono (fun b _ hb => Nat.le_trans (Below.size hSe) hb) z hq, hqb⟩⟩)
        intro v5 u5 x5 hG5 K hK
        have hF5 := hG5.fact
        (try dsimp only at hF5)
        obtain ⟨s5, c5, n5, m5, i5, j5, he, hA5, hb5⟩ := hF5
        injection he with he
        subst he
        (try simp only [Act.put, List.setIfInBounds_toArray, List.set_cons_zero, List.set_cons_succ]); refine hK _ _ ?_; clear hK K
        repeat (first | (refine m_plain (v := ?_) (by rfl) (by rfl) ?_ ?_; rotate_left; (intro wz hSw; obtain ⟨-, hSc⟩ := hSw; (try simp only [List.forall_mem_cons, List.forall_mem_nil, and_true] at hSc); go_simp; (first | done | with_reducible rfl)); (intro K hK; (try simp only [Act.put, List.setIfInBounds_toArray, List.set_cons_zero, List.set_cons_succ]); refine hK _ _ ?_; clear hK K)) | (refine m_skip (by rfl) (by rfl) ?_; (intro K hK; (try simp only [Act.put, List.setIfInBounds_toArray, List.set_cons_zero, List.set_cons_succ]); refine hK _ _ ?_; clear hK K)))
        refine m_make (by rfl) (by rfl) ?_ ?_
        · intro wz hSw hdep R hRz
          obtain ⟨hSe, hSc⟩ := hSw
          (try simp only [List.forall_mem_cons, List.forall_mem_nil, and_true] at hSc)
          unfold does
          (go_simp; exact hRz.out _ _ ⟨ext_alloc _ _, rfl, rfl⟩)
        intro v7 u7 x7 hG7 K hK
        have hF7 := hG7.fact
        (try dsimp only at hF7)
        obtain ⟨rfl, rfl⟩ := hF7
        (try simp only [Act.put, List.setIfInBounds_toArray, List.set_cons_zero, List.set_cons_succ]); refine hK _ _ ?_; clear hK K
        repeat (first | (refine m_plain (v := ?_) (by rfl) (by rfl) ?_ ?_; rotate_left; (intro wz hSw; obtain ⟨-, hSc⟩ := hSw; (try simp only [List.forall_mem_cons, List.forall_mem_nil, and_true] at hSc); go_simp; (first | done | with_reducible rfl)); (intro K hK; (try simp only [Act.put, List.setIfInBounds_toArray, List.set_cons_zero, List.set_cons_succ]); refine hK _ _ ?_; clear hK K)) | (refine m_skip (by rfl) (by rfl) ?_; (intro K hK; (try simp only [Act.put, List.setIfInBounds_toArray, List.set_cons_zero, List.set_cons_succ]); refine hK _ _ ?_; clear hK K)))
        refine m_nil ?_
        intro wf hSf hAf
        have oZ := hid (box_items (z := .zero) (T := fun b => V1.heap.size ≤ b) (sc := 0) (nc := 0) (ic := 0) (hAf 7 _ rfl) (Below.size hG7.s.1) (zero_at _ _ none none none))
        have hfr : Hid (∀ b, V1.heap.size ≤ b → Tst w0 S _ b) := hid (fun b hb => E.out.fresh (Ext.refl _) hb)
        replace E := hid (((E.out.up hSf.1).addArr (ArrAt.up hA5 (hAf 5 _ rfl)) (fun b _ hb => hfr.out b hb)).front)
        clear hSf hAf hG7 hG5 hA5 hb5 q00 q01 q02 q03 q40 q41 q42 q43 e0 e1 e2 e3
        refine any_step 8 (by kernel_rfl) (by rfl) ?_
        refine wplE_appA E.out 7 (by rfl) (by rfl) (.tmp 98) (.tmp 102) (by rfl) (by rfl) _ _ 1 [.zero] (by rfl) oZ.out (fun b _ hb => hfr.out b hb) hll ?_
        intro V1 ia2 ic2 E1
        clear E oZ hfr
        have E := hid E1
        clear E1
        (try simp only [List.cons_append, List.nil_append, List.set_cons_zero, List.set_cons_succ] at E)
        refine any_nil ?_
        obtain ⟨g5, hg5⟩ := (E.out.rowA 7 rfl).at (by simp)
        subst hg5
        have ti0 : (0 : Int) ≤ (cur.length : Int) := Int.natCast_nonneg _
        have ti1 : (cur.length : Int) < ((cur ++ [Arr.zero]).length : Int) := by simp; omega
        refine any_take 11 (v := .pointer (some ⟨bo, 0, none⟩)) (by kernel_rfl) (by kernel_rfl) (by kernel_rfl) (by rfl) (by rfl) (by intro wz; go_simp <;> (try (intro hh; omega))) (by intro c a w h; exact h) ?_
        refine any_take 12 (v := .pointer (some ⟨bo, 3, none⟩)) (by kernel_rfl) (by kernel_rfl) (by kernel_rfl) (by rfl) (by rfl) (by intro wz; go_simp <;> (try (intro hh; omega))) (by intro c a w h; exact h) ?_
        refine any_take 9 (v := .pointer (some ⟨g5, cur.length * 4, none⟩)) (by kernel_rfl) (by kernel_rfl) (by kernel_rfl) (by rfl) (by rfl) (by intro wz; go_simp <;> (try (intro hh; omega))) (by intro c a w h; exact h) ?_
        refine any_two 10 13 (by kernel_rfl) (by rfl) (by rfl) ?_ ?_
        · refine wplE_last E.out 7 (by rfl) (by rfl) (.tmp 104) (.tmp 100) (by rfl) (fun g e => by cases e; rfl) (by rfl) (E.out.arr 0 rfl) ?_
          intro V2 E1
          clear E
          have E := hid E1
          clear E1
          (try simp only [List.cons_append, List.nil_append, List.set_cons_zero, List.set_cons_succ] at E)
          refine any_nil ?_
          refine any_step 13 (by kernel_rfl) (by rfl) ?_
          refine wpl_store3 (by rfl) (.tmp 106) (.tmp 103) (by rfl) bo (by rfl) (by rfl) (E.out.hdr 5 rfl) ?_
          intro V HV CV
          replace E := hid (E.out.chg 5 rfl CV HV)
          (try simp only [List.cons_append, List.nil_append, List.set_cons_zero, List.set_cons_succ] at E)
          refine any_nil ?_
          refine any_done (by kernel_rfl) ?_
          replace E := hid E.out.tl
          go_wp2_with fail
          replace E := hid E.out.tl.tl
          go_roundw
          case rel => exact ⟨k + 1, by omega, by go_num, _, ic2, cur ++ [z], hstep, by rw [show (cur ++ [z]).length = (cur ++ [Arr.zero]).length by simp]; exact E.out⟩
          case measure => simp [intOf]; omega
        · refine wpl_store3 (by rfl) (.tmp 106) (.tmp 103) (by rfl) bo (by rfl) (by rfl) (E.out.hdr 5 rfl) ?_
          intro V HV CV
          replace E := hid (E.out.chg 5 rfl CV HV)
          (try simp only [List.cons_append, List.nil_append, List.set_cons_zero, List.set_cons_succ] at E)
          refine any_nil ?_
          refine any_step 10 (by kernel_rfl) (by rfl) ?_
          refine wplE_last E.out 7 (by rfl) (by rfl) (.tmp 104) (.tmp 100) (by rfl) (fun g e => by cases e; rfl) (by rfl) (E.out.arr 0 rfl) ?_
          intro V2 E1
          clear E
          have E := hid E1
          clear E1
          (try simp only [List.cons_append, List.nil_append, List.set_cons_zero, List.set_cons_succ] at E)
          refine any_nil ?_
          refine any_done (by kernel_rfl) ?_
          replace E := hid E.out.tl
          go_wp2_with fail
          replace E := hid E.out.tl.tl
          go_roundw
          case rel => exact ⟨k + 1, by omega, by go_num, _, ic2, cur ++ [z], hstep, by rw [show (cur ++ [z]).length = (cur ++ [Arr.zero]).length by simp]; exact E.out⟩
          case measure => simp [intOf]; omega
      · obtain rfl : k = n := by omega
        go_wp2_with fail
        exact bodyPost_ret (end_none rfl) rfl (hR.out _ _ ⟨na, nc, ia', ic', rfl, by rw [eN.out, eI.out, ← hcur.out]; exact E.out.tl.tl⟩)
end Go.Proofs.Ytdpdcjadedcglaa
