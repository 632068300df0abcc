/- joining's side.weight and side.add: contracts. Conditions: the arrays are read; what is appended to is the call's own. -/
import Derived.Test.YtdpdcjadedcglaaSIDE
import Derived.Test.YtdpdcjadedcglaaADDA
import Derived.Test.YtdpdcjadedcglaaGG
set_option linter.unusedVariables false
set_option maxRecDepth 20000
set_option linter.unusedSimpArgs false
namespace Go.Proofs.Ytdpdcjadedcglaa
open Go.RowKit Go.Sort
attribute [local go_sem ↓] run_max2 run_min2
attribute [local go_sem] eql_ints_nil eql_arrs_nil
theorem mul_bd {a b : Int} (h0 : 0 ≤ a) (h1 : a ≤ 65536) (g0 : 0 ≤ b) (g1 : b ≤ 262145) : 0 ≤ a * b ∧ a * b ≤ 17179934720 := by
  refine ⟨Int.mul_nonneg h0 g0, ?_⟩
  have := Int.mul_le_mul h1 g1 g0 (by omega)
  omega
set_option maxHeartbeats 4000000 in
theorem side_weight (x : Arr) (sx : Option Addr) (cx : Nat) (nx : Option Addr) (mx : Nat) (ix : Option Addr) (jx : Nat) (s : List Int) (so : Option Addr) (sc : Nat) (S : Nat → Prop) (w : World) (h : ArrAt w S x sx nx ix) (g : IntsAt w S so s) (hs : shapeB s = true) :
    Calls Try.prog 78 #[.agg #[.int .i64 x.kind, .slice sx x.shape.length cx, .slice nx x.nums.length mx, .slice ix x.items.length jx, .slice so s.length sc]] w fun e w' => e = .returned (.int .i64 (exW x s)) ∧ Below w.heap.size w w' := by
  refine calls_post fun R' hR => ?_
  have h0 := hid h
  have g0 := hid g
  clear h g
  by_cases c : x.shape.length = 0
  case pos =>
    have cb : ((x.shape.length : Int) == 0) = true := by rw [c]; rfl
    have hW := hid (show exW x s = cnt s * wtS x from if_pos c)
    have hz := hid (sizeS_true hs)
    have hc := cnt_le hs
    have hw := wtS_bd x
    have hm := mul_bd hc.1 hc.2 hw.1 hw.2
    obtain ⟨p, hp⟩ : ∃ p, p = cnt s := ⟨_, rfl⟩
    obtain ⟨q, hq⟩ : ∃ q, q = wtS x := ⟨_, rfl⟩
    rw [← hp, ← hq] at hm hW
    rw [← hp] at hz
    replace hp := hid hp
    replace hq := hid hq
    replace c := hid c
    go_enter Try.func78, Try.ntmps78
    go_upto_region 1 with (fail)
    generalize hEW : (w).alloc (.cells #[.int .i64 x.kind, .slice sx x.shape.length cx, .slice nx x.nums.length mx, .slice ix x.items.length jx, .slice so s.length sc] 99) = W
    have E := hid (env1 w S hEW)
    clear hEW
    replace E := hid ((E.out.arg h0.out).argI g0.out)
    (try simp only [List.cons_append, List.nil_append, List.set_cons_zero, List.set_cons_succ] at E)
    obtain ⟨q00, q01, q02, q03, q04⟩ := row5 (E.out.obj 0 rfl)
    go_upto_region 2 with (fail)
    have hwr : IntKind.i64.wrap (p * q) = p * q := IntWalk.i64_in _ (by omega)
    obtain ⟨T, hT1, hT2, hT3⟩ := E.out.tw
    refine wp_region_mono (Sees W [(⟨w.heap.size, 0, none⟩, .int .i64 x.kind), (⟨w.heap.size, 1, none⟩, .slice sx x.shape.length cx), (⟨w.heap.size, 2, none⟩, .slice nx x.nums.length mx), (⟨w.heap.size, 3, none⟩, .slice ix x.items.length jx), (⟨w.heap.size, 4, none⟩, .slice so s.length sc)]) [2, 5] (fun k v u u' => match k with | 2 => v = .int .i64 p | 5 => v = .int .i64 q | _ => False) (fun _ _ h e => h.up e) (Sees.start (all_cons (q00) (all_cons (q01) (all_cons (q02) (all_cons (q03) (all_cons (q04) (all_nil))))))) (by kernel_rfl) (by kernel_rfl) ?_
    repeat (first | (refine m_plain (v := ?_) (by rfl) (by rfl) ?_ ?_; rotate_left; (intro wz hSw; obtain ⟨-, hSc⟩ := hSw; (try simp only [List.forall_mem_cons, List.forall_mem_nil, and_true] at hSc); go_simp; (first | done | with_reducible rfl)); (intro K hK; (try simp only [Act.put, List.setIfInBounds_toArray, List.set_cons_zero, List.set_cons_succ]); refine hK _ _ ?_; clear hK K)) | (refine m_skip (by rfl) (by rfl) ?_; (intro K hK; (try simp only [Act.put, List.setIfInBounds_toArray, List.set_cons_zero, List.set_cons_succ]); refine hK _ _ ?_; clear hK K)))
    refine m_make (by rfl) (by rfl) ?_ ?_
    · intro wz hSw hdep R hRz
      obtain ⟨hSe, hSc⟩ := hSw
      (try simp only [List.forall_mem_cons, List.forall_mem_nil, and_true] at hSc)
      unfold does
      (go_simp; refine Calls.mono (shape_Size s _ _ _ wz ((E.out.ints 2 rfl).mono (fun b _ h => hT1 b h) |>.up hSe)) ?_; rintro e wq ⟨rfl, rfl⟩; rw [hz.out]; exact ⟨_, rfl, hRz.out _ _ ⟨Ext.refl _, rfl⟩⟩)
    intro v2 u2 x2 hG2 K hK
    have hF2 := hG2.fact
    (try dsimp only at hF2)
    subst hF2
    (try simp only [Act.put, List.setIfInBounds_toArray, List.set_cons_zero, List.set_cons_succ]); refine hK _ _ ?_; clear hK K
    repeat (first | (refine m_plain (v := ?_) (by rfl) (by rfl) ?_ ?_; rotate_left; (intro wz hSw; obtain ⟨-, hSc⟩ := hSw; (try simp only [List.forall_mem_cons, List.forall_mem_nil, and_true] at hSc); go_simp; (first | done | with_reducible rfl)); (intro K hK; (try simp only [Act.put, List.setIfInBounds_toArray, List.set_cons_zero, List.set_cons_succ]); refine hK _ _ ?_; clear hK K)) | (refine m_skip (by rfl) (by rfl) ?_; (intro K hK; (try simp only [Act.put, List.setIfInBounds_toArray, List.set_cons_zero, List.set_cons_succ]); refine hK _ _ ?_; clear hK K)))
    refine m_make (by rfl) (by rfl) ?_ ?_
    · intro wz hSw hdep R hRz
      obtain ⟨hSe, hSc⟩ := hSw
      (try simp only [List.forall_mem_cons, List.forall_mem_nil, and_true] at hSc)
      unfold does
      (go_simp; refine Calls.mono (array_Weight x _ _ _ _ _ _ _ wz (ArrAt.up (ArrAt.mono (fun b _ h => hT1 b h) _ (E.out.arr 1 rfl)) hSe)) ?_; rintro e wq ⟨rfl, hqb⟩; rw [hq.out.symm]; exact ⟨_, rfl, hRz.out _ _ ⟨hqb, rfl⟩⟩)
    intro v5 u5 x5 hG5 K hK
    have hF5 := hG5.fact
    (try dsimp only at hF5)
    subst hF5
    (try simp only [Act.put, List.setIfInBounds_toArray, List.set_cons_zero, List.set_cons_succ]); refine hK _ _ ?_; clear hK K
    repeat (first | (refine m_plain (v := ?_) (by rfl) (by rfl) ?_ ?_; rotate_left; (intro wz hSw; obtain ⟨-, hSc⟩ := hSw; (try simp only [List.forall_mem_cons, List.forall_mem_nil, and_true] at hSc); go_simp; (first | done | with_reducible rfl)); (intro K hK; (try simp only [Act.put, List.setIfInBounds_toArray, List.set_cons_zero, List.set_cons_succ]); refine hK _ _ ?_; clear hK K)) | (refine m_skip (by rfl) (by rfl) ?_; (intro K hK; (try simp only [Act.put, List.setIfInBounds_toArray, List.set_cons_zero, List.set_cons_succ]); refine hK _ _ ?_; clear hK K)))
    refine m_nil ?_
    intro wf hSf hAf
    have ef := hid (E.out.up hSf.1).ext
    clear hSf hAf hwr
    go_wp2_with fail
    exact hR.out _ _ ⟨by rw [hW.out]; rfl, ef.out⟩
  case neg =>
    have cb : ((x.shape.length : Int) == 0) = false := by rw [beq_eq_false_iff_ne]; omega
    have hW := hid (show exW x s = wtS x from if_neg c)
    replace c := hid c
    go_enter Try.func78, Try.ntmps78
    go_upto_region 1 with (fail)
    generalize hEW : (w).alloc (.cells #[.int .i64 x.kind, .slice sx x.shape.length cx, .slice nx x.nums.length mx, .slice ix x.items.length jx, .slice so s.length sc] 99) = W
    have E := hid (env1 w S hEW)
    clear hEW
    replace E := hid ((E.out.arg h0.out).argI g0.out)
    (try simp only [List.cons_append, List.nil_append, List.set_cons_zero, List.set_cons_succ] at E)
    obtain ⟨q00, q01, q02, q03, q04⟩ := row5 (E.out.obj 0 rfl)
    go_wp2_with fail
    refine (array_Weight x _ _ _ _ _ _ _ _ (E.out.arr 1 rfl)).mono ?_
    rintro e w1 ⟨rfl, hb⟩
    replace E := hid (E.out.up hb)
    clear hb
    go_wp2_with fail
    exact hR.out _ _ ⟨by rw [hW.out]; rfl, E.out.ext⟩
set_option maxRecDepth 100000 in
set_option maxHeartbeats 8000000 in
theorem side_add (x : Arr) (sx : Option Addr) (cx : Nat) (nx : Option Addr) (mx : Nat) (ix : Option Addr) (jx : Nat) (so : Option Addr) (sl sc : Nat) (kk : Int) (oa : Option Addr) (ol oc : Nat) (na : Option Addr) (nc : Nat) (nums : List Int) (ia : Option Addr) (ic : Nat) (items : List Arr) (bo i n : Nat) (w0 : World) (S : Nat → Prop) (w : World) (M : List Fact)
    (E : Env w0 S w (.obj bo (.cells #[.int .i64 kk, .slice oa ol oc, .slice na (nums).length nc, .slice ia (items).length ic] 27 (0, 0)) :: .rowI na nc nums :: .rowA ia ic items :: M)) (h : ArrAt w (Tst w0 S (.obj bo (.cells #[.int .i64 kk, .slice oa ol oc, .slice na (nums).length nc, .slice ia (items).length ic] 27 (0, 0)) :: .rowI na nc nums :: .rowA ia ic items :: M)) x sx nx ix)
    (hn : n ≤ 65536) (hi : i ≤ 65536) (hs1 : x.shape.length = 0 → x.nums.length + x.items.length = 1) (hk3 : x.kind = 3 → x.nums = []) (hkn : x.kind ≠ 3 → x.items = []) (hs2 : x.shape.length ≠ 0 → i * n + n ≤ x.nums.length + x.items.length)
    (hl1 : nums.length + n ≤ 1000000) (hl2 : items.length + n ≤ 1000000) (hl3 : x.nums.length + x.items.length ≤ 65536) (hcn : x.nums.length ≤ mx) (hci : x.items.length ≤ jx) :
    Calls Try.prog 79 #[.agg #[.int .i64 x.kind, .slice sx x.shape.length cx, .slice nx x.nums.length mx, .slice ix x.items.length jx, .slice so sl sc], .pointer (some ⟨bo, 0, none⟩), .int .i64 i, .int .i64 n] w fun en w' => ∃ na' nc' ia' ic', en = .returned (.tuple #[]) ∧
      Env w0 S w' (.obj bo (.cells #[.int .i64 kk, .slice oa ol oc, .slice na' (nums ++ addL x.shape x.nums i n).length nc', .slice ia' (items ++ addL x.shape x.items i n).length ic'] 27 (0, 0)) :: .rowI na' nc' (nums ++ addL x.shape x.nums i n) :: .rowA ia' ic' (items ++ addL x.shape x.items i n) :: M) := by
  refine calls_post fun R' hR => ?_
  replace E := hid (E.addArr h (fun _ _ q => q)).front
  clear h
  by_cases c : x.shape.length = 0
  case pos =>
    have cb : ((x.shape.length : Int) == 0) = true := by rw [c]; rfl
    by_cases k3 : x.kind = 3
    case pos =>
      have kb : (x.kind == 3) = true := by simp [k3]
      have hx0 := hk3 k3
      have hx1 : x.items.length = 1 := by have := hs1 c; rw [hx0] at this; simpa using this
      obtain ⟨z, hd⟩ : ∃ d, x.items = [d] := List.length_eq_one_iff.1 hx1
      have eI : Hid (items ++ addL x.shape x.items i n = items ++ repL [z] n) := hid (by unfold addL; rw [if_pos c, hd])
      have eN : Hid (nums ++ addL x.shape x.nums i n = nums) := hid (by unfold addL; rw [if_pos c, hx0, repL_nil, List.append_nil])
      have hgd' : Hid (∀ h : 0 < x.items.length, x.items[0]'h = z) := hid (fun h => by simp [hd])
      have hx2 : (0 : Int) < (x.items.length : Int) := by omega
      have hx3 : 0 < x.items.length := by omega
      replace hx0 := hid hx0
      replace hd := hid hd
      replace c := hid c
      replace k3 := hid k3
      clear hs1 hk3 hkn hs2 hx1
      go_enter Try.func79, Try.ntmps79
      go_upto_region 1 with (fail)
      generalize hEW : (w).alloc (.cells #[.int .i64 x.kind, .slice sx x.shape.length cx, .slice nx x.nums.length mx, .slice ix x.items.length jx, .slice so sl sc] 99) = W
      replace E := hid (envF1 E.out hEW)
      clear hEW
      obtain ⟨q00, q01, q02, q03, q04⟩ := row5 (E.out.obj 0 rfl)
      go_upto_region 3 with (fail)
      clear q00 q01 q02 q03 q04
      go_loopw [17] (fun v wr => ∃ (k : Nat) (ia' : Option Addr) (ic' : Nat), k ≤ n ∧ v = .int .i64 k ∧ Env w0 S wr (.obj w.heap.size (.cells #[.int .i64 x.kind, .slice sx x.shape.length cx, .slice nx x.nums.length mx, .slice ix x.items.length jx, .slice so sl sc] 99 (0, 0)) :: .arr x sx nx ix :: .obj bo (.cells #[.int .i64 kk, .slice oa ol oc, .slice na (nums).length nc, .slice ia' (items ++ repL [z] k).length ic'] 27 (0, 0)) :: .rowI na nc nums :: .rowA ia' ic' (items ++ repL [z] k) :: M)) (fun v _ => n - (intOf v).toNat)
      case atStart => exact ⟨0, ia, ic, Nat.zero_le _, rfl, by simpa [repL] using E.out⟩
      case round =>
        clear E
        obtain ⟨k, ia', ic', hk, rfl, E⟩ := hrel
        replace E := hid E
        by_cases hlt : k < n
        · obtain ⟨b1, o1, sz, cz, nz, mz, iz, jz, hia, hS1, hbl1, e0, e1, e2, e3, hz⟩ := (E.out.arr 1 rfl).items.at (k := 0) hx3
          rw [hgd'.out hx3] at e0 e1 e2 e3 hz
          simp only [Nat.zero_mul, Nat.add_zero] at e0 e1 e2 e3
          subst hia
          obtain ⟨q00, q01, q02, q03, q04⟩ := row5 (E.out.obj 0 rfl)
          obtain ⟨q20, q21, q22, q23⟩ := (E.out.hdr 2 rfl).all
          have hll : (items ++ repL [z] k).length + 1 ≤ 1759218604441 := by rw [List.length_append, repL_len]; simp; omega
          have hstep : Hid (items ++ repL [z] (k + 1) = (items ++ repL [z] k) ++ [z]) := hid (by rw [repL, List.append_assoc])
          generalize items ++ repL [z] k = cur at E q23 hll hstep ⊢
          have hz0 := hid hz
          clear hz
          go_upto_region 5 with (fail)
          refine wp_region_mono_any 12 (Sees wr [(⟨w.heap.size, 3, none⟩, .slice (some ⟨b1, o1, none⟩) x.items.length jx), (⟨b1, o1, none⟩, .int .i64 z.kind), (⟨b1, o1 + 1, none⟩, .slice sz z.shape.length cz), (⟨b1, o1 + 2, none⟩, .slice nz z.nums.length mz), (⟨b1, o1 + 3, none⟩, .slice iz z.items.length jz), (⟨bo, 3, none⟩, .slice ia' cur.length ic')]) [9, 11] (fun k v u u' => match k with | 9 => RetA u (fun b => wr.heap.size ≤ b) z (.returned v) u' | 11 => v = .slice (some ⟨u.heap.size, 0, none⟩) 1 1 ∧ u' = u.alloc (.cells #[.int .i64 0, .slice none 0 0, .slice none 0 0, .slice none 0 0] 27) | _ => False) (fun _ _ h e => h.up e) (Sees.start (all_cons (q03) (all_cons (e0) (all_cons (e1) (all_cons (e2) (all_cons (e3) (all_cons (q23) (all_nil)))))))) (by kernel_rfl) (by kernel_rfl) ?_
          simp only [List.take_succ_cons, List.take_zero, List.drop_succ_cons, List.drop_zero]
          repeat (first | (refine m_plain (v := ?_) (by rfl) (by rfl) ?_ ?_; rotate_left; (intro wz hSw; obtain ⟨-, hSc⟩ := hSw; (try simp only [List.forall_mem_cons, List.forall_mem_nil, and_true] at hSc); go_simp; (first | done | with_reducible rfl)); (intro K hK; (try simp only [Act.put, List.setIfInBounds_toArray, List.set_cons_zero, List.set_cons_succ]); refine hK _ _ ?_; clear hK K)) | (refine m_skip (by rfl) (by rfl) ?_; (intro K hK; (try simp only [Act.put, List.setIfInBounds_toArray, List.set_cons_zero, List.set_cons_succ]); refine hK _ _ ?_; clear hK K)))
          refine m_make (by rfl) (by rfl) ?_ ?_
          · intro wz hSw hdep R hRz
            obtain ⟨hSe, hSc⟩ := hSw
            (try simp only [List.forall_mem_cons, List.forall_mem_nil, and_true] at hSc)
            unfold does
            (go_simp; refine Calls.mono (array_Clone z _ _ _ _ _ _ _ wz (hz0.out.up hSe)) ?_; rintro e wq ⟨ta, tc, tn, tnc, ti, tic, rfl, hq, hqb⟩; exact ⟨_, rfl, hRz.out _ _ ⟨hqb, ta, tc, tn, tnc, ti, tic, rfl, ArrAt.mono (fun b _ hb => Nat.le_trans (Below.size hSe) hb) z hq, hqb⟩⟩)
          intro v9 u9 x9 hG9 K hK
          have hF9 := hG9.fact
          (try dsimp only at hF9)
          obtain ⟨s9, c9, n9, m9, i9, j9, he, hA9, hb9⟩ := hF9
          injection he with he
          subst he
          (try simp only [Act.put, List.setIfInBounds_toArray, List.set_cons_zero, List.set_cons_succ]); refine hK _ _ ?_; clear hK K
          repeat (first | (refine m_plain (v := ?_) (by rfl) (by rfl) ?_ ?_; rotate_left; (intro wz hSw; obtain ⟨-, hSc⟩ := hSw; (try simp only [List.forall_mem_cons, List.forall_mem_nil, and_true] at hSc); go_simp; (first | done | with_reducible rfl)); (intro K hK; (try simp only [Act.put, List.setIfInBounds_toArray, List.set_cons_zero, List.set_cons_succ]); refine hK _ _ ?_; clear hK K)) | (refine m_skip (by rfl) (by rfl) ?_; (intro K hK; (try simp only [Act.put, List.setIfInBounds_toArray, List.set_cons_zero, List.set_cons_succ]); refine hK _ _ ?_; clear hK K)))
          refine m_make (by rfl) (by rfl) ?_ ?_
          · intro wz hSw hdep R hRz
            obtain ⟨hSe, hSc⟩ := hSw
            (try simp only [List.forall_mem_cons, List.forall_mem_nil, and_true] at hSc)
            unfold does
            (go_simp; exact hRz.out _ _ ⟨ext_alloc _ _, rfl, rfl⟩)
          intro v11 u11 x11 hG11 K hK
          have hF11 := hG11.fact
          (try dsimp only at hF11)
          obtain ⟨rfl, rfl⟩ := hF11
          (try simp only [Act.put, List.setIfInBounds_toArray, List.set_cons_zero, List.set_cons_succ]); refine hK _ _ ?_; clear hK K
          repeat (first | (refine m_plain (v := ?_) (by rfl) (by rfl) ?_ ?_; rotate_left; (intro wz hSw; obtain ⟨-, hSc⟩ := hSw; (try simp only [List.forall_mem_cons, List.forall_mem_nil, and_true] at hSc); go_simp; (first | done | with_reducible rfl)); (intro K hK; (try simp only [Act.put, List.setIfInBounds_toArray, List.set_cons_zero, List.set_cons_succ]); refine hK _ _ ?_; clear hK K)) | (refine m_skip (by rfl) (by rfl) ?_; (intro K hK; (try simp only [Act.put, List.setIfInBounds_toArray, List.set_cons_zero, List.set_cons_succ]); refine hK _ _ ?_; clear hK K)))
          refine m_nil ?_
          intro wf hSf hAf
          have oZ := hid (box_items (z := .zero) (T := fun b => wr.heap.size ≤ b) (sc := 0) (nc := 0) (ic := 0) (hAf 11 _ rfl) (Below.size hG11.s.1) (zero_at _ _ none none none))
          have hfr : Hid (∀ b, wr.heap.size ≤ b → Tst w0 S _ b) := hid (fun b hb => E.out.fresh (Ext.refl _) hb)
          replace E := hid (((E.out.up hSf.1).addArr (ArrAt.up hA9 (hAf 9 _ rfl)) (fun b _ hb => hfr.out b hb)).front)
          clear hSf hAf hG11 hG9 hA9 hb9 q00 q01 q02 q03 q04 q20 q21 q22 q23 e0 e1 e2 e3
          refine any_step 12 (by kernel_rfl) (by rfl) ?_
          refine wplE_appA E.out 5 (by rfl) (by rfl) (.tmp 26) (.tmp 34) (by rfl) (by rfl) _ _ 1 [.zero] (by rfl) oZ.out (fun b _ hb => hfr.out b hb) hll ?_
          intro V1 ia2 ic2 E1
          clear E oZ hfr
          have E := hid E1
          clear E1
          (try simp only [List.cons_append, List.nil_append, List.set_cons_zero, List.set_cons_succ] at E)
          refine any_nil ?_
          obtain ⟨g5, hg5⟩ := (E.out.rowA 5 rfl).at (by simp)
          subst hg5
          have ti0 : (0 : Int) ≤ (cur.length : Int) := Int.natCast_nonneg _
          have ti1 : (cur.length : Int) < ((cur ++ [Arr.zero]).length : Int) := by simp; omega
          refine any_take 15 (v := .pointer (some ⟨bo, 0, none⟩)) (by kernel_rfl) (by kernel_rfl) (by kernel_rfl) (by rfl) (by rfl) (by intro wz; go_simp <;> (try (intro hh; omega))) (by intro c a w h; exact h) ?_
          refine any_take 16 (v := .pointer (some ⟨bo, 3, none⟩)) (by kernel_rfl) (by kernel_rfl) (by kernel_rfl) (by rfl) (by rfl) (by intro wz; go_simp <;> (try (intro hh; omega))) (by intro c a w h; exact h) ?_
          refine any_take 13 (v := .pointer (some ⟨g5, cur.length * 4, none⟩)) (by kernel_rfl) (by kernel_rfl) (by kernel_rfl) (by rfl) (by rfl) (by intro wz; go_simp <;> (try (intro hh; omega))) (by intro c a w h; exact h) ?_
          refine any_two 14 17 (by kernel_rfl) (by rfl) (by rfl) ?_ ?_
          · refine wplE_last E.out 5 (by rfl) (by rfl) (.tmp 36) (.tmp 32) (by rfl) (fun g e => by cases e; rfl) (by rfl) (E.out.arr 0 rfl) ?_
            intro V2 E1
            clear E
            have E := hid E1
            clear E1
            (try simp only [List.cons_append, List.nil_append, List.set_cons_zero, List.set_cons_succ] at E)
            refine any_nil ?_
            refine any_step 17 (by kernel_rfl) (by rfl) ?_
            refine wpl_store3 (by rfl) (.tmp 38) (.tmp 35) (by rfl) bo (by rfl) (by rfl) (E.out.hdr 3 rfl) ?_
            intro V HV CV
            replace E := hid (E.out.chg 3 rfl CV HV)
            (try simp only [List.cons_append, List.nil_append, List.set_cons_zero, List.set_cons_succ] at E)
            refine any_nil ?_
            refine any_done (by kernel_rfl) ?_
            replace E := hid E.out.tl
            go_wp2_with fail
            go_roundw
            case rel => exact ⟨k + 1, _, ic2, by omega, by go_num, by rw [hstep.out, show (cur ++ [z]).length = (cur ++ [Arr.zero]).length by simp]; exact E.out⟩
            case measure => simp [intOf]; omega
          · refine wpl_store3 (by rfl) (.tmp 38) (.tmp 35) (by rfl) bo (by rfl) (by rfl) (E.out.hdr 3 rfl) ?_
            intro V HV CV
            replace E := hid (E.out.chg 3 rfl CV HV)
            (try simp only [List.cons_append, List.nil_append, List.set_cons_zero, List.set_cons_succ] at E)
            refine any_nil ?_
            refine any_step 14 (by kernel_rfl) (by rfl) ?_
            refine wplE_last E.out 5 (by rfl) (by rfl) (.tmp 36) (.tmp 32) (by rfl) (fun g e => by cases e; rfl) (by rfl) (E.out.arr 0 rfl) ?_
            intro V2 E1
            clear E
            have E := hid E1
            clear E1
            (try simp only [List.cons_append, List.nil_append, List.set_cons_zero, List.set_cons_succ] at E)
            refine any_nil ?_
            refine any_done (by kernel_rfl) ?_
            replace E := hid E.out.tl
            go_wp2_with fail
            go_roundw
            case rel => exact ⟨k + 1, _, ic2, by omega, by go_num, by rw [hstep.out, show (cur ++ [z]).length = (cur ++ [Arr.zero]).length by simp]; exact E.out⟩
            case measure => simp [intOf]; omega
        · obtain rfl : k = n := by omega
          go_wp2_with fail
          exact bodyPost_ret (end_none rfl) rfl (hR.out _ _ ⟨na, nc, ia', ic', rfl, by rw [eN.out, eI.out]; exact E.out.tl.tl⟩)
    case neg =>
      have kb : (x.kind == 3) = false := by simp [k3]
      have hx0 := hkn k3
      have hx1 : x.nums.length = 1 := by have := hs1 c; rw [hx0] at this; simpa using this
      obtain ⟨d, hd⟩ : ∃ d, x.nums = [d] := List.length_eq_one_iff.1 hx1
      have eN : Hid (nums ++ addL x.shape x.nums i n = nums ++ repL [d] n) := hid (by unfold addL; rw [if_pos c, hd])
      have eI : Hid (items ++ addL x.shape x.items i n = items) := hid (by unfold addL; rw [if_pos c, hx0, repL_nil, List.append_nil])
      have hgd : x.nums.getD 0 0 = d := by rw [hd]; rfl
      have hx2 : (0 : Int) < (x.nums.length : Int) := by omega
      have hx3 : 0 < x.nums.length := by omega
      replace hx0 := hid hx0
      replace hd := hid hd
      replace c := hid c
      replace k3 := hid k3
      clear hs1 hk3 hkn hs2 hx1
      go_enter Try.func79, Try.ntmps79
      go_upto_region 1 with (fail)
      generalize hEW : (w).alloc (.cells #[.int .i64 x.kind, .slice sx x.shape.length cx, .slice nx x.nums.length mx, .slice ix x.items.length jx, .slice so sl sc] 99) = W
      replace E := hid (envF1 E.out hEW)
      clear hEW
      obtain ⟨q00, q01, q02, q03, q04⟩ := row5 (E.out.obj 0 rfl)
      go_upto_region 3 with (fail)
      clear q00 q01 q02 q03 q04
      go_loopw [17] (fun v wr => ∃ (k : Nat) (na' : Option Addr) (nc' : Nat), k ≤ n ∧ v = .int .i64 k ∧ Env w0 S wr (.obj w.heap.size (.cells #[.int .i64 x.kind, .slice sx x.shape.length cx, .slice nx x.nums.length mx, .slice ix x.items.length jx, .slice so sl sc] 99 (0, 0)) :: .arr x sx nx ix :: .obj bo (.cells #[.int .i64 kk, .slice oa ol oc, .slice na' (nums ++ repL [d] k).length nc', .slice ia (items).length ic] 27 (0, 0)) :: .rowI na' nc' (nums ++ repL [d] k) :: .rowA ia ic items :: M)) (fun v _ => n - (intOf v).toNat)
      case atStart => exact ⟨0, na, nc, Nat.zero_le _, rfl, by simpa [repL] using E.out⟩
      case round =>
        clear E
        obtain ⟨k, na', nc', hk, rfl, E⟩ := hrel
        replace E := hid E
        by_cases hlt : k < n
        · obtain ⟨b1, o1, hna, hbl1, hS1, hc⟩ := (E.out.arr 1 rfl).nums.at (k := 0) (by omega)
          rw [hgd, Nat.add_zero] at hc
          subst hna
          obtain ⟨q00, q01, q02, q03, q04⟩ := row5 (E.out.obj 0 rfl)
          obtain ⟨q20, q21, q22, q23⟩ := (E.out.hdr 2 rfl).all
          have hll : (nums ++ repL [d] k).length + 1 ≤ 17592186044416 := by rw [List.length_append, repL_len]; simp; omega
          have hstep : Hid (nums ++ repL [d] (k + 1) = (nums ++ repL [d] k) ++ [d]) := hid (by rw [repL, List.append_assoc])
          generalize nums ++ repL [d] k = cur at E q22 hll hstep ⊢
          go_upto_region 6 with (fail)
          refine wp_region_edge 0 11 (by kernel_rfl) (by kernel_rfl) (fun o _ v c a w h => by cases hd : o.dst <;> (rw [hd] at h; exact h)) _ rfl 11 (Sees wr [(⟨w.heap.size, 2, none⟩, .slice (some ⟨b1, o1, none⟩) x.nums.length mx), (⟨b1, o1, none⟩, .int .i64 d), (⟨bo, 2, none⟩, .slice na' cur.length nc')]) [10] (fun k v u u' => match k with | 10 => v = .slice (some ⟨u.heap.size, 0, none⟩) 1 1 ∧ u' = u.alloc (.cells (([d] : List Int).map (Value.int .i64)).toArray 3) | _ => False) (fun _ _ h e => h.up e) (Sees.start (all_cons (q02) (all_cons (hc) (all_cons (q22) (all_nil))))) (by kernel_rfl) ?_
          simp only [withEdge, List.modify_succ_cons, List.modify_zero_cons, List.push_toArray, List.cons_append, List.nil_append]
          simp only [List.take_succ_cons, List.take_zero, List.drop_succ_cons, List.drop_zero]
          repeat (first | (refine m_plain (v := ?_) (by rfl) (by rfl) ?_ ?_; rotate_left; (intro wz hSw; obtain ⟨-, hSc⟩ := hSw; (try simp only [List.forall_mem_cons, List.forall_mem_nil, and_true] at hSc); go_simp; (first | done | with_reducible rfl)); (intro K hK; (try simp only [Act.put, List.setIfInBounds_toArray, List.set_cons_zero, List.set_cons_succ]); refine hK _ _ ?_; clear hK K)) | (refine m_skip (by rfl) (by rfl) ?_; (intro K hK; (try simp only [Act.put, List.setIfInBounds_toArray, List.set_cons_zero, List.set_cons_succ]); refine hK _ _ ?_; clear hK K)))
          refine m_make (by rfl) (by rfl) ?_ ?_
          · intro wz hSw hdep R hRz
            obtain ⟨hSe, hSc⟩ := hSw
            (try simp only [List.forall_mem_cons, List.forall_mem_nil, and_true] at hSc)
            unfold does
            (go_simp; exact hRz.out _ _ ⟨ext_alloc _ _, rfl, rfl⟩)
          intro v10 u10 x10 hG10 K hK
          have hF10 := hG10.fact
          (try dsimp only at hF10)
          obtain ⟨rfl, rfl⟩ := hF10
          (try simp only [Act.put, List.setIfInBounds_toArray, List.set_cons_zero, List.set_cons_succ]); refine hK _ _ ?_; clear hK K
          repeat (first | (refine m_plain (v := ?_) (by rfl) (by rfl) ?_ ?_; rotate_left; (intro wz hSw; obtain ⟨-, hSc⟩ := hSw; (try simp only [List.forall_mem_cons, List.forall_mem_nil, and_true] at hSc); go_simp; (first | done | with_reducible rfl)); (intro K hK; (try simp only [Act.put, List.setIfInBounds_toArray, List.set_cons_zero, List.set_cons_succ]); refine hK _ _ ?_; clear hK K)) | (refine m_skip (by rfl) (by rfl) ?_; (intro K hK; (try simp only [Act.put, List.setIfInBounds_toArray, List.set_cons_zero, List.set_cons_succ]); refine hK _ _ ?_; clear hK K)))
          refine m_nil ?_
          intro wf hSf hAf
          have oF := hid (lit_at (l := [d]) (hAf 10 _ rfl) (by simp))
          replace E := hid (E.out.up hSf.1)
          clear hSf hAf hG10 q00 q01 q02 q03 q04 q20 q21 q22 q23
          refine wplE_appI E.out 3 rfl (by rfl) (.tmp 43) (.tmp 49) (by rfl) (by rfl) _ _ 1 [d] (by rfl) oF.out hll ?_
          intro V1 na2 nc2 E1
          clear E oF
          have E := hid E1
          clear E1
          (try simp only [List.cons_append, List.nil_append, List.set_cons_zero, List.set_cons_succ] at E)
          go_wp2_with (refine wpl_store2 rfl (.tmp 52) (.tmp 50) rfl bo rfl rfl (E.out.hdr 2 rfl) ?_; intro V HV CV; replace E := hid (E.out.chg 2 rfl CV HV); (try simp only [List.cons_append, List.nil_append, List.set_cons_zero, List.set_cons_succ] at E))
          go_roundw
          case rel => exact ⟨k + 1, na2, nc2, by omega, by go_num, by rw [hstep.out, List.length_append]; exact E.out⟩
          case measure => simp [intOf]; omega
        · obtain rfl : k = n := by omega
          go_wp2_with fail
          exact bodyPost_ret (end_none rfl) rfl (hR.out _ _ ⟨na', nc', ia, ic, rfl, by rw [eN.out, eI.out]; exact E.out.tl.tl⟩)
  case neg =>
    have cb : ((x.shape.length : Int) == 0) = false := by rw [beq_eq_false_iff_ne]; omega
    have hsz := hs2 c
    by_cases k3 : x.kind = 3
    case pos => exact side_addA x sx cx nx mx ix jx so sl sc kk oa ol oc na nc nums ia ic items bo i n w0 S w M E hn hi c k3 (hk3 k3) (by rw [hk3 k3] at hsz; simpa using hsz) hl2 (by omega) hci R' hR
    case neg =>
      have kb : (x.kind != 3) = true := by simp [k3]
      have hx0 := hkn k3
      have hsz' : i * n + n ≤ x.nums.length := by rw [hx0] at hsz; simpa using hsz
      have eN : Hid (nums ++ addL x.shape x.nums i n = nums ++ blkL x.nums i n) := hid (by unfold addL; rw [if_neg c])
      have eI : Hid (items ++ addL x.shape x.items i n = items) := hid (by unfold addL; rw [if_neg c, hx0, blkL_nil, List.append_nil])
      replace hx0 := hid hx0
      replace c := hid c
      replace k3 := hid k3
      clear hs1 hk3 hkn hs2 hsz
      have hmul : ((i : Int) * (n : Int)) = ((i * n : Nat) : Int) := by simp
      have hib : i * n ≤ 65536 := by omega
      obtain ⟨m, hm⟩ : ∃ m, m = i * n := ⟨_, rfl⟩
      rw [← hm] at hmul hib hsz'
      have hwr : IntKind.i64.wrap ((i : Int) * (n : Int)) = (m : Int) := by rw [hmul]; exact IntWalk.i64_in _ (by omega)
      obtain ⟨ys, hys⟩ : ∃ ys, ys = (x.nums.drop m).take n := ⟨_, rfl⟩
      have hyl : Hid (ys.length = n) := hid (by rw [hys]; simp; omega)
      have hbl : Hid (nums ++ blkL x.nums i n = nums ++ ys) := hid (by unfold blkL; rw [hys, hm])
      have hmn : n = 0 → m = 0 := fun h => by rw [hm, h, Nat.mul_zero]
      replace hm := hid hm
      replace hys := hid hys
      go_enter Try.func79, Try.ntmps79
      go_upto_region 1 with (fail)
      generalize hEW : (w).alloc (.cells #[.int .i64 x.kind, .slice sx x.shape.length cx, .slice nx x.nums.length mx, .slice ix x.items.length jx, .slice so sl sc] 99) = W
      replace E := hid (envF1 E.out hEW)
      clear hEW
      obtain ⟨q00, q01, q02, q03, q04⟩ := row5 (E.out.obj 0 rfl)
      have mS := fun w => run_makeI w n (by omega)
      go_upto_region 10 with (fail)
      clear mS q00 q01 q02 q03 q04
      replace E := hid (E.out.alloc (.cells (madeI n) 3)).front
      generalize hW2 : W.alloc (.cells (madeI n) 3) = W2 at E ⊢
      clear hW2
      generalize W.heap.size = gp at E ⊢
      have c2 : (m : Int) ≤ (x.nums.length : Int) := by omega
      have c3 : (0 : Int) ≤ (m : Int) := by omega
      have c4 : (m : Int).toNat = m := by omega
      by_cases n0 : m < x.nums.length
      case pos =>
        obtain ⟨b1, o1, hna, hbl1, hS1, hc⟩ := (E.out.arr 2 rfl).nums.at (k := 0) (by omega)
        subst hna
        clear hc
        have hsub := hid ((E.out.arr 2 rfl).nums.drop m (by omega))
        have hsl : Hid ((x.nums.drop m).length = x.nums.length - m) := hid (by simp)
        have hln : Hid (n ≤ (x.nums.drop m).length) := hid (by simp; omega)
        have c1 : ¬ mx = m := by omega
        obtain ⟨q10, q11, q12, q13, q14⟩ := row5 (E.out.obj 1 rfl)
        go_upto_region 11 with (refine wplE_copyP E.out 0 rfl (madeI_size n) rfl (.tmp 60) (.tmp 67) rfl rfl (by rw [hsl.out]; rfl) hsub.out hln.out ?_; intro V1 E1; clear E; have E := hid E1; clear E1; (try simp only [List.cons_append, List.nil_append, List.set_cons_zero, List.set_cons_succ] at E))
        rw [← hys.out] at E
        replace E := hid (E.out.filled 0 rfl (by rw [hyl.out]; omega))
        (try simp only [List.cons_append, List.nil_append, List.set_cons_zero, List.set_cons_succ] at E)
        clear q10 q11 q12 q13 q14
        obtain ⟨q30, q31, q32, q33⟩ := (E.out.hdr 3 rfl).all
        go_wp2_with (first
          | (at_builtin; refine wplE_appI E.out 4 rfl rfl (.tmp 73) (.tmp 74) rfl rfl _ _ n ys (by rw [hyl.out]; rfl) (E.out.ints 0 rfl) (by rw [hyl.out]; omega) ?_; intro V2 na2 nc2 E1; clear E; have E := hid E1; clear E1; (try simp only [List.cons_append, List.nil_append, List.set_cons_zero, List.set_cons_succ] at E))
          | (refine wpl_store2 rfl (.tmp 77) (.tmp 75) rfl bo rfl rfl (E.out.hdr 3 rfl) ?_; intro V HV CV; replace E := hid (E.out.chg 3 rfl CV HV); (try simp only [List.cons_append, List.nil_append, List.set_cons_zero, List.set_cons_succ] at E)))
        exact bodyPost_ret (end_none rfl) rfl (hR.out _ _ ⟨na2, nc2, ia, ic, rfl, by rw [eN.out, eI.out, hbl.out, List.length_append]; exact E.out.tl.tl.tl⟩)
      case neg =>
        have hn0 : n = 0 := by omega
        have hm0 : m = 0 := hmn hn0
        have hx3 : x.nums.length = 0 := by omega
        have hxe : x.nums = [] := List.length_eq_zero_iff.1 hx3
        have hye : Hid (List.map (Value.int .i64) (([] : List Int).take n) = List.map (Value.int .i64) ys) := hid (by rw [hys.out, hxe]; simp)
        obtain ⟨q10, q11, q12, q13, q14⟩ := row5 (E.out.obj 1 rfl)
        rw [hx3] at q12 c2
        replace hxe := hid hxe
        have hlz : Hid (n ≤ ([] : List Int).length) := hid (by rw [hn0]; simp)
        by_cases c1 : mx = m
        · replace hn0 := hid hn0
          replace hm0 := hid hm0
          replace hx3 := hid hx3
          have hmz : Hid (0 - m = ([] : List Int).length) := hid (by simp)
          go_upto_region 11 with (refine wplE_copyP (ys := []) (T := fun _ => True) E.out 0 rfl (madeI_size n) rfl (.tmp 60) (.tmp 67) rfl rfl rfl (IntsAt.nil _ _ _) hlz.out ?_; intro V1 E1; clear E; have E := hid E1; clear E1; (try simp only [List.cons_append, List.nil_append, List.set_cons_zero, List.set_cons_succ] at E))
          rw [hye.out] at E
          replace E := hid (E.out.filled 0 rfl (by rw [hyl.out]; omega))
          (try simp only [List.cons_append, List.nil_append, List.set_cons_zero, List.set_cons_succ] at E)
          clear q10 q11 q12 q13 q14
          obtain ⟨q30, q31, q32, q33⟩ := (E.out.hdr 3 rfl).all
          go_wp2_with (first
            | (at_builtin; refine wplE_appI E.out 4 rfl rfl (.tmp 73) (.tmp 74) rfl rfl _ _ n ys (by rw [hyl.out]; rfl) (E.out.ints 0 rfl) (by rw [hyl.out]; omega) ?_; intro V2 na2 nc2 E1; clear E; have E := hid E1; clear E1; (try simp only [List.cons_append, List.nil_append, List.set_cons_zero, List.set_cons_succ] at E))
            | (refine wpl_store2 rfl (.tmp 77) (.tmp 75) rfl bo rfl rfl (E.out.hdr 3 rfl) ?_; intro V HV CV; replace E := hid (E.out.chg 3 rfl CV HV); (try simp only [List.cons_append, List.nil_append, List.set_cons_zero, List.set_cons_succ] at E)))
          exact bodyPost_ret (end_none rfl) rfl (hR.out _ _ ⟨na2, nc2, ia, ic, rfl, by rw [eN.out, eI.out, hbl.out, List.length_append]; exact E.out.tl.tl.tl⟩)
        · replace hn0 := hid hn0
          replace hm0 := hid hm0
          replace hx3 := hid hx3
          have hmz : Hid (0 - m = ([] : List Int).length) := hid (by simp)
          go_upto_region 11 with (refine wplE_copyP (ys := []) (T := fun _ => True) E.out 0 rfl (madeI_size n) rfl (.tmp 60) (.tmp 67) rfl rfl rfl (IntsAt.nil _ _ _) hlz.out ?_; intro V1 E1; clear E; have E := hid E1; clear E1; (try simp only [List.cons_append, List.nil_append, List.set_cons_zero, List.set_cons_succ] at E))
          rw [hye.out] at E
          replace E := hid (E.out.filled 0 rfl (by rw [hyl.out]; omega))
          (try simp only [List.cons_append, List.nil_append, List.set_cons_zero, List.set_cons_succ] at E)
          clear q10 q11 q12 q13 q14
          obtain ⟨q30, q31, q32, q33⟩ := (E.out.hdr 3 rfl).all
          go_wp2_with (first
            | (at_builtin; refine wplE_appI E.out 4 rfl rfl (.tmp 73) (.tmp 74) rfl rfl _ _ n ys (by rw [hyl.out]; rfl) (E.out.ints 0 rfl) (by rw [hyl.out]; omega) ?_; intro V2 na2 nc2 E1; clear E; have E := hid E1; clear E1; (try simp only [List.cons_append, List.nil_append, List.set_cons_zero, List.set_cons_succ] at E))
            | (refine wpl_store2 rfl (.tmp 77) (.tmp 75) rfl bo rfl rfl (E.out.hdr 3 rfl) ?_; intro V HV CV; replace E := hid (E.out.chg 3 rfl CV HV); (try simp only [List.cons_append, List.nil_append, List.set_cons_zero, List.set_cons_succ] at E)))
          exact bodyPost_ret (end_none rfl) rfl (hR.out _ _ ⟨na2, nc2, ia, ic, rfl, by rw [eN.out, eI.out, hbl.out, List.length_append]; exact E.out.tl.tl.tl⟩)
end Go.Proofs.Ytdpdcjadedcglaa
