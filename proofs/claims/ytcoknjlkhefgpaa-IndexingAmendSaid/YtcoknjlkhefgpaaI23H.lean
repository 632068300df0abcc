/- indexing.amended: contract. Conditions: the arrays and the list are read; the offsets are within the array. -/
import Derived.Test.YtcoknjlkhefgpaaI23A
import Derived.Test.YtcoknjlkhefgpaaP23A
import Derived.Test.YtcoknjlkhefgpaaROWO
import Derived.Test.YtcoknjlkhefgpaaPCELL
import Derived.Test.YtcoknjlkhefgpaaNEWF
set_option linter.unusedVariables false
set_option linter.unusedSimpArgs false
namespace Go.Proofs.Ytcoknjlkhefgpaa
open Go.RowKit Go.Sort
attribute [local go_sem ↓] run_max2 run_min2
attribute [local go_sem] eql_ints_nil eql_arrs_nil
set_option maxRecDepth 100000 in
set_option maxHeartbeats 8000000 in
theorem indexing_amended (y : Arr) (sy : Option Addr) (cy : Nat) (ny : Option Addr) (my : Nat) (iy : Option Addr) (jy : Nat) (x : Arr) (sx : Option Addr) (cx : Nat) (nx : Option Addr) (mx : Nat) (ix : Option Addr) (jx : Nat) (src : List Int) (so : Option Addr) (sc : Nat) (S : Nat → Prop) (w : World) (h : ArrAt w S y sy ny iy) (g : ArrAt w S x sx nx ix) (f : IntsAt w S so src) (hF : Flat y) (hk : x.kind = y.kind) (hl : src.length = szA y) (hz : szA y ≤ 65536) (hv : ∀ e, e < src.length → src.getD e 0 < (szA x : Int)) :
    Calls Try.prog 43 #[.agg #[.int .i64 y.kind, .slice sy y.shape.length cy, .slice ny y.nums.length my, .slice iy y.items.length jy], .agg #[.int .i64 x.kind, .slice sx x.shape.length cx, .slice nx x.nums.length mx, .slice ix x.items.length jx], .slice so src.length sc] w (RetAEC w (fun b => w.heap.size ≤ b) (agS x y src) (agE x y src)) := by
  refine calls_post fun R' hR => ?_
  have h0 := hid h
  have g0 := hid g
  have f0 := hid f
  have hsl := h.shape.1
  have hyn := h.nums.1
  have hnl : y.nums.length ≤ 65536 := by
    by_cases k : y.kind = 3
    · rw [hF.n k]; simp
    · rcases hF.k with q | q | q
      · have : szA y = y.nums.length := by simp [szA, szN, q]
        omega
      · have : szA y = y.nums.length := by simp [szA, szN, q]
        omega
      · exact absurd q k
  clear h g f
  replace hF := hid hF
  replace hk := hid hk
  replace hl := hid hl
  replace hv := hid hv
  have mS := fun w => run_makeI w y.nums.length (by omega)
  go_enter Try.func43, Try.ntmps43
  go_upto_region 1 with (fail)
  generalize hEW : (((w).alloc (.cells #[.int .i64 y.kind, .slice sy y.shape.length cy, .slice ny y.nums.length my, .slice iy y.items.length jy] 26)).alloc (.cells #[.int .i64 x.kind, .slice sx x.shape.length cx, .slice nx x.nums.length mx, .slice ix x.items.length jx] 26)).alloc (.cells #[.int .i64 0, .slice none 0 0, .slice none 0 0, .slice none 0 0] 26) = W
  have E := hid (env3 w S hEW)
  clear hEW
  replace E := hid (((E.out.arg h0.out).arg g0.out).argI f0.out)
  (try simp only [List.cons_append, List.nil_append, List.set_cons_zero, List.set_cons_succ] at E)
  obtain ⟨q00, q01, q02, q03⟩ := (E.out.hdr 0 rfl).all
  refine wp_region_mono_tail 11 (Sees W [(⟨w.heap.size, 0, none⟩, .int .i64 y.kind), (⟨w.heap.size, 1, none⟩, .slice sy y.shape.length cy), (⟨w.heap.size, 2, none⟩, .slice ny y.nums.length my)]) [4, 8, 10] (fun k v u u' => match k with | 4 => ∃ ao cap, v = .slice ao y.shape.length cap ∧ OwnI u' u.heap.size ao cap y.shape | 8 => v = .slice (some ⟨u.heap.size, 0, none⟩) y.nums.length y.nums.length ∧ u' = u.alloc (.cells (madeI y.nums.length) 3) | 10 => v = .pointer (some ⟨u.heap.size, 0, none⟩) ∧ u' = u.alloc (.cells #[.int .i64 0, .slice none 0 0, .slice none 0 0, .slice none 0 0] 26) | _ => False) (fun _ _ h e => h.up e) (Sees.start (all_cons (q00) (all_cons (q01) (all_cons (q02) (all_nil))))) (by kernel_rfl) (by kernel_rfl) ?_
  simp only [List.take_succ_cons, List.take_zero, List.drop_succ_cons, List.drop_zero]
  repeat (first | (refine m_plain (v := ?_) (by rfl) (by rfl) ?_ ?_; rotate_left; (intro wz hSw; obtain ⟨-, hSc⟩ := hSw; (try simp only [List.forall_mem_cons, List.forall_mem_nil, and_true] at hSc); go_simp; (first | done | with_reducible rfl)); (intro K hK; (try simp only [Act.put, List.setIfInBounds_toArray, List.set_cons_zero, List.set_cons_succ]); refine hK _ _ ?_; clear hK K)) | (refine m_skip (by rfl) (by rfl) ?_; (intro K hK; (try simp only [Act.put, List.setIfInBounds_toArray, List.set_cons_zero, List.set_cons_succ]); refine hK _ _ ?_; clear hK K)))
  refine m_make (by rfl) (by rfl) ?_ ?_
  · intro wz hSw hdep R hRz
    obtain ⟨hSe, hSc⟩ := hSw
    (try simp only [List.forall_mem_cons, List.forall_mem_nil, and_true] at hSc)
    unfold does
    (go_simp; refine Calls.mono (slices_Clone y.shape _ _ _ wz ((E.out.arr 3 rfl).shape.up hSe)) ?_; rintro e wq ⟨ta, tc, rfl, hq, hqb⟩; exact ⟨_, rfl, hRz.out _ _ ⟨hqb, ta, tc, rfl, hq⟩⟩)
  intro v4 u4 x4 hG4 K hK
  have hF4 := hG4.fact
  (try dsimp only at hF4)
  obtain ⟨ta, tc, rfl, ht⟩ := hF4
  (try simp only [Act.put, List.setIfInBounds_toArray, List.set_cons_zero, List.set_cons_succ]); refine hK _ _ ?_; clear hK K
  repeat (first | (refine m_plain (v := ?_) (by rfl) (by rfl) ?_ ?_; rotate_left; (intro wz hSw; obtain ⟨-, hSc⟩ := hSw; (try simp only [List.forall_mem_cons, List.forall_mem_nil, and_true] at hSc); go_simp; (first | done | with_reducible rfl)); (intro K hK; (try simp only [Act.put, List.setIfInBounds_toArray, List.set_cons_zero, List.set_cons_succ]); refine hK _ _ ?_; clear hK K)) | (refine m_skip (by rfl) (by rfl) ?_; (intro K hK; (try simp only [Act.put, List.setIfInBounds_toArray, List.set_cons_zero, List.set_cons_succ]); refine hK _ _ ?_; clear hK K)))
  refine m_make (by rfl) (by rfl) ?_ ?_
  · intro wz hSw hdep R hRz
    obtain ⟨hSe, hSc⟩ := hSw
    (try simp only [List.forall_mem_cons, List.forall_mem_nil, and_true] at hSc)
    unfold does
    (go_simp; exact hRz.out _ _ ⟨ext_alloc _ _, rfl, rfl⟩)
  intro v8 u8 x8 hG8 K hK
  have hF8 := hG8.fact
  (try dsimp only at hF8)
  obtain ⟨rfl, rfl⟩ := hF8
  (try simp only [Act.put, List.setIfInBounds_toArray, List.set_cons_zero, List.set_cons_succ]); refine hK _ _ ?_; clear hK K
  repeat (first | (refine m_plain (v := ?_) (by rfl) (by rfl) ?_ ?_; rotate_left; (intro wz hSw; obtain ⟨-, hSc⟩ := hSw; (try simp only [List.forall_mem_cons, List.forall_mem_nil, and_true] at hSc); go_simp; (first | done | with_reducible rfl)); (intro K hK; (try simp only [Act.put, List.setIfInBounds_toArray, List.set_cons_zero, List.set_cons_succ]); refine hK _ _ ?_; clear hK K)) | (refine m_skip (by rfl) (by rfl) ?_; (intro K hK; (try simp only [Act.put, List.setIfInBounds_toArray, List.set_cons_zero, List.set_cons_succ]); refine hK _ _ ?_; clear hK K)))
  refine m_make (by rfl) (by rfl) ?_ ?_
  · intro wz hSw hdep R hRz
    obtain ⟨hSe, hSc⟩ := hSw
    (try simp only [List.forall_mem_cons, List.forall_mem_nil, and_true] at hSc)
    unfold does
    (go_simp; exact hRz.out _ _ ⟨ext_alloc _ _, rfl, rfl⟩)
  intro v10 u10 x10 hG10 K hK
  have hF10 := hG10.fact
  (try dsimp only at hF10)
  obtain ⟨rfl, rfl⟩ := hF10
  (try simp only [Act.put, List.setIfInBounds_toArray, List.set_cons_zero, List.set_cons_succ]); refine hK _ _ ?_; clear hK K
  repeat (first | (refine m_plain (v := ?_) (by rfl) (by rfl) ?_ ?_; rotate_left; (intro wz hSw; obtain ⟨-, hSc⟩ := hSw; (try simp only [List.forall_mem_cons, List.forall_mem_nil, and_true] at hSc); go_simp; (first | done | with_reducible rfl)); (intro K hK; (try simp only [Act.put, List.setIfInBounds_toArray, List.set_cons_zero, List.set_cons_succ]); refine hK _ _ ?_; clear hK K)) | (refine m_skip (by rfl) (by rfl) ?_; (intro K hK; (try simp only [Act.put, List.setIfInBounds_toArray, List.set_cons_zero, List.set_cons_succ]); refine hK _ _ ?_; clear hK K)))
  refine m_nil ?_
  intro wf hSf hAf
  have hcap := hid ht.cap
  have E1 := E.out.made2 hG8.s.1 hG10.s.1 (hAf 8 _ rfl) (hAf 10 _ rfl) (hG10.order 8 _ rfl)
  have E2 := E.out.addInts2F (M := []) E1 rfl ((ht.ints hsl).mono fun b _ hb => hb.1) hG4.s.1 (hAf 4 _ rfl) (hG8.order 4 _ rfl) (hG10.order 4 _ rfl)
  clear E E1
  have E := hid E2
  clear E2 hSf hAf hG4 hG8 hG10 ht mS
  clear q00 q01 q02 q03
  (try simp only [List.cons_append, List.nil_append, List.set_cons_zero, List.set_cons_succ] at E)
  generalize u8.heap.size = gn at E ⊢
  generalize u10.heap.size = bo at E ⊢
  refine wpl_store4 rfl (.tmp 8) (.tmp 22) rfl _ rfl rfl (E.out.hdr 7 rfl) ?_
  intro V1 HV CV
  replace E := hid (E.out.chg 7 rfl CV HV)
  clear HV CV
  (try simp only [List.cons_append, List.nil_append, List.set_cons_zero, List.set_cons_succ] at E)
  obtain ⟨q00, q01, q02, q03⟩ := (E.out.hdr 0 rfl).all
  obtain ⟨q70, q71, q72, q73⟩ := (E.out.hdr 7 rfl).all
  go_upto_region 3 with (refine wplE_copyP E.out 6 rfl (madeI_size _) rfl (.tmp 24) (.tmp 26) rfl rfl rfl (E.out.arr 3 rfl).nums (Nat.le_refl _) ?_; intro V2 E1; clear E; have E := hid E1; clear E1; (try simp only [List.cons_append, List.nil_append, List.set_cons_zero, List.set_cons_succ] at E))
  clear q00 q01 q02 q03 q70 q71 q72 q73
  rw [List.take_length] at E
  have hsz := hid hl.out
  have hll : src.length ≤ 65536 := by rw [hl.out]; exact hz
  replace E := hid E.out.row0AF
  (try simp only [List.cons_append, List.nil_append, List.set_cons_zero, List.set_cons_succ] at E)
  by_cases k3 : y.kind = 3
  case pos =>
    have kb : (y.kind != 3) = false := by simp [k3]
    have hn0 : Hid (y.nums = []) := hid (hF.out.n k3)
    have hyl : Hid (y.items.length = src.length) := hid (by rw [hl.out, szA_3 k3])
    have hxl : Hid (∀ t : Nat, t < szA x → t < x.items.length) := hid (fun t q => by rw [← szA_3 (hk.out.trans k3)]; exact q)
    have hgE : Hid (agE x y src = if 262144 < agW x y src src.length then 21 else 0) := hid (by unfold agE; simp [k3])
    replace k3 := hid k3
    go_upto_region 5 with (fail)
    go_loopw [9, 30] (fun g i wr => ∃ (m : Nat) (ia : Option Addr) (ic : Nat), m ≤ src.length ∧ i = .int .i64 m ∧ g = .int .i64 (agW x y src m) ∧ agW x y src m ≤ 262144 ∧ Env w S wr [.obj w.heap.size (.cells #[.int .i64 y.kind, .slice sy y.shape.length cy, .slice ny y.nums.length my, .slice iy y.items.length jy] 26 (0, 0)), .obj (w.heap.size + 1) (.cells #[.int .i64 x.kind, .slice sx x.shape.length cx, .slice nx x.nums.length mx, .slice ix x.items.length jx] 26 (0, 0)), .obj (w.heap.size + 1 + 1) (.cells #[.int .i64 0, .slice none 0 0, .slice none 0 0, .slice none 0 0] 26 (0, 0)), .arr y sy ny iy, .arr x sx nx ix, .ints src so, .obj gn (.cells (rowO (y.nums)) 3 (0, 0)), .obj bo (.cells #[.int .i64 y.kind, .slice ta y.shape.length tc, .slice (some ⟨gn, 0, none⟩) y.nums.length y.nums.length, .slice (ia) ((resL .zero x.items y.items src).take m).length (ic)] 26 (0, 0)), .intsF y.shape ta, .rowAF (ia) (ic) ((resL .zero x.items y.items src).take m)]) (fun _ i _ => src.length - (intOf i).toNat)
    case atStart => exact ⟨0, none, 0, Nat.zero_le _, rfl, by rw [agW_0], by rw [agW_0]; omega, E.out⟩
    case round =>
      clear E
      obtain ⟨m, ia, ic, hm, rfl, rfl, hwt, E⟩ := hrel
      replace E := hid E
      by_cases hlt : m < src.length
      case pos =>
        have hmy : m < y.items.length := by rw [hyl.out]; exact hlt
        have hRx := resL_at (d := Arr.zero) (v := x.items) hmy hlt
        have hvb := hv.out m hlt
        obtain ⟨b1, o1, hso, hbl1, hS1, hc1⟩ := (E.out.ints 5 rfl).at hlt
        have hst := fun z q => agW_step (x := z) (v := x) (y := y) (src := src) (m := m) q
        have hsn := fun z q => resL_snoc (x := z) (d := Arr.zero) (v := x.items) (y := y.items) (src := src) (e := m) q
        have hmo := agW_mono (v := x) (y := y) (src := src) (show m + 1 ≤ src.length by omega)
        have hw0 := agW_nn x y src m
        have hcl : ((resL Arr.zero x.items y.items src).take m).length ≤ m := take_len_le _ m
        have m0 : (0 : Int) ≤ (m : Int) := by omega
        have m2 : (m : Int) < (y.items.length : Int) := by omega
        generalize src.getD m 0 = s at hRx hvb hc1
        obtain ⟨cur, hcur⟩ : ∃ c, c = (resL Arr.zero x.items y.items src).take m := ⟨_, rfl⟩
        rw [← hcur] at E hcl
        replace hcur := hid hcur
        obtain ⟨gw, hgw⟩ : ∃ q, q = agW x y src m := ⟨_, rfl⟩
        rw [← hgw] at hwt hw0 ⊢
        replace hgw := hid hgw
        replace hst := hid hst
        replace hsn := hid hsn
        replace hmo := hid hmo
        subst hso
        by_cases n0 : s < 0
        case pos =>
          rw [if_pos n0] at hRx
          obtain ⟨b2, o2, sz, cz, nz, mz, iz, jz, hiy, hS2, hbl2, e0, e1, e2, e3, hz⟩ := (E.out.arr 3 rfl).items.at hmy
          generalize y.items[m] = z at hRx e0 e1 e2 e3 hz
          replace hiy := hid hiy
          replace E := hid (E.out.addArr hz (fun _ _ h => h))
          clear hz
          (try simp only [List.cons_append, List.nil_append, List.set_cons_zero, List.set_cons_succ] at E)
          obtain ⟨q00, q01, q02, q03⟩ := (E.out.hdr 0 rfl).all
          rw [hiy.out] at q03
          go_upto_region 11 with (refine wpl_store4 rfl (.tmp 12) (.tmp 53) rfl _ rfl rfl ((E.out.alloc _).hdr 11 rfl) ?_; intro V4 HV CV; replace E := hid ((E.out.alloc _).chg 11 rfl CV HV); clear CV HV; (try simp only [List.cons_append, List.nil_append, List.set_cons_zero, List.set_cons_succ] at E))
          generalize wr.heap.size = po at E ⊢
          clear q00 q01 q02 q03
          clear e0 e1 e2 e3 hc1
          have hrs := hid (hst.out z hRx)
          have hI1 := hid (hsn.out z hRx)
          have hz0 := wtS_bd z
          have hov : Hid (262144 < gw + (1 + wtS z) → agE x y src = 21) := hid (fun q => by
            have h1 := hmo.out
            rw [hrs.out, ← hgw.out] at h1
            rw [hgE.out, if_pos (by omega)])
          have hll2 : cur.length + [z].length ≤ 1759218604441 := by simp only [List.length_cons, List.length_nil]; omega
          replace hRx := hid hRx
          obtain ⟨q110, q111, q112, q113⟩ := (E.out.hdr 11 rfl).all
          go_upto_region 13 with (fail)
          go_wp2_with fail
          clear q110 q111 q112 q113
          refine (array_Weight z _ _ _ _ _ _ _ _ (E.out.arr 10 rfl)).mono ?_
          rintro e w7 ⟨rfl, hb⟩
          replace E := hid (E.out.up hb)
          clear hb
          by_cases hov2 : 262144 < gw + (1 + wtS z)
          case pos =>
            have hE := hid (hov.out hov2)
            have hS := hid (agS_no (v := x) (y := y) (src := src) (by rw [hE.out]; decide))
            go_wp2_with (refine wpl_store4 rfl (.tmp 6) (.tmp 68) rfl _ rfl rfl (E.out.hdr 2 rfl) ?_; intro V HV CV; replace E := hid (E.out.chg 2 rfl CV HV))
            exact bodyPost_ret (end_arr2 rfl HV rfl rfl) rfl (hR.out _ _ (RetAEC.zero hS.out hE.out E.out.ext))
          case neg =>
            obtain ⟨q70, q71, q72, q73⟩ := (E.out.hdr 7 rfl).all
            obtain ⟨q110, q111, q112, q113⟩ := (E.out.hdr 11 rfl).all
            go_upto_region 16 with (fail)
            refine wp_region_mono_tail 5 (Sees w7 [(⟨bo, 3, none⟩, .slice ia cur.length ic), (⟨po, 0, none⟩, .int .i64 z.kind), (⟨po, 1, none⟩, .slice sz z.shape.length cz), (⟨po, 2, none⟩, .slice nz z.nums.length mz), (⟨po, 3, none⟩, .slice iz z.items.length jz)]) [3, 4] (fun k v u u' => match k with | 3 => RetA u (fun b => w7.heap.size ≤ b) z (.returned v) u' | 4 => ∃ sa sc na nc ia ic, v = .slice (some ⟨u.heap.size, 0, none⟩) 1 1 ∧ u' = u.alloc (.cells #[.int .i64 z.kind, .slice sa z.shape.length sc, .slice na z.nums.length nc, .slice ia z.items.length ic] 26) ∧ ArrAt u (fun b => w7.heap.size ≤ b) z sa na ia | _ => False) (fun _ _ h e => h.up e) (Sees.start (all_cons (q73) (all_cons (q110) (all_cons (q111) (all_cons (q112) (all_cons (q113) (all_nil))))))) (by kernel_rfl) (by kernel_rfl) ?_
            simp only [List.take_succ_cons, List.take_zero, List.drop_succ_cons, List.drop_zero]
            repeat (first | (refine m_plain (v := ?_) (by rfl) (by rfl) ?_ ?_; rotate_left; (intro wz hSw; obtain ⟨-, hSc⟩ := hSw; (try simp only [List.forall_mem_cons, List.forall_mem_nil, and_true] at hSc); go_simp; (first | done | with_reducible rfl)); (intro K hK; (try simp only [Act.put, List.setIfInBounds_toArray, List.set_cons_zero, List.set_cons_succ]); refine hK _ _ ?_; clear hK K)) | (refine m_skip (by rfl) (by rfl) ?_; (intro K hK; (try simp only [Act.put, List.setIfInBounds_toArray, List.set_cons_zero, List.set_cons_succ]); refine hK _ _ ?_; clear hK K)))
            refine m_make (by rfl) (by rfl) ?_ ?_
            · intro wz hSw hdep R hRz
              obtain ⟨hSe, hSc⟩ := hSw
              (try simp only [List.forall_mem_cons, List.forall_mem_nil, and_true] at hSc)
              unfold does
              (go_simp; refine Calls.mono (array_Clone z _ _ _ _ _ _ _ wz ((E.out.arr 10 rfl).up hSe)) ?_; rintro e wq ⟨ta, tc, tn, tnc, ti, tic, rfl, hq, hqb⟩; exact ⟨_, rfl, hRz.out _ _ ⟨hqb, ta, tc, tn, tnc, ti, tic, rfl, ArrAt.mono (fun b _ hb => Nat.le_trans (Below.size hSe) hb) z hq, hqb⟩⟩)
            intro v3 u3 x3 hG3 K hK
            have hF3 := hG3.fact
            (try dsimp only at hF3)
            obtain ⟨s3, c3, n3, m3, i3, j3, he, hA3, hb3⟩ := hF3
            injection he with he
            subst he
            (try simp only [Act.put, List.setIfInBounds_toArray, List.set_cons_zero, List.set_cons_succ]); refine hK _ _ ?_; clear hK K
            repeat (first | (refine m_plain (v := ?_) (by rfl) (by rfl) ?_ ?_; rotate_left; (intro wz hSw; obtain ⟨-, hSc⟩ := hSw; (try simp only [List.forall_mem_cons, List.forall_mem_nil, and_true] at hSc); go_simp; (first | done | with_reducible rfl)); (intro K hK; (try simp only [Act.put, List.setIfInBounds_toArray, List.set_cons_zero, List.set_cons_succ]); refine hK _ _ ?_; clear hK K)) | (refine m_skip (by rfl) (by rfl) ?_; (intro K hK; (try simp only [Act.put, List.setIfInBounds_toArray, List.set_cons_zero, List.set_cons_succ]); refine hK _ _ ?_; clear hK K)))
            refine m_make (by rfl) (by rfl) ?_ ?_
            · intro wz hSw hdep R hRz
              obtain ⟨hSe, hSc⟩ := hSw
              (try simp only [List.forall_mem_cons, List.forall_mem_nil, and_true] at hSc)
              unfold does
              (go_simp; exact hRz.out _ _ ⟨ext_alloc _ _, s3, c3, n3, m3, i3, j3, rfl, rfl, hA3.up (hdep 3 _ rfl (depB_sound (f := 60) (by kernel_rfl)))⟩)
            intro v4 u4 x4 hG4 K hK
            have hF4 := hG4.fact
            (try dsimp only at hF4)
            obtain ⟨s4, c4, n4, m4, i4, j4, rfl, rfl, hA4⟩ := hF4
            (try simp only [Act.put, List.setIfInBounds_toArray, List.set_cons_zero, List.set_cons_succ]); refine hK _ _ ?_; clear hK K
            repeat (first | (refine m_plain (v := ?_) (by rfl) (by rfl) ?_ ?_; rotate_left; (intro wz hSw; obtain ⟨-, hSc⟩ := hSw; (try simp only [List.forall_mem_cons, List.forall_mem_nil, and_true] at hSc); go_simp; (first | done | with_reducible rfl)); (intro K hK; (try simp only [Act.put, List.setIfInBounds_toArray, List.set_cons_zero, List.set_cons_succ]); refine hK _ _ ?_; clear hK K)) | (refine m_skip (by rfl) (by rfl) ?_; (intro K hK; (try simp only [Act.put, List.setIfInBounds_toArray, List.set_cons_zero, List.set_cons_succ]); refine hK _ _ ?_; clear hK K)))
            refine m_nil ?_
            intro wf2 hSf hAf
            have oF := hid (box_items (hAf 4 _ rfl) (Below.size hG4.s.1) hA4)
            have hfr : Hid (∀ b, b < wf2.heap.size → w7.heap.size ≤ b → Tst w S _ b ∧ w.heap.size ≤ b) := hid (fun b _ hb => ⟨E.out.fresh (Ext.refl _) hb, Nat.le_trans E.out.size hb⟩)
            replace E := hid (E.out.up hSf.1)
            clear hSf hAf hG3 hG4 hA3 hA4 hb3
            clear q70 q71 q72 q73 q110 q111 q112 q113
            refine wplE_addAF E.out 7 9 rfl rfl (by decide) rfl rfl rfl (.tmp 70) (.tmp 73) (.tmp 8) (.tmp 75) (.tmp 74) rfl rfl rfl _ _ 1 [z] rfl rfl oF.out hfr.out hll2 (fun _ => rfl) (fun _ _ => rfl) (fun _ _ => rfl) ?_
            intro V4 na' nc' E'
            clear E oF hfr
            have E := hid E'
            clear E'
            (try simp only [List.cons_append, List.nil_append, List.set_cons_zero, List.set_cons_succ] at E)
            go_wp2_with fail
            go_roundw
            case rel => exact ⟨m + 1, na', nc', by omega, by go_num, by rw [hrs.out, ← hgw.out], by rw [hrs.out, ← hgw.out]; omega, by rw [hI1.out, ← hcur.out]; exact E.out.sub (by simp)⟩
            case measure => simp [intOf]; omega
        case neg =>
          rw [if_neg n0] at hRx
          obtain ⟨t, ht⟩ : ∃ t : Nat, s = (t : Int) := ⟨s.toNat, by omega⟩
          subst ht
          rw [Int.toNat_natCast] at hRx
          have htx : t < x.items.length := hxl.out t (by omega)
          have hgd : x.items.getD t .zero = x.items[t] := by simp [htx]
          rw [hgd] at hRx
          replace hgd := hid hgd
          obtain ⟨b2, o2, s1, k1, n1, m1, i1, j1, hiy, hS2, hbl2, e0, e1, e2, e3, hz1⟩ := (E.out.arr 3 rfl).items.at hmy
          generalize y.items[m] = z1 at e0 e1 e2 e3 hz1
          replace hiy := hid hiy
          clear hz1
          obtain ⟨q00, q01, q02, q03⟩ := (E.out.hdr 0 rfl).all
          rw [hiy.out] at q03
          go_upto_region 11 with (refine wpl_store4 rfl (.tmp 12) (.tmp 53) rfl _ rfl rfl ((E.out.alloc _).hdr 10 rfl) ?_; intro V4 HV CV; replace E := hid ((E.out.alloc _).chg 10 rfl CV HV); clear CV HV; (try simp only [List.cons_append, List.nil_append, List.set_cons_zero, List.set_cons_succ] at E))
          generalize wr.heap.size = po at E ⊢
          clear q00 q01 q02 q03
          clear e0 e1 e2 e3 hc1
          obtain ⟨b3, o3, sz, cz, nz, mz, iz, jz, hix, hS3, hbl3, f0, f1, f2, f3, hz⟩ := (E.out.arr 4 rfl).items.at htx
          generalize x.items[t] = z at hRx f0 f1 f2 f3 hz
          replace hix := hid hix
          replace E := hid (E.out.addArr hz (fun _ _ h => h))
          clear hz
          (try simp only [List.cons_append, List.nil_append, List.set_cons_zero, List.set_cons_succ] at E)
          have t0 : (0 : Int) ≤ (t : Int) := by omega
          have t1 : (t : Int) < (x.items.length : Int) := by omega
          obtain ⟨q10, q11, q12, q13⟩ := (E.out.hdr 1 rfl).all
          rw [hix.out] at q13
          go_upto_region 13 with (refine wpl_store4 rfl (.tmp 12) (.tmp 60) rfl _ rfl rfl (E.out.hdr 10 rfl) ?_; intro V5 HV CV; replace E := hid (E.out.chg 10 rfl CV HV); clear HV CV; (try simp only [List.cons_append, List.nil_append, List.set_cons_zero, List.set_cons_succ] at E))
          clear q10 q11 q12 q13
          clear f0 f1 f2 f3
          have hrs := hid (hst.out z hRx)
          have hI1 := hid (hsn.out z hRx)
          have hz0 := wtS_bd z
          have hov : Hid (262144 < gw + (1 + wtS z) → agE x y src = 21) := hid (fun q => by
            have h1 := hmo.out
            rw [hrs.out, ← hgw.out] at h1
            rw [hgE.out, if_pos (by omega)])
          have hll2 : cur.length + [z].length ≤ 1759218604441 := by simp only [List.length_cons, List.length_nil]; omega
          replace hRx := hid hRx
          obtain ⟨q100, q101, q102, q103⟩ := (E.out.hdr 10 rfl).all
          go_upto_region 13 with (fail)
          go_wp2_with fail
          clear q100 q101 q102 q103
          refine (array_Weight z _ _ _ _ _ _ _ _ (E.out.arr 11 rfl)).mono ?_
          rintro e w7 ⟨rfl, hb⟩
          replace E := hid (E.out.up hb)
          clear hb
          by_cases hov2 : 262144 < gw + (1 + wtS z)
          case pos =>
            have hE := hid (hov.out hov2)
            have hS := hid (agS_no (v := x) (y := y) (src := src) (by rw [hE.out]; decide))
            go_wp2_with (refine wpl_store4 rfl (.tmp 6) (.tmp 68) rfl _ rfl rfl (E.out.hdr 2 rfl) ?_; intro V HV CV; replace E := hid (E.out.chg 2 rfl CV HV))
            exact bodyPost_ret (end_arr2 rfl HV rfl rfl) rfl (hR.out _ _ (RetAEC.zero hS.out hE.out E.out.ext))
          case neg =>
            obtain ⟨q70, q71, q72, q73⟩ := (E.out.hdr 7 rfl).all
            obtain ⟨q100, q101, q102, q103⟩ := (E.out.hdr 10 rfl).all
            go_upto_region 16 with (fail)
            refine wp_region_mono_tail 5 (Sees w7 [(⟨bo, 3, none⟩, .slice ia cur.length ic), (⟨po, 0, none⟩, .int .i64 z.kind), (⟨po, 1, none⟩, .slice sz z.shape.length cz), (⟨po, 2, none⟩, .slice nz z.nums.length mz), (⟨po, 3, none⟩, .slice iz z.items.length jz)]) [3, 4] (fun k v u u' => match k with | 3 => RetA u (fun b => w7.heap.size ≤ b) z (.returned v) u' | 4 => ∃ sa sc na nc ia ic, v = .slice (some ⟨u.heap.size, 0, none⟩) 1 1 ∧ u' = u.alloc (.cells #[.int .i64 z.kind, .slice sa z.shape.length sc, .slice na z.nums.length nc, .slice ia z.items.length ic] 26) ∧ ArrAt u (fun b => w7.heap.size ≤ b) z sa na ia | _ => False) (fun _ _ h e => h.up e) (Sees.start (all_cons (q73) (all_cons (q100) (all_cons (q101) (all_cons (q102) (all_cons (q103) (all_nil))))))) (by kernel_rfl) (by kernel_rfl) ?_
            simp only [List.take_succ_cons, List.take_zero, List.drop_succ_cons, List.drop_zero]
            repeat (first | (refine m_plain (v := ?_) (by rfl) (by rfl) ?_ ?_; rotate_left; (intro wz hSw; obtain ⟨-, hSc⟩ := hSw; (try simp only [List.forall_mem_cons, List.forall_mem_nil, and_true] at hSc); go_simp; (first | done | with_reducible rfl)); (intro K hK; (try simp only [Act.put, List.setIfInBounds_toArray, List.set_cons_zero, List.set_cons_succ]); refine hK _ _ ?_; clear hK K)) | (refine m_skip (by rfl) (by rfl) ?_; (intro K hK; (try simp only [Act.put, List.setIfInBounds_toArray, List.set_cons_zero, List.set_cons_succ]); refine hK _ _ ?_; clear hK K)))
            refine m_make (by rfl) (by rfl) ?_ ?_
            · intro wz hSw hdep R hRz
              obtain ⟨hSe, hSc⟩ := hSw
              (try simp only [List.forall_mem_cons, List.forall_mem_nil, and_true] at hSc)
              unfold does
              (go_simp; refine Calls.mono (array_Clone z _ _ _ _ _ _ _ wz ((E.out.arr 11 rfl).up hSe)) ?_; rintro e wq ⟨ta, tc, tn, tnc, ti, tic, rfl, hq, hqb⟩; exact ⟨_, rfl, hRz.out _ _ ⟨hqb, ta, tc, tn, tnc, ti, tic, rfl, ArrAt.mono (fun b _ hb => Nat.le_trans (Below.size hSe) hb) z hq, hqb⟩⟩)
            intro v3 u3 x3 hG3 K hK
            have hF3 := hG3.fact
            (try dsimp only at hF3)
            obtain ⟨s3, c3, n3, m3, i3, j3, he, hA3, hb3⟩ := hF3
            injection he with he
            subst he
            (try simp only [Act.put, List.setIfInBounds_toArray, List.set_cons_zero, List.set_cons_succ]); refine hK _ _ ?_; clear hK K
            repeat (first | (refine m_plain (v := ?_) (by rfl) (by rfl) ?_ ?_; rotate_left; (intro wz hSw; obtain ⟨-, hSc⟩ := hSw; (try simp only [List.forall_mem_cons, List.forall_mem_nil, and_true] at hSc); go_simp; (first | done | with_reducible rfl)); (intro K hK; (try simp only [Act.put, List.setIfInBounds_toArray, List.set_cons_zero, List.set_cons_succ]); refine hK _ _ ?_; clear hK K)) | (refine m_skip (by rfl) (by rfl) ?_; (intro K hK; (try simp only [Act.put, List.setIfInBounds_toArray, List.set_cons_zero, List.set_cons_succ]); refine hK _ _ ?_; clear hK K)))
            refine m_make (by rfl) (by rfl) ?_ ?_
            · intro wz hSw hdep R hRz
              obtain ⟨hSe, hSc⟩ := hSw
              (try simp only [List.forall_mem_cons, List.forall_mem_nil, and_true] at hSc)
              unfold does
              (go_simp; exact hRz.out _ _ ⟨ext_alloc _ _, s3, c3, n3, m3, i3, j3, rfl, rfl, hA3.up (hdep 3 _ rfl (depB_sound (f := 60) (by kernel_rfl)))⟩)
            intro v4 u4 x4 hG4 K hK
            have hF4 := hG4.fact
            (try dsimp only at hF4)
            obtain ⟨s4, c4, n4, m4, i4, j4, rfl, rfl, hA4⟩ := hF4
            (try simp only [Act.put, List.setIfInBounds_toArray, List.set_cons_zero, List.set_cons_succ]); refine hK _ _ ?_; clear hK K
            repeat (first | (refine m_plain (v := ?_) (by rfl) (by rfl) ?_ ?_; rotate_left; (intro wz hSw; obtain ⟨-, hSc⟩ := hSw; (try simp only [List.forall_mem_cons, List.forall_mem_nil, and_true] at hSc); go_simp; (first | done | with_reducible rfl)); (intro K hK; (try simp only [Act.put, List.setIfInBounds_toArray, List.set_cons_zero, List.set_cons_succ]); refine hK _ _ ?_; clear hK K)) | (refine m_skip (by rfl) (by rfl) ?_; (intro K hK; (try simp only [Act.put, List.setIfInBounds_toArray, List.set_cons_zero, List.set_cons_succ]); refine hK _ _ ?_; clear hK K)))
            refine m_nil ?_
            intro wf2 hSf hAf
            have oF := hid (box_items (hAf 4 _ rfl) (Below.size hG4.s.1) hA4)
            have hfr : Hid (∀ b, b < wf2.heap.size → w7.heap.size ≤ b → Tst w S _ b ∧ w.heap.size ≤ b) := hid (fun b _ hb => ⟨E.out.fresh (Ext.refl _) hb, Nat.le_trans E.out.size hb⟩)
            replace E := hid (E.out.up hSf.1)
            clear hSf hAf hG3 hG4 hA3 hA4 hb3
            clear q70 q71 q72 q73 q100 q101 q102 q103
            refine wplE_addAF E.out 7 9 rfl rfl (by decide) rfl rfl rfl (.tmp 70) (.tmp 73) (.tmp 8) (.tmp 75) (.tmp 74) rfl rfl rfl _ _ 1 [z] rfl rfl oF.out hfr.out hll2 (fun _ => rfl) (fun _ _ => rfl) (fun _ _ => rfl) ?_
            intro V4 na' nc' E'
            clear E oF hfr
            have E := hid E'
            clear E'
            (try simp only [List.cons_append, List.nil_append, List.set_cons_zero, List.set_cons_succ] at E)
            go_wp2_with fail
            go_roundw
            case rel => exact ⟨m + 1, na', nc', by omega, by go_num, by rw [hrs.out, ← hgw.out], by rw [hrs.out, ← hgw.out]; omega, by rw [hI1.out, ← hcur.out]; exact E.out.sub (by simp)⟩
            case measure => simp [intOf]; omega
      case neg =>
        have hmn : m = src.length := by omega
        have hRl : (resL Arr.zero x.items y.items src).length ≤ src.length := by rw [resL_len]; omega
        have htk : (resL Arr.zero x.items y.items src).take m = resL .zero x.items y.items src := List.take_of_length_le (by omega)
        rw [htk] at E
        have hE : Hid (agE x y src = 0) := hid (by rw [hgE.out, if_neg]; rw [hmn] at hwt; omega)
        have hN : resL 0 x.nums y.nums src = y.nums := by rw [hn0.out]; rfl
        have hS : Hid (agS x y src = .mk y.kind y.shape y.nums (resL .zero x.items y.items src)) := hid (by rw [agS_yes hE.out]; unfold agA; rw [hN])
        have t2 : ¬ (m : Int) < (src.length : Int) := by omega
        replace hmn := hid hmn
        replace htk := hid htk
        replace hN := hid hN
        obtain ⟨cur, hcur⟩ : ∃ c, c = resL Arr.zero x.items y.items src := ⟨_, rfl⟩
        rw [← hcur] at E hS
        have hcl : cur.length ≤ 65536 := by rw [hcur]; omega
        replace hcur := hid hcur
        obtain ⟨q70, q71, q72, q73⟩ := (E.out.hdr 7 rfl).all
        go_wp2_with (refine wpl_store4 rfl (.tmp 6) (.tmp 77) rfl _ rfl rfl (E.out.hdr 2 rfl) ?_; intro V4 HV CV; replace E := hid (E.out.chg 2 rfl CV HV); (try simp only [List.cons_append, List.nil_append, List.set_cons_zero, List.set_cons_succ] at E))
        have c3 := OwnA.cap (E.out.rowAF 9 rfl)
        replace E := hid ((E.out.doneOF 6 rfl (by omega)).doneAF 9 rfl)
        (try simp only [List.cons_append, List.nil_append, List.set_cons_zero, List.set_cons_succ] at E)
        refine bodyPost_ret (end_arr2 rfl HV rfl rfl) rfl (hR.out _ _ ?_)
        exact RetAEC.of hS.out hE.out rfl ((E.out.intsF 8 rfl).mono fun b _ h => h.2) ((E.out.intsF 6 rfl).mono fun b _ h => h.2) (by omega) ((E.out.itemsF 9 rfl).mono fun b _ h => h.2) E.out.ext hcap.out (Nat.le_refl _) c3
  case neg =>
    have kb : (y.kind != 3) = true := by simp [k3]
    have hE : Hid (agE x y src = 0) := hid (by unfold agE; simp [k3])
    have hi0 : Hid (y.items = []) := hid (hF.out.i k3)
    have hyl : Hid (y.nums.length = src.length) := hid (by
      rw [hl.out]
      rcases hF.out.k with q | q | q
      · simp [szA, szN, q]
      · simp [szA, szN, q]
      · exact absurd q k3)
    have hxl : Hid (∀ t : Nat, t < szA x → t < x.nums.length) := hid (fun t q => szA_N (by rw [hk.out]; exact k3) q)
    have hz1 : (resL 0 x.nums y.nums src).take 0 ++ y.nums.drop 0 = y.nums := by simp
    replace hz1 := hid hz1
    replace k3 := hid k3
    go_upto_region 5 with (fail)
    go_loopw [30] (fun i wr => ∃ m : Nat, m ≤ src.length ∧ i = .int .i64 m ∧ Env w S wr [.obj w.heap.size (.cells #[.int .i64 y.kind, .slice sy y.shape.length cy, .slice ny y.nums.length my, .slice iy y.items.length jy] 26 (0, 0)), .obj (w.heap.size + 1) (.cells #[.int .i64 x.kind, .slice sx x.shape.length cx, .slice nx x.nums.length mx, .slice ix x.items.length jx] 26 (0, 0)), .obj (w.heap.size + 1 + 1) (.cells #[.int .i64 0, .slice none 0 0, .slice none 0 0, .slice none 0 0] 26 (0, 0)), .arr y sy ny iy, .arr x sx nx ix, .ints src so, .obj gn (.cells (rowO ((resL 0 x.nums y.nums src).take m ++ y.nums.drop m)) 3 (0, 0)), .obj bo (.cells #[.int .i64 y.kind, .slice ta y.shape.length tc, .slice (some ⟨gn, 0, none⟩) y.nums.length y.nums.length, .slice (none) (([] : List Arr)).length (0)] 26 (0, 0)), .intsF y.shape ta, .rowAF (none) (0) (([] : List Arr))]) (fun i _ => src.length - (intOf i).toNat)
    case atStart => exact ⟨0, Nat.zero_le _, rfl, by rw [hz1.out]; exact E.out⟩
    case round =>
      clear E
      obtain ⟨m, hm, rfl, E⟩ := hrel
      replace E := hid E
      by_cases hlt : m < src.length
      case pos =>
        have hmy : m < y.nums.length := by rw [hyl.out]; exact hlt
        have hRx := resL_at (d := (0 : Int)) (v := x.nums) hmy hlt
        have hvb := hv.out m hlt
        obtain ⟨b1, o1, hso, hbl1, hS1, hc1⟩ := (E.out.ints 5 rfl).at hlt
        have hst := fun z q => resL_step (d := (0 : Int)) (v := x.nums) (y := y.nums) (src := src) (e := m) (x := z) hmy hyl.out.symm q
        have hsm := fun q => resL_same (d := (0 : Int)) (v := x.nums) (y := y.nums) (src := src) (e := m) hmy hyl.out.symm q
        have hln : ((resL 0 x.nums y.nums src).take m ++ y.nums.drop m).length = y.nums.length := by
          rw [List.length_append, List.length_take, List.length_drop, resL_len, hyl.out]; omega
        generalize src.getD m 0 = s at hRx hvb hc1
        obtain ⟨cur, hcur⟩ : ∃ c, c = (resL 0 x.nums y.nums src).take m ++ y.nums.drop m := ⟨_, rfl⟩
        rw [← hcur] at E hst hsm hln
        replace hcur := hid hcur
        have m0 : (0 : Int) ≤ (m : Int) := by omega
        have m2 : (m : Int) < (y.nums.length : Int) := by omega
        subst hso
        by_cases n0 : s < 0
        case pos =>
          rw [if_pos n0] at hRx
          have hE2 := hsm hRx
          replace hE2 := hid hE2
          replace hRx := hid hRx
          replace hst := hid hst
          clear hsm
          obtain ⟨q00, q01, q02, q03⟩ := (E.out.hdr 0 rfl).all
          go_wp2_with fail
          go_roundw
          case rel => exact ⟨m + 1, by omega, by go_num, by rw [← hE2.out]; exact E.out⟩
          case measure => simp [intOf]; omega
        case neg =>
          rw [if_neg n0] at hRx
          obtain ⟨t, ht⟩ : ∃ t : Nat, s = (t : Int) := ⟨s.toNat, by omega⟩
          subst ht
          rw [Int.toNat_natCast] at hRx
          have htx : t < x.nums.length := hxl.out t (by omega)
          obtain ⟨b3, o3, hnx, hbl3, hS3, hc3⟩ := (E.out.arr 4 rfl).nums.at htx
          have hE2 := hst _ hRx
          generalize x.nums.getD t 0 = d at hc3 hE2 hRx
          replace hE2 := hid hE2
          replace hRx := hid hRx
          replace hsm := hid hsm
          clear hst
          have t0 : (0 : Int) ≤ (t : Int) := by omega
          have t1 : (t : Int) < (x.nums.length : Int) := by omega
          replace hnx := hid hnx
          obtain ⟨q00, q01, q02, q03⟩ := (E.out.hdr 0 rfl).all
          go_upto_region 9 with (fail)
          clear q00 q01 q02 q03
          obtain ⟨q10, q11, q12, q13⟩ := (E.out.hdr 1 rfl).all
          obtain ⟨q70, q71, q72, q73⟩ := (E.out.hdr 7 rfl).all
          rw [hnx.out] at q12
          refine wp_region_mono_tail 9 (Sees wr [(⟨bo, 2, none⟩, .slice (some ⟨gn, 0, none⟩) y.nums.length y.nums.length), (⟨w.heap.size + 1, 2, none⟩, .slice (some ⟨b3, o3, none⟩) x.nums.length mx), (⟨b3, o3 + t, none⟩, .int .i64 d)]) [] (fun k v u u' => match k with  | _ => False) (fun _ _ h e => h.up e) (Sees.start (all_cons (q72) (all_cons (q12) (all_cons (hc3) (all_nil))))) (by kernel_rfl) (by kernel_rfl) ?_
          simp only [List.take_succ_cons, List.take_zero, List.drop_succ_cons, List.drop_zero]
          repeat (first | (refine m_plain (v := ?_) (by rfl) (by rfl) ?_ ?_; rotate_left; (intro wz hSw; obtain ⟨-, hSc⟩ := hSw; (try simp only [List.forall_mem_cons, List.forall_mem_nil, and_true] at hSc); go_simp; (first | done | with_reducible rfl)); (intro K hK; (try simp only [Act.put, List.setIfInBounds_toArray, List.set_cons_zero, List.set_cons_succ]); refine hK _ _ ?_; clear hK K)) | (refine m_skip (by rfl) (by rfl) ?_; (intro K hK; (try simp only [Act.put, List.setIfInBounds_toArray, List.set_cons_zero, List.set_cons_succ]); refine hK _ _ ?_; clear hK K)))
          refine m_nil ?_
          intro wf2 hSf hAf
          replace E := hid (E.out.up hSf.1)
          clear hSf hAf hc3 hc1
          clear q10 q11 q12 q13 q70 q71 q72 q73
          refine wplE_setO E.out 6 rfl (by rfl) (.tmp 48) (.tmp 47) (by rfl) m (by omega) d (by first | rfl | simp [Act.eval, Act.put]) (by rfl) ?_
          intro V4 E1
          clear E
          have E := hid E1
          clear E1
          (try simp only [List.cons_append, List.nil_append, List.set_cons_zero, List.set_cons_succ] at E)
          rw [hE2.out] at E
          go_wp2_with fail
          go_roundw
          case rel => exact ⟨m + 1, by omega, by go_num, E.out⟩
          case measure => simp [intOf]; omega
      case neg =>
        have hmn : m = src.length := by omega
        have hRl : (resL 0 x.nums y.nums src).length ≤ src.length := by rw [resL_len]; omega
        have htk : (resL 0 x.nums y.nums src).take m ++ y.nums.drop m = resL 0 x.nums y.nums src := by rw [List.take_of_length_le (by omega), List.drop_of_length_le (by rw [hyl.out]; omega), List.append_nil]
        rw [htk] at E
        have hI : resL .zero x.items y.items src = [] := by rw [hi0.out]; rfl
        have hS : Hid (agS x y src = .mk y.kind y.shape (resL 0 x.nums y.nums src) []) := hid (by rw [agS_yes hE.out]; unfold agA; rw [hI])
        have t2 : ¬ (m : Int) < (src.length : Int) := by omega
        replace hmn := hid hmn
        replace htk := hid htk
        replace hI := hid hI
        have hcn : Hid ((resL 0 x.nums y.nums src).length = y.nums.length) := hid (by rw [resL_len, hyl.out]; omega)
        obtain ⟨cur, hcur⟩ : ∃ c, c = resL 0 x.nums y.nums src := ⟨_, rfl⟩
        rw [← hcur] at E hS hcn
        have hcl : cur.length ≤ 65536 := by rw [hcur]; omega
        replace hcur := hid hcur
        obtain ⟨q70, q71, q72, q73⟩ := (E.out.hdr 7 rfl).all
        go_wp2_with (refine wpl_store4 rfl (.tmp 6) (.tmp 77) rfl _ rfl rfl (E.out.hdr 2 rfl) ?_; intro V4 HV CV; replace E := hid (E.out.chg 2 rfl CV HV); (try simp only [List.cons_append, List.nil_append, List.set_cons_zero, List.set_cons_succ] at E))
        replace E := hid (E.out.doneOF 6 rfl (by omega))
        (try simp only [List.cons_append, List.nil_append, List.set_cons_zero, List.set_cons_succ] at E)
        refine bodyPost_ret (end_arr2 rfl HV rfl rfl) rfl (hR.out _ _ ?_)
        rw [← hcn.out]
        exact RetAEC.of hS.out hE.out rfl ((E.out.intsF 8 rfl).mono fun b _ h => h.2) ((E.out.intsF 6 rfl).mono fun b _ h => h.2) (Nat.zero_le _) (by simp only [ItemsAt]) E.out.ext hcap.out (Nat.le_refl _) (Nat.zero_le _)
end Go.Proofs.Ytcoknjlkhefgpaa
