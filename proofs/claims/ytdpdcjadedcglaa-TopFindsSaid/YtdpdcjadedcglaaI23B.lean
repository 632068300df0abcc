/- indexing.gather: contract. Conditions: the array and the lists are read; the offsets are within the array. -/
import Derived.Test.YtdpdcjadedcglaaI23A
import Derived.Test.YtdpdcjadedcglaaPCELL
import Derived.Test.YtdpdcjadedcglaaNEWF
set_option linter.unusedVariables false
set_option maxRecDepth 20000
set_option linter.unusedSimpArgs false
namespace Go.Proofs.Ytdpdcjadedcglaa
open Go.RowKit Go.Sort
attribute [local go_sem ↓] run_max2 run_min2
attribute [local go_sem] eql_ints_nil eql_arrs_nil
set_option maxRecDepth 100000 in
set_option maxHeartbeats 8000000 in
theorem indexing_gather (y : Arr) (sy : Option Addr) (cy : Nat) (ny : Option Addr) (my : Nat) (iy : Option Addr) (jy : Nat) (s : List Int) (so : Option Addr) (sc : Nat) (fl : List Int) (fo : Option Addr) (fc : Nat) (S : Nat → Prop) (w : World) (h : ArrAt w S y sy ny iy) (g : IntsAt w S so s) (f : IntsAt w S fo fl) (hF : Flat y) (hf : ∀ j, j < fl.length → 0 ≤ fl.getD j 0 ∧ fl.getD j 0 < (szA y : Int)) (hl6 : fl.length ≤ 1000000) :
    Calls Try.prog 40 #[.agg #[.int .i64 y.kind, .slice sy y.shape.length cy, .slice ny y.nums.length my, .slice iy y.items.length jy], .slice so s.length sc, .slice fo fl.length fc] w (RetAEC w (fun b => w.heap.size ≤ b) (gatS y s fl) (gatE y fl)) := by
  refine calls_post fun R' hR => ?_
  have h0 := hid h
  have g0 := hid g
  have f0 := hid f
  have hsl := g.1
  have hnl := h.nums.1
  have hil := h.len
  replace hF := hid hF
  replace hf := hid hf
  clear h g f
  go_enter Try.func40, Try.ntmps40
  go_upto_region 1 with (fail)
  generalize hEW : ((w).alloc (.cells #[.int .i64 y.kind, .slice sy y.shape.length cy, .slice ny y.nums.length my, .slice iy y.items.length jy] 27)).alloc (.cells #[.int .i64 0, .slice none 0 0, .slice none 0 0, .slice none 0 0] 27) = W
  have E := hid (env2 w S hEW)
  clear hEW
  replace E := hid (((E.out.arg h0.out).argI g0.out).argI f0.out)
  (try simp only [List.cons_append, List.nil_append, List.set_cons_zero, List.set_cons_succ] at E)
  obtain ⟨q00, q01, q02, q03⟩ := (E.out.hdr 0 rfl).all
  refine wp_region_mono_tail 6 (Sees W [(⟨w.heap.size, 0, none⟩, .int .i64 y.kind)]) [3, 5] (fun k v u u' => match k with | 3 => ∃ ao cap, v = .slice ao s.length cap ∧ OwnI u' u.heap.size ao cap s | 5 => v = .pointer (some ⟨u.heap.size, 0, none⟩) ∧ u' = u.alloc (.cells #[.int .i64 0, .slice none 0 0, .slice none 0 0, .slice none 0 0] 27) | _ => False) (fun _ _ h e => h.up e) (Sees.start (all_cons (q00) (all_nil))) (by kernel_rfl) (by kernel_rfl) ?_
  simp only [List.take_succ_cons, List.take_zero, List.drop_succ_cons, List.drop_zero]
  repeat (first | (refine m_plain (v := ?_) (by rfl) (by rfl) ?_ ?_; rotate_left; (intro wz hSw; obtain ⟨-, hSc⟩ := hSw; (try simp only [List.forall_mem_cons, List.forall_mem_nil, and_true] at hSc); go_simp; (first | done | with_reducible rfl)); (intro K hK; (try simp only [Act.put, List.setIfInBounds_toArray, List.set_cons_zero, List.set_cons_succ]); refine hK _ _ ?_; clear hK K)) | (refine m_skip (by rfl) (by rfl) ?_; (intro K hK; (try simp only [Act.put, List.setIfInBounds_toArray, List.set_cons_zero, List.set_cons_succ]); refine hK _ _ ?_; clear hK K)))
  refine m_make (by rfl) (by rfl) ?_ ?_
  · intro wz hSw hdep R hRz
    obtain ⟨hSe, hSc⟩ := hSw
    (try simp only [List.forall_mem_cons, List.forall_mem_nil, and_true] at hSc)
    unfold does
    (go_simp; refine Calls.mono (slices_Clone s _ _ _ wz ((E.out.ints 3 rfl).up hSe)) ?_; rintro e wq ⟨ta, tc, rfl, hq, hqb⟩; exact ⟨_, rfl, hRz.out _ _ ⟨hqb, ta, tc, rfl, hq⟩⟩)
  intro v3 u3 x3 hG3 K hK
  have hF3 := hG3.fact
  (try dsimp only at hF3)
  obtain ⟨ta, tc, rfl, ht⟩ := hF3
  (try simp only [Act.put, List.setIfInBounds_toArray, List.set_cons_zero, List.set_cons_succ]); refine hK _ _ ?_; clear hK K
  repeat (first | (refine m_plain (v := ?_) (by rfl) (by rfl) ?_ ?_; rotate_left; (intro wz hSw; obtain ⟨-, hSc⟩ := hSw; (try simp only [List.forall_mem_cons, List.forall_mem_nil, and_true] at hSc); go_simp; (first | done | with_reducible rfl)); (intro K hK; (try simp only [Act.put, List.setIfInBounds_toArray, List.set_cons_zero, List.set_cons_succ]); refine hK _ _ ?_; clear hK K)) | (refine m_skip (by rfl) (by rfl) ?_; (intro K hK; (try simp only [Act.put, List.setIfInBounds_toArray, List.set_cons_zero, List.set_cons_succ]); refine hK _ _ ?_; clear hK K)))
  refine m_make (by rfl) (by rfl) ?_ ?_
  · intro wz hSw hdep R hRz
    obtain ⟨hSe, hSc⟩ := hSw
    (try simp only [List.forall_mem_cons, List.forall_mem_nil, and_true] at hSc)
    unfold does
    (go_simp; exact hRz.out _ _ ⟨ext_alloc _ _, rfl, rfl⟩)
  intro v5 u5 x5 hG5 K hK
  have hF5 := hG5.fact
  (try dsimp only at hF5)
  obtain ⟨rfl, rfl⟩ := hF5
  (try simp only [Act.put, List.setIfInBounds_toArray, List.set_cons_zero, List.set_cons_succ]); refine hK _ _ ?_; clear hK K
  repeat (first | (refine m_plain (v := ?_) (by rfl) (by rfl) ?_ ?_; rotate_left; (intro wz hSw; obtain ⟨-, hSc⟩ := hSw; (try simp only [List.forall_mem_cons, List.forall_mem_nil, and_true] at hSc); go_simp; (first | done | with_reducible rfl)); (intro K hK; (try simp only [Act.put, List.setIfInBounds_toArray, List.set_cons_zero, List.set_cons_succ]); refine hK _ _ ?_; clear hK K)) | (refine m_skip (by rfl) (by rfl) ?_; (intro K hK; (try simp only [Act.put, List.setIfInBounds_toArray, List.set_cons_zero, List.set_cons_succ]); refine hK _ _ ?_; clear hK K)))
  refine m_nil ?_
  intro wf hSf hAf
  have hcap := hid ht.cap
  replace E := hid (E.out.madeIF ((ht.ints hsl).mono fun b _ hb => hb.1) (hAf 3 _ rfl) (hG5.order 3 _ rfl) hG3.s.1 hG5.s.1 (hAf 5 _ rfl) hSf.1)
  clear hSf hAf hG3 hG5 ht
  clear q00 q01 q02 q03
  (try simp only [List.cons_append, List.nil_append, List.set_cons_zero, List.set_cons_succ] at E)
  generalize u5.heap.size = bo at E ⊢
  refine wpl_store4 rfl (.tmp 8) (.tmp 16) rfl _ rfl rfl (E.out.hdr 5 rfl) ?_
  intro V1 HV CV
  replace E := hid (E.out.chg 5 rfl CV HV)
  clear HV CV
  (try simp only [List.cons_append, List.nil_append, List.set_cons_zero, List.set_cons_succ] at E)
  by_cases k3 : y.kind = 3
  case pos =>
    have kb : (y.kind != 3) = false := by simp [k3]
    have hgE := hid (gatE_eq y fl)
    have hn0 : Hid (y.nums = []) := hid (hF.out.n k3)
    have hsz : Hid (szA y = y.items.length) := hid (szA_3 k3)
    have hk3 : Hid (y.kind = 3) := hid k3
    replace k3 := hid k3
    replace E := hid E.out.row0AF
    (try simp only [List.cons_append, List.nil_append, List.set_cons_zero, List.set_cons_succ] at E)
    go_wp2_with fail
    go_loopw [9, 19] (fun g i wr => ∃ (m : Nat) (ia : Option Addr) (ic : Nat), m ≤ fl.length ∧ i = .int .i64 m ∧ g = .int .i64 (gatW y (fl.take m)) ∧ gatW y (fl.take m) ≤ 262144 ∧ Env w S wr [.obj w.heap.size (.cells #[.int .i64 y.kind, .slice sy y.shape.length cy, .slice ny y.nums.length my, .slice iy y.items.length jy] 27 (0, 0)), .obj (w.heap.size + 1) (.cells #[.int .i64 0, .slice none 0 0, .slice none 0 0, .slice none 0 0] 27 (0, 0)), .arr y sy ny iy, .ints s so, .ints fl fo, .obj bo (.cells #[.int .i64 y.kind, .slice ta s.length tc, .slice none 0 0, .slice ia (gatL y.items (fl.take m)).length ic] 27 (0, 0)), .intsF s ta, .rowAF ia ic (gatL y.items (fl.take m))]) (fun _ i _ => fl.length - (intOf i).toNat)
    case atStart => exact ⟨0, none, 0, Nat.zero_le _, rfl, by rw [List.take_zero, gatW_nil], by rw [List.take_zero, gatW_nil]; omega, by rw [List.take_zero, gatL_nil]; exact E.out⟩
    case round =>
      clear E
      obtain ⟨m, ia, ic, hm, rfl, rfl, hwt, E⟩ := hrel
      replace E := hid E
      by_cases hlt : m < fl.length
      case pos =>
        obtain ⟨t, ht⟩ : ∃ t : Nat, fl.getD m 0 = (t : Int) := ⟨(fl.getD m 0).toNat, by have := (hf.out m hlt).1; omega⟩
        have htl : t < y.items.length := by have := (hf.out m hlt).2; rw [hsz.out] at this; omega
        obtain ⟨b1, o1, hfo, hbl1, hS1, hc1⟩ := (E.out.ints 4 rfl).at hlt
        obtain ⟨b', off', sz, cz, nz, mz, iz, jz, hna, hSb', hbl', e0, e1, e2, e3, hz⟩ := (E.out.arr 2 rfl).items.at htl
        have hI1 := gatL_step hlt ht htl
        have hrs := gatW_step hlt ht htl
        have hmo := gatW_mono y fl (m + 1)
        have hw0 := gatW_nn y (fl.take m)
        have hlI := gatL_le y.items (fl.take m)
        have htk : (fl.take m).length ≤ m := take_len_le fl m
        generalize y.items[t] = z at hI1 hrs e0 e1 e2 e3 hz
        have hz0 := wtS_bd z
        have hov : Hid (262144 < gatW y (fl.take m) + (1 + wtS z) → gatE y fl = 21) := hid (fun q => by rw [hgE.out, if_pos ⟨hk3.out, by omega⟩])
        replace hrs := hid hrs
        clear hmo
        have tt0 : (0 : Int) ≤ (t : Int) := by omega
        have tt1 : (t : Int) < (y.items.length : Int) := by omega
        obtain ⟨cur, hcur⟩ : ∃ c, c = gatL y.items (fl.take m) := ⟨_, rfl⟩
        rw [← hcur] at E hI1 hlI
        replace hcur := hid hcur
        replace hI1 := hid hI1
        have hll : cur.length + [z].length ≤ 1759218604441 := by simp only [List.length_cons, List.length_nil]; omega
        replace E := hid (E.out.addArr hz (fun _ _ h => h))
        clear hz
        (try simp only [List.cons_append, List.nil_append, List.set_cons_zero, List.set_cons_succ] at E)
        rw [ht] at hc1
        replace ht := hid ht
        replace hna := hid hna
        obtain ⟨gw, hgw⟩ : ∃ q, q = gatW y (fl.take m) := ⟨_, rfl⟩
        rw [← hgw] at hrs hov hwt hw0 ⊢
        replace hgw := hid hgw
        subst hfo
        obtain ⟨q00, q01, q02, q03⟩ := (E.out.hdr 0 rfl).all
        rw [hna.out] at q03
        go_wp2_with fail
        clear q00 q01 q02 q03
        refine (array_Weight z _ _ _ _ _ _ _ _ (E.out.arr 8 rfl)).mono ?_
        rintro e w7 ⟨rfl, hb⟩
        replace E := hid (E.out.up hb)
        by_cases hov2 : 262144 < gw + (1 + wtS z)
        case pos =>
          have hE := hid (hov.out hov2)
          have hS := hid (gatS_no (y := y) (s := s) (o := fl) (by rw [hE.out]; decide))
          clear hb
          go_wp2_with (refine wpl_store4 rfl (.tmp 6) (.tmp 47) rfl _ rfl rfl (E.out.hdr 1 rfl) ?_; intro V HV CV; replace E := hid (E.out.chg 1 rfl CV HV))
          exact bodyPost_ret (end_arr2 rfl HV rfl rfl) rfl (hR.out _ _ (RetAEC.zero hS.out hE.out E.out.ext))
        case neg =>
          replace e0 := up_cell e0 hb
          replace e1 := up_cell e1 hb
          replace e2 := up_cell e2 hb
          replace e3 := up_cell e3 hb
          clear hb
          obtain ⟨q00, q01, q02, q03⟩ := (E.out.hdr 0 rfl).all
          obtain ⟨q50, q51, q52, q53⟩ := (E.out.hdr 5 rfl).all
          rw [hna.out] at q03
          go_upto_region 11 with (fail)
          refine wp_region_mono_tail 9 (Sees w7 [(⟨bo, 3, none⟩, .slice ia cur.length ic), (⟨w.heap.size, 3, none⟩, .slice (some ⟨b', off', none⟩) y.items.length jy), (⟨b', off' + t * 4, none⟩, .int .i64 z.kind), (⟨b', off' + t * 4 + 1, none⟩, .slice sz z.shape.length cz), (⟨b', off' + t * 4 + 2, none⟩, .slice nz z.nums.length mz), (⟨b', off' + t * 4 + 3, none⟩, .slice iz z.items.length jz)]) [7, 8] (fun k v u u' => match k with | 7 => RetA u (fun b => w7.heap.size ≤ b) z (.returned v) u' | 8 => ∃ sa sc na nc ia ic, v = .slice (some ⟨u.heap.size, 0, none⟩) 1 1 ∧ u' = u.alloc (.cells #[.int .i64 z.kind, .slice sa z.shape.length sc, .slice na z.nums.length nc, .slice ia z.items.length ic] 27) ∧ ArrAt u (fun b => w7.heap.size ≤ b) z sa na ia | _ => False) (fun _ _ h e => h.up e) (Sees.start (all_cons (q53) (all_cons (q03) (all_cons (e0) (all_cons (e1) (all_cons (e2) (all_cons (e3) (all_nil)))))))) (by kernel_rfl) (by kernel_rfl) ?_
          simp only [List.take_succ_cons, List.take_zero, List.drop_succ_cons, List.drop_zero]
          repeat (first | (refine m_plain (v := ?_) (by rfl) (by rfl) ?_ ?_; rotate_left; (intro wz hSw; obtain ⟨-, hSc⟩ := hSw; (try simp only [List.forall_mem_cons, List.forall_mem_nil, and_true] at hSc); go_simp; (first | done | with_reducible rfl)); (intro K hK; (try simp only [Act.put, List.setIfInBounds_toArray, List.set_cons_zero, List.set_cons_succ]); refine hK _ _ ?_; clear hK K)) | (refine m_skip (by rfl) (by rfl) ?_; (intro K hK; (try simp only [Act.put, List.setIfInBounds_toArray, List.set_cons_zero, List.set_cons_succ]); refine hK _ _ ?_; clear hK K)))
          refine m_make (by rfl) (by rfl) ?_ ?_
          · intro wz hSw hdep R hRz
            obtain ⟨hSe, hSc⟩ := hSw
            (try simp only [List.forall_mem_cons, List.forall_mem_nil, and_true] at hSc)
            unfold does
            (go_simp; refine Calls.mono (array_Clone z _ _ _ _ _ _ _ wz ((E.out.arr 8 rfl).up hSe)) ?_; rintro e wq ⟨ta, tc, tn, tnc, ti, tic, rfl, hq, hqb⟩; exact ⟨_, rfl, hRz.out _ _ ⟨hqb, ta, tc, tn, tnc, ti, tic, rfl, ArrAt.mono (fun b _ hb => Nat.le_trans (Below.size hSe) hb) z hq, hqb⟩⟩)
          intro v7 u7 x7 hG7 K hK
          have hF7 := hG7.fact
          (try dsimp only at hF7)
          obtain ⟨s7, c7, n7, m7, i7, j7, he, hA7, hb7⟩ := hF7
          injection he with he
          subst he
          (try simp only [Act.put, List.setIfInBounds_toArray, List.set_cons_zero, List.set_cons_succ]); refine hK _ _ ?_; clear hK K
          repeat (first | (refine m_plain (v := ?_) (by rfl) (by rfl) ?_ ?_; rotate_left; (intro wz hSw; obtain ⟨-, hSc⟩ := hSw; (try simp only [List.forall_mem_cons, List.forall_mem_nil, and_true] at hSc); go_simp; (first | done | with_reducible rfl)); (intro K hK; (try simp only [Act.put, List.setIfInBounds_toArray, List.set_cons_zero, List.set_cons_succ]); refine hK _ _ ?_; clear hK K)) | (refine m_skip (by rfl) (by rfl) ?_; (intro K hK; (try simp only [Act.put, List.setIfInBounds_toArray, List.set_cons_zero, List.set_cons_succ]); refine hK _ _ ?_; clear hK K)))
          refine m_make (by rfl) (by rfl) ?_ ?_
          · intro wz hSw hdep R hRz
            obtain ⟨hSe, hSc⟩ := hSw
            (try simp only [List.forall_mem_cons, List.forall_mem_nil, and_true] at hSc)
            unfold does
            (go_simp; exact hRz.out _ _ ⟨ext_alloc _ _, s7, c7, n7, m7, i7, j7, rfl, rfl, hA7.up (hdep 7 _ rfl (depB_sound (f := 60) (by kernel_rfl)))⟩)
          intro v8 u8 x8 hG8 K hK
          have hF8 := hG8.fact
          (try dsimp only at hF8)
          obtain ⟨s8, c8, n8, m8, i8, j8, rfl, rfl, hA8⟩ := hF8
          (try simp only [Act.put, List.setIfInBounds_toArray, List.set_cons_zero, List.set_cons_succ]); refine hK _ _ ?_; clear hK K
          repeat (first | (refine m_plain (v := ?_) (by rfl) (by rfl) ?_ ?_; rotate_left; (intro wz hSw; obtain ⟨-, hSc⟩ := hSw; (try simp only [List.forall_mem_cons, List.forall_mem_nil, and_true] at hSc); go_simp; (first | done | with_reducible rfl)); (intro K hK; (try simp only [Act.put, List.setIfInBounds_toArray, List.set_cons_zero, List.set_cons_succ]); refine hK _ _ ?_; clear hK K)) | (refine m_skip (by rfl) (by rfl) ?_; (intro K hK; (try simp only [Act.put, List.setIfInBounds_toArray, List.set_cons_zero, List.set_cons_succ]); refine hK _ _ ?_; clear hK K)))
          refine m_nil ?_
          intro wf2 hSf hAf
          have oF := hid (box_items (hAf 8 _ rfl) (Below.size hG8.s.1) hA8)
          have hfr : Hid (∀ b, b < wf2.heap.size → w7.heap.size ≤ b → Tst w S _ b ∧ w.heap.size ≤ b) := hid (fun b _ hb => ⟨E.out.fresh (Ext.refl _) hb, Nat.le_trans E.out.size hb⟩)
          replace E := hid (E.out.up hSf.1)
          clear hSf hAf hG7 hG8 hA7 hA8 hb7 e0 e1 e2 e3
          clear q00 q01 q02 q03 q50 q51 q52 q53
          refine wplE_addAF E.out 5 7 rfl rfl (by decide) rfl rfl rfl (.tmp 49) (.tmp 56) (.tmp 8) (.tmp 58) (.tmp 57) rfl rfl rfl _ _ 1 [z] rfl rfl oF.out hfr.out hll (fun _ => rfl) (fun _ _ => rfl) (fun _ _ => rfl) ?_
          intro V na' nc' E'
          clear E oF hfr
          have E := hid E'
          clear E'
          (try simp only [List.cons_append, List.nil_append, List.set_cons_zero, List.set_cons_succ] at E)
          go_wp2_with fail
          go_roundw
          case rel => exact ⟨m + 1, na', nc', by omega, by go_num, by rw [hrs.out], by rw [hrs.out]; omega, by rw [hI1.out]; exact E.out.sub (List.Sublist.cons_cons _ (List.Sublist.cons_cons _ (List.Sublist.cons_cons _ (List.Sublist.cons_cons _ (List.Sublist.cons_cons _ (List.Sublist.cons_cons _ (List.Sublist.cons_cons _ (List.Sublist.cons_cons _ (List.nil_sublist _)))))))))⟩
          case measure => simp [intOf]; omega
      case neg =>
        have hmn : m = fl.length := by omega
        have htk : fl.take m = fl := by rw [hmn]; exact List.take_length
        rw [htk] at E hwt
        have hE : Hid (gatE y fl = 0) := hid (by rw [hgE.out, if_neg (by omega)])
        have hS : Hid (gatS y s fl = .mk y.kind s [] (gatL y.items fl)) := hid (by rw [gatS_yes hE.out]; unfold gatA; rw [hn0.out, gatL_empty])
        have hlI := gatL_le y.items fl
        have t2 : ¬ (m : Int) < (fl.length : Int) := by omega
        replace hmn := hid hmn
        replace htk := hid htk
        obtain ⟨cur, hcur⟩ : ∃ c, c = gatL y.items fl := ⟨_, rfl⟩
        rw [← hcur] at E hlI hS
        replace hcur := hid hcur
        obtain ⟨q50, q51, q52, q53⟩ := (E.out.hdr 5 rfl).all
        go_wp2_with (refine wpl_store4 rfl (.tmp 6) (.tmp 60) rfl _ rfl rfl (E.out.hdr 1 rfl) ?_; intro V2 HV CV; replace E := hid (E.out.chg 1 rfl CV HV); (try simp only [List.cons_append, List.nil_append, List.set_cons_zero, List.set_cons_succ] at E))
        have c3 := OwnA.cap (E.out.rowAF 7 rfl)
        replace E := hid (E.out.doneAF 7 rfl)
        (try simp only [List.cons_append, List.nil_append, List.set_cons_zero, List.set_cons_succ] at E)
        refine bodyPost_ret (end_arr2 rfl HV rfl rfl) rfl (hR.out _ _ ?_)
        exact RetAEC.of hS.out hE.out rfl ((E.out.intsF 6 rfl).mono fun b _ h => h.2) (IntsAt.nil _ _ none) (by omega) ((E.out.itemsF 7 rfl).mono fun b _ h => h.2) E.out.ext hcap.out (Nat.zero_le _) c3
  case neg =>
    have kb : (y.kind != 3) = true := by simp [k3]
    have hE : Hid (gatE y fl = 0) := hid (by rw [gatE_eq, if_neg (fun q => k3 q.1)])
    have hi0 : Hid (y.items = []) := hid (hF.out.i k3)
    have hsz : Hid (∀ i : Nat, i < szA y → i < y.nums.length) := hid (fun i q => szA_N k3 q)
    replace k3 := hid k3
    replace E := hid E.out.row0I
    (try simp only [List.cons_append, List.nil_append, List.set_cons_zero, List.set_cons_succ] at E)
    go_wp2_with fail
    go_loopw [19] (fun i wr => ∃ (m : Nat) (na : Option Addr) (nc : Nat), m ≤ fl.length ∧ i = .int .i64 m ∧ Env w S wr [.obj w.heap.size (.cells #[.int .i64 y.kind, .slice sy y.shape.length cy, .slice ny y.nums.length my, .slice iy y.items.length jy] 27 (0, 0)), .obj (w.heap.size + 1) (.cells #[.int .i64 0, .slice none 0 0, .slice none 0 0, .slice none 0 0] 27 (0, 0)), .arr y sy ny iy, .ints s so, .ints fl fo, .obj bo (.cells #[.int .i64 y.kind, .slice ta s.length tc, .slice na (gatL y.nums (fl.take m)).length nc, .slice none 0 0] 27 (0, 0)), .intsF s ta, .rowI na nc (gatL y.nums (fl.take m))]) (fun i _ => fl.length - (intOf i).toNat)
    case atStart => exact ⟨0, none, 0, Nat.zero_le _, rfl, by rw [List.take_zero, gatL_nil]; exact E.out⟩
    case round =>
      clear E
      obtain ⟨m, na, nc, hm, rfl, E⟩ := hrel
      replace E := hid E
      by_cases hlt : m < fl.length
      case pos =>
        obtain ⟨t, ht⟩ : ∃ t : Nat, fl.getD m 0 = (t : Int) := ⟨(fl.getD m 0).toNat, by have := (hf.out m hlt).1; omega⟩
        have htl : t < y.nums.length := hsz.out t (by have := (hf.out m hlt).2; omega)
        obtain ⟨b1, o1, hfo, hbl1, hS1, hc1⟩ := (E.out.ints 4 rfl).at hlt
        obtain ⟨b', off', hna, hbl', hSb', hc'⟩ := (E.out.arr 2 rfl).nums.at htl
        have hN1 := gatL_step hlt ht htl
        have hlN := gatL_le y.nums (fl.take m)
        have htk : (fl.take m).length ≤ m := take_len_le fl m
        have hgd : y.nums.getD t 0 = y.nums[t] := by simp [htl]
        rw [hgd] at hc'
        clear hgd
        generalize y.nums[t] = dd at hN1 hc'
        have tt0 : (0 : Int) ≤ (t : Int) := by omega
        have tt1 : (t : Int) < (y.nums.length : Int) := by omega
        obtain ⟨cur, hcur⟩ : ∃ c, c = gatL y.nums (fl.take m) := ⟨_, rfl⟩
        rw [← hcur] at E hN1 hlN
        replace hcur := hid hcur
        replace hN1 := hid hN1
        rw [ht] at hc1
        replace ht := hid ht
        replace hna := hid hna
        subst hfo
        obtain ⟨q00, q01, q02, q03⟩ := (E.out.hdr 0 rfl).all
        obtain ⟨q50, q51, q52, q53⟩ := (E.out.hdr 5 rfl).all
        rw [hna.out] at q02
        go_upto_region 7 with (fail)
        refine wp_region_mono_tail 8 (Sees wr [(⟨bo, 2, none⟩, .slice na cur.length nc), (⟨w.heap.size, 2, none⟩, .slice (some ⟨b', off', none⟩) y.nums.length my), (⟨b', off' + t, none⟩, .int .i64 dd)]) [7] (fun k v u u' => match k with | 7 => v = .slice (some ⟨u.heap.size, 0, none⟩) 1 1 ∧ u' = u.alloc (.cells (([dd] : List Int).map (Value.int .i64)).toArray 3) | _ => False) (fun _ _ h e => h.up e) (Sees.start (all_cons (q52) (all_cons (q02) (all_cons (hc') (all_nil))))) (by kernel_rfl) (by kernel_rfl) ?_
        simp only [List.take_succ_cons, List.take_zero, List.drop_succ_cons, List.drop_zero]
        repeat (first | (refine m_plain (v := ?_) (by rfl) (by rfl) ?_ ?_; rotate_left; (intro wz hSw; obtain ⟨-, hSc⟩ := hSw; (try simp only [List.forall_mem_cons, List.forall_mem_nil, and_true] at hSc); go_simp; (first | done | with_reducible rfl)); (intro K hK; (try simp only [Act.put, List.setIfInBounds_toArray, List.set_cons_zero, List.set_cons_succ]); refine hK _ _ ?_; clear hK K)) | (refine m_skip (by rfl) (by rfl) ?_; (intro K hK; (try simp only [Act.put, List.setIfInBounds_toArray, List.set_cons_zero, List.set_cons_succ]); refine hK _ _ ?_; clear hK K)))
        refine m_make (by rfl) (by rfl) ?_ ?_
        · intro wz hSw hdep R hRz
          obtain ⟨hSe, hSc⟩ := hSw
          (try simp only [List.forall_mem_cons, List.forall_mem_nil, and_true] at hSc)
          unfold does
          (go_simp; exact hRz.out _ _ ⟨ext_alloc _ _, rfl, rfl⟩)
        intro v7 u7 x7 hG7 K hK
        have hF7 := hG7.fact
        (try dsimp only at hF7)
        obtain ⟨rfl, rfl⟩ := hF7
        (try simp only [Act.put, List.setIfInBounds_toArray, List.set_cons_zero, List.set_cons_succ]); refine hK _ _ ?_; clear hK K
        repeat (first | (refine m_plain (v := ?_) (by rfl) (by rfl) ?_ ?_; rotate_left; (intro wz hSw; obtain ⟨-, hSc⟩ := hSw; (try simp only [List.forall_mem_cons, List.forall_mem_nil, and_true] at hSc); go_simp; (first | done | with_reducible rfl)); (intro K hK; (try simp only [Act.put, List.setIfInBounds_toArray, List.set_cons_zero, List.set_cons_succ]); refine hK _ _ ?_; clear hK K)) | (refine m_skip (by rfl) (by rfl) ?_; (intro K hK; (try simp only [Act.put, List.setIfInBounds_toArray, List.set_cons_zero, List.set_cons_succ]); refine hK _ _ ?_; clear hK K)))
        refine m_nil ?_
        intro wf hSf hAf
        have oF : Hid (IntsAt wf (fun b => u7.heap.size ≤ b) (some ⟨u7.heap.size, 0, none⟩) [dd]) := hid (lit_at (l := [dd]) (hAf 7 _ rfl) (by simp))
        replace E := hid (E.out.up hSf.1)
        clear hSf hAf hG7 hc' tt0 tt1
        clear q00 q01 q02 q03 q50 q51 q52 q53
        refine wplE_addN E.out 5 7 rfl rfl (by decide) rfl rfl rfl (.tmp 27) (.tmp 33) (.tmp 8) (.tmp 35) (.tmp 34) rfl rfl rfl _ _ 1 [dd] rfl rfl oF.out (by simp only [List.length_cons, List.length_nil]; omega) (fun _ => rfl) (fun _ _ => rfl) (fun _ _ => rfl) ?_
        intro V na' nc' E'
        clear E oF
        have E := hid E'
        clear E'
        (try simp only [List.cons_append, List.nil_append, List.set_cons_zero, List.set_cons_succ] at E)
        go_wp2_with fail
        go_roundw
        case rel => exact ⟨m + 1, na', nc', by omega, by go_num, by rw [hN1.out]; exact E.out⟩
        case measure => simp [intOf]; omega
      case neg =>
        have hmn : m = fl.length := by omega
        have htk : fl.take m = fl := by rw [hmn]; exact List.take_length
        rw [htk] at E
        have hS : Hid (gatS y s fl = .mk y.kind s (gatL y.nums fl) []) := hid (by rw [gatS_yes hE.out]; unfold gatA; rw [hi0.out, gatL_empty])
        have hlN := gatL_le y.nums fl
        have t2 : ¬ (m : Int) < (fl.length : Int) := by omega
        replace hmn := hid hmn
        replace htk := hid htk
        obtain ⟨cur, hcur⟩ : ∃ c, c = gatL y.nums fl := ⟨_, rfl⟩
        rw [← hcur] at E hlN hS
        replace hcur := hid hcur
        obtain ⟨q50, q51, q52, q53⟩ := (E.out.hdr 5 rfl).all
        go_wp2_with (refine wpl_store4 rfl (.tmp 6) (.tmp 60) rfl _ rfl rfl (E.out.hdr 1 rfl) ?_; intro V2 HV CV; replace E := hid (E.out.chg 1 rfl CV HV); (try simp only [List.cons_append, List.nil_append, List.set_cons_zero, List.set_cons_succ] at E))
        have c2 := OwnI.cap (E.out.rowI 7 rfl)
        replace E := hid (E.out.doneIF 7 rfl (by omega))
        (try simp only [List.cons_append, List.nil_append, List.set_cons_zero, List.set_cons_succ] at E)
        refine bodyPost_ret (end_arr2 rfl HV rfl rfl) rfl (hR.out _ _ ?_)
        exact RetAEC.of hS.out hE.out rfl ((E.out.intsF 6 rfl).mono fun b _ h => h.2) ((E.out.intsF 7 rfl).mono fun b _ h => h.2) (Nat.zero_le _) (by simp only [ItemsAt]) E.out.ext hcap.out c2 (Nat.zero_le _)
end Go.Proofs.Ytdpdcjadedcglaa
