/- Boxes, the program's and the reference's: contracts. Condition: the arrays are read. -/
import Derived.Test.YtdobnkbmjkcpoaaDoorA17
import Derived.Test.YtdobnkbmjkcpoaaDoorPAIR
set_option linter.unusedVariables false
set_option linter.unusedSimpArgs false
namespace Go.Proofs.YtdobnkbmjkcpoaaDoor
open Go.RowKit Go.Sort
attribute [local go_sem ↓] run_max2 run_min2
attribute [local go_sem] eql_ints_nil eql_arrs_nil
def bxlA (l : List Arr) : Arr := .mk 3 [(l.length : Int)] [] l
theorem wpl_buildW {ops : Array Oper} {rest : List Oper} {o : Oper} {a : Act} {Q : Exit → Act → World → Prop} {w : World} (hgd : o.guard = none) (d : Int) (p : Operand) (ho : o.op = .buildSlice 23 1 #[(0, p)]) (hp : a.eval p = .int .i64 d)
    (h : wpList Tryd.prog ops Q rest (a.put o.dst (.slice (some ⟨w.heap.size, 0, none⟩) 1 1)) (w.alloc (.cells #[.int .i64 d] 3))) : wpList Tryd.prog ops Q (o :: rest) a w := by
  refine wpList_plain hgd fun K hK => ?_
  have := hK _ _ h
  unfold Oper.wp execOp
  simp only [ho]
  cases p <;> (simp [go_sem] at hp) <;> simp [go_sem, hp] <;> exact this
set_option maxRecDepth 100000 in
set_option maxHeartbeats 4000000 in
theorem array_Boxes (l : List Arr) (ia : Option Addr) (ic : Nat) (S : Nat → Prop) (w : World) (h : ItemsAt w S ia 0 l) (hl : l.length ≤ 1000000) : Calls Tryd.prog 33 #[.slice ia l.length ic] w (RetA w (fun b => S b ∨ w.heap.size ≤ b) (validS (bxlA l))) := by
  refine calls_post fun R' hR => ?_
  have h0 := hid h
  clear h
  go_enter Tryd.func33, Tryd.ntmps33
  go_upto_region 1 with (fail)
  generalize hEW : (w).alloc (.cells #[.int .i64 0, .slice none 0 0, .slice none 0 0, .slice none 0 0] 26) = W
  have E := hid (env1 w S hEW)
  clear hEW
  replace E := hid (E.out.argL h0.out)
  (try simp only [List.cons_append, List.nil_append, List.set_cons_zero, List.set_cons_succ] at E)
  go_upto_region 2 with (first
    | (refine wpl_buildW rfl (l.length : Int) (.tmp 7) rfl rfl ?_; have E1 : Env w S (W.alloc (.cells #[.int .i64 (l.length : Int)] 3)) _ := E.out.lit [(l.length : Int)] (show (1 : Nat) ≤ 17592186044416 by decide); clear E; have E := hid E1; clear E1; generalize World.alloc _ (.cells #[.int .i64 (l.length : Int)] 3) = V0 at E ⊢; generalize W.heap.size = pl at E ⊢; (try simp only [List.cons_append, List.nil_append, List.set_cons_zero, List.set_cons_succ] at E))
    | (refine wpl_store4 rfl (.tmp 3) (.tmp 9) rfl _ rfl rfl ((E.out.alloc _).hdr 3 rfl) ?_; intro V1 HV CV; replace E := hid ((E.out.alloc _).chg 3 rfl CV HV); clear CV HV; (try simp only [List.cons_append, List.nil_append, List.set_cons_zero, List.set_cons_succ] at E)))
  generalize V0.heap.size = bo at E ⊢
  replace E := hid E.out.row0A
  (try simp only [List.cons_append, List.nil_append, List.set_cons_zero, List.set_cons_succ] at E)
  go_wp2_with fail
  go_loopw [12] (fun v wr => ∃ (k : Nat) (ra : Option Addr) (rc : Nat), k ≤ l.length ∧ v = .int .i64 k ∧ Env w S wr [.obj w.heap.size (.cells #[.int .i64 0, .slice none 0 0, .slice none 0 0, .slice none 0 0] 26 (0, 0)), .items l ia, .ints [(l.length : Int)] (some ⟨pl, 0, none⟩), .obj bo (.cells #[.int .i64 3, .slice (some ⟨pl, 0, none⟩) 1 1, .slice none 0 0, .slice ra (l.take k).length rc] 26 (0, 0)), .rowA ra rc (l.take k)]) (fun v _ => l.length - (intOf v).toNat)
  case atStart => exact ⟨0, none, 0, Nat.zero_le _, rfl, E.out⟩
  case round =>
    clear E
    obtain ⟨k, ra, rc, hk, rfl, E⟩ := hrel
    replace E := hid E
    by_cases hlt : k < l.length
    case pos =>
      obtain ⟨b1, o1, sz, cz, nz, mz, iz, jz, hia, hS1, hbl1, e0, e1, e2, e3, hz⟩ := (E.out.items 1 rfl).at hlt
      have hT : Hid (l.take (k + 1) = l.take k ++ [l[k]]) := hid (List.take_succ_eq_append_getElem hlt)
      have hTl : (l.take k).length = k := by rw [List.length_take]; omega
      generalize l[k] = z at e0 e1 e2 e3 hz hT
      replace E := hid (E.out.addArr hz (fun _ _ h => h))
      (try simp only [List.cons_append, List.nil_append, List.set_cons_zero, List.set_cons_succ] at E)
      clear hz
      obtain ⟨cur, hcur⟩ : ∃ c, c = l.take k := ⟨_, rfl⟩
      rw [← hcur] at E hT hTl
      replace hcur := hid hcur
      have hll : cur.length + [z].length ≤ 1759218604441 := by simp only [List.length_cons, List.length_nil]; omega
      replace hTl := hid hTl
      subst hia
      have t0 : (0 : Int) ≤ (k : Int) := by omega
      have t1 : (k : Int) < (l.length : Int) := by omega
      go_upto_region 5 with (refine wpl_store4 rfl (.tmp 5) (.tmp 15) rfl _ rfl rfl ((E.out.alloc _).hdr 6 rfl) ?_; intro V1 HV CV; replace E := hid ((E.out.alloc _).chg 6 rfl CV HV); clear CV HV; (try simp only [List.cons_append, List.nil_append, List.set_cons_zero, List.set_cons_succ] at E))
      clear t0 t1 e0 e1 e2 e3
      generalize wr.heap.size = bz at E ⊢
      obtain ⟨q30, q31, q32, q33⟩ := (E.out.hdr 3 rfl).all
      obtain ⟨q60, q61, q62, q63⟩ := (E.out.hdr 6 rfl).all
      refine wp_region_mono_tail 5 (Sees V1 [(⟨bo, 3, none⟩, .slice ra cur.length rc), (⟨bz, 0, none⟩, .int .i64 z.kind), (⟨bz, 1, none⟩, .slice sz z.shape.length cz), (⟨bz, 2, none⟩, .slice nz z.nums.length mz), (⟨bz, 3, none⟩, .slice iz z.items.length jz)]) [3, 4] (fun k v u u' => match k with | 3 => RetA u (fun b => V1.heap.size ≤ b) z (.returned v) u' | 4 => ∃ sa sc na nc ia ic, v = .slice (some ⟨u.heap.size, 0, none⟩) 1 1 ∧ u' = u.alloc (.cells #[.int .i64 z.kind, .slice sa z.shape.length sc, .slice na z.nums.length nc, .slice ia z.items.length ic] 26) ∧ ArrAt u (fun b => V1.heap.size ≤ b) z sa na ia | _ => False) (fun _ _ h e => h.up e) (Sees.start (all_cons (q33) (all_cons (q60) (all_cons (q61) (all_cons (q62) (all_cons (q63) (all_nil))))))) (by kernel_rfl) (by kernel_rfl) ?_
      simp only [List.take_succ_cons, List.take_zero, List.drop_succ_cons, List.drop_zero]
      repeat (first | (refine m_plain (v := ?_) (by rfl) (by rfl) ?_ ?_; rotate_left; (intro wz hSw; obtain ⟨-, hSc⟩ := hSw; (try simp only [List.forall_mem_cons, List.forall_mem_nil, and_true] at hSc); go_simp; (first | done | with_reducible rfl)); (intro K hK; (try simp only [Act.put, List.setIfInBounds_toArray, List.set_cons_zero, List.set_cons_succ]); refine hK _ _ ?_; clear hK K)) | (refine m_skip (by rfl) (by rfl) ?_; (intro K hK; (try simp only [Act.put, List.setIfInBounds_toArray, List.set_cons_zero, List.set_cons_succ]); refine hK _ _ ?_; clear hK K)))
      refine m_make (by rfl) (by rfl) ?_ ?_
      · intro wz hSw hdep R hRz
        obtain ⟨hSe, hSc⟩ := hSw
        (try simp only [List.forall_mem_cons, List.forall_mem_nil, and_true] at hSc)
        unfold does
        (go_simp; refine Calls.mono (array_Clone z _ _ _ _ _ _ _ wz ((E.out.arr 5 rfl).up hSe)) ?_; rintro e wq ⟨ta, tc, tn, tnc, ti, tic, rfl, hq, hqb⟩; exact ⟨_, rfl, hRz.out _ _ ⟨hqb, ta, tc, tn, tnc, ti, tic, rfl, ArrAt.mono (fun b _ hb => Nat.le_trans (Below.size hSe) hb) z hq, hqb⟩⟩)
      intro v3 u3 x3 hG3 K hK
      have hF3 := hG3.fact
      (try dsimp only at hF3)
      obtain ⟨s3, c3, n3, m3, i3, j3, he, hA3, hb3⟩ := hF3
      injection he with he
      subst he
      (try simp only [Act.put, List.setIfInBounds_toArray, List.set_cons_zero, List.set_cons_succ]); refine hK _ _ ?_; clear hK K
      repeat (first | (refine m_plain (v := ?_) (by rfl) (by rfl) ?_ ?_; rotate_left; (intro wz hSw; obtain ⟨-, hSc⟩ := hSw; (try simp only [List.forall_mem_cons, List.forall_mem_nil, and_true] at hSc); go_simp; (first | done | with_reducible rfl)); (intro K hK; (try simp only [Act.put, List.setIfInBounds_toArray, List.set_cons_zero, List.set_cons_succ]); refine hK _ _ ?_; clear hK K)) | (refine m_skip (by rfl) (by rfl) ?_; (intro K hK; (try simp only [Act.put, List.setIfInBounds_toArray, List.set_cons_zero, List.set_cons_succ]); refine hK _ _ ?_; clear hK K)))
      refine m_make (by rfl) (by rfl) ?_ ?_
      · intro wz hSw hdep R hRz
        obtain ⟨hSe, hSc⟩ := hSw
        (try simp only [List.forall_mem_cons, List.forall_mem_nil, and_true] at hSc)
        unfold does
        (go_simp; exact hRz.out _ _ ⟨ext_alloc _ _, s3, c3, n3, m3, i3, j3, rfl, rfl, hA3.up (hdep 3 _ rfl (depB_sound (f := 60) (by kernel_rfl)))⟩)
      intro v4 u4 x4 hG4 K hK
      have hF4 := hG4.fact
      (try dsimp only at hF4)
      obtain ⟨s4, c4, n4, m4, i4, j4, rfl, rfl, hA4⟩ := hF4
      (try simp only [Act.put, List.setIfInBounds_toArray, List.set_cons_zero, List.set_cons_succ]); refine hK _ _ ?_; clear hK K
      repeat (first | (refine m_plain (v := ?_) (by rfl) (by rfl) ?_ ?_; rotate_left; (intro wz hSw; obtain ⟨-, hSc⟩ := hSw; (try simp only [List.forall_mem_cons, List.forall_mem_nil, and_true] at hSc); go_simp; (first | done | with_reducible rfl)); (intro K hK; (try simp only [Act.put, List.setIfInBounds_toArray, List.set_cons_zero, List.set_cons_succ]); refine hK _ _ ?_; clear hK K)) | (refine m_skip (by rfl) (by rfl) ?_; (intro K hK; (try simp only [Act.put, List.setIfInBounds_toArray, List.set_cons_zero, List.set_cons_succ]); refine hK _ _ ?_; clear hK K)))
      refine m_nil ?_
      intro wf hSf hAf
      have oF := hid (box_items (hAf 4 _ rfl) (Below.size hG4.s.1) hA4)
      have hfr : Hid (∀ b, b < wf.heap.size → V1.heap.size ≤ b → Tst w S _ b) := hid (fun b _ hb => E.out.fresh (Ext.refl _) hb)
      replace E := hid (E.out.up hSf.1)
      clear hSf hAf hG3 hG4 hA3 hA4 hb3
      clear q30 q31 q32 q33 q60 q61 q62 q63
      refine wplE_addA E.out 3 4 rfl rfl (by decide) rfl rfl rfl (.tmp 17) (.tmp 20) (.tmp 3) (.tmp 22) (.tmp 21) rfl rfl rfl _ _ 1 [z] rfl rfl oF.out hfr.out hll (fun _ => rfl) (fun _ _ => rfl) (fun _ _ => rfl) ?_
      intro V na' nc' E'
      clear E oF hfr
      have E := hid E'
      clear E'
      (try simp only [List.cons_append, List.nil_append, List.set_cons_zero, List.set_cons_succ] at E)
      go_wp2_with fail
      go_roundw
      case rel => exact ⟨k + 1, na', nc', by omega, by go_num, by rw [hT.out]; exact E.out.sub (List.Sublist.cons_cons _ (List.Sublist.cons_cons _ (List.Sublist.cons_cons _ (List.Sublist.cons_cons _ (List.Sublist.cons_cons _ (List.nil_sublist _))))))⟩
      case measure => simp [intOf]; omega
    case neg =>
      have hke : k = l.length := by omega
      rw [hke, List.take_length] at E
      replace E := hid (E.out.doneA 4 rfl)
      (try simp only [List.cons_append, List.nil_append, List.set_cons_zero, List.set_cons_succ] at E)
      have t2 : ¬ (k : Int) < (l.length : Int) := by omega
      replace hke := hid hke
      obtain ⟨q30, q31, q32, q33⟩ := (E.out.hdr 3 rfl).all
      go_wp2_with fail
      clear q30 q31 q32 q33
      refine (array_valid (bxlA l) _ 1 none 0 _ rc _ _ (ArrAt.iff.2 ⟨E.out.ints 2 rfl, IntsAt.nil _ _ none, by show l.length ≤ _; omega, E.out.items 4 rfl⟩)).mono ?_
      intro e w5 h
      obtain ⟨s7, c7, n7, m7, i7, j7, rfl, hA, hb⟩ := h.eq rfl
      replace E := hid ((E.out.up hb).addArr hA (fun b _ hq => E.out.res (Ext.refl _) hq))
      clear hA hb h
      (try simp only [List.cons_append, List.nil_append, List.set_cons_zero, List.set_cons_succ] at E)
      generalize validS (bxlA l) = r at E hR ⊢
      go_wp2_with (refine wpl_store4 rfl (.tmp 2) (.tmp 25) rfl _ rfl rfl (E.out.hdr 0 rfl) ?_; intro V HV CV; replace E := hid (E.out.chg 0 rfl CV HV))
      exact bodyPost_ret (end_arr rfl HV rfl) rfl (hR.out _ _ (RetA.to rfl (ArrAt.mono (fun b _ h => h.1) _ (E.out.arr 5 rfl)) E.out.ext))
set_option maxHeartbeats 4000000 in
theorem ref03_Boxes (l : List Arr) (ia : Option Addr) (ic : Nat) (S : Nat → Prop) (w : World) (h : ItemsAt w S ia 0 l) (hl : l.length ≤ 1000000) : Calls Tryd.prog 34 #[.slice ia l.length ic] w (RetA w (fun b => S b ∨ w.heap.size ≤ b) (validS (bxlA l))) := by
  refine calls_post fun R' hR => ?_
  have h0 := hid h
  clear h
  go_enter Tryd.func34, Tryd.ntmps34
  go_upto_region 1 with (fail)
  generalize hEW : (w).alloc (.cells #[.int .i64 0, .slice none 0 0, .slice none 0 0, .slice none 0 0] 26) = W
  have E := hid (env1 w S hEW)
  clear hEW
  replace E := hid (E.out.argL h0.out)
  (try simp only [List.cons_append, List.nil_append, List.set_cons_zero, List.set_cons_succ] at E)
  go_wp2_with fail
  replace E := hid (E.out.lit [(l.length : Int)] (show (1 : Nat) ≤ 17592186044416 by decide))
  (try simp only [List.cons_append, List.nil_append, List.set_cons_zero, List.set_cons_succ] at E)
  refine (ref03_valid (bxlA l) _ 1 none 0 _ _ _ _ (ArrAt.iff.2 ⟨E.out.ints 2 rfl, IntsAt.nil _ _ none, by show l.length ≤ _; omega, E.out.items 1 rfl⟩)).mono ?_
  intro e w5 h
  obtain ⟨s7, c7, n7, m7, i7, j7, rfl, hA, hb⟩ := h.eq rfl
  replace E := hid ((E.out.up hb).addArr hA (fun b _ hq => E.out.res (Ext.refl _) hq))
  clear hA hb h
  (try simp only [List.cons_append, List.nil_append, List.set_cons_zero, List.set_cons_succ] at E)
  generalize validS (bxlA l) = r at E hR ⊢
  go_wp2_with (refine wpl_store4 rfl (.tmp 2) (.tmp 8) rfl _ rfl rfl (E.out.hdr 0 rfl) ?_; intro V HV CV; replace E := hid (E.out.chg 0 rfl CV HV))
  exact bodyPost_ret (end_arr rfl HV rfl) rfl (hR.out _ _ (RetA.to rfl (ArrAt.mono (fun b _ h => h.1) _ (E.out.arr 3 rfl)) E.out.ext))
end Go.Proofs.YtdobnkbmjkcpoaaDoor
