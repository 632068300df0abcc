/- reshaping.Reshape of a number to a shape: contract with the capacities. Conditions: the shape is right. -/
import Derived.Test.YtolnbmmkpmajdaaRESH
import Derived.Test.YtolnbmmkpmajdaaTAKA
import Derived.Test.YtolnbmmkpmajdaaTOPA
set_option linter.unusedVariables false
set_option maxRecDepth 20000
set_option linter.unusedSimpArgs false
namespace Go.Proofs.Ytolnbmmkpmajdaa
open Go.RowKit Go.Sort
attribute [local go_sem ↓] run_max2 run_min2
attribute [local go_sem] eql_ints_nil eql_arrs_nil
set_option maxRecDepth 100000 in
set_option maxHeartbeats 8000000 in
theorem reshaping_ReshapeC (s : List Int) (n : Int) (N : Nat) (x : Arr) (sx : Option Addr) (cx : Nat) (nx : Option Addr) (mx : Nat) (ix : Option Addr) (jx : Nat) (y : Arr) (sy : Option Addr) (cy : Nat) (ny : Option Addr) (my : Nat) (iy : Option Addr) (jy : Nat) (S : Nat → Prop) (w : World) (h : ArrAt w S x sx nx ix) (g : ArrAt w S y sy ny iy) (hx : x = vecA s) (hy : y = scaA n) (rx : rightS x = 0) (ry : rightS y = 0) (hs : shapeB s = true) (hN : cnt s = (N : Int)) :
    Calls Try.prog 14 #[.agg #[.int .i64 x.kind, .slice sx x.shape.length cx, .slice nx x.nums.length mx, .slice ix x.items.length jx], .agg #[.int .i64 y.kind, .slice sy y.shape.length cy, .slice ny y.nums.length my, .slice iy y.items.length jy]] w (RetAEC w (fun b => w.heap.size ≤ b) (.mk 1 s (List.replicate N n) []) 0) := by
  refine calls_post fun R' hR => ?_
  have h0 := hid h
  have g0 := hid g
  have hxn : x.nums = s := by rw [hx]; rfl
  have hndE : Hid (ndE x = 0) := hid (by
    unfold ndE
    rw [if_neg (by simp [rx]), if_neg (by rw [hx]; simp [vecA, Arr.kind]), if_neg (by rw [hx]; simp [vecA, Arr.shape]), hxn]
    have hneg : s.any negB = false := by
      rw [List.any_eq_false]
      intro d hd
      have := (shapeB_iff.1 hs).2.1 d hd
      simp [negB]; omega
    rw [if_neg (by rw [hneg]; decide), if_neg (by rw [hs]; decide)])
  have hndL : Hid (ndL x = s) := hid (by rw [ndL_yes hndE.out, hxn])
  have ky : Hid (y.kind = 1) := hid (by rw [hy]; rfl)
  have hyn : Hid (y.nums = [n]) := hid (by rw [hy]; rfl)
  have hyl : Hid (y.nums.length = 1) := hid (by rw [hy]; rfl)
  have hsz : Hid (((szN y.kind y.nums.length y.items.length : Nat) : Int) = 1) := hid (by rw [hy]; rfl)
  have hk3 : Hid ((y.kind != 3) = true) := hid (by rw [ky.out]; rfl)
  have hN6 : N ≤ 65536 := by have := cnt_le hs; omega
  have hsl8 := (shapeB_iff.1 hs).1
  have hcN := hid hN
  replace hs := hid hs
  replace hx := hid hx
  replace hy := hid hy
  replace rx := hid rx
  replace ry := hid ry
  clear h g hN hxn
  go_enter Try.func14, Try.ntmps14
  go_upto_region 1 with (fail)
  generalize hEW : (((w).alloc (.cells #[.int .i64 x.kind, .slice sx x.shape.length cx, .slice nx x.nums.length mx, .slice ix x.items.length jx] 26)).alloc (.cells #[.int .i64 y.kind, .slice sy y.shape.length cy, .slice ny y.nums.length my, .slice iy y.items.length jy] 26)).alloc (.cells #[.int .i64 0, .slice none 0 0, .slice none 0 0, .slice none 0 0] 26) = W
  have E := hid (env3 w S hEW)
  clear hEW
  replace E := hid ((E.out.arg h0.out).arg g0.out)
  (try simp only [List.cons_append, List.nil_append, List.set_cons_zero, List.set_cons_succ] at E)
  obtain ⟨bn, on, hno, _, _, _⟩ := (E.out.arr 4 rfl).nums.at (k := 0) (by have := hyl.out; omega)
  subst hno
  obtain ⟨q00, q01, q02, q03⟩ := (E.out.hdr 0 rfl).all
  go_wp2_with fail
  clear q00 q01 q02 q03
  refine (array_Right x _ _ _ _ _ _ _ _ (E.out.arr 3 rfl)).mono ?_
  rintro e w1 ⟨rfl, hb⟩
  replace E := hid (E.out.up hb)
  clear hb
  rw [rx.out]
  obtain ⟨q10, q11, q12, q13⟩ := (E.out.hdr 1 rfl).all
  go_wp2_with fail
  clear q10 q11 q12 q13
  refine (array_Right y _ _ _ _ _ _ _ _ (E.out.arr 4 rfl)).mono ?_
  rintro e w2 ⟨rfl, hb⟩
  replace E := hid (E.out.up hb)
  clear hb
  rw [ry.out]
  obtain ⟨q00, q01, q02, q03⟩ := (E.out.hdr 0 rfl).all
  go_wp2_with fail
  clear q00 q01 q02 q03
  refine (reshaping_Dims x _ _ _ _ _ _ _ _ (E.out.arr 3 rfl)).mono ?_
  rintro e w3 ⟨da, dc, rfl, hO, hb⟩
  rw [hndL.out] at hO ⊢
  rw [hndE.out]
  have hcap := hid (OwnI.cap hO)
  replace E := hid ((E.out.up hb).addIntsF ((hO.ints (by omega)).mono fun b _ h => h.1) E.out.blt E.out.size)
  clear hO hb
  (try simp only [List.cons_append, List.nil_append, List.set_cons_zero, List.set_cons_succ] at E)
  obtain ⟨q10, q11, q12, q13⟩ := (E.out.hdr 1 rfl).all
  go_upto_region 7 with (refine wpl_store4 rfl (.tmp 8) (.tmp 32) rfl _ rfl rfl ((E.out.alloc _).hdr 6 rfl) ?_; intro V4 HV CV; replace E := hid ((E.out.alloc _).chg 6 rfl CV HV); clear CV HV; (try simp only [List.cons_append, List.nil_append, List.set_cons_zero, List.set_cons_succ] at E))
  clear q10 q11 q12 q13
  generalize w3.heap.size = pf at E ⊢
  obtain ⟨q10, q11, q12, q13⟩ := (E.out.hdr 1 rfl).all
  go_wp2_with fail
  clear q10 q11 q12 q13
  refine (size_array_Size y _ _ _ _ _ _ _ _ (E.out.arr 4 rfl)).mono ?_
  rintro e w5 ⟨rfl, hb⟩
  replace E := hid (E.out.up hb)
  clear hb
  rw [hsz.out]
  obtain ⟨q10, q11, q12, q13⟩ := (E.out.hdr 1 rfl).all
  go_upto_region 10 with (refine wpl_store4 rfl (.tmp 9) (.tmp 41) rfl _ rfl rfl ((E.out.alloc _).hdr 7 rfl) ?_; intro V5 HV CV; replace E := hid ((E.out.alloc _).chg 7 rfl CV HV); clear CV HV; (try simp only [List.cons_append, List.nil_append, List.set_cons_zero, List.set_cons_succ] at E))
  clear q10 q11 q12 q13
  generalize w5.heap.size = po at E ⊢
  obtain ⟨q60, q61, q62, q63⟩ := (E.out.hdr 6 rfl).all
  go_wp2_with fail
  clear q60 q61 q62 q63
  refine (size_array_Size y _ _ _ _ _ _ _ _ (E.out.arr 4 rfl)).mono ?_
  rintro e w6 ⟨rfl, hb⟩
  replace E := hid (E.out.up hb)
  clear hb
  rw [hsz.out]
  go_wp2_with fail
  refine (shape_Size s _ _ _ _ (E.out.intsF 5 rfl)).mono ?_
  rintro e w7 ⟨rfl, rfl⟩
  rw [sizeS_true hs.out, hcN.out]
  replace E := hid E.out.row0I
  (try simp only [List.cons_append, List.nil_append, List.set_cons_zero, List.set_cons_succ] at E)
  go_upto_region 12 with (fail)
  go_loopw [46] (fun v wr => ∃ (i : Nat) (na : Option Addr) (nc : Nat), i ≤ N ∧ v = .int .i64 i ∧ Env w S wr [.obj w.heap.size (.cells #[.int .i64 x.kind, .slice sx x.shape.length cx, .slice nx x.nums.length mx, .slice ix x.items.length jx] 26 (0, 0)), .obj (w.heap.size + 1) (.cells #[.int .i64 y.kind, .slice sy y.shape.length cy, .slice (some ⟨bn, on, none⟩) y.nums.length my, .slice iy y.items.length jy] 26 (0, 0)), .obj (w.heap.size + 1 + 1) (.cells #[.int .i64 0, .slice none 0 0, .slice none 0 0, .slice none 0 0] 26 (0, 0)), .arr x sx nx ix, .arr y sy (some ⟨bn, on, none⟩) iy, .intsF s da, .obj pf (.cells #[.int .i64 y.kind, .slice sy y.shape.length cy, .slice (some ⟨bn, on, none⟩) y.nums.length my, .slice iy y.items.length jy] 26 (0, 0)), .obj po (.cells #[.int .i64 y.kind, .slice da s.length dc, .slice na (List.replicate i n).length nc, .slice none 0 0] 26 (0, 0)), .rowI na nc (List.replicate i n)]) (fun v _ => N - (intOf v).toNat)
  case atStart => exact ⟨0, none, 0, Nat.zero_le _, rfl, E.out⟩
  case round =>
    clear E
    obtain ⟨i, na, nc, hi, rfl, E⟩ := hrel
    replace E := hid E
    by_cases hlt : i < N
    case pos =>
      have hst : Hid (List.replicate (i + 1) n = List.replicate i n ++ [n]) := hid List.replicate_succ'
      obtain ⟨cu, hcu⟩ : ∃ q, q = List.replicate i n := ⟨_, rfl⟩
      have hcul : cu.length ≤ N := by rw [hcu, List.length_replicate]; omega
      rw [← hcu] at E hst
      replace hcu := hid hcu
      have hc0 := ints_cell (E.out.arr 4 rfl).nums (k := 0) (by have := hyl.out; omega)
      rw [hyn.out, Nat.add_zero] at hc0
      have hc0 : wr.cell? ⟨bn, on, none⟩ = some (.int .i64 n) := hc0
      have y1 : 0 < y.nums.length := by have := hyl.out; omega
      have y2 : (0 : Int) < (y.nums.length : Int) := by omega
      have r1 : Int.tmod (i : Int) 1 = 0 := by simp
      have hk := hk3.out
      obtain ⟨q10, q11, q12, q13⟩ := (E.out.hdr 1 rfl).all
      go_upto_region 15 with (fail)
      clear q10 q11 q12 q13
      clear hk
      refine wp_region_mono_tail 10 (Sees wr [(⟨po, 2, none⟩, .slice na cu.length nc), (⟨pf, 2, none⟩, .slice (some ⟨bn, on, none⟩) y.nums.length my), (⟨bn, on, none⟩, .int .i64 n)]) [9] (fun k v u u' => match k with | 9 => v = .slice (some ⟨u.heap.size, 0, none⟩) 1 1 ∧ u' = u.alloc (.cells (([n] : List Int).map (Value.int .i64)).toArray 3) | _ => False) (fun _ _ h e => h.up e) (Sees.start (all_cons ((E.out.hdr 7 rfl).c2) (all_cons ((E.out.hdr 6 rfl).c2) (all_cons (hc0) (all_nil))))) (by kernel_rfl) (by kernel_rfl) ?_
      simp only [List.take_succ_cons, List.take_zero, List.drop_succ_cons, List.drop_zero]
      repeat (first | (refine m_plain (v := ?_) (by rfl) (by rfl) ?_ ?_; rotate_left; (intro wz hSw; obtain ⟨-, hSc⟩ := hSw; (try simp only [List.forall_mem_cons, List.forall_mem_nil, and_true] at hSc); go_simp; (first | done | with_reducible rfl)); (intro K hK; (try simp only [Act.put, List.setIfInBounds_toArray, List.set_cons_zero, List.set_cons_succ]); refine hK _ _ ?_; clear hK K)) | (refine m_skip (by rfl) (by rfl) ?_; (intro K hK; (try simp only [Act.put, List.setIfInBounds_toArray, List.set_cons_zero, List.set_cons_succ]); refine hK _ _ ?_; clear hK K)))
      refine m_make (by rfl) (by rfl) ?_ ?_
      · intro wz hSw hdep R hRz
        obtain ⟨hSe, hSc⟩ := hSw
        (try simp only [List.forall_mem_cons, List.forall_mem_nil, and_true] at hSc)
        unfold does
        (go_simp; exact hRz.out _ _ ⟨ext_alloc _ _, rfl, rfl⟩)
      intro v9 u9 x9 hG9 K hK
      have hF9 := hG9.fact
      (try dsimp only at hF9)
      obtain ⟨rfl, rfl⟩ := hF9
      (try simp only [Act.put, List.setIfInBounds_toArray, List.set_cons_zero, List.set_cons_succ]); refine hK _ _ ?_; clear hK K
      repeat (first | (refine m_plain (v := ?_) (by rfl) (by rfl) ?_ ?_; rotate_left; (intro wz hSw; obtain ⟨-, hSc⟩ := hSw; (try simp only [List.forall_mem_cons, List.forall_mem_nil, and_true] at hSc); go_simp; (first | done | with_reducible rfl)); (intro K hK; (try simp only [Act.put, List.setIfInBounds_toArray, List.set_cons_zero, List.set_cons_succ]); refine hK _ _ ?_; clear hK K)) | (refine m_skip (by rfl) (by rfl) ?_; (intro K hK; (try simp only [Act.put, List.setIfInBounds_toArray, List.set_cons_zero, List.set_cons_succ]); refine hK _ _ ?_; clear hK K)))
      refine m_nil ?_
      intro wf hSf hAf
      have oF : Hid (IntsAt wf (fun b => u9.heap.size ≤ b) (some ⟨u9.heap.size, 0, none⟩) [n]) := hid (lit_at (l := [n]) (hAf 9 _ rfl) (by simp))
      replace E := hid (E.out.up hSf.1)
      clear hSf hAf hG9 hc0
      refine wplE_addN E.out 7 8 rfl rfl (by decide) rfl rfl rfl (.tmp 53) (.tmp 61) (.tmp 9) (.tmp 63) (.tmp 62) rfl rfl rfl _ _ 1 [n] rfl rfl oF.out (by simp only [List.length_cons, List.length_nil]; omega) (fun _ => rfl) (fun _ _ => rfl) (fun _ _ => rfl) ?_
      intro V9 na2 nc2 E'
      clear E oF
      have E := hid E'
      clear E'
      (try simp only [List.cons_append, List.nil_append, List.set_cons_zero, List.set_cons_succ] at E)
      go_wp2_with fail
      go_roundw
      case rel => exact ⟨i + 1, na2, nc2, by omega, by go_num, by rw [hst.out]; exact E.out⟩
      case measure => simp [intOf]; omega
    case neg =>
      obtain rfl : i = N := by omega
      obtain ⟨cu, hcu⟩ : ∃ q, q = List.replicate i n := ⟨_, rfl⟩
      have hcul : cu.length ≤ i := by rw [hcu, List.length_replicate]; omega
      rw [← hcu] at E hR
      replace hcu := hid hcu
      have c8 := OwnI.cap (E.out.rowI 8 rfl)
      replace E := hid (E.out.doneIF 8 rfl (by omega))
      (try simp only [List.cons_append, List.nil_append, List.set_cons_zero, List.set_cons_succ] at E)
      obtain ⟨q70, q71, q72, q73⟩ := (E.out.hdr 7 rfl).all
      go_wp2_with (refine wpl_store4 rfl (.tmp 4) (.tmp 87) rfl _ rfl rfl (E.out.hdr 2 rfl) ?_; intro V HV CV; replace E := hid (E.out.chg 2 rfl CV HV); clear CV; (try simp only [List.cons_append, List.nil_append, List.set_cons_zero, List.set_cons_succ] at E))
      exact bodyPost_ret (end_arr2 rfl HV rfl rfl) rfl (hR.out _ _ (RetAEC.of (a := .mk 1 s cu []) (k := y.kind) (s := s) (n := cu) (l := []) (by rw [ky.out]) rfl rfl ((E.out.intsF 5 rfl).mono fun b _ h => h.2) ((E.out.intsF 8 rfl).mono fun b _ h => h.2) (Nat.zero_le _) (by simp only [ItemsAt]) E.out.ext hcap.out c8 (Nat.le_refl _)))
end Go.Proofs.Ytolnbmmkpmajdaa
