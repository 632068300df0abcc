/- Reshape, the program's and the reference's: contracts. Conditions: the arrays are read. -/
import Derived.Test.YtolnbmmkpmajdaaGH
import Derived.Test.YtolnbmmkpmajdaaGG
import Derived.Deep.CutRange
import Derived.Deep.DeepCutAuto
set_option linter.unusedVariables false
set_option maxRecDepth 20000
set_option linter.unusedSimpArgs false
namespace Go.Proofs.Ytolnbmmkpmajdaa
open Go.RowKit Go.Sort
attribute [local go_sem ↓] run_max2 run_min2
attribute [local go_sem] eql_ints_nil eql_arrs_nil
theorem szN_from {y : Arr} (h : rightS y = 0) : szN (fromS y).kind (fromS y).nums.length (fromS y).items.length = haveN y := by
  have hk := fromS_kind h
  obtain ⟨k, _, _⟩ := right_ok h
  unfold szN haveN
  rw [hk]
  by_cases c : y.kind = 3
  · rw [if_neg (by omega), if_pos c, if_pos c]
  · rw [if_pos (by omega), if_neg c]
theorem szN_zero {y : Arr} (h : rightS y = 0) : (((szN y.kind y.nums.length y.items.length : Nat) : Int) == 0) = decide (y.nums.length + y.items.length = 0) := by
  obtain ⟨k, _, hn⟩ := right_ok h
  rw [Bool.eq_iff_iff]
  simp only [beq_iff_eq, decide_eq_true_eq]
  unfold szN
  rcases hn with ⟨k3, _, h2⟩ | ⟨k3, _, h2⟩
  · rw [if_neg (by omega), if_pos k3]; omega
  · rw [if_pos (by omega)]; omega
set_option maxRecDepth 100000 in
set_option maxHeartbeats 8000000 in
theorem reshaping_Reshape (x : Arr) (sx : Option Addr) (cx : Nat) (nx : Option Addr) (mx : Nat) (ix : Option Addr) (jx : Nat) (y : Arr) (sy : Option Addr) (cy : Nat) (ny : Option Addr) (my : Nat) (iy : Option Addr) (jy : Nat) (S : Nat → Prop) (w : World) (h : ArrAt w S x sx nx ix) (g : ArrAt w S y sy ny iy) :
    Calls Try.prog 14 #[.agg #[.int .i64 x.kind, .slice sx x.shape.length cx, .slice nx x.nums.length mx, .slice ix x.items.length jx], .agg #[.int .i64 y.kind, .slice sy y.shape.length cy, .slice ny y.nums.length my, .slice iy y.items.length jy]] w (RetAE w (fun b => w.heap.size ≤ b) (reshS x y) (reshE x y)) := by
  refine calls_post fun R' hR => ?_
  have h0 := hid h
  have g0 := hid g
  have xnl := h.nums.1
  have xsl := h.shape.1
  have ysl := g.shape.1
  have ynl := g.nums.1
  have yil := g.len
  clear h g
  by_cases c : rightS x = 0
  case neg =>
    have cb : (rightS x != 0) = true := by simp [c]
    have E := hid (reshE_x (y := y) c)
    have E2 := hid (reshS_no (x := x) (y := y) (by rw [E.out]; omega))
    replace c := hid c
    go_enter Try.func14, Try.ntmps14
    go_wp2_with fail
    generalize hEW : (((w).alloc (.cells #[.int .i64 x.kind, .slice sx x.shape.length cx, .slice nx x.nums.length mx, .slice ix x.items.length jx] 26)).alloc (.cells #[.int .i64 y.kind, .slice sy y.shape.length cy, .slice ny y.nums.length my, .slice iy y.items.length jy] 26)).alloc (.cells #[.int .i64 0, .slice none 0 0, .slice none 0 0, .slice none 0 0] 26) = W
    obtain ⟨hxW, hyW, hZW, heW, zW⟩ := boxes3 w hEW
    clear hEW
    refine (array_Right x _ _ _ _ _ _ _ W (h0.out.up heW)).mono ?_
    rintro e w1 ⟨rfl, hb1⟩
    have HZ := hZW.up hb1
    have e1 := heW.trans hb1
    clear hb1 hxW hyW hZW
    go_wp2_with (refine wpl_store4 rfl (.tmp 4) (.tmp 22) rfl (w.heap.size + 1 + 1) rfl rfl HZ ?_; intro V HV C)
    exact bodyPost_ret (end_arr2 rfl HV rfl rfl) rfl (hR.out _ _ (RetAE.zero E2.out E.out (C.below e1 (by omega))))
  have cb : (rightS x != 0) = false := by simp [c]
  by_cases d : rightS y = 0
  case neg =>
    have db : (rightS y != 0) = true := by simp [d]
    have E := hid (reshE_y (x := x) d)
    have E2 := hid (reshS_no (x := x) (y := y) (by rw [E.out]; omega))
    replace c := hid c
    replace d := hid d
    go_enter Try.func14, Try.ntmps14
    go_wp2_with fail
    generalize hEW : (((w).alloc (.cells #[.int .i64 x.kind, .slice sx x.shape.length cx, .slice nx x.nums.length mx, .slice ix x.items.length jx] 26)).alloc (.cells #[.int .i64 y.kind, .slice sy y.shape.length cy, .slice ny y.nums.length my, .slice iy y.items.length jy] 26)).alloc (.cells #[.int .i64 0, .slice none 0 0, .slice none 0 0, .slice none 0 0] 26) = W
    obtain ⟨hxW, hyW, hZW, heW, zW⟩ := boxes3 w hEW
    clear hEW
    refine (array_Right x _ _ _ _ _ _ _ W (h0.out.up heW)).mono ?_
    rintro e w1 ⟨rfl, hb1⟩
    have e1 := heW.trans hb1
    obtain ⟨y0, y1, y2, y3⟩ := (hyW.up hb1).all
    go_wp2_with fail
    refine (array_Right y _ _ _ _ _ _ _ w1 (g0.out.up e1)).mono ?_
    rintro e w2 ⟨rfl, hb2⟩
    have eX := Ext.trans hb1 hb2
    have e2 := heW.trans eX
    have HZ2 := hZW.up eX
    clear hb1 hb2 hxW hyW hZW y0 y1 y2 y3
    go_wp2_with (refine wpl_store4 rfl (.tmp 4) (.tmp 22) rfl (w.heap.size + 1 + 1) rfl rfl HZ2 ?_; intro V HV C)
    exact bodyPost_ret (end_arr2 rfl HV rfl rfl) rfl (hR.out _ _ (RetAE.zero E2.out E.out (C.below e2 (by omega))))
  have db : (rightS y != 0) = false := by simp [d]
  by_cases k : ndE x = 0
  case neg =>
    have kb : (ndE x != 0) = true := by simp [k]
    have E := hid (reshE_d c d k)
    have E2 := hid (reshS_no (x := x) (y := y) (by rw [E.out]; exact k))
    replace c := hid c
    replace d := hid d
    replace k := hid k
    go_enter Try.func14, Try.ntmps14
    go_wp2_with fail
    generalize hEW : (((w).alloc (.cells #[.int .i64 x.kind, .slice sx x.shape.length cx, .slice nx x.nums.length mx, .slice ix x.items.length jx] 26)).alloc (.cells #[.int .i64 y.kind, .slice sy y.shape.length cy, .slice ny y.nums.length my, .slice iy y.items.length jy] 26)).alloc (.cells #[.int .i64 0, .slice none 0 0, .slice none 0 0, .slice none 0 0] 26) = W
    obtain ⟨hxW, hyW, hZW, heW, zW⟩ := boxes3 w hEW
    clear hEW
    refine (array_Right x _ _ _ _ _ _ _ W (h0.out.up heW)).mono ?_
    rintro e w1 ⟨rfl, hb1⟩
    have e1 := heW.trans hb1
    obtain ⟨y0, y1, y2, y3⟩ := (hyW.up hb1).all
    go_wp2_with fail
    refine (array_Right y _ _ _ _ _ _ _ w1 (g0.out.up e1)).mono ?_
    rintro e w2 ⟨rfl, hb2⟩
    have eX := Ext.trans hb1 hb2
    have e2 := hid (heW.trans eX)
    have HX2 := hxW.up eX
    have HZ2 := hid (hZW.up eX)
    have A2 := hid (h0.out.up e2.out)
    obtain ⟨x0, x1, x2, x3⟩ := HX2.all
    clear hb1 hb2 hxW hyW hZW y0 y1 y2 y3 eX e1 HX2
    go_wp2_with fail
    refine (reshaping_Dims x _ _ _ _ _ _ _ w2 A2.out).mono ?_
    rintro e w3 ⟨da, dc, rfl, hd, hb3⟩
    have HZ3 := HZ2.out.up hb3
    have e3 := hid (e2.out.trans hb3)
    clear hb3 HZ2 e2 A2 x0 x1 x2 x3 hd
    go_wp2_with (refine wpl_store4 rfl (.tmp 4) (.tmp 30) rfl (w.heap.size + 1 + 1) rfl rfl HZ3 ?_; intro V HV C)
    exact bodyPost_ret (end_arr2 rfl HV rfl rfl) rfl (hR.out _ _ (RetAE.zero E2.out E.out (C.below e3.out (by omega))))
  have kb : (ndE x != 0) = false := by simp [k]
  have hsx := (ndE_zero k).2.2.2
  have hL := hid (ndL_yes k)
  have hv := hid (haveN_pos d)
  have hfk := hid (fromS_kind d)
  have hsz : Hid (sizeS x.nums = ((cnt x.nums).toNat : Int)) := hid (by have := (cnt_le hsx).1; rw [sizeS_true hsx]; omega)
  have hn6 : Hid ((cnt x.nums).toNat ≤ 65536) := hid (by have := (cnt_le hsx).2; omega)
  replace hsx := hid hsx
  obtain ⟨H, hH⟩ : ∃ H, H = haveN y := ⟨_, rfl⟩
  obtain ⟨n, hnn⟩ : ∃ n, n = (cnt x.nums).toNat := ⟨_, rfl⟩
  rw [← hnn] at hsz hn6
  replace hnn := hid hnn
  have hsF := hid (szN_from d)
  rw [← hH] at hsF hv
  have hzb := hid (szN_zero d)
  have hyk := (right_ok d).1
  replace c := hid c
  replace d := hid d
  replace k := hid k
  replace hyk := hid hyk
  replace hH := hid hH
  go_enter Try.func14, Try.ntmps14
  go_wp2_with fail
  generalize hEW : (((w).alloc (.cells #[.int .i64 x.kind, .slice sx x.shape.length cx, .slice nx x.nums.length mx, .slice ix x.items.length jx] 26)).alloc (.cells #[.int .i64 y.kind, .slice sy y.shape.length cy, .slice ny y.nums.length my, .slice iy y.items.length jy] 26)).alloc (.cells #[.int .i64 0, .slice none 0 0, .slice none 0 0, .slice none 0 0] 26) = W
  have E := hid (env3 w S hEW)
  clear hEW
  replace E := hid ((E.out.arg h0.out).arg g0.out)
  refine (array_Right x _ _ _ _ _ _ _ W (E.out.arr 3 rfl)).mono ?_
  rintro e w1 ⟨rfl, hb⟩
  obtain ⟨q00, q01, q02, q03⟩ := (E.out.hdr 0 rfl).all
  obtain ⟨q10, q11, q12, q13⟩ := (E.out.hdr 1 rfl).all
  replace E := hid (E.out.up hb)
  clear hb
  clear q00 q01 q02 q03
  obtain ⟨q00, q01, q02, q03⟩ := (E.out.hdr 0 rfl).all
  clear q10 q11 q12 q13
  obtain ⟨q10, q11, q12, q13⟩ := (E.out.hdr 1 rfl).all
  go_wp2_with fail
  refine (array_Right y _ _ _ _ _ _ _ w1 (E.out.arr 4 rfl)).mono ?_
  rintro e w2 ⟨rfl, hb⟩
  replace E := hid (E.out.up hb)
  clear hb
  clear q00 q01 q02 q03
  obtain ⟨q00, q01, q02, q03⟩ := (E.out.hdr 0 rfl).all
  clear q10 q11 q12 q13
  obtain ⟨q10, q11, q12, q13⟩ := (E.out.hdr 1 rfl).all
  go_wp2_with fail
  refine (reshaping_Dims x _ _ _ _ _ _ _ w2 (E.out.arr 3 rfl)).mono ?_
  rintro e w3 ⟨da, dc, rfl, hd, hb⟩
  rw [hL.out] at hd
  rw [hL.out]
  replace E := hid ((E.out.up hb).addIntsF (u := w2) ((hd.ints xnl).mono fun b _ hq => hq.1) E.out.blt E.out.size)
  clear hd hb
  clear q00 q01 q02 q03 q10 q11 q12 q13
  obtain ⟨q10, q11, q12, q13⟩ := (E.out.hdr 1 rfl).all
  go_wp2_with (refine wpl_store4 rfl (.tmp 8) (.tmp 32) rfl _ rfl rfl ((E.out.alloc _).hdr 6 rfl) ?_; intro V1 HV1 C1; replace E := hid ((E.out.alloc _).chg 6 rfl C1 HV1); clear q10 q11 q12 q13 C1 HV1; obtain ⟨q10, q11, q12, q13⟩ := (E.out.hdr 1 rfl).all)
  generalize w3.heap.size = bf at *
  refine (size_array_Size y _ _ _ _ _ _ _ _ (E.out.arr 4 rfl)).mono ?_
  rintro e w4 ⟨rfl, hb⟩
  replace E := hid (E.out.up hb)
  clear hb
  clear q10 q11 q12 q13
  obtain ⟨q10, q11, q12, q13⟩ := (E.out.hdr 1 rfl).all
  go_upto_if 35 with (fail)
  obtain ⟨F, hF⟩ : ∃ F, F = fromS y := ⟨_, rfl⟩
  rw [← hF] at hfk hsF
  go_cut [] (fun wc => ∃ fa fc fn fnc fi fic, Env w S wc [.obj w.heap.size (.cells #[.int .i64 x.kind, .slice sx x.shape.length cx, .slice nx x.nums.length mx, .slice ix x.items.length jx] 26 (0, 0)), .obj (w.heap.size + 1) (.cells #[.int .i64 y.kind, .slice sy y.shape.length cy, .slice ny y.nums.length my, .slice iy y.items.length jy] 26 (0, 0)), .obj (w.heap.size + 1 + 1) (.cells #[.int .i64 0, .slice none 0 0, .slice none 0 0, .slice none 0 0] 26 (0, 0)), .arr x sx nx ix, .arr y sy ny iy, .intsF x.nums da, .obj bf (.cells #[.int .i64 F.kind, .slice fa F.shape.length fc, .slice fn F.nums.length fnc, .slice fi F.items.length fic] 26 (0, 0)), .arr F fa fn fi])
  case first =>
    by_cases z : y.nums.length + y.items.length = 0
    case pos =>
      have zb : (((szN y.kind y.nums.length y.items.length : Nat) : Int) == 0) = true := by rw [hzb.out]; simpa using z
      have hFF : F = fillS y := by rw [hF]; exact if_pos z
      replace hF := hid hF
      replace hFF := hid hFF
      replace z := hid z
      go_wp2_with fail
      refine (fill_array_Fill y _ _ _ _ _ _ w4).mono ?_
      rintro e w5 ⟨fa, fc, fn, fnc, fi, fic, rfl, aF, hb⟩
      rw [← hFF.out] at aF
      rw [← hFF.out]
      replace E := hid ((E.out.up hb).addArr aF (fun b _ hq => E.out.fresh (Ext.refl _) hq))
      clear q10 q11 q12 q13
      go_wp2_with (refine wpl_store4 rfl (.tmp 8) (.tmp 37) rfl _ rfl rfl (E.out.hdr 6 rfl) ?_; intro V1 HV1 C1; replace E := hid (E.out.chg 6 rfl C1 HV1))
      go_meet
      case rel => exact ⟨fa, fc, fn, fnc, fi, fic, E.out⟩
    case neg =>
      have zb : (((szN y.kind y.nums.length y.items.length : Nat) : Int) == 0) = false := by rw [hzb.out]; simpa using z
      have hFF : F = y := by rw [hF]; exact if_neg z
      replace hF := hid hF
      replace z := hid z
      go_wp2_with fail
      go_meet
      case rel => 
        subst hFF
        exact ⟨sy, cy, ny, my, iy, jy, E.out.addArr (E.out.arr 4 rfl) (fun _ _ h => h)⟩
  case rest =>
  obtain ⟨fa, fc, fn, fnc, fi, fic, E⟩ := hcut
  replace hF := hid hF
  replace E := hid E
  clear q10 q11 q12 q13
  obtain ⟨q10, q11, q12, q13⟩ := (E.out.hdr 1 rfl).all
  obtain ⟨q60, q61, q62, q63⟩ := (E.out.hdr 6 rfl).all
  go_wp2_with (refine wpl_store4 rfl (.tmp 9) (.tmp 41) rfl _ rfl rfl ((E.out.alloc _).hdr 8 rfl) ?_; intro V1 HV1 C1; replace E := hid ((E.out.alloc _).chg 8 rfl C1 HV1); clear q10 q11 q12 q13 q60 q61 q62 q63 C1 HV1; obtain ⟨q60, q61, q62, q63⟩ := (E.out.hdr 6 rfl).all)
  obtain ⟨bo, hbo⟩ : ∃ bo, bo = wc.heap.size := ⟨_, rfl⟩
  rw [← hbo] at E
  rw [← hbo]
  clear hbo
  refine (size_array_Size F _ _ _ _ _ _ _ _ (E.out.arr 7 rfl)).mono ?_
  rintro e w5 ⟨rfl, hb⟩
  rw [hsF.out]
  replace E := hid (E.out.up hb)
  clear hb
  clear q60 q61 q62 q63
  obtain ⟨q60, q61, q62, q63⟩ := (E.out.hdr 6 rfl).all
  go_wp2_with fail
  refine (shape_Size x.nums _ _ _ w5 ((E.out.intsF 5 rfl))).mono ?_
  rintro e w6 ⟨rfl, rfl⟩
  rw [hsz.out]
  go_wp2_with fail
  clear q60 q61 q62 q63
  by_cases k3 : y.kind = 3
  case pos =>
    have k3b : (y.kind != 3) = false := by simp [k3]
    have hHn : Hid (H = F.items.length) := hid (by rw [hH.out, haveN, if_pos k3, hF.out])
    have hFi : F.items.length ≤ 1759218604441 := (E.out.arr 7 rfl).len
    have hEo : Hid (262144 < rwS F.items H n → reshE x y = 21) := hid (fun q => reshE_w c.out d.out k.out k3 (by rw [← hF.out, ← hH.out, ← hnn.out]; exact q))
    have hEz : Hid (rwS F.items H n ≤ 262144 → reshE x y = 0 ∧ reshS x y = .mk y.kind x.nums [] (pickA F.items (modF H) n)) := hid (fun q => by
      have e0 := reshE_0 c.out d.out k.out (fun _ => by rw [← hF.out, ← hH.out, ← hnn.out]; exact q)
      exact ⟨e0, by rw [reshS_yes e0, gathS_A (by rw [← hF.out, hfk.out]; exact k3), ← hF.out, ← hnn.out, ← hH.out, k3]⟩)
    replace k3 := hid k3
    replace E := hid E.out.row0AF
    go_loopw [10, 46] (fun g i wr => ∃ (m : Nat) (ra : Option Addr) (rc : Nat), m ≤ n ∧ i = .int .i64 m ∧ g = .int .i64 (rwS F.items H m) ∧ rwS F.items H m ≤ 262144 ∧ Env w S wr [.obj w.heap.size (.cells #[.int .i64 x.kind, .slice sx x.shape.length cx, .slice nx x.nums.length mx, .slice ix x.items.length jx] 26 (0, 0)), .obj (w.heap.size + 1) (.cells #[.int .i64 y.kind, .slice sy y.shape.length cy, .slice ny y.nums.length my, .slice iy y.items.length jy] 26 (0, 0)), .obj (w.heap.size + 1 + 1) (.cells #[.int .i64 0, .slice none 0 0, .slice none 0 0, .slice none 0 0] 26 (0, 0)), .arr x sx nx ix, .arr y sy ny iy, .intsF x.nums da, .obj bf (.cells #[.int .i64 F.kind, .slice fa F.shape.length fc, .slice fn F.nums.length fnc, .slice fi F.items.length fic] 26 (0, 0)), .arr F fa fn fi, .obj bo (.cells #[.int .i64 y.kind, .slice da x.nums.length dc, .slice none 0 0, .slice ra (pickA F.items (modF H) m).length rc] 26 (0, 0)), .rowAF ra rc (pickA F.items (modF H) m)]) (fun _ i _ => n - (intOf i).toNat)
    case atStart => exact ⟨0, none, 0, Nat.zero_le _, rfl, rfl, by simp [rwS], E.out⟩
    case round =>
      obtain ⟨m, ra, rc, hm, rfl, rfl, hw, E⟩ := hrel
      replace E := hid E
      have hn7 : n ≤ 65536 := hn6.out
      by_cases hlt : m < n
      · have hml : m % H < F.items.length := by rw [← hHn.out]; exact Nat.mod_lt _ hv.out
        obtain ⟨b', off', sz, cz, nz, mz, iz, jz, hna, hSb', hbl', e0, e1, e2, e3, hz⟩ := (E.out.arr 7 rfl).items.at hml
        subst hna
        have hPs := hid (pickA_succ F.items (modF H) m)
        have hPl := hid (pickA_len F.items (modF H) m)
        have hix : (modF H m).toNat = m % H := by unfold modF; omega
        have hgd : F.items.getD (m % H) .zero = F.items[m % H] := by simp [hml]
        have hrs : rwS F.items H (m + 1) = rwS F.items H m + (1 + wtS F.items[m % H]) := by rw [← hgd]; rfl
        have hw0 := (rwS_bd F.items H m)
        have hmo := rwS_mono F.items H (show m + 1 ≤ n by omega)
        rw [hix, hgd] at hPs
        clear hix hgd
        have hmod : ((m : Nat) : Int).tmod (H : Int) = ((m % H : Nat) : Int) := rfl
        have hH0 : ((H : Int) == 0) = false := by have := hv.out; simp; omega
        have hH1 : ¬ (H : Int) = 0 := by have := hv.out; omega
        have hH2 : ¬ H = 0 := by have := hv.out; omega
        generalize F.items[m % H] = z at hPs hrs e0 e1 e2 e3 hz
        generalize m % H = t at hml hmod e0 e1 e2 e3
        have hz0 := wtS_bd z
        replace hrs := hid hrs
        have hov : Hid (262144 < rwS F.items H m + (1 + wtS z) → reshE x y = 21) := hid (fun q => hEo.out (by have := hrs.out; omega))
        have tt0 : (0 : Int) ≤ (t : Int) := by omega
        have tt1 : (t : Int) < (F.items.length : Int) := by omega
        replace E := hid (E.out.addArr hz (fun _ _ h => h))
        clear hmo hz
        obtain ⟨q10, q11, q12, q13⟩ := (E.out.hdr 1 rfl).all
        obtain ⟨q60, q61, q62, q63⟩ := (E.out.hdr 6 rfl).all
        obtain ⟨q80, q81, q82, q83⟩ := (E.out.hdr 8 rfl).all
        go_upto_region 16 with (fail)
        refine wp_region_mono_tail 8 (Sees wr [(⟨bf, 3, none⟩, .slice (some ⟨b', off', none⟩) F.items.length fic), (⟨b', off' + t * 4, none⟩, .int .i64 z.kind), (⟨b', off' + t * 4 + 1, none⟩, .slice sz z.shape.length cz), (⟨b', off' + t * 4 + 2, none⟩, .slice nz z.nums.length mz), (⟨b', off' + t * 4 + 3, none⟩, .slice iz z.items.length jz)]) [7] (fun k v u u' => match k with | 7 => v = .pointer (some ⟨u.heap.size, 0, none⟩) ∧ u' = u.alloc (.cells #[.int .i64 0, .slice none 0 0, .slice none 0 0, .slice none 0 0] 26) | _ => False) (fun _ _ h e => h.up e) (Sees.start (all_cons (q63) (all_cons (e0) (all_cons (e1) (all_cons (e2) (all_cons (e3) (all_nil))))))) (by kernel_rfl) (by kernel_rfl) ?_
        simp only [List.take_succ_cons, List.take_zero, List.drop_succ_cons, List.drop_zero]
        repeat (first | (refine m_plain (v := ?_) (by rfl) (by rfl) ?_ ?_; rotate_left; (intro wz hSw; obtain ⟨-, hSc⟩ := hSw; (try simp only [List.forall_mem_cons, List.forall_mem_nil, and_true] at hSc); go_simp; (first | done | with_reducible rfl)); (intro K hK; (try simp only [Act.put, List.setIfInBounds_toArray, List.set_cons_zero, List.set_cons_succ]); refine hK _ _ ?_; clear hK K)) | (refine m_skip (by rfl) (by rfl) ?_; (intro K hK; (try simp only [Act.put, List.setIfInBounds_toArray, List.set_cons_zero, List.set_cons_succ]); refine hK _ _ ?_; clear hK K)))
        refine m_make (by rfl) (by rfl) ?_ ?_
        · intro wz hSw hdep R hRz
          obtain ⟨hSe, hSc⟩ := hSw
          (try simp only [List.forall_mem_cons, List.forall_mem_nil, and_true] at hSc)
          unfold does
          (go_simp; exact hRz.out _ _ ⟨ext_alloc _ _, rfl, rfl⟩)
        intro v7 u7 x7 hG7 K hK
        have hF7 := hG7.fact
        (try dsimp only at hF7)
        obtain ⟨rfl, rfl⟩ := hF7
        (try simp only [Act.put, List.setIfInBounds_toArray, List.set_cons_zero, List.set_cons_succ]); refine hK _ _ ?_; clear hK K
        repeat (first | (refine m_plain (v := ?_) (by rfl) (by rfl) ?_ ?_; rotate_left; (intro wz hSw; obtain ⟨-, hSc⟩ := hSw; (try simp only [List.forall_mem_cons, List.forall_mem_nil, and_true] at hSc); go_simp; (first | done | with_reducible rfl)); (intro K hK; (try simp only [Act.put, List.setIfInBounds_toArray, List.set_cons_zero, List.set_cons_succ]); refine hK _ _ ?_; clear hK K)) | (refine m_skip (by rfl) (by rfl) ?_; (intro K hK; (try simp only [Act.put, List.setIfInBounds_toArray, List.set_cons_zero, List.set_cons_succ]); refine hK _ _ ?_; clear hK K)))
        refine m_nil ?_
        intro wf hSf hAf
        replace E := hid (E.out.made hG7.s.1 (hAf 7 _ rfl) hSf.1)
        clear hSf hAf hG7 q10 q11 q12 q13 q60 q61 q62 q63 q80 q81 q82 q83 e0 e1 e2 e3
        generalize u7.heap.size = bz at *
        refine wpl_store4 rfl (.tmp 13) (.tmp 70) rfl _ rfl rfl (E.out.hdr 11 rfl) ?_
        intro V1 H1 C1
        replace E := hid (E.out.chg 11 rfl C1 H1)
        clear H1 C1
        obtain ⟨q110, q111, q112, q113⟩ := (E.out.hdr 11 rfl).all
        go_wp2_with fail
        refine (array_Weight z _ _ _ _ _ _ _ V1 (E.out.arr 10 rfl)).mono ?_
        rintro e w7 ⟨rfl, hb⟩
        clear q110 q111 q112 q113
        replace E := hid (E.out.up hb)
        clear hb
        by_cases hov2 : 262144 < rwS F.items H m + (1 + wtS z)
        · have hE := hid (hov.out hov2)
          have hS := hid (reshS_no (x := x) (y := y) (by rw [hE.out]; omega))
          go_wp2_with (refine wpl_store4 rfl (.tmp 4) (.tmp 78) rfl _ rfl rfl (E.out.hdr 2 rfl) ?_; intro V2 H2 C2; replace E := hid (E.out.chg 2 rfl C2 H2))
          exact bodyPost_ret (end_arr2 rfl H2 rfl rfl) rfl (hR.out _ _ (RetAE.zero hS.out hE.out E.out.ext))
        · obtain ⟨q110, q111, q112, q113⟩ := (E.out.hdr 11 rfl).all
          obtain ⟨q80, q81, q82, q83⟩ := (E.out.hdr 8 rfl).all
          go_upto_region 20 with (fail)
          refine wp_region_mono_tail 5 (Sees w7 [(⟨bo, 3, none⟩, .slice ra (pickA F.items (modF H) m).length rc), (⟨bz, 0, none⟩, .int .i64 z.kind), (⟨bz, 1, none⟩, .slice sz z.shape.length cz), (⟨bz, 2, none⟩, .slice nz z.nums.length mz), (⟨bz, 3, none⟩, .slice iz z.items.length jz)]) [3, 4] (fun k v u u' => match k with | 3 => RetA u (fun b => w7.heap.size ≤ b) z (.returned v) u' | 4 => ∃ sa sc na nc ia ic, v = .slice (some ⟨u.heap.size, 0, none⟩) 1 1 ∧ u' = u.alloc (.cells #[.int .i64 z.kind, .slice sa z.shape.length sc, .slice na z.nums.length nc, .slice ia z.items.length ic] 26) ∧ ArrAt u (fun b => w7.heap.size ≤ b) z sa na ia | _ => False) (fun _ _ h e => h.up e) (Sees.start (all_cons (q83) (all_cons (q110) (all_cons (q111) (all_cons (q112) (all_cons (q113) (all_nil))))))) (by kernel_rfl) (by kernel_rfl) ?_
          simp only [List.take_succ_cons, List.take_zero, List.drop_succ_cons, List.drop_zero]
          repeat (first | (refine m_plain (v := ?_) (by rfl) (by rfl) ?_ ?_; rotate_left; (intro wz hSw; obtain ⟨-, hSc⟩ := hSw; (try simp only [List.forall_mem_cons, List.forall_mem_nil, and_true] at hSc); go_simp; (first | done | with_reducible rfl)); (intro K hK; (try simp only [Act.put, List.setIfInBounds_toArray, List.set_cons_zero, List.set_cons_succ]); refine hK _ _ ?_; clear hK K)) | (refine m_skip (by rfl) (by rfl) ?_; (intro K hK; (try simp only [Act.put, List.setIfInBounds_toArray, List.set_cons_zero, List.set_cons_succ]); refine hK _ _ ?_; clear hK K)))
          refine m_make (by rfl) (by rfl) ?_ ?_
          · intro wz hSw hdep R hRz
            obtain ⟨hSe, hSc⟩ := hSw
            (try simp only [List.forall_mem_cons, List.forall_mem_nil, and_true] at hSc)
            unfold does
            (go_simp; refine Calls.mono (array_Clone z _ _ _ _ _ _ _ wz ((E.out.arr 10 rfl).up hSe)) ?_; rintro e wq ⟨ta, tc, tn, tnc, ti, tic, rfl, hq, hqb⟩; exact ⟨_, rfl, hRz.out _ _ ⟨hqb, ta, tc, tn, tnc, ti, tic, rfl, ArrAt.mono (fun b _ hb => Nat.le_trans (Below.size hSe) hb) z hq, hqb⟩⟩)
          intro v3 u3 x3 hG3 K hK
          have hF3 := hG3.fact
          (try dsimp only at hF3)
          obtain ⟨s3, c3, n3, m3, i3, j3, he, hA3, hb3⟩ := hF3
          injection he with he
          subst he
          (try simp only [Act.put, List.setIfInBounds_toArray, List.set_cons_zero, List.set_cons_succ]); refine hK _ _ ?_; clear hK K
          repeat (first | (refine m_plain (v := ?_) (by rfl) (by rfl) ?_ ?_; rotate_left; (intro wz hSw; obtain ⟨-, hSc⟩ := hSw; (try simp only [List.forall_mem_cons, List.forall_mem_nil, and_true] at hSc); go_simp; (first | done | with_reducible rfl)); (intro K hK; (try simp only [Act.put, List.setIfInBounds_toArray, List.set_cons_zero, List.set_cons_succ]); refine hK _ _ ?_; clear hK K)) | (refine m_skip (by rfl) (by rfl) ?_; (intro K hK; (try simp only [Act.put, List.setIfInBounds_toArray, List.set_cons_zero, List.set_cons_succ]); refine hK _ _ ?_; clear hK K)))
          refine m_make (by rfl) (by rfl) ?_ ?_
          · intro wz hSw hdep R hRz
            obtain ⟨hSe, hSc⟩ := hSw
            (try simp only [List.forall_mem_cons, List.forall_mem_nil, and_true] at hSc)
            unfold does
            (go_simp; exact hRz.out _ _ ⟨ext_alloc _ _, s3, c3, n3, m3, i3, j3, rfl, rfl, hA3.up (hdep 3 _ rfl (depB_sound (f := 60) (by kernel_rfl)))⟩)
          intro v4 u4 x4 hG4 K hK
          have hF4 := hG4.fact
          (try dsimp only at hF4)
          obtain ⟨s4, c4, n4, m4, i4, j4, rfl, rfl, hA4⟩ := hF4
          (try simp only [Act.put, List.setIfInBounds_toArray, List.set_cons_zero, List.set_cons_succ]); refine hK _ _ ?_; clear hK K
          repeat (first | (refine m_plain (v := ?_) (by rfl) (by rfl) ?_ ?_; rotate_left; (intro wz hSw; obtain ⟨-, hSc⟩ := hSw; (try simp only [List.forall_mem_cons, List.forall_mem_nil, and_true] at hSc); go_simp; (first | done | with_reducible rfl)); (intro K hK; (try simp only [Act.put, List.setIfInBounds_toArray, List.set_cons_zero, List.set_cons_succ]); refine hK _ _ ?_; clear hK K)) | (refine m_skip (by rfl) (by rfl) ?_; (intro K hK; (try simp only [Act.put, List.setIfInBounds_toArray, List.set_cons_zero, List.set_cons_succ]); refine hK _ _ ?_; clear hK K)))
          refine m_nil ?_
          intro wf hSf hAf
          have oF := hid (box_items (hAf 4 _ rfl) (Below.size hG4.s.1) hA4)
          have hfr : Hid (∀ b, b < wf.heap.size → w7.heap.size ≤ b → Tst w S _ b ∧ w.heap.size ≤ b) := hid (fun b _ hb => ⟨E.out.fresh (Ext.refl _) hb, Nat.le_trans E.out.size hb⟩)
          replace E := hid (E.out.up hSf.1)
          clear hSf hAf hG3 hG4 hA3 hA4 hb3 q110 q111 q112 q113 q80 q81 q82 q83
          refine wplE_addAF E.out 8 9 rfl rfl (by decide) rfl rfl rfl (.tmp 80) (.tmp 83) (.tmp 9) (.tmp 85) (.tmp 84) rfl rfl rfl _ _ 1 [z] rfl rfl oF.out hfr.out (by rw [hPl.out]; simp; omega) (fun _ => rfl) (fun _ _ => rfl) (fun _ _ => rfl) ?_
          intro V na' nc' E'
          clear E oF hfr
          have E := hid E'
          clear E'
          go_wp2_with fail
          go_roundw
          case rel => exact ⟨m + 1, na', nc', by omega, by go_num, by rw [hrs.out], by rw [hrs.out]; omega, by rw [hPs.out]; exact E.out.sub (by simp [List.Sublist.refl])⟩
          case measure => simp [intOf]; omega
      · have hmn : m = n := by omega
        subst hmn
        have hz := hEz.out hw
        have hE := hid hz.1
        have hS := hid hz.2
        clear hz
        go_wp2_with (first
          | (refine wpl_load4 rfl (.tmp 9) rfl bo rfl (E.out.hdr 8 rfl) ?_)
          | (refine wpl_store4 rfl (.tmp 4) (.tmp 87) rfl _ rfl rfl (E.out.hdr 2 rfl) ?_; intro V2 H2 C2; replace E := hid (E.out.chg 2 rfl C2 H2)))
        replace E := hid (E.out.doneAF 9 rfl)
        refine bodyPost_ret (end_arr2 rfl H2 rfl rfl) rfl (hR.out _ _ ?_)
        refine RetAE.of hS.out hE.out ((E.out.intsF 5 rfl).mono fun b _ h => h.2) (IntsAt.nil _ _ _) (by rw [pickA_len]; omega) ((E.out.itemsF 9 rfl).mono fun b _ h => h.2) E.out.ext
  have k3b : (y.kind != 3) = true := by simp [k3]
  have hHn : Hid (H = F.nums.length) := hid (by rw [hH.out, haveN, if_neg k3, hF.out])
  have hE := hid (reshE_0 c.out d.out k.out (fun q => absurd q k3))
  have hEq : Hid (reshS x y = .mk y.kind x.nums (pickN F.nums (modF H) n) []) := hid (by rw [reshS_yes hE.out, gathS_N (by rw [← hF.out, hfk.out]; exact k3), ← hF.out, hfk.out, ← hnn.out, ← hH.out])
  replace k3 := hid k3
  replace E := hid E.out.row0I
  go_loopw [46] (fun i wr => ∃ (m : Nat) (ra : Option Addr) (rc : Nat), m ≤ n ∧ i = .int .i64 m ∧ Env w S wr [.obj w.heap.size (.cells #[.int .i64 x.kind, .slice sx x.shape.length cx, .slice nx x.nums.length mx, .slice ix x.items.length jx] 26 (0, 0)), .obj (w.heap.size + 1) (.cells #[.int .i64 y.kind, .slice sy y.shape.length cy, .slice ny y.nums.length my, .slice iy y.items.length jy] 26 (0, 0)), .obj (w.heap.size + 1 + 1) (.cells #[.int .i64 0, .slice none 0 0, .slice none 0 0, .slice none 0 0] 26 (0, 0)), .arr x sx nx ix, .arr y sy ny iy, .intsF x.nums da, .obj bf (.cells #[.int .i64 F.kind, .slice fa F.shape.length fc, .slice fn F.nums.length fnc, .slice fi F.items.length fic] 26 (0, 0)), .arr F fa fn fi, .obj bo (.cells #[.int .i64 y.kind, .slice da x.nums.length dc, .slice ra (pickN F.nums (modF H) m).length rc, .slice none 0 0] 26 (0, 0)), .rowI ra rc (pickN F.nums (modF H) m)])  (fun i _ => n - (intOf i).toNat)
  case atStart => exact ⟨0, none, 0, Nat.zero_le _, rfl, E.out⟩
  case round =>
    obtain ⟨m, ra, rc, hm, rfl, E⟩ := hrel
    replace E := hid E
    have hn7 : n ≤ 65536 := hn6.out
    by_cases hlt : m < n
    · have hml : m % H < F.nums.length := by rw [← hHn.out]; exact Nat.mod_lt _ hv.out
      obtain ⟨b', off', hna, hbl', hSb', hc'⟩ := (E.out.arr 7 rfl).nums.at hml
      subst hna
      have hPs := hid (pickN_succ F.nums (modF H) m)
      have hPl := hid (pickN_len F.nums (modF H) m)
      have hix : (modF H m).toNat = m % H := by unfold modF; omega
      rw [hix] at hPs
      clear hix
      have hmod : ((m : Nat) : Int).tmod (H : Int) = ((m % H : Nat) : Int) := rfl
      have hH0 : ((H : Int) == 0) = false := by have := hv.out; simp; omega
      have hH1 : ¬ (H : Int) = 0 := by have := hv.out; omega
      have hH2 : ¬ H = 0 := by have := hv.out; omega
      generalize F.nums.getD (m % H) 0 = dd at hPs hc'
      generalize m % H = t at hml hPs hc' hmod
      have tt0 : (0 : Int) ≤ (t : Int) := by omega
      have tt1 : (t : Int) < (F.nums.length : Int) := by omega
      obtain ⟨q10, q11, q12, q13⟩ := (E.out.hdr 1 rfl).all
      obtain ⟨q60, q61, q62, q63⟩ := (E.out.hdr 6 rfl).all
      obtain ⟨q80, q81, q82, q83⟩ := (E.out.hdr 8 rfl).all
      go_upto_region 15 with (fail)
      have q5 := q82
      refine wp_region_mono_tail 10 (Sees wr [(⟨bo, 2, none⟩, .slice ra (pickN F.nums (modF H) m).length rc), (⟨bf, 2, none⟩, .slice (some ⟨b', off', none⟩) F.nums.length fnc), (⟨b', off' + t, none⟩, .int .i64 dd)]) [9] (fun k v u u' => match k with | 9 => v = .slice (some ⟨u.heap.size, 0, none⟩) 1 1 ∧ u' = u.alloc (.cells (([dd] : List Int).map (Value.int .i64)).toArray 3) | _ => False) (fun _ _ h e => h.up e) (Sees.start (all_cons (q82) (all_cons (q62) (all_cons (hc') (all_nil))))) (by kernel_rfl) (by kernel_rfl) ?_
      simp only [List.take_succ_cons, List.take_zero, List.drop_succ_cons, List.drop_zero]
      repeat (first | (refine m_plain (v := ?_) (by rfl) (by rfl) ?_ ?_; rotate_left; (intro wz hSw; obtain ⟨-, hSc⟩ := hSw; (try simp only [List.forall_mem_cons, List.forall_mem_nil, and_true] at hSc); go_simp; (first | done | with_reducible rfl)); (intro K hK; (try simp only [Act.put, List.setIfInBounds_toArray, List.set_cons_zero, List.set_cons_succ]); refine hK _ _ ?_; clear hK K)) | (refine m_skip (by rfl) (by rfl) ?_; (intro K hK; (try simp only [Act.put, List.setIfInBounds_toArray, List.set_cons_zero, List.set_cons_succ]); refine hK _ _ ?_; clear hK K)))
      refine m_make (by rfl) (by rfl) ?_ ?_
      · intro wz hSw hdep R hRz
        obtain ⟨hSe, hSc⟩ := hSw
        (try simp only [List.forall_mem_cons, List.forall_mem_nil, and_true] at hSc)
        unfold does
        (go_simp; exact hRz.out _ _ ⟨ext_alloc _ _, rfl, rfl⟩)
      intro v9 u9 x9 hG9 K hK
      have hF9 := hG9.fact
      (try dsimp only at hF9)
      obtain ⟨rfl, rfl⟩ := hF9
      (try simp only [Act.put, List.setIfInBounds_toArray, List.set_cons_zero, List.set_cons_succ]); refine hK _ _ ?_; clear hK K
      repeat (first | (refine m_plain (v := ?_) (by rfl) (by rfl) ?_ ?_; rotate_left; (intro wz hSw; obtain ⟨-, hSc⟩ := hSw; (try simp only [List.forall_mem_cons, List.forall_mem_nil, and_true] at hSc); go_simp; (first | done | with_reducible rfl)); (intro K hK; (try simp only [Act.put, List.setIfInBounds_toArray, List.set_cons_zero, List.set_cons_succ]); refine hK _ _ ?_; clear hK K)) | (refine m_skip (by rfl) (by rfl) ?_; (intro K hK; (try simp only [Act.put, List.setIfInBounds_toArray, List.set_cons_zero, List.set_cons_succ]); refine hK _ _ ?_; clear hK K)))
      refine m_nil ?_
      intro wf hSf hAf
      have oF : Hid (IntsAt wf (fun b => u9.heap.size ≤ b) (some ⟨u9.heap.size, 0, none⟩) [dd]) := hid (lit_at (l := [dd]) (hAf 9 _ rfl) (by simp))
      replace E := hid (E.out.up hSf.1)
      clear hSf hAf hG9 q10 q11 q12 q13 q60 q61 q62 q63 q80 q81 q82 q83 q5
      refine wplE_addN E.out 8 9 rfl rfl (by decide) rfl rfl rfl (.tmp 53) (.tmp 61) (.tmp 9) (.tmp 63) (.tmp 62) rfl rfl rfl _ _ 1 [dd] rfl rfl oF.out (by rw [hPl.out]; have := hn6.out; simp; omega) (fun _ => rfl) (fun _ _ => rfl) (fun _ _ => rfl) ?_
      intro V na' nc' E'
      clear E oF
      have E := hid E'
      clear E'
      go_wp2_with fail
      go_roundw
      case rel => exact ⟨m + 1, na', nc', by omega, by go_num, by rw [hPs.out]; exact E.out⟩
      case measure => simp [intOf]; omega
    · have hmn : m = n := by omega
      subst hmn
      go_wp2_with (first
        | (refine wpl_load4 rfl (.tmp 9) rfl bo rfl (E.out.hdr 8 rfl) ?_)
        | (refine wpl_store4 rfl (.tmp 4) (.tmp 87) rfl _ rfl rfl (E.out.hdr 2 rfl) ?_; intro V2 H2 C2; replace E := hid (E.out.chg 2 rfl C2 H2)))
      replace E := hid (E.out.doneIF 9 rfl (by rw [pickN_len]; have := hn6.out; omega))
      refine bodyPost_ret (end_arr2 rfl H2 rfl rfl) rfl (hR.out _ _ ?_)
      refine RetAE.of hEq.out hE.out ((E.out.intsF 5 rfl).mono fun b _ h => h.2) ((E.out.intsF 9 rfl).mono fun b _ h => h.2) (Nat.zero_le _) (by simp only [ItemsAt]) E.out.ext
end Go.Proofs.Ytolnbmmkpmajdaa
