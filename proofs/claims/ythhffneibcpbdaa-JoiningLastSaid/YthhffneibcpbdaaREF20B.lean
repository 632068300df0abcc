/- ref20.extended: contract. Conditions: the arrays are right and read; a slice's capacity is at least its length. -/
import Derived.Test.YthhffneibcpbdaaREF20A
import Derived.Test.YthhffneibcpbdaaPCELL
import Derived.Deep.CutRange
import Derived.Deep.DeepCutAuto
set_option linter.unusedVariables false
set_option linter.unusedSimpArgs false
namespace Go.Proofs.Ythhffneibcpbdaa
open Go.RowKit Go.Sort
attribute [local go_sem ↓] run_max2 run_min2
attribute [local go_sem] eql_ints_nil eql_arrs_nil
theorem wpl_buildL {ops : Array Oper} {rest : List Oper} {o : Oper} {a : Act} {Q : Exit → Act → World → Prop} {w : World} (hgd : o.guard = none) (d : Int) (ho : o.op = .buildSlice 23 1 #[(0, .const (.int .i64 d))])
    (h : wpList Try.prog ops Q rest (a.put o.dst (.slice (some ⟨w.heap.size, 0, none⟩) 1 1)) (w.alloc (.cells #[.int .i64 d] 3))) : wpList Try.prog ops Q (o :: rest) a w := by
  refine wpList_plain hgd fun K hK => ?_
  have := hK _ _ h
  unfold Oper.wp execOp
  simp only [ho]
  simp [go_sem]
  exact this
/-- what the reference extends an argument to -/
def extE (last : Bool) (x y : Arr) : Int := if x.shape.length ≠ 0 ∧ x.shape.length + 1 < jR x y then 15 else if x.shape.length = 0 ∧ x.kind = 3 ∧ 262144 < exW x (jA last x y) then 21 else 0
def extA (last : Bool) (x y : Arr) : Arr := .mk x.kind (jA last x y) (exL x.shape (cnt (jA last x y)).toNat x.nums) (exL x.shape (cnt (jA last x y)).toNat x.items)
def extS (last : Bool) (x y : Arr) : Arr := if extE last x y = 0 then extA last x y else .zero
theorem extS_no {last : Bool} {x y : Arr} (h : extE last x y ≠ 0) : extS last x y = .zero := if_neg h
theorem extS_yes {last : Bool} {x y : Arr} (h : extE last x y = 0) : extS last x y = extA last x y := if_pos h
theorem ext_same {last : Bool} {x y : Arr} (h : x.shape.length = jR x y) : extE last x y = 0 ∧ extS last x y = x := by
  have hr : 1 ≤ jR x y := by unfold jR; omega
  have hA : jA last x y = x.shape := by unfold jA extSh; rw [if_neg (by omega), if_neg (by omega)]
  have e0 : extE last x y = 0 := by unfold extE; rw [if_neg (by omega), if_neg (by omega)]
  refine ⟨e0, ?_⟩
  rw [extS_yes e0, extA, hA]
  unfold exL
  rw [if_neg (by omega), if_neg (by omega)]
  exact Arr.eta x
theorem ext_far {last : Bool} {x y : Arr} (h0 : x.shape.length ≠ 0) (h : x.shape.length ≠ jR x y) (h1 : x.shape.length + 1 ≠ jR x y) : extE last x y = 15 := by
  have : x.shape.length ≤ jR x y := by unfold jR; omega
  exact if_pos ⟨h0, by omega⟩
theorem ext_one {last : Bool} {x y : Arr} (h0 : x.shape.length ≠ 0) (h1 : x.shape.length + 1 = jR x y) : extE last x y = 0 ∧ extS last x y = .mk x.kind (x.shape.take (jX last x y) ++ 1 :: x.shape.drop (jX last x y)) x.nums x.items := by
  have hA : jA last x y = x.shape.take (jX last x y) ++ 1 :: x.shape.drop (jX last x y) := by unfold jA extSh; rw [if_neg (by omega), if_pos (by omega)]
  have e0 : extE last x y = 0 := by unfold extE; rw [if_neg (by omega), if_neg (by omega)]
  refine ⟨e0, ?_⟩
  rw [extS_yes e0, extA, hA]
  unfold exL
  rw [if_neg h0, if_neg h0]
theorem ext_zero {last : Bool} {x y : Arr} (hx : rightS x = 0) (hs : shapeB (jA last x y) = true) (h0 : x.shape.length = 0) : extE last x y = ofE (jA last x y) x ∧ extS last x y = ofS (jA last x y) x := by
  have e1 : extE last x y = ofE (jA last x y) x := by
    rw [of_scalar hx h0 hs]
    unfold extE
    rw [if_neg (by omega)]
    simp only [h0, true_and]
  refine ⟨e1, ?_⟩
  unfold extS ofS
  rw [e1]
  split
  · rw [gath_scalar hx h0, extA]
    unfold exL
    rw [if_pos h0, if_pos h0]
  · rfl
theorem jA_zero {last : Bool} {x y : Arr} (h0 : x.shape.length = 0) : jA last x y = if y.shape.length = 0 then [1] else y.shape.set (jX last x y) 1 := by
  have hn := List.eq_nil_of_length_eq_zero h0
  unfold jA extSh
  split
  · rename_i q
    rw [if_neg (by unfold jR at q; omega)]
  · rename_i q
    rw [if_pos (by unfold jR; omega), hn, if_pos (by unfold jR at q; omega)]
    simp
set_option maxRecDepth 100000 in
set_option maxHeartbeats 8000000 in
theorem ref20_extended (first : Bool) (x : Arr) (sx : Option Addr) (cx : Nat) (nx : Option Addr) (mx : Nat) (ix : Option Addr) (jx : Nat) (y : Arr) (sy : Option Addr) (cy : Nat) (ny : Option Addr) (my : Nat) (iy : Option Addr) (jy : Nat) (S : Nat → Prop) (w : World) (h : ArrAt w S x sx nx ix) (g : ArrAt w S y sy ny iy) (hcx : x.shape.length ≤ cx ∧ x.nums.length ≤ mx ∧ x.items.length ≤ jx) (hx : rightS x = 0) (hy : rightS y = 0) (hs : x.shape.length = 0 → shapeB (jA (!first) x y) = true) :
    Calls Try.prog 70 #[.agg #[.int .i64 x.kind, .slice sx x.shape.length cx, .slice nx x.nums.length mx, .slice ix x.items.length jx], .agg #[.int .i64 y.kind, .slice sy y.shape.length cy, .slice ny y.nums.length my, .slice iy y.items.length jy], .int .i64 (jR x y : Nat), .bool first] w (RetAEC w (fun b => S b ∨ w.heap.size ≤ b) (extS (!first) x y) (extE (!first) x y)) := by
  refine calls_post fun R' hR => ?_
  have h0 := hid h
  have g0 := hid g
  have hsx := h.shape.1
  have hsy := g.shape.1
  clear h g
  have xs8 := (shapeB_iff.1 (right_ok hx).2.1).1
  have ys8 := (shapeB_iff.1 (right_ok hy).2.1).1
  have hr1 : 1 ≤ jR x y := by unfold jR; omega
  have hr8 : jR x y ≤ 8 := by unfold jR; omega
  have hax := jX_lt (last := !first) (x := x) (y := y)
  go_enter Try.func70, Try.ntmps70
  go_upto_region 1 with (fail)
  generalize hEW : (((w).alloc (.cells #[.int .i64 x.kind, .slice sx x.shape.length cx, .slice nx x.nums.length mx, .slice ix x.items.length jx] 26)).alloc (.cells #[.int .i64 y.kind, .slice sy y.shape.length cy, .slice ny y.nums.length my, .slice iy y.items.length jy] 26)).alloc (.cells #[.int .i64 0, .slice none 0 0, .slice none 0 0, .slice none 0 0] 26) = W
  have E := hid (env3 w S hEW)
  clear hEW
  replace E := hid ((E.out.arg h0.out).arg g0.out)
  (try simp only [List.cons_append, List.nil_append, List.set_cons_zero, List.set_cons_succ] at E)
  by_cases c : x.shape.length = jR x y
  case pos =>
    obtain ⟨e1, e2⟩ := ext_same (last := !first) c
    have cb : ((x.shape.length : Int) == (jR x y : Nat)) = true := by simp [c]
    replace e1 := hid e1
    replace e2 := hid e2
    replace c := hid c
    obtain ⟨q00, q01, q02, q03⟩ := (E.out.hdr 0 rfl).all
    go_wp2_with (refine wpl_store4 rfl (.tmp 8) (.tmp 19) rfl _ rfl rfl (E.out.hdr 2 rfl) ?_; intro V HV CV; replace E := hid (E.out.chg 2 rfl CV HV); clear CV; (try simp only [List.cons_append, List.nil_append, List.set_cons_zero, List.set_cons_succ] at E))
    exact bodyPost_ret (end_arr2 rfl HV rfl rfl) rfl (hR.out _ _ (RetAEC.at e2.out e1.out (ArrAt.mono (fun b _ h => h.1) _ (E.out.arr 3 rfl)) E.out.ext hcx))
  have cb : ((x.shape.length : Int) == (jR x y : Nat)) = false := by simp; omega
  have EF := fun q1 q2 => ext_far (last := !first) q1 c q2
  have EO := fun q1 q2 => ext_one (last := !first) (x := x) (y := y) q1 q2
  have EZ := fun q1 => ext_zero hx (hs q1) q1
  have JZ := fun q1 => jA_zero (last := !first) (x := x) (y := y) q1
  have jry : x.shape.length = 0 → y.shape.length ≠ 0 → y.shape.length = jR x y := fun q1 q2 => by unfold jR; omega
  have hax0 : y.shape.length ≠ 0 → x.shape.length = 0 → jX (!first) x y < y.shape.length := fun q1 q2 => by rw [jry q2 q1]; exact hax
  have hxe : x.shape.length ≠ 0 → x.shape.length + 1 = jR x y → jX (!first) x y ≤ x.shape.length := fun q1 q2 => by omega
  replace EF := hid EF
  replace EO := hid EO
  replace EZ := hid EZ
  replace JZ := hid JZ
  replace jry := hid jry
  replace hax0 := hid hax0
  replace hxe := hid hxe
  replace hx := hid hx
  replace hy := hid hy
  replace hs := hid hs
  obtain ⟨q00, q01, q02, q03⟩ := (E.out.hdr 0 rfl).all
  go_upto_if 22 with (fail)
  clear q00 q01 q02 q03
  go_cut [11] (fun v wc => v = .int .i64 ((jX (!first) x y : Nat) : Int) ∧ Env w S wc [.obj w.heap.size (.cells #[.int .i64 x.kind, .slice sx x.shape.length cx, .slice nx x.nums.length mx, .slice ix x.items.length jx] 26 (0, 0)), .obj (w.heap.size + 1) (.cells #[.int .i64 y.kind, .slice sy y.shape.length cy, .slice ny y.nums.length my, .slice iy y.items.length jy] 26 (0, 0)), .obj (w.heap.size + 1 + 1) (.cells #[.int .i64 0, .slice none 0 0, .slice none 0 0, .slice none 0 0] 26 (0, 0)), .arr x sx nx ix, .arr y sy ny iy])
  case first =>
    cases first with
    | false =>
      have f1 : ((jR x y : Nat) : Int) - 1 = ((jX (!false) x y : Nat) : Int) := by unfold jX; simp; omega
      go_wp2_with fail
      go_meet
      case rel => exact ⟨by rw [← f1], E.out⟩
    | true =>
      go_wp2_with fail
      go_meet
      case rel => exact ⟨rfl, E.out⟩
  case rest =>
  clear E
  obtain ⟨rfl, E⟩ := hcut
  replace E := hid E
  obtain ⟨r, hrr⟩ : ∃ r, r = jR x y := ⟨_, rfl⟩
  obtain ⟨ax, haxx⟩ : ∃ r, r = jX (!first) x y := ⟨_, rfl⟩
  rw [← hrr] at hr1 hr8 EF EO hxe jry c cb hax
  rw [← haxx] at EO JZ hax0 hxe hax
  rw [← haxx, ← hrr]
  replace hrr := hid hrr
  replace haxx := hid haxx
  by_cases p0 : x.shape.length = 0
  case pos =>
    have cb0 : ((x.shape.length : Int) == 0) = true := by simpa using p0
    obtain ⟨e1, e2⟩ := EZ.out p0
    have jz := JZ.out p0
    have hax1 := fun q => hax0.out q p0
    replace p0 := hid p0
    replace c := hid c
    by_cases q0 : y.shape.length = 0
    case pos =>
      have cq : ¬ (0 : Int) < (y.shape.length : Int) := by omega
      rw [if_pos q0] at jz
      rw [jz] at e1 e2
      replace q0 := hid q0
      replace jz := hid jz
      replace e1 := hid e1
      replace e2 := hid e2
      obtain ⟨q00, q01, q02, q03⟩ := (E.out.hdr 0 rfl).all
      obtain ⟨q10, q11, q12, q13⟩ := (E.out.hdr 1 rfl).all
      go_wp2_with (refine wpl_buildL rfl 1 rfl ?_; have E1 : Env w S (wc.alloc (.cells #[.int .i64 1] 3)) _ := E.out.lit [1] (show (1 : Nat) ≤ 17592186044416 by decide); clear E; have E := hid E1; clear E1; generalize World.alloc _ (.cells #[.int .i64 1] 3) = V1 at E ⊢; generalize wc.heap.size = p1 at E ⊢; (try simp only [List.cons_append, List.nil_append, List.set_cons_zero, List.set_cons_succ] at E); clear q00 q01 q02 q03 q10 q11 q12 q13; obtain ⟨q00, q01, q02, q03⟩ := (E.out.hdr 0 rfl).all; obtain ⟨q10, q11, q12, q13⟩ := (E.out.hdr 1 rfl).all)
      clear q00 q01 q02 q03 q10 q11 q12 q13
      refine (ref03_Of [1] _ _ x _ _ _ _ _ _ _ _ (E.out.arr 3 rfl) (E.out.ints 5 rfl)).mono ?_
      intro e w2 h
      obtain ⟨s101, c101, n101, m101, i101, j101, rfl, hA, hb, hC101⟩ := h.eq e2.out e1.out.symm
      replace E := hid ((E.out.up hb).addArr hA (fun b _ hq => E.out.res (Ext.refl _) hq))
      replace hC101 := hid hC101
      clear hA hb h
      (try simp only [List.cons_append, List.nil_append, List.set_cons_zero, List.set_cons_succ] at E)
      go_wp2_with (refine wpl_store4 rfl (.tmp 8) (.tmp 39) rfl _ rfl rfl (E.out.hdr 2 rfl) ?_; intro V HV CV; replace E := hid (E.out.chg 2 rfl CV HV); clear CV; (try simp only [List.cons_append, List.nil_append, List.set_cons_zero, List.set_cons_succ] at E))
      exact bodyPost_ret (end_arr2 rfl HV rfl rfl) rfl (hR.out _ _ (RetAEC.at rfl rfl (ArrAt.mono (fun b _ h => h.1) _ (E.out.arr 6 rfl)) E.out.ext hC101.out))
    case neg =>
      have cq : (0 : Int) < (y.shape.length : Int) := by omega
      have axy := hax1 q0
      rw [if_neg q0] at jz
      rw [jz] at e1 e2
      replace q0 := hid q0
      replace jz := hid jz
      replace e1 := hid e1
      replace e2 := hid e2
      have i0 : (0 : Int) ≤ (ax : Int) := by omega
      have i1 : (ax : Int) < (y.shape.length : Int) := by omega
      obtain ⟨q00, q01, q02, q03⟩ := (E.out.hdr 0 rfl).all
      obtain ⟨q10, q11, q12, q13⟩ := (E.out.hdr 1 rfl).all
      go_wp2_with (first
        | (refine wpl_buildL rfl 1 rfl ?_; have E1 : Env w S (wc.alloc (.cells #[.int .i64 1] 3)) _ := E.out.lit [1] (show (1 : Nat) ≤ 17592186044416 by decide); clear E; have E := hid E1.row0I; clear E1; generalize World.alloc _ (.cells #[.int .i64 1] 3) = V1 at E ⊢; generalize wc.heap.size = p1 at E ⊢; (try simp only [List.cons_append, List.nil_append, List.set_cons_zero, List.set_cons_succ] at E); clear q00 q01 q02 q03 q10 q11 q12 q13; obtain ⟨q00, q01, q02, q03⟩ := (E.out.hdr 0 rfl).all; obtain ⟨q10, q11, q12, q13⟩ := (E.out.hdr 1 rfl).all)
        | (at_builtin; refine wplE_appI E.out 6 rfl rfl (.const (.slice none 0 0)) (.tmp 31) rfl rfl _ _ _ y.shape rfl (E.out.arr 4 rfl).shape (by (try simp only [List.length_nil]); omega) ?_; intro V2 a2 k2 E1; rw [List.nil_append] at E1 ⊢; clear E; have E := hid E1; clear E1; (try simp only [List.cons_append, List.nil_append, List.set_cons_zero, List.set_cons_succ] at E); obtain ⟨gs, hso, -⟩ := (E.out.rowI 6 rfl).set (j := ax) axy; subst hso; clear q00 q01 q02 q03 q10 q11 q12 q13; obtain ⟨q00, q01, q02, q03⟩ := (E.out.hdr 0 rfl).all; obtain ⟨q10, q11, q12, q13⟩ := (E.out.hdr 1 rfl).all)
        | (refine wplE_setI E.out 6 rfl (by rfl) (.tmp 35) (.const (.int .i64 1)) (by rfl) ax axy 1 (fun g e => by cases e; simp [Act.eval, Act.put]) (by rfl) ?_; intro V3 E1; clear E; have E := hid E1; clear E1; (try simp only [List.cons_append, List.nil_append, List.set_cons_zero, List.set_cons_succ] at E); clear q00 q01 q02 q03 q10 q11 q12 q13; obtain ⟨q00, q01, q02, q03⟩ := (E.out.hdr 0 rfl).all; obtain ⟨q10, q11, q12, q13⟩ := (E.out.hdr 1 rfl).all))
      replace E := hid (E.out.doneI 6 rfl (by rw [List.length_set]; omega))
      (try simp only [List.cons_append, List.nil_append, List.set_cons_zero, List.set_cons_succ] at E)
      clear i0 i1
      clear q00 q01 q02 q03 q10 q11 q12 q13
      refine (lenR (n := y.shape.length) (by rw [List.length_set]) (ref03_Of (y.shape.set ax 1) _ _ x _ _ _ _ _ _ _ _ (E.out.arr 3 rfl) (E.out.ints 6 rfl))).mono ?_
      intro e w2 h
      obtain ⟨s101, c101, n101, m101, i101, j101, rfl, hA, hb, hC101⟩ := h.eq e2.out e1.out.symm
      replace E := hid ((E.out.up hb).addArr hA (fun b _ hq => E.out.res (Ext.refl _) hq))
      replace hC101 := hid hC101
      clear hA hb h
      (try simp only [List.cons_append, List.nil_append, List.set_cons_zero, List.set_cons_succ] at E)
      go_wp2_with (refine wpl_store4 rfl (.tmp 8) (.tmp 39) rfl _ rfl rfl (E.out.hdr 2 rfl) ?_; intro V HV CV; replace E := hid (E.out.chg 2 rfl CV HV); clear CV; (try simp only [List.cons_append, List.nil_append, List.set_cons_zero, List.set_cons_succ] at E))
      exact bodyPost_ret (end_arr2 rfl HV rfl rfl) rfl (hR.out _ _ (RetAEC.at rfl rfl (ArrAt.mono (fun b _ h => h.1) _ (E.out.arr 7 rfl)) E.out.ext hC101.out))
  case neg =>
    have cb0 : ((x.shape.length : Int) == 0) = false := by simpa using p0
    by_cases q1 : x.shape.length + 1 = r
    case neg =>
      have cb1 : ((x.shape.length : Int) != (r : Int) - 1) = true := by simp; omega
      have hn := hid (EF.out p0 q1)
      have hv := hid (extS_no (last := !first) (x := x) (y := y) (by rw [hn.out]; decide))
      replace p0 := hid p0
      replace q1 := hid q1
      replace c := hid c
      obtain ⟨q00, q01, q02, q03⟩ := (E.out.hdr 0 rfl).all
      go_wp2_with (refine wpl_store4 rfl (.tmp 8) (.tmp 45) rfl _ rfl rfl (E.out.hdr 2 rfl) ?_; intro V HV CV; replace E := hid (E.out.chg 2 rfl CV HV))
      exact bodyPost_ret (end_arr2 rfl HV rfl rfl) rfl (hR.out _ _ (RetAEC.zero hv.out hn.out E.out.ext))
    case pos =>
      have cb1 : ((x.shape.length : Int) != (r : Int) - 1) = false := by simp; omega
      obtain ⟨e1, e2⟩ := EO.out p0 q1
      have axx := hxe.out p0 q1
      replace p0 := hid p0
      replace q1 := hid q1
      replace c := hid c
      replace e1 := hid e1
      replace e2 := hid e2
      obtain ⟨l, hl⟩ : ∃ l, l = x.shape.take ax ++ 1 :: x.shape.drop ax := ⟨_, rfl⟩
      rw [← hl] at e2
      have hl9 : l.length ≤ 9 := by rw [hl]; simp; omega
      replace hl := hid hl
      go_upto_region 15 with (fail)
      obtain ⟨q00, q01, q02, q03⟩ := (E.out.hdr 0 rfl).all
      refine wp_region_mono_tail 11 (Sees wc [(⟨w.heap.size, 0, none⟩, .int .i64 x.kind), (⟨w.heap.size, 1, none⟩, .slice sx x.shape.length cx), (⟨w.heap.size, 2, none⟩, .slice nx x.nums.length mx), (⟨w.heap.size, 3, none⟩, .slice ix x.items.length jx)]) [5] (fun k v u u' => match k with | 5 => ∃ oa oc, v = .slice oa l.length oc ∧ OwnI u' u.heap.size oa oc l | _ => False) (fun _ _ h e => h.up e) (Sees.start (all_cons ((E.out.hdr 0 rfl).c0) (all_cons ((E.out.hdr 0 rfl).c1) (all_cons ((E.out.hdr 0 rfl).c2) (all_cons ((E.out.hdr 0 rfl).c3) (all_nil)))))) (by kernel_rfl) (by kernel_rfl) ?_
      simp only [List.take_succ_cons, List.take_zero, List.drop_succ_cons, List.drop_zero]
      repeat (first | (refine m_plain (v := ?_) (by rfl) (by rfl) ?_ ?_; rotate_left; (intro wz hSw; obtain ⟨-, hSc⟩ := hSw; (try simp only [List.forall_mem_cons, List.forall_mem_nil, and_true] at hSc); go_simp; (first | done | with_reducible rfl)); (intro K hK; (try simp only [Act.put, List.setIfInBounds_toArray, List.set_cons_zero, List.set_cons_succ]); refine hK _ _ ?_; clear hK K)) | (refine m_skip (by rfl) (by rfl) ?_; (intro K hK; (try simp only [Act.put, List.setIfInBounds_toArray, List.set_cons_zero, List.set_cons_succ]); refine hK _ _ ?_; clear hK K)))
      refine m_make (by rfl) (by rfl) ?_ ?_
      · intro wz hSw hdep R hRz
        obtain ⟨hSe, hSc⟩ := hSw
        (try simp only [List.forall_mem_cons, List.forall_mem_nil, and_true] at hSc)
        unfold does
        (go_simp; refine Calls.mono (ref20_insert x.shape _ _ ax 1 _ wz ((E.out.arr 3 rfl).shape.up hSe) axx (by omega) hcx.1) ?_; rw [← hl.out]; rintro e wq ⟨oa, oc, rfl, h1, h2⟩; exact ⟨_, rfl, hRz.out _ _ ⟨h2, oa, oc, rfl, h1⟩⟩)
      intro v5 u5 x5 hG5 K hK
      have hF5 := hG5.fact
      (try dsimp only at hF5)
      obtain ⟨oa, oc, rfl, hO⟩ := hF5
      (try simp only [Act.put, List.setIfInBounds_toArray, List.set_cons_zero, List.set_cons_succ]); refine hK _ _ ?_; clear hK K
      repeat (first | (refine m_plain (v := ?_) (by rfl) (by rfl) ?_ ?_; rotate_left; (intro wz hSw; obtain ⟨-, hSc⟩ := hSw; (try simp only [List.forall_mem_cons, List.forall_mem_nil, and_true] at hSc); go_simp; (first | done | with_reducible rfl)); (intro K hK; (try simp only [Act.put, List.setIfInBounds_toArray, List.set_cons_zero, List.set_cons_succ]); refine hK _ _ ?_; clear hK K)) | (refine m_skip (by rfl) (by rfl) ?_; (intro K hK; (try simp only [Act.put, List.setIfInBounds_toArray, List.set_cons_zero, List.set_cons_succ]); refine hK _ _ ?_; clear hK K)))
      refine m_nil ?_
      intro wf hSf hAf
      have hc1 := OwnI.cap hO
      have E0 := E
      replace E := hid (((E.out.up hSf.1).addIntsF ((((hO.ints (by omega)).mono fun b _ hq => hq.1).mono (T := fun b => u5.heap.size ≤ b) (fun b _ h => h)).up (hAf 5 _ rfl)) (fun b hb => Nat.lt_of_lt_of_le (E0.out.blt b hb) (Below.size hG5.s.1)) (Nat.le_trans E0.out.size (Below.size hG5.s.1))))
      clear hSf hAf hG5 hO E0
      (try simp only [List.cons_append, List.nil_append, List.set_cons_zero, List.set_cons_succ] at E)
      refine wpl_store4 rfl (.tmp 8) (.tmp 56) rfl _ rfl rfl (E.out.hdr 2 rfl) ?_
      intro V HV CV
      replace E := hid (E.out.chg 2 rfl CV HV)
      clear CV
      (try simp only [List.cons_append, List.nil_append, List.set_cons_zero, List.set_cons_succ] at E)
      go_wp2_with fail
      refine bodyPost_ret (end_arr2 rfl HV rfl rfl) rfl (hR.out _ _ ?_)
      exact RetAEC.of e2.out e1.out rfl ((E.out.intsF 5 rfl).mono fun b _ h => h.1.1) ((E.out.arr 3 rfl).nums.mono fun b _ h => h.1) (E.out.arr 3 rfl).len ((E.out.arr 3 rfl).items.mono fun b _ h => h.1) E.out.ext hc1 hcx.2.1 hcx.2.2
end Go.Proofs.Ythhffneibcpbdaa
