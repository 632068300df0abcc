/- ref26.Cut: contract. Conditions: the arrays are read; a slice's capacity is at least its length. -/
import Derived.Test.YthhffneibcpbdaaREF26C
import Derived.Test.YthhffneibcpbdaaC26G
set_option linter.unusedVariables false
set_option linter.unusedSimpArgs false
namespace Go.Proofs.Ythhffneibcpbdaa
open Go.RowKit Go.Sort
attribute [local go_sem ↓] run_max2 run_min2
attribute [local go_sem] eql_ints_nil eql_arrs_nil
theorem shapeB_grp {y : Arr} (hs : shapeB y.shape = true) {M : Nat} (h1 : 1 ≤ M) (h2 : M ≤ talM y) : shapeB ((M : Int) :: celL y) = true := by
  have ht := tal_nn hs
  obtain ⟨a, b, c⟩ := shapeB_iff.1 hs
  have hc := shapeB_iff.1 (celL_ok hs)
  have hp := prodNZ_pos hc.2.1
  refine shapeB_iff.2 ⟨?_, ?_, ?_⟩
  · unfold talM talN celL at *
    match hy : y.shape with
    | [] => simp
    | d :: s => rw [hy] at a; simpa using a
  · intro d hd
    rcases List.mem_cons.1 hd with q | q
    · omega
    · exact hc.2.1 d q
  · have e : prodNZ ((M : Int) :: celL y) = (M : Int) * prodNZ (celL y) := by
      have := prodNZ_append [(M : Int)] (celL y)
      rw [prodNZ_one, if_neg (by omega)] at this
      exact this
    have e2 : talN y * prodNZ (celL y) ≤ 65536 := by
      unfold talN celL at *
      match hy : y.shape with
      | [] => rw [if_pos (by simp)]; simp [prodNZ]
      | d :: s =>
        rw [hy] at c ht
        simp only [List.length_cons, List.getD_cons_zero] at ht ⊢
        rw [if_neg (by omega)] at ht ⊢
        have := prodNZ_append [d] s
        rw [prodNZ_one, if_neg (by omega)] at this
        simp only [List.cons_append, List.nil_append] at this
        rw [this] at c
        simpa using c
    rw [e]
    have : (M : Int) * prodNZ (celL y) ≤ talN y * prodNZ (celL y) := Int.mul_le_mul_of_nonneg_right (by omega) (by omega)
    omega
/-- the groups whose first cell is ahead of i -/
def CutAt (x y : Arr) (i : Nat) (G : List Arr) : Prop := ∃ e, i ≤ e ∧ e ≤ x.nums.length ∧ (∀ j, i ≤ j → j < e → numF x.nums j = 0) ∧ (e = x.nums.length ∨ numF x.nums e ≠ 0) ∧ G = (cuts x.nums e).map (grpA y)
theorem nxt_ex (l : List Int) : ∀ (d i : Nat), i + d = l.length → ∃ e, i ≤ e ∧ e ≤ l.length ∧ (∀ j, i ≤ j → j < e → numF l j = 0) ∧ (e = l.length ∨ numF l e ≠ 0)
  | 0, i, h => ⟨i, Nat.le_refl _, by omega, fun j _ _ => by omega, Or.inl (by omega)⟩
  | d + 1, i, h => by
    by_cases q : numF l i = 0
    · obtain ⟨e, h1, h2, h3, h4⟩ := nxt_ex l d (i + 1) (by omega)
      exact ⟨e, by omega, h2, fun j a b => by
        rcases Nat.eq_or_lt_of_le a with c | c
        · rw [← c]; exact q
        · exact h3 j c b, h4⟩
    · exact ⟨i, Nat.le_refl _, by omega, fun j _ _ => by omega, Or.inr q⟩
theorem cuts_zeros {l : List Int} : ∀ {e : Nat}, (∀ j, j < e → numF l j = 0) → cuts l e = []
  | 0, _ => rfl
  | e + 1, h => cuts_zero (h e (by omega)) (cuts_zeros fun j hj => h j (by omega))
section
variable {x y : Arr} {i : Nat} {G : List Arr}
theorem CutAt.start : CutAt x y 0 [] := by
  obtain ⟨e, h1, h2, h3, h4⟩ := nxt_ex x.nums x.nums.length 0 (by omega)
  exact ⟨e, h1, h2, h3, h4, by rw [cuts_zeros fun j hj => h3 j (by omega) hj]; rfl⟩
theorem CutAt.zero (h : CutAt x y i G) (hi : i < x.nums.length) (q : numF x.nums i = 0) : CutAt x y (i + 1) G := by
  obtain ⟨e, h1, h2, h3, h4, h5⟩ := h
  have : e ≠ i := by
    intro c; subst c
    rcases h4 with c | c
    · omega
    · exact c q
  exact ⟨e, by omega, h2, fun j a b => h3 j (by omega) b, h4, h5⟩
theorem CutAt.one (h : CutAt x y i G) (hi : i < x.nums.length) (q : numF x.nums i ≠ 0) {m : Nat} (hm : i + m + 1 ≤ x.nums.length) (hz : ∀ j, i < j → j < i + m + 1 → numF x.nums j = 0) (he : i + m + 1 = x.nums.length ∨ numF x.nums (i + m + 1) ≠ 0) : CutAt x y (i + 1) (G ++ [grpA y (i, m + 1)]) := by
  obtain ⟨e, h1, h2, h3, h4, h5⟩ := h
  have : e = i := by
    rcases Nat.eq_or_lt_of_le h1 with c | c
    · exact c.symm
    · exact absurd (h3 i (Nat.le_refl _) c) q
  subst this
  exact ⟨e + m + 1, by omega, hm, fun j a b => hz j (by omega) b, he, by rw [cuts_grow q hz, h5]; simp⟩
theorem CutAt.len (h : CutAt x y i G) : G.length ≤ x.nums.length := by
  obtain ⟨e, h1, h2, h3, h4, h5⟩ := h
  rw [h5, List.length_map]
  have := cuts_len x.nums e; omega
theorem CutAt.fin (h : CutAt x y x.nums.length G) : cutA x y = .mk 3 [(G.length : Int)] [] G := by
  obtain ⟨e, h1, h2, h3, h4, h5⟩ := h
  have : e = x.nums.length := by omega
  subst this
  rw [cutA, h5, List.length_map]
end
theorem cut_fin {x y : Arr} (c : chkE26 x y = 0) (l : x.nums.length = talM y) (b : x.nums.all bitB = true) : bndS (cutA x y) = cutS x y ∧ bndE (cutA x y) = cutE x y := by
  unfold bndS bndE
  by_cases r : rightS (cutA x y) = 0
  · have e := cutE_0 c l b r
    rw [if_pos r, if_pos r, cutS_yes e, e]; exact ⟨rfl, rfl⟩
  · have e := cutE_r c l b r
    rw [if_neg r, if_neg r, cutS_no (by rw [e]; decide), e]; exact ⟨rfl, rfl⟩
set_option maxRecDepth 100000 in
set_option maxHeartbeats 8000000 in
theorem ref26_Cut (x : Arr) (sx : Option Addr) (cx : Nat) (nx : Option Addr) (mx : Nat) (ix : Option Addr) (jx : Nat) (y : Arr) (sy : Option Addr) (cy : Nat) (ny : Option Addr) (my : Nat) (iy : Option Addr) (jy : Nat) (S : Nat → Prop) (w : World) (h : ArrAt w S x sx nx ix) (g : ArrAt w S y sy ny iy) (hcx : x.shape.length ≤ cx ∧ x.nums.length ≤ mx ∧ x.items.length ≤ jx) (hcy : y.shape.length ≤ cy ∧ y.nums.length ≤ my ∧ y.items.length ≤ jy) :
    Calls Try.prog 34 #[.agg #[.int .i64 x.kind, .slice sx x.shape.length cx, .slice nx x.nums.length mx, .slice ix x.items.length jx], .agg #[.int .i64 y.kind, .slice sy y.shape.length cy, .slice ny y.nums.length my, .slice iy y.items.length jy]] w (RetAEC w (fun b => S b ∨ w.heap.size ≤ b) (cutS x y) (cutE x y)) := by
  refine calls_post fun R' hR => ?_
  have h0 := hid h
  have g0 := hid g
  replace hcx := hid hcx
  replace hcy := hid hcy
  clear h g
  go_enter Try.func34, Try.ntmps34
  go_upto_region 1 with (fail)
  generalize hEW : (((w).alloc (.cells #[.int .i64 x.kind, .slice sx x.shape.length cx, .slice nx x.nums.length mx, .slice ix x.items.length jx] 26)).alloc (.cells #[.int .i64 y.kind, .slice sy y.shape.length cy, .slice ny y.nums.length my, .slice iy y.items.length jy] 26)).alloc (.cells #[.int .i64 0, .slice none 0 0, .slice none 0 0, .slice none 0 0] 26) = W
  have E := hid (env3 w S hEW)
  clear hEW
  replace E := hid ((E.out.arg h0.out).arg g0.out)
  (try simp only [List.cons_append, List.nil_append, List.set_cons_zero, List.set_cons_succ] at E)
  obtain ⟨q00, q01, q02, q03⟩ := (E.out.hdr 0 rfl).all
  obtain ⟨q10, q11, q12, q13⟩ := (E.out.hdr 1 rfl).all
  go_wp2_with fail
  clear q00 q01 q02 q03 q10 q11 q12 q13
  refine (ref26_checked x _ _ _ _ _ _ y _ _ _ _ _ _ _ _ (E.out.arr 3 rfl) (E.out.arr 4 rfl) hcx.out.2.1).mono ?_
  rintro e w1 ⟨so, sl, sc, rfl, hso, hb⟩
  by_cases c : chkE26 x y = 0
  case neg =>
    have cb : (chkE26 x y != 0) = true := by simpa using c
    have hn := hid (cutE_c c)
    have hv := hid (cutS_no (x := x) (y := y) (by rw [hn.out]; exact c))
    replace c := hid c
    replace E := hid (E.out.up hb)
    clear hso hb
    go_wp2_with (refine wpl_store4 rfl (.tmp 4) (.tmp 24) rfl _ rfl rfl (E.out.hdr 2 rfl) ?_; intro V HV CV; replace E := hid (E.out.chg 2 rfl CV HV))
    exact bodyPost_ret (end_arr2 rfl HV rfl rfl) rfl (hR.out _ _ (RetAEC.zero hv.out hn.out E.out.ext))
  have cb : (chkE26 x y != 0) = false := by simpa using c
  obtain ⟨rfl, hI, hsc⟩ := hso c
  replace E := hid ((E.out.up hb).addInts hI (fun _ _ h => h))
  clear hso hb hI
  (try simp only [List.cons_append, List.nil_append, List.set_cons_zero, List.set_cons_succ] at E)
  have K := chk26_ok c
  have hs := (right_ok K.ry).2.1
  have ht := tal_nn hs
  have ht6 := tal_le hs
  have hx6 := (right_l3 K.rx)
  replace K := hid K
  replace c := hid c
  rw [c.out]
  obtain ⟨q10, q11, q12, q13⟩ := (E.out.hdr 1 rfl).all
  go_wp2_with fail
  clear q10 q11 q12 q13
  refine (ref23_Tally y _ _ _ _ _ _ _ _ (E.out.arr 4 rfl)).mono ?_
  rintro e w3 ⟨rfl, hb⟩
  replace E := hid (E.out.up hb)
  clear hb
  rw [← ht]
  by_cases o : x.nums.length = talM y
  case neg =>
    have ob : ((x.nums.length : Int) != ((talM y : Nat) : Int)) = true := bne_iff_ne.2 (by omega)
    have hn := hid (cutE_l c.out o)
    have hv := hid (cutS_no (x := x) (y := y) (by rw [hn.out]; decide))
    replace o := hid o
    obtain ⟨q00, q01, q02, q03⟩ := (E.out.hdr 0 rfl).all
    go_wp2_with (refine wpl_store4 rfl (.tmp 4) (.tmp 31) rfl _ rfl rfl (E.out.hdr 2 rfl) ?_; intro V HV CV; replace E := hid (E.out.chg 2 rfl CV HV))
    exact bodyPost_ret (end_arr2 rfl HV rfl rfl) rfl (hR.out _ _ (RetAEC.zero hv.out hn.out E.out.ext))
  have ob : ((x.nums.length : Int) != ((talM y : Nat) : Int)) = false := bne_eq_false_iff_eq.2 (by omega)
  have o' := hid o
  replace o := hid o
  go_wp2_with fail
  refine (ref26_bits x.nums so _ _ _ (E.out.ints 5 rfl)).mono ?_
  rintro e w2 ⟨rfl, rfl⟩
  cases hB : x.nums.all bitB with
  | false =>
    have hbs : bitsS x.nums = (0, false) := if_neg (by rw [hB]; decide)
    have hn := hid (cutE_b c.out o.out hB)
    have hv := hid (cutS_no (x := x) (y := y) (by rw [hn.out]; decide))
    rw [hbs]
    replace hbs := hid hbs
    replace hB := hid hB
    obtain ⟨q00, q01, q02, q03⟩ := (E.out.hdr 0 rfl).all
    go_wp2_with (refine wpl_store4 rfl (.tmp 4) (.tmp 39) rfl _ rfl rfl (E.out.hdr 2 rfl) ?_; intro V HV CV; replace E := hid (E.out.chg 2 rfl CV HV))
    exact bodyPost_ret (end_arr2 rfl HV rfl rfl) rfl (hR.out _ _ (RetAEC.zero hv.out hn.out E.out.ext))
  | true =>
  have hbs : bitsS x.nums = (sumF (numF x.nums) x.nums.length, true) := if_pos hB
  rw [hbs]
  replace hbs := hid hbs
  have FIN := hid (cut_fin c.out o.out hB)
  replace hB := hid hB
  generalize sumF (numF x.nums) x.nums.length = ssum
  go_upto_region 9 with (fail)
  go_upto_region 10 with (first
    | (refine wpl_buildV rfl 0 (.const (.int .i64 0)) rfl rfl ?_; replace E := hid (E.out.addRowI (own_lit26 (d := 0) (Nat.le_refl _)) (ext_alloc _ _)); generalize w3.heap.size = p1 at E ⊢; generalize World.alloc _ (.cells #[.int .i64 0] 3) = V1 at E ⊢; (try simp only [List.cons_append, List.nil_append, List.set_cons_zero, List.set_cons_succ] at E))
    | (refine wpl_store4 rfl (.tmp 10) (.tmp 41) rfl _ rfl rfl ((E.out.alloc _).hdr 7 rfl) ?_; intro V3 HV CV; replace E := hid ((E.out.alloc _).chg 7 rfl CV HV); clear CV HV; (try simp only [List.cons_append, List.nil_append, List.set_cons_zero, List.set_cons_succ] at E)))
  generalize V1.heap.size = bo at E ⊢
  replace E := hid E.out.row0A
  (try simp only [List.cons_append, List.nil_append, List.set_cons_zero, List.set_cons_succ] at E)
  replace E := hid (E.out.pick 8 rfl)
  simp only [List.eraseIdx_cons_succ, List.eraseIdx_cons_zero] at E
  replace E := hid (E.out.pick 7 rfl)
  simp only [List.eraseIdx_cons_succ, List.eraseIdx_cons_zero] at E
  replace E := hid (E.out.pick 8 rfl)
  simp only [List.eraseIdx_cons_succ, List.eraseIdx_cons_zero] at E
  go_upto_region 11 with (fail)
  go_loopw [11, 12, 13, 14, 15] (fun v u1 u2 u3 u4 wr => ∃ (i : Nat) (G : List Arr) (ia : Option Addr) (ic : Nat), i ≤ x.nums.length ∧ v = .int .i64 i ∧ Hid (CutAt x y i G) ∧ Env w S wr [.obj bo (.cells #[.int .i64 3, .slice (some ⟨p1, 0, none⟩) 1 1, .slice none 0 0, .slice ia (G).length ic] 26 (0, 0)), .rowI (some ⟨p1, 0, none⟩) 1 [((G).length : Int)], .rowA ia ic (G), .obj w.heap.size (.cells #[.int .i64 x.kind, .slice sx x.shape.length cx, .slice nx x.nums.length mx, .slice ix x.items.length jx] 26 (0, 0)), .obj (w.heap.size + 1) (.cells #[.int .i64 y.kind, .slice sy y.shape.length cy, .slice ny y.nums.length my, .slice iy y.items.length jy] 26 (0, 0)), .obj (w.heap.size + 1 + 1) (.cells #[.int .i64 0, .slice none 0 0, .slice none 0 0, .slice none 0 0] 26 (0, 0)), .arr x sx nx ix, .arr y sy ny iy, .ints x.nums so]) (fun v _ _ _ _ _ => x.nums.length - (intOf v).toNat)
  case atStart => exact ⟨0, [], none, 0, Nat.zero_le _, rfl, hid CutAt.start, E.out⟩
  case round =>
    clear E
    obtain ⟨i, G, ia, ic, hi, rfl, hAt, E⟩ := hrel
    replace E := hid E
    have hGl := hAt.out.len
    by_cases hlt : i < x.nums.length
    · obtain ⟨b1, o1, hnx, hbl, hS1, hc1⟩ := (E.out.ints 8 rfl).at hlt
      have t0 : (0 : Int) ≤ (i : Int) := by omega
      have t1 : (i : Int) < (x.nums.length : Int) := by omega
      by_cases d0 : numF x.nums i = 0
      case pos =>
        have hcd : x.nums.getD i 0 = 0 := d0
        rw [hcd] at hc1
        have hA2 := hid (hAt.out.zero hlt d0)
        replace d0 := hid d0
        replace hcd := hid hcd
        subst hnx
        go_wp2_with fail
        go_roundw
        case rel => exact ⟨i + 1, G, ia, ic, by omega, by go_num, hA2, E.out⟩
        case measure => simp [intOf]; omega
      case neg =>
        have hcd : x.nums.getD i 0 ≠ 0 := d0
        have d0' := hid d0
        generalize x.nums.getD i 0 = d at hc1 hcd
        have db : (d == 0) = false := by simpa using hcd
        replace hcd := hid hcd
        replace d0 := hid d0
        subst hnx
        go_upto_region 15 with (fail)
        clear hc1 t0 t1
        go_loopw [12] (fun v wr2 => ∃ m : Nat, i + m + 1 ≤ x.nums.length ∧ v = .int .i64 ((i + m + 1 : Nat) : Int) ∧ Hid (∀ j, i < j → j < i + m + 1 → numF x.nums j = 0) ∧ Env w S wr2 [.obj bo (.cells #[.int .i64 3, .slice (some ⟨p1, 0, none⟩) 1 1, .slice none 0 0, .slice ia (G).length ic] 26 (0, 0)), .rowI (some ⟨p1, 0, none⟩) 1 [((G).length : Int)], .rowA ia ic (G), .obj w.heap.size (.cells #[.int .i64 x.kind, .slice sx x.shape.length cx, .slice nx x.nums.length mx, .slice ix x.items.length jx] 26 (0, 0)), .obj (w.heap.size + 1) (.cells #[.int .i64 y.kind, .slice sy y.shape.length cy, .slice ny y.nums.length my, .slice iy y.items.length jy] 26 (0, 0)), .obj (w.heap.size + 1 + 1) (.cells #[.int .i64 0, .slice none 0 0, .slice none 0 0, .slice none 0 0] 26 (0, 0)), .arr x sx nx ix, .arr y sy ny iy, .ints x.nums (some ⟨b1, o1, none⟩)]) (fun v _ => x.nums.length - (intOf v).toNat)
        case atStart => exact ⟨0, by omega, by rfl, hid (fun j h1 h2 => by omega), E.out⟩
        case round =>
          clear E
          obtain ⟨m, hm, rfl, hz, E⟩ := hrel
          replace E := hid E
          obtain ⟨e, he⟩ : ∃ e, e = i + m + 1 := ⟨_, rfl⟩
          rw [← he] at hm hz ⊢
          by_cases hcont : e < x.nums.length ∧ numF x.nums e = 0
          case pos =>
            obtain ⟨hex, h2⟩ := hcont
            obtain ⟨b2, o2, hnx, hbl, hS1, hc1⟩ := (E.out.ints 8 rfl).at hex
            injection hnx with hnx
            injection hnx with q1 q2
            subst q1
            subst q2
            have hcd : x.nums.getD e 0 = 0 := h2
            rw [hcd] at hc1
            have t0 : (0 : Int) ≤ (e : Int) := by omega
            have t1 : (e : Int) < (x.nums.length : Int) := by omega
            have hz2 : Hid (∀ j, i < j → j < e + 1 → numF x.nums j = 0) := hid (fun j g1 g2 => by
              rcases Nat.lt_succ_iff_lt_or_eq.1 g2 with g3 | g3
              · exact hz.out j g1 g3
              · rw [g3]; exact h2)
            replace h2 := hid h2
            replace hcd := hid hcd
            replace he := hid he
            go_wp2_with fail
            go_roundw
            case rel => exact ⟨m + 1, by have := he.out; omega, by rw [show i + (m + 1) + 1 = e + 1 by have := he.out; omega]; go_num, by rw [show i + (m + 1) + 1 = e + 1 by have := he.out; omega]; exact hz2, E.out⟩
            case measure => simp [intOf]; omega
          case neg =>
            have hAt2 : Hid (CutAt x y (i + 1) (G ++ [grpA y (i, m + 1)])) := hid (hAt.out.one hlt d0'.out (by rw [← he]; exact hm) (by rw [← he]; exact hz.out) (by
              rw [← he]
              rcases Nat.lt_or_ge e x.nums.length with q | q
              · exact Or.inr fun q2 => hcont ⟨q, q2⟩
              · exact Or.inl (by omega)))
            obtain ⟨M, hM⟩ : ∃ M, M = m + 1 := ⟨_, rfl⟩
            have heM : e = i + M := by omega
            by_cases het : e < x.nums.length
            case pos =>
              obtain ⟨b2, o2, hnx, hbl, hS1, hc1⟩ := (E.out.ints 8 rfl).at het
              injection hnx with hnx
              injection hnx with q1 q2
              subst q1
              subst q2
              have hcd : x.nums.getD e 0 ≠ 0 := fun q => hcont ⟨het, q⟩
              generalize x.nums.getD e 0 = d2 at hc1 hcd
              have db2 : (d2 == 0) = false := by simpa using hcd
              have t0 : (0 : Int) ≤ (e : Int) := by omega
              have t1 : (e : Int) < (x.nums.length : Int) := by omega
              clear hcont
              replace hcd := hid hcd
              replace heM := hid heM
              replace hM := hid hM
              replace he := hid he
              go_upto_region 17 with (fail)
              clear hc1 t0 t1
              have hM1 : 1 ≤ M ∧ M ≤ talM y := by have := hM.out; have := heM.out; have := o'.out; omega
              obtain ⟨s, hsx⟩ : ∃ s, s = (M : Int) :: celL y := ⟨_, rfl⟩
              have hsB := hid (shapeB_grp hs hM1.1 hM1.2)
              have hsD : Hid (dimsE s = 0) := hid (by rw [hsx]; exact dimsE_zero.2 hsB.out)
              have hcl8 : (celL y).length ≤ 8 := (shapeB_iff.1 (celL_ok hs)).1
              have sl9 : s.length ≤ 9 := by rw [hsx]; simp only [List.length_cons]; omega
              have hy8 : y.shape.length ≤ 1000 := by have := (shapeB_iff.1 hs).1; omega
              replace hsx := hid hsx
              have hwr : IntKind.i64.wrap ((e : Int) - (i : Int)) = (M : Int) := by rw [show (e : Int) - (i : Int) = (M : Int) by have := heM.out; omega]; exact IntWalk.i64_in _ (by have := heM.out; omega)
              obtain ⟨T, hT1, hT2, hT3⟩ := E.out.tw
              obtain ⟨q40, q41, q42, q43⟩ := (E.out.hdr 4 rfl).all
              refine wp_region_seq_tail 9 (Sees wr [(⟨(w.heap.size+1), 0, none⟩, .int .i64 y.kind), (⟨(w.heap.size+1), 1, none⟩, .slice sy y.shape.length cy), (⟨(w.heap.size+1), 2, none⟩, .slice ny y.nums.length my), (⟨(w.heap.size+1), 3, none⟩, .slice iy y.items.length jy)]) [4, 8] (fun k v u u' => match k with | 4 => ∃ so sc, v = .tuple #[.agg #[.int .i64 y.kind, .slice so s.length sc, .slice none 0 0, .slice none 0 0], .int .i64 0] ∧ OwnI u' u.heap.size so sc s | 8 => v = .pointer (some ⟨u.heap.size, 0, none⟩) ∧ u' = u.alloc (.cells #[.int .i64 0, .slice none 0 0, .slice none 0 0, .slice none 0 0] 26) | _ => False) (fun _ _ h e => h.up e) (Sees.start (all_cons ((E.out.hdr 4 rfl).c0) (all_cons ((E.out.hdr 4 rfl).c1) (all_cons ((E.out.hdr 4 rfl).c2) (all_cons ((E.out.hdr 4 rfl).c3) (all_nil)))))) ?_
              simp only [List.take_succ_cons, List.take_zero, List.drop_succ_cons, List.drop_zero]
              repeat (first | (refine m_plain (v := ?_) (by rfl) (by rfl) ?_ ?_; rotate_left; (intro wz hSw; obtain ⟨-, hSc⟩ := hSw; (try simp only [List.forall_mem_cons, List.forall_mem_nil, and_true] at hSc); go_simp; (first | done | with_reducible rfl)); (intro K hK; (try simp only [Act.put, List.setIfInBounds_toArray, List.set_cons_zero, List.set_cons_succ]); refine hK _ _ ?_; clear hK K)) | (refine m_skip (by rfl) (by rfl) ?_; (intro K hK; (try simp only [Act.put, List.setIfInBounds_toArray, List.set_cons_zero, List.set_cons_succ]); refine hK _ _ ?_; clear hK K)))
              refine m_make (by rfl) (by rfl) ?_ ?_
              · intro wz hSw hdep R hRz
                obtain ⟨hSe, hSc⟩ := hSw
                (try simp only [List.forall_mem_cons, List.forall_mem_nil, and_true] at hSc)
                unfold does
                (go_simp; refine Calls.mono (ref26_shaped y _ _ _ _ _ _ (M : Int) T wz (ArrAt.up (ArrAt.mono (fun b _ h => hT1 b h) _ (E.out.arr 7 rfl)) hSe) hcy.out.1 hy8) ?_; rw [← hsx.out]; rintro e' wq ⟨⟨hd1, rfl⟩ | ⟨hd1, so, sc, rfl, hO⟩, hb⟩ <;> first | exact absurd hsD.out hd1 | exact ⟨_, rfl, hRz.out _ _ ⟨hb, so, sc, rfl, hO⟩⟩)
              intro v4 u4 x4 hG4 K hK
              have hF4 := hG4.fact
              (try dsimp only at hF4)
              obtain ⟨oa, oc, rfl, hO⟩ := hF4
              (try simp only [Act.put, List.setIfInBounds_toArray, List.set_cons_zero, List.set_cons_succ]); refine hK _ _ ?_; clear hK K
              repeat (first | (refine m_plain (v := ?_) (by rfl) (by rfl) ?_ ?_; rotate_left; (intro wz hSw; obtain ⟨-, hSc⟩ := hSw; (try simp only [List.forall_mem_cons, List.forall_mem_nil, and_true] at hSc); go_simp; (first | done | with_reducible rfl)); (intro K hK; (try simp only [Act.put, List.setIfInBounds_toArray, List.set_cons_zero, List.set_cons_succ]); refine hK _ _ ?_; clear hK K)) | (refine m_skip (by rfl) (by rfl) ?_; (intro K hK; (try simp only [Act.put, List.setIfInBounds_toArray, List.set_cons_zero, List.set_cons_succ]); refine hK _ _ ?_; clear hK K)))
              refine m_make (by rfl) (by rfl) ?_ ?_
              · intro wz hSw hdep R hRz
                obtain ⟨hSe, hSc⟩ := hSw
                (try simp only [List.forall_mem_cons, List.forall_mem_nil, and_true] at hSc)
                unfold does
                (go_simp; exact hRz.out _ _ ⟨ext_alloc _ _, rfl, rfl⟩)
              intro v8 u8 x8 hG8 K hK
              have hF8 := hG8.fact
              (try dsimp only at hF8)
              obtain ⟨rfl, rfl⟩ := hF8
              (try simp only [Act.put, List.setIfInBounds_toArray, List.set_cons_zero, List.set_cons_succ]); refine hK _ _ ?_; clear hK K
              repeat (first | (refine m_plain (v := ?_) (by rfl) (by rfl) ?_ ?_; rotate_left; (intro wz hSw; obtain ⟨-, hSc⟩ := hSw; (try simp only [List.forall_mem_cons, List.forall_mem_nil, and_true] at hSc); go_simp; (first | done | with_reducible rfl)); (intro K hK; (try simp only [Act.put, List.setIfInBounds_toArray, List.set_cons_zero, List.set_cons_succ]); refine hK _ _ ?_; clear hK K)) | (refine m_skip (by rfl) (by rfl) ?_; (intro K hK; (try simp only [Act.put, List.setIfInBounds_toArray, List.set_cons_zero, List.set_cons_succ]); refine hK _ _ ?_; clear hK K)))
              refine m_nil ?_
              intro wf hSf hAf
              have hcap := hid hO.cap
              replace E := hid (E.out.madeI ((hO.ints (by omega)).mono fun b _ hb => hb.1) (hAf 4 _ rfl) (hG8.order 4 _ rfl) hG4.s.1 hG8.s.1 (hAf 8 _ rfl) hSf.1)
              clear hSf hAf hG4 hG8 hO hwr hT1 hT2 hT3
              clear q40 q41 q42 q43
              (try simp only [List.cons_append, List.nil_append, List.set_cons_zero, List.set_cons_succ] at E)
              generalize u8.heap.size = bg at E ⊢
              refine wpl_store4 (by rfl) (.tmp 13) (.tmp 74) (by rfl) _ (by rfl) (by rfl) (E.out.hdr 9 rfl) ?_
              intro V4 HV CV
              replace E := hid (E.out.chg 9 rfl CV HV)
              clear HV CV
              (try simp only [List.cons_append, List.nil_append, List.set_cons_zero, List.set_cons_succ] at E)
              go_wp2_with fail
              replace E := hid ((E.out.row0I).row0A)
              (try simp only [List.cons_append, List.nil_append, List.set_cons_zero, List.set_cons_succ] at E)
              replace E := hid (E.out.pick 12 rfl)
              simp only [List.eraseIdx_cons_succ, List.eraseIdx_cons_zero] at E
              replace E := hid (E.out.pick 12 rfl)
              simp only [List.eraseIdx_cons_succ, List.eraseIdx_cons_zero] at E
              go_upto_region 19 with (fail)
              go_loopw [15] (fun v wr => ∃ (k : Nat) (na : Option Addr) (nc : Nat) (ja : Option Addr) (jc : Nat), k ≤ M ∧ v = .int .i64 ((i + k : Nat) : Int) ∧ Env w S wr [.rowI na nc (grL y.nums i (celN y) k), .rowA ja jc (grL y.items i (celN y) k), .obj bo (.cells #[.int .i64 3, .slice (some ⟨p1, 0, none⟩) 1 1, .slice none 0 0, .slice ia (G).length ic] 26 (0, 0)), .rowI (some ⟨p1, 0, none⟩) 1 [((G).length : Int)], .rowA ia ic (G), .obj w.heap.size (.cells #[.int .i64 x.kind, .slice sx x.shape.length cx, .slice nx x.nums.length mx, .slice ix x.items.length jx] 26 (0, 0)), .obj (w.heap.size + 1) (.cells #[.int .i64 y.kind, .slice sy y.shape.length cy, .slice ny y.nums.length my, .slice iy y.items.length jy] 26 (0, 0)), .obj (w.heap.size + 1 + 1) (.cells #[.int .i64 0, .slice none 0 0, .slice none 0 0, .slice none 0 0] 26 (0, 0)), .arr x sx nx ix, .arr y sy ny iy, .ints x.nums (some ⟨b1, o1, none⟩), .obj bg (.cells #[.int .i64 y.kind, .slice oa s.length oc, .slice na (grL y.nums i (celN y) k).length nc, .slice ja (grL y.items i (celN y) k).length jc] 26 (0, 0)), .ints s oa]) (fun v _ => e - (intOf v).toNat)
              case atStart => exact ⟨0, none, 0, none, 0, Nat.zero_le _, rfl, by rw [grL_0, grL_0]; exact E.out⟩
              case round =>
                clear E
                obtain ⟨k, na, nc, ja, jc, hkM, rfl, E⟩ := hrel
                replace E := hid E
                have hgn := grL_le y.nums i (celN y) k
                have hgi := grL_le y.items i (celN y) k
                have hy6 := right_l3 K.out.ry
                by_cases hlk : k < M
                case pos =>
                  have hot : i + k < talM y := by have := heM.out; have := o'.out; omega
                  have hek : ((i + k : Nat) : Int) < (e : Int) := by have := heM.out; omega
                  obtain ⟨ik, hik⟩ : ∃ q, q = i + k := ⟨_, rfl⟩
                  rw [← hik] at hot hek ⊢
                  have hik2 : ik ≤ 65536 := by omega
                  have g1 : Hid (grL y.nums i (celN y) (k + 1) = grL y.nums i (celN y) k ++ blkL y.nums ik (celN y)) := hid (by rw [grL_succ, hik])
                  have g2 : Hid (grL y.items i (celN y) (k + 1) = grL y.items i (celN y) k ++ blkL y.items ik (celN y)) := hid (by rw [grL_succ, hik])
                  replace hik := hid hik
                  obtain ⟨nn, hnn⟩ : ∃ q, q = grL y.nums i (celN y) k := ⟨_, rfl⟩
                  obtain ⟨ii, hii⟩ : ∃ q, q = grL y.items i (celN y) k := ⟨_, rfl⟩
                  rw [← hnn, ← hii] at E
                  rw [← hnn] at g1 hgn
                  rw [← hii] at g2 hgi
                  replace hnn := hid hnn
                  replace hii := hid hii
                  obtain ⟨q110, q111, q112, q113⟩ := (E.out.hdr 11 rfl).all
                  obtain ⟨q60, q61, q62, q63⟩ := (E.out.hdr 6 rfl).all
                  go_wp2_with fail
                  clear q110 q111 q112 q113 q60 q61 q62 q63
                  refine (ref26_cell y.kind oa s.length oc na nc nn ja jc ii y _ _ _ _ _ _ ik w S _ _ E.out (E.out.arr 9 rfl) rfl (flat_of K.out.ry) hs hcy.out.1 hot (sz_tal K.out.ry) (by omega) (by omega)).mono ?_
                  rintro e' w7 ⟨na2, nc2, ja2, jc2, rfl, E1⟩
                  clear E
                  have E := hid E1
                  clear E1
                  generalize nn ++ blkL y.nums ik (celN y) = ln2 at E g1 ⊢
                  generalize ii ++ blkL y.items ik (celN y) = li2 at E g2 ⊢
                  go_wp2_with (refine wpl_store4 rfl (.tmp 13) (.tmp 85) rfl _ rfl rfl (E.out.hdr 11 rfl) ?_; intro V HV CV; replace E := hid (E.out.chg 11 rfl CV HV); clear HV CV; (try simp only [List.cons_append, List.nil_append, List.set_cons_zero, List.set_cons_succ] at E))
                  go_roundw
                  case rel => exact ⟨k + 1, na2, nc2, ja2, jc2, by omega, by rw [show i + (k + 1) = ik + 1 by have := hik.out; omega]; go_num, by rw [g1.out, g2.out]; exact E.out⟩
                  case measure => simp [intOf]; omega
                case neg =>
                  have hkM2 : k = M := by omega
                  have hek : ¬ ((i + k : Nat) : Int) < (e : Int) := by have := heM.out; omega
                  obtain ⟨ik, hik⟩ : ∃ q, q = i + k := ⟨_, rfl⟩
                  rw [← hik] at hek ⊢
                  obtain ⟨nn, hnn⟩ : ∃ q, q = grL y.nums i (celN y) k := ⟨_, rfl⟩
                  obtain ⟨ii, hii⟩ : ∃ q, q = grL y.items i (celN y) k := ⟨_, rfl⟩
                  rw [← hnn, ← hii] at E
                  rw [← hii] at hgi
                  rw [← hnn] at hgn
                  have hgp : Hid (grpA y (i, M) = .mk y.kind s nn ii) := hid (by rw [grpA_eq, hnn, hii, hkM2, hsx.out])
                  have hA2 := hid hAt2.out
                  rw [← hM.out, hgp.out] at hA2
                  replace hik := hid hik
                  replace hkM2 := hid hkM2
                  replace hnn := hid hnn
                  replace hii := hid hii
                  replace E := hid (E.out.doneI 0 rfl (by omega))
                  (try simp only [List.cons_append, List.nil_append, List.set_cons_zero, List.set_cons_succ] at E)
                  replace E := hid (E.out.doneA 1 rfl)
                  (try simp only [List.cons_append, List.nil_append, List.set_cons_zero, List.set_cons_succ] at E)
                  have hll : G.length + [Arr.mk y.kind s nn ii].length ≤ 1759218604441 := by simp only [List.length_cons, List.length_nil]; omega
                  have oB := hid (box_items (z := .mk y.kind s nn ii) (sc := oc) (nc := nc) (ic := jc) (Ext.refl _) (E.out.fresh (Ext.refl _) (Nat.le_refl _)) (ArrAt.iff.2 ⟨E.out.ints 12 rfl, E.out.ints 0 rfl, by show ii.length ≤ _; omega, E.out.items 1 rfl⟩))
                  obtain ⟨q20, q21, q22, q23⟩ := (E.out.hdr 2 rfl).all
                  obtain ⟨q110, q111, q112, q113⟩ := (E.out.hdr 11 rfl).all
                  go_upto_region 23 with (first
                    | (at_builtin; replace E := hid (E.out.up (ext_alloc _ (.cells #[.int .i64 y.kind, .slice oa s.length oc, .slice na nn.length nc, .slice ja ii.length jc] 26))); refine wplE_appA E.out 4 rfl rfl (.tmp 87) (.tmp 89) rfl rfl _ _ 1 [.mk y.kind s nn ii] rfl oB.out (fun _ _ h => h) hll ?_; intro V5 ia2 ic2 E1; clear E; have E := hid E1; clear E1; (try simp only [List.cons_append, List.nil_append, List.set_cons_zero, List.set_cons_succ] at E))
                    | (refine wpl_store3 rfl (.tmp 91) (.tmp 90) rfl bo rfl rfl (E.out.hdr 2 rfl) ?_; intro V HV CV; replace E := hid (E.out.chg 2 rfl CV HV); clear HV CV; (try simp only [List.cons_append, List.nil_append, List.set_cons_zero, List.set_cons_succ] at E)))
                  clear q20 q21 q22 q23 q110 q111 q112 q113
                  obtain ⟨b3, o3, hn3, hb3, hS3, hc3⟩ := (E.out.rowIr 3 rfl (by show (1 : Nat) ≤ _; decide)).at (show (0 : Nat) < 1 by decide)
                  injection hn3 with hn3
                  injection hn3 with q1 q2
                  subst q1
                  subst q2
                  have hc4 : V.cell? ⟨p1, 0, none⟩ = some (.int .i64 (G.length : Int)) := hc3
                  clear hc3 hS3 hb3
                  obtain ⟨q20, q21, q22, q23⟩ := (E.out.hdr 2 rfl).all
                  go_wp2_with (refine wplE_setI E.out 3 rfl rfl (.tmp 97) (.tmp 96) rfl 0 (by simp) _ (fun g e => by cases e; rfl) rfl ?_; intro V6 E1; clear E; have E := hid E1; clear E1; (try simp only [List.cons_append, List.nil_append, List.set_cons_zero, List.set_cons_succ] at E))
                  go_roundw
                  case rel => exact ⟨i + 1, G ++ [Arr.mk y.kind s nn ii], ia2, ic2, by omega, by go_num, hA2, by rw [show (G ++ [Arr.mk y.kind s nn ii]).length = G.length + 1 by simp, Int.natCast_add]; exact E.out.tl.tl.sub (List.Sublist.cons_cons _ (List.Sublist.cons_cons _ (List.Sublist.cons_cons _ (List.Sublist.cons_cons _ (List.Sublist.cons_cons _ (List.Sublist.cons_cons _ (List.Sublist.cons_cons _ (List.Sublist.cons_cons _ (List.Sublist.cons_cons _ (List.nil_sublist _))))))))))⟩
                  case measure => simp [intOf]; omega
            case neg =>
              have t2 : ¬ (e : Int) < (x.nums.length : Int) := by omega
              clear hcont
              replace heM := hid heM
              replace hM := hid hM
              replace he := hid he
              go_upto_region 17 with (fail)
              have hM1 : 1 ≤ M ∧ M ≤ talM y := by have := hM.out; have := heM.out; have := o'.out; omega
              obtain ⟨s, hsx⟩ : ∃ s, s = (M : Int) :: celL y := ⟨_, rfl⟩
              have hsB := hid (shapeB_grp hs hM1.1 hM1.2)
              have hsD : Hid (dimsE s = 0) := hid (by rw [hsx]; exact dimsE_zero.2 hsB.out)
              have hcl8 : (celL y).length ≤ 8 := (shapeB_iff.1 (celL_ok hs)).1
              have sl9 : s.length ≤ 9 := by rw [hsx]; simp only [List.length_cons]; omega
              have hy8 : y.shape.length ≤ 1000 := by have := (shapeB_iff.1 hs).1; omega
              replace hsx := hid hsx
              have hwr : IntKind.i64.wrap ((e : Int) - (i : Int)) = (M : Int) := by rw [show (e : Int) - (i : Int) = (M : Int) by have := heM.out; omega]; exact IntWalk.i64_in _ (by have := heM.out; omega)
              obtain ⟨T, hT1, hT2, hT3⟩ := E.out.tw
              obtain ⟨q40, q41, q42, q43⟩ := (E.out.hdr 4 rfl).all
              refine wp_region_seq_tail 9 (Sees wr [(⟨(w.heap.size+1), 0, none⟩, .int .i64 y.kind), (⟨(w.heap.size+1), 1, none⟩, .slice sy y.shape.length cy), (⟨(w.heap.size+1), 2, none⟩, .slice ny y.nums.length my), (⟨(w.heap.size+1), 3, none⟩, .slice iy y.items.length jy)]) [4, 8] (fun k v u u' => match k with | 4 => ∃ so sc, v = .tuple #[.agg #[.int .i64 y.kind, .slice so s.length sc, .slice none 0 0, .slice none 0 0], .int .i64 0] ∧ OwnI u' u.heap.size so sc s | 8 => v = .pointer (some ⟨u.heap.size, 0, none⟩) ∧ u' = u.alloc (.cells #[.int .i64 0, .slice none 0 0, .slice none 0 0, .slice none 0 0] 26) | _ => False) (fun _ _ h e => h.up e) (Sees.start (all_cons ((E.out.hdr 4 rfl).c0) (all_cons ((E.out.hdr 4 rfl).c1) (all_cons ((E.out.hdr 4 rfl).c2) (all_cons ((E.out.hdr 4 rfl).c3) (all_nil)))))) ?_
              simp only [List.take_succ_cons, List.take_zero, List.drop_succ_cons, List.drop_zero]
              repeat (first | (refine m_plain (v := ?_) (by rfl) (by rfl) ?_ ?_; rotate_left; (intro wz hSw; obtain ⟨-, hSc⟩ := hSw; (try simp only [List.forall_mem_cons, List.forall_mem_nil, and_true] at hSc); go_simp; (first | done | with_reducible rfl)); (intro K hK; (try simp only [Act.put, List.setIfInBounds_toArray, List.set_cons_zero, List.set_cons_succ]); refine hK _ _ ?_; clear hK K)) | (refine m_skip (by rfl) (by rfl) ?_; (intro K hK; (try simp only [Act.put, List.setIfInBounds_toArray, List.set_cons_zero, List.set_cons_succ]); refine hK _ _ ?_; clear hK K)))
              refine m_make (by rfl) (by rfl) ?_ ?_
              · intro wz hSw hdep R hRz
                obtain ⟨hSe, hSc⟩ := hSw
                (try simp only [List.forall_mem_cons, List.forall_mem_nil, and_true] at hSc)
                unfold does
                (go_simp; refine Calls.mono (ref26_shaped y _ _ _ _ _ _ (M : Int) T wz (ArrAt.up (ArrAt.mono (fun b _ h => hT1 b h) _ (E.out.arr 7 rfl)) hSe) hcy.out.1 hy8) ?_; rw [← hsx.out]; rintro e' wq ⟨⟨hd1, rfl⟩ | ⟨hd1, so, sc, rfl, hO⟩, hb⟩ <;> first | exact absurd hsD.out hd1 | exact ⟨_, rfl, hRz.out _ _ ⟨hb, so, sc, rfl, hO⟩⟩)
              intro v4 u4 x4 hG4 K hK
              have hF4 := hG4.fact
              (try dsimp only at hF4)
              obtain ⟨oa, oc, rfl, hO⟩ := hF4
              (try simp only [Act.put, List.setIfInBounds_toArray, List.set_cons_zero, List.set_cons_succ]); refine hK _ _ ?_; clear hK K
              repeat (first | (refine m_plain (v := ?_) (by rfl) (by rfl) ?_ ?_; rotate_left; (intro wz hSw; obtain ⟨-, hSc⟩ := hSw; (try simp only [List.forall_mem_cons, List.forall_mem_nil, and_true] at hSc); go_simp; (first | done | with_reducible rfl)); (intro K hK; (try simp only [Act.put, List.setIfInBounds_toArray, List.set_cons_zero, List.set_cons_succ]); refine hK _ _ ?_; clear hK K)) | (refine m_skip (by rfl) (by rfl) ?_; (intro K hK; (try simp only [Act.put, List.setIfInBounds_toArray, List.set_cons_zero, List.set_cons_succ]); refine hK _ _ ?_; clear hK K)))
              refine m_make (by rfl) (by rfl) ?_ ?_
              · intro wz hSw hdep R hRz
                obtain ⟨hSe, hSc⟩ := hSw
                (try simp only [List.forall_mem_cons, List.forall_mem_nil, and_true] at hSc)
                unfold does
                (go_simp; exact hRz.out _ _ ⟨ext_alloc _ _, rfl, rfl⟩)
              intro v8 u8 x8 hG8 K hK
              have hF8 := hG8.fact
              (try dsimp only at hF8)
              obtain ⟨rfl, rfl⟩ := hF8
              (try simp only [Act.put, List.setIfInBounds_toArray, List.set_cons_zero, List.set_cons_succ]); refine hK _ _ ?_; clear hK K
              repeat (first | (refine m_plain (v := ?_) (by rfl) (by rfl) ?_ ?_; rotate_left; (intro wz hSw; obtain ⟨-, hSc⟩ := hSw; (try simp only [List.forall_mem_cons, List.forall_mem_nil, and_true] at hSc); go_simp; (first | done | with_reducible rfl)); (intro K hK; (try simp only [Act.put, List.setIfInBounds_toArray, List.set_cons_zero, List.set_cons_succ]); refine hK _ _ ?_; clear hK K)) | (refine m_skip (by rfl) (by rfl) ?_; (intro K hK; (try simp only [Act.put, List.setIfInBounds_toArray, List.set_cons_zero, List.set_cons_succ]); refine hK _ _ ?_; clear hK K)))
              refine m_nil ?_
              intro wf hSf hAf
              have hcap := hid hO.cap
              replace E := hid (E.out.madeI ((hO.ints (by omega)).mono fun b _ hb => hb.1) (hAf 4 _ rfl) (hG8.order 4 _ rfl) hG4.s.1 hG8.s.1 (hAf 8 _ rfl) hSf.1)
              clear hSf hAf hG4 hG8 hO hwr hT1 hT2 hT3
              clear q40 q41 q42 q43
              (try simp only [List.cons_append, List.nil_append, List.set_cons_zero, List.set_cons_succ] at E)
              generalize u8.heap.size = bg at E ⊢
              refine wpl_store4 (by rfl) (.tmp 13) (.tmp 74) (by rfl) _ (by rfl) (by rfl) (E.out.hdr 9 rfl) ?_
              intro V4 HV CV
              replace E := hid (E.out.chg 9 rfl CV HV)
              clear HV CV
              (try simp only [List.cons_append, List.nil_append, List.set_cons_zero, List.set_cons_succ] at E)
              go_wp2_with fail
              replace E := hid ((E.out.row0I).row0A)
              (try simp only [List.cons_append, List.nil_append, List.set_cons_zero, List.set_cons_succ] at E)
              replace E := hid (E.out.pick 12 rfl)
              simp only [List.eraseIdx_cons_succ, List.eraseIdx_cons_zero] at E
              replace E := hid (E.out.pick 12 rfl)
              simp only [List.eraseIdx_cons_succ, List.eraseIdx_cons_zero] at E
              go_upto_region 19 with (fail)
              go_loopw [15] (fun v wr => ∃ (k : Nat) (na : Option Addr) (nc : Nat) (ja : Option Addr) (jc : Nat), k ≤ M ∧ v = .int .i64 ((i + k : Nat) : Int) ∧ Env w S wr [.rowI na nc (grL y.nums i (celN y) k), .rowA ja jc (grL y.items i (celN y) k), .obj bo (.cells #[.int .i64 3, .slice (some ⟨p1, 0, none⟩) 1 1, .slice none 0 0, .slice ia (G).length ic] 26 (0, 0)), .rowI (some ⟨p1, 0, none⟩) 1 [((G).length : Int)], .rowA ia ic (G), .obj w.heap.size (.cells #[.int .i64 x.kind, .slice sx x.shape.length cx, .slice nx x.nums.length mx, .slice ix x.items.length jx] 26 (0, 0)), .obj (w.heap.size + 1) (.cells #[.int .i64 y.kind, .slice sy y.shape.length cy, .slice ny y.nums.length my, .slice iy y.items.length jy] 26 (0, 0)), .obj (w.heap.size + 1 + 1) (.cells #[.int .i64 0, .slice none 0 0, .slice none 0 0, .slice none 0 0] 26 (0, 0)), .arr x sx nx ix, .arr y sy ny iy, .ints x.nums (some ⟨b1, o1, none⟩), .obj bg (.cells #[.int .i64 y.kind, .slice oa s.length oc, .slice na (grL y.nums i (celN y) k).length nc, .slice ja (grL y.items i (celN y) k).length jc] 26 (0, 0)), .ints s oa]) (fun v _ => e - (intOf v).toNat)
              case atStart => exact ⟨0, none, 0, none, 0, Nat.zero_le _, rfl, by rw [grL_0, grL_0]; exact E.out⟩
              case round =>
                clear E
                obtain ⟨k, na, nc, ja, jc, hkM, rfl, E⟩ := hrel
                replace E := hid E
                have hgn := grL_le y.nums i (celN y) k
                have hgi := grL_le y.items i (celN y) k
                have hy6 := right_l3 K.out.ry
                by_cases hlk : k < M
                case pos =>
                  have hot : i + k < talM y := by have := heM.out; have := o'.out; omega
                  have hek : ((i + k : Nat) : Int) < (e : Int) := by have := heM.out; omega
                  obtain ⟨ik, hik⟩ : ∃ q, q = i + k := ⟨_, rfl⟩
                  rw [← hik] at hot hek ⊢
                  have hik2 : ik ≤ 65536 := by omega
                  have g1 : Hid (grL y.nums i (celN y) (k + 1) = grL y.nums i (celN y) k ++ blkL y.nums ik (celN y)) := hid (by rw [grL_succ, hik])
                  have g2 : Hid (grL y.items i (celN y) (k + 1) = grL y.items i (celN y) k ++ blkL y.items ik (celN y)) := hid (by rw [grL_succ, hik])
                  replace hik := hid hik
                  obtain ⟨nn, hnn⟩ : ∃ q, q = grL y.nums i (celN y) k := ⟨_, rfl⟩
                  obtain ⟨ii, hii⟩ : ∃ q, q = grL y.items i (celN y) k := ⟨_, rfl⟩
                  rw [← hnn, ← hii] at E
                  rw [← hnn] at g1 hgn
                  rw [← hii] at g2 hgi
                  replace hnn := hid hnn
                  replace hii := hid hii
                  obtain ⟨q110, q111, q112, q113⟩ := (E.out.hdr 11 rfl).all
                  obtain ⟨q60, q61, q62, q63⟩ := (E.out.hdr 6 rfl).all
                  go_wp2_with fail
                  clear q110 q111 q112 q113 q60 q61 q62 q63
                  refine (ref26_cell y.kind oa s.length oc na nc nn ja jc ii y _ _ _ _ _ _ ik w S _ _ E.out (E.out.arr 9 rfl) rfl (flat_of K.out.ry) hs hcy.out.1 hot (sz_tal K.out.ry) (by omega) (by omega)).mono ?_
                  rintro e' w7 ⟨na2, nc2, ja2, jc2, rfl, E1⟩
                  clear E
                  have E := hid E1
                  clear E1
                  generalize nn ++ blkL y.nums ik (celN y) = ln2 at E g1 ⊢
                  generalize ii ++ blkL y.items ik (celN y) = li2 at E g2 ⊢
                  go_wp2_with (refine wpl_store4 rfl (.tmp 13) (.tmp 85) rfl _ rfl rfl (E.out.hdr 11 rfl) ?_; intro V HV CV; replace E := hid (E.out.chg 11 rfl CV HV); clear HV CV; (try simp only [List.cons_append, List.nil_append, List.set_cons_zero, List.set_cons_succ] at E))
                  go_roundw
                  case rel => exact ⟨k + 1, na2, nc2, ja2, jc2, by omega, by rw [show i + (k + 1) = ik + 1 by have := hik.out; omega]; go_num, by rw [g1.out, g2.out]; exact E.out⟩
                  case measure => simp [intOf]; omega
                case neg =>
                  have hkM2 : k = M := by omega
                  have hek : ¬ ((i + k : Nat) : Int) < (e : Int) := by have := heM.out; omega
                  obtain ⟨ik, hik⟩ : ∃ q, q = i + k := ⟨_, rfl⟩
                  rw [← hik] at hek ⊢
                  obtain ⟨nn, hnn⟩ : ∃ q, q = grL y.nums i (celN y) k := ⟨_, rfl⟩
                  obtain ⟨ii, hii⟩ : ∃ q, q = grL y.items i (celN y) k := ⟨_, rfl⟩
                  rw [← hnn, ← hii] at E
                  rw [← hii] at hgi
                  rw [← hnn] at hgn
                  have hgp : Hid (grpA y (i, M) = .mk y.kind s nn ii) := hid (by rw [grpA_eq, hnn, hii, hkM2, hsx.out])
                  have hA2 := hid hAt2.out
                  rw [← hM.out, hgp.out] at hA2
                  replace hik := hid hik
                  replace hkM2 := hid hkM2
                  replace hnn := hid hnn
                  replace hii := hid hii
                  replace E := hid (E.out.doneI 0 rfl (by omega))
                  (try simp only [List.cons_append, List.nil_append, List.set_cons_zero, List.set_cons_succ] at E)
                  replace E := hid (E.out.doneA 1 rfl)
                  (try simp only [List.cons_append, List.nil_append, List.set_cons_zero, List.set_cons_succ] at E)
                  have hll : G.length + [Arr.mk y.kind s nn ii].length ≤ 1759218604441 := by simp only [List.length_cons, List.length_nil]; omega
                  have oB := hid (box_items (z := .mk y.kind s nn ii) (sc := oc) (nc := nc) (ic := jc) (Ext.refl _) (E.out.fresh (Ext.refl _) (Nat.le_refl _)) (ArrAt.iff.2 ⟨E.out.ints 12 rfl, E.out.ints 0 rfl, by show ii.length ≤ _; omega, E.out.items 1 rfl⟩))
                  obtain ⟨q20, q21, q22, q23⟩ := (E.out.hdr 2 rfl).all
                  obtain ⟨q110, q111, q112, q113⟩ := (E.out.hdr 11 rfl).all
                  go_upto_region 23 with (first
                    | (at_builtin; replace E := hid (E.out.up (ext_alloc _ (.cells #[.int .i64 y.kind, .slice oa s.length oc, .slice na nn.length nc, .slice ja ii.length jc] 26))); refine wplE_appA E.out 4 rfl rfl (.tmp 87) (.tmp 89) rfl rfl _ _ 1 [.mk y.kind s nn ii] rfl oB.out (fun _ _ h => h) hll ?_; intro V5 ia2 ic2 E1; clear E; have E := hid E1; clear E1; (try simp only [List.cons_append, List.nil_append, List.set_cons_zero, List.set_cons_succ] at E))
                    | (refine wpl_store3 rfl (.tmp 91) (.tmp 90) rfl bo rfl rfl (E.out.hdr 2 rfl) ?_; intro V HV CV; replace E := hid (E.out.chg 2 rfl CV HV); clear HV CV; (try simp only [List.cons_append, List.nil_append, List.set_cons_zero, List.set_cons_succ] at E)))
                  clear q20 q21 q22 q23 q110 q111 q112 q113
                  obtain ⟨b3, o3, hn3, hb3, hS3, hc3⟩ := (E.out.rowIr 3 rfl (by show (1 : Nat) ≤ _; decide)).at (show (0 : Nat) < 1 by decide)
                  injection hn3 with hn3
                  injection hn3 with q1 q2
                  subst q1
                  subst q2
                  have hc4 : V.cell? ⟨p1, 0, none⟩ = some (.int .i64 (G.length : Int)) := hc3
                  clear hc3 hS3 hb3
                  obtain ⟨q20, q21, q22, q23⟩ := (E.out.hdr 2 rfl).all
                  go_wp2_with (refine wplE_setI E.out 3 rfl rfl (.tmp 97) (.tmp 96) rfl 0 (by simp) _ (fun g e => by cases e; rfl) rfl ?_; intro V6 E1; clear E; have E := hid E1; clear E1; (try simp only [List.cons_append, List.nil_append, List.set_cons_zero, List.set_cons_succ] at E))
                  go_roundw
                  case rel => exact ⟨i + 1, G ++ [Arr.mk y.kind s nn ii], ia2, ic2, by omega, by go_num, hA2, by rw [show (G ++ [Arr.mk y.kind s nn ii]).length = G.length + 1 by simp, Int.natCast_add]; exact E.out.tl.tl.sub (List.Sublist.cons_cons _ (List.Sublist.cons_cons _ (List.Sublist.cons_cons _ (List.Sublist.cons_cons _ (List.Sublist.cons_cons _ (List.Sublist.cons_cons _ (List.Sublist.cons_cons _ (List.Sublist.cons_cons _ (List.Sublist.cons_cons _ (List.nil_sublist _))))))))))⟩
                  case measure => simp [intOf]; omega
    · have hke : i = x.nums.length := by omega
      have hcA := hid ((show CutAt x y x.nums.length G by rw [← hke]; exact hAt.out).fin)
      have fin1 := FIN.out.1
      have fin2 := FIN.out.2
      rw [hcA.out] at fin1 fin2
      replace fin1 := hid fin1
      replace fin2 := hid fin2
      replace hke := hid hke
      have c3 := hid (OwnA.cap (E.out.rowA 2 rfl))
      replace E := hid (E.out.doneI 1 rfl (by show (1 : Nat) ≤ _; decide))
      (try simp only [List.cons_append, List.nil_append, List.set_cons_zero, List.set_cons_succ] at E)
      replace E := hid (E.out.doneA 2 rfl)
      (try simp only [List.cons_append, List.nil_append, List.set_cons_zero, List.set_cons_succ] at E)
      obtain ⟨q00, q01, q02, q03⟩ := (E.out.hdr 0 rfl).all
      go_wp2_with fail
      clear q00 q01 q02 q03
      refine (ref26_bounded (.mk 3 [(G.length : Int)] [] G) _ 1 none 0 _ ic _ _ (ArrAt.iff.2 ⟨E.out.ints 1 rfl, IntsAt.nil _ _ none, by show G.length ≤ _; omega, E.out.items 2 rfl⟩) ⟨Nat.le_refl 1, Nat.zero_le _, c3.out⟩).mono ?_
      intro e w5 h
      obtain ⟨s7, c7, n7, m7, i7, j7, rfl, hA, hb, hC7⟩ := h.eq fin1.out.symm fin2.out
      replace E := hid ((E.out.up hb).addArr hA (fun b _ hq => hq))
      replace hC7 := hid hC7
      clear hA hb h
      (try simp only [List.cons_append, List.nil_append, List.set_cons_zero, List.set_cons_succ] at E)
      go_wp2_with (refine wpl_store4 rfl (.tmp 4) (.tmp 100) rfl _ rfl rfl (E.out.hdr 5 rfl) ?_; intro V HV CV; replace E := hid (E.out.chg 5 rfl CV HV); clear CV; (try simp only [List.cons_append, List.nil_append, List.set_cons_zero, List.set_cons_succ] at E))
      refine bodyPost_ret (end_arr2 rfl HV rfl rfl) rfl (hR.out _ _ ?_)
      exact RetAEC.at rfl rfl (ArrAt.mono (fun b _ h => h.1) _ (E.out.arr 9 rfl)) E.out.ext hC7.out
end Go.Proofs.Ythhffneibcpbdaa
