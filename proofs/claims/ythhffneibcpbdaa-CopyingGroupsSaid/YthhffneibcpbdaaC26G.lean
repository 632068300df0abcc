/- copying.Cut: contract. Conditions: the arrays are read; a slice's capacity is at least its length. -/
import Derived.Test.YthhffneibcpbdaaC26E
import Derived.Test.YthhffneibcpbdaaP26C
set_option linter.unusedVariables false
set_option linter.unusedSimpArgs false
namespace Go.Proofs.Ythhffneibcpbdaa
open Go.RowKit Go.Sort
attribute [local go_sem ↓] run_max2 run_min2
attribute [local go_sem] eql_ints_nil eql_arrs_nil
theorem any_not {l : List Int} : l.any (fun n => !bitB n) = !(l.all bitB) := by
  induction l with
  | nil => rfl
  | cons a l ih => simp only [List.any_cons, List.all_cons, ih, Bool.not_and]
def grL {α : Type} (a : List α) (i c k : Nat) : List α := (a.drop (i * c)).take (k * c)
theorem grL_0 {α : Type} (a : List α) (i c : Nat) : grL a i c 0 = [] := by simp [grL]
theorem grL_succ {α : Type} (a : List α) (i c k : Nat) : grL a i c (k + 1) = grL a i c k ++ blkL a (i + k) c := grp_step a i k c
theorem grL_le {α : Type} (a : List α) (i c k : Nat) : (grL a i c k).length ≤ a.length := grp_len a i k c
theorem grpA_eq (y : Arr) (i k : Nat) : grpA y (i, k) = .mk y.kind ((k : Int) :: celL y) (grL y.nums i (celN y) k) (grL y.items i (celN y) k) := rfl
set_option maxRecDepth 100000 in
set_option maxHeartbeats 8000000 in
theorem copying_Cut (x : Arr) (sx : Option Addr) (cx : Nat) (nx : Option Addr) (mx : Nat) (ix : Option Addr) (jx : Nat) (y : Arr) (sy : Option Addr) (cy : Nat) (ny : Option Addr) (my : Nat) (iy : Option Addr) (jy : Nat) (S : Nat → Prop) (w : World) (h : ArrAt w S x sx nx ix) (g : ArrAt w S y sy ny iy) (hcx : x.shape.length ≤ cx ∧ x.nums.length ≤ mx ∧ x.items.length ≤ jx) (hcy : y.shape.length ≤ cy ∧ y.nums.length ≤ my ∧ y.items.length ≤ jy) :
    Calls Try.prog 33 #[.agg #[.int .i64 x.kind, .slice sx x.shape.length cx, .slice nx x.nums.length mx, .slice ix x.items.length jx], .agg #[.int .i64 y.kind, .slice sy y.shape.length cy, .slice ny y.nums.length my, .slice iy y.items.length jy]] w (RetAEC w (fun b => S b ∨ w.heap.size ≤ b) (cutS x y) (cutE x y)) := by
  refine calls_post fun R' hR => ?_
  have h0 := hid h
  have g0 := hid g
  replace hcx := hid hcx
  replace hcy := hid hcy
  clear h g
  go_enter Try.func33, Try.ntmps33
  go_upto_region 1 with (fail)
  generalize hEW : (((w).alloc (.cells #[.int .i64 x.kind, .slice sx x.shape.length cx, .slice nx x.nums.length mx, .slice ix x.items.length jx] 26)).alloc (.cells #[.int .i64 y.kind, .slice sy y.shape.length cy, .slice ny y.nums.length my, .slice iy y.items.length jy] 26)).alloc (.cells #[.int .i64 0, .slice none 0 0, .slice none 0 0, .slice none 0 0] 26) = W
  have E := hid (env3 w S hEW)
  clear hEW
  replace E := hid ((E.out.arg h0.out).arg g0.out)
  (try simp only [List.cons_append, List.nil_append, List.set_cons_zero, List.set_cons_succ] at E)
  obtain ⟨q00, q01, q02, q03⟩ := (E.out.hdr 0 rfl).all
  obtain ⟨q10, q11, q12, q13⟩ := (E.out.hdr 1 rfl).all
  go_wp2_with fail
  clear q00 q01 q02 q03 q10 q11 q12 q13
  refine (copying_check x _ _ _ _ _ _ y _ _ _ _ _ _ _ _ (E.out.arr 3 rfl) (E.out.arr 4 rfl)).mono ?_
  rintro e w1 ⟨rfl, hb⟩
  replace E := hid (E.out.up hb)
  clear hb
  by_cases c : chkE26 x y = 0
  case neg =>
    have cb : (chkE26 x y != 0) = true := by simpa using c
    have hn := hid (cutE_c c)
    have hv := hid (cutS_no (x := x) (y := y) (by rw [hn.out]; exact c))
    replace c := hid c
    go_wp2_with (refine wpl_store4 rfl (.tmp 4) (.tmp 20) rfl _ rfl rfl (E.out.hdr 2 rfl) ?_; intro V HV CV; replace E := hid (E.out.chg 2 rfl CV HV))
    exact bodyPost_ret (end_arr2 rfl HV rfl rfl) rfl (hR.out _ _ (RetAEC.zero hv.out hn.out E.out.ext))
  have cb : (chkE26 x y != 0) = false := by simpa using c
  have K := chk26_ok c
  have hs := (right_ok K.ry).2.1
  have ht := tal_nn hs
  have ht6 := tal_le hs
  have hx6 := (right_l3 K.rx)
  replace K := hid K
  replace c := hid c
  obtain ⟨q10, q11, q12, q13⟩ := (E.out.hdr 1 rfl).all
  go_wp2_with fail
  clear q10 q11 q12 q13
  refine (copying_split y _ _ _ _ _ _ _ _ (E.out.arr 4 rfl) hs hcy.out.1).mono ?_
  rintro e w2 ⟨so, sc, rfl, hI, hb⟩
  replace E := hid ((E.out.up hb).addInts hI (fun _ _ h => h))
  clear hI hb
  (try simp only [List.cons_append, List.nil_append, List.set_cons_zero, List.set_cons_succ] at E)
  rw [← ht]
  replace ht := hid ht
  obtain ⟨t, htt⟩ : ∃ t, t = talM y := ⟨_, rfl⟩
  rw [← htt] at ht6 ⊢
  replace htt := hid htt
  by_cases o : x.nums.length = t
  case neg =>
    have ob : ((x.nums.length : Int) != (t : Int)) = true := by simp; omega
    have hn := hid (cutE_l c.out (by rw [← htt.out]; exact o))
    have hv := hid (cutS_no (x := x) (y := y) (by rw [hn.out]; decide))
    replace o := hid o
    obtain ⟨q00, q01, q02, q03⟩ := (E.out.hdr 0 rfl).all
    go_wp2_with (refine wpl_store4 rfl (.tmp 4) (.tmp 34) rfl _ rfl rfl (E.out.hdr 2 rfl) ?_; intro V HV CV; replace E := hid (E.out.chg 2 rfl CV HV))
    exact bodyPost_ret (end_arr2 rfl HV rfl rfl) rfl (hR.out _ _ (RetAEC.zero hv.out hn.out E.out.ext))
  have ob : ((x.nums.length : Int) != (t : Int)) = false := by simp; omega
  have o' := hid (show x.nums.length = talM y by rw [← htt.out]; exact o)
  replace o := hid o
  obtain ⟨q00, q01, q02, q03⟩ := (E.out.hdr 0 rfl).all
  go_wp2_with fail
  clear q00 q01 q02 q03
  refine (slices_ContainsFunc_copying_unbinary (fun n => !bitB n) x.nums _ _ _ _ (E.out.arr 3 rfl).nums (fun n => copying_unbinary n _)).mono ?_
  rintro e w3 ⟨rfl, rfl⟩
  rw [any_not]
  by_cases d : x.nums.all bitB = false
  case pos =>
    rw [d]
    have hn := hid (cutE_b c.out o'.out d)
    have hv := hid (cutS_no (x := x) (y := y) (by rw [hn.out]; decide))
    replace d := hid d
    go_wp2_with (refine wpl_store4 rfl (.tmp 4) (.tmp 39) rfl _ rfl rfl (E.out.hdr 2 rfl) ?_; intro V HV CV; replace E := hid (E.out.chg 2 rfl CV HV))
    exact bodyPost_ret (end_arr2 rfl HV rfl rfl) rfl (hR.out _ _ (RetAEC.zero hv.out hn.out E.out.ext))
  have hbits : x.nums.all bitB = true := by simpa using d
  rw [hbits]
  have S1 := hid (fun q => cutE_r c.out o'.out hbits q)
  have S0 := hid (fun q => cutE_0 c.out o'.out hbits q)
  replace hbits := hid hbits
  replace d := hid d
  go_upto_region 10 with (refine wpl_store4 rfl (.tmp 10) (.tmp 40) rfl _ rfl rfl ((E.out.alloc _).hdr 6 rfl) ?_; intro V3 HV CV; replace E := hid ((E.out.alloc _).chg 6 rfl CV HV); clear CV HV; (try simp only [List.cons_append, List.nil_append, List.set_cons_zero, List.set_cons_succ] at E))
  generalize w2.heap.size = bo at E ⊢
  replace E := hid E.out.row0A
  (try simp only [List.cons_append, List.nil_append, List.set_cons_zero, List.set_cons_succ] at E)
  replace E := hid (E.out.pick 7 rfl)
  simp only [List.eraseIdx_cons_succ, List.eraseIdx_cons_zero] at E
  replace E := hid (E.out.pick 7 rfl)
  simp only [List.eraseIdx_cons_succ, List.eraseIdx_cons_zero] at E
  go_upto_region 11 with (fail)
  go_loopw [11, 12, 13, 14] (fun v u1 u2 u3 wr => ∃ (i : Nat) (ia : Option Addr) (ic : Nat), i ≤ t ∧ v = .int .i64 i ∧ Hid (cuts x.nums i = [] ∨ i = t ∨ numF x.nums i ≠ 0) ∧ Env w S wr [.obj bo (.cells #[.int .i64 3, .slice none 0 0, .slice none 0 0, .slice ia ((cuts x.nums i).map (grpA y)).length ic] 26 (0, 0)), .rowA ia ic ((cuts x.nums i).map (grpA y)), .obj w.heap.size (.cells #[.int .i64 x.kind, .slice sx x.shape.length cx, .slice nx x.nums.length mx, .slice ix x.items.length jx] 26 (0, 0)), .obj (w.heap.size + 1) (.cells #[.int .i64 y.kind, .slice sy y.shape.length cy, .slice ny y.nums.length my, .slice iy y.items.length jy] 26 (0, 0)), .obj (w.heap.size + 1 + 1) (.cells #[.int .i64 0, .slice none 0 0, .slice none 0 0, .slice none 0 0] 26 (0, 0)), .arr x sx nx ix, .arr y sy ny iy, .ints (celL y) so]) (fun v _ _ _ _ => t - (intOf v).toNat)
  case atStart => exact ⟨0, none, 0, Nat.zero_le _, rfl, hid (Or.inl rfl), E.out⟩
  case round =>
    clear E
    obtain ⟨i, ia, ic, hi, rfl, hst, E⟩ := hrel
    replace E := hid E
    by_cases hlt : i < t
    · have hltx : i < x.nums.length := by rw [o.out]; exact hlt
      obtain ⟨b1, o1, hnx, hbl, hS1, hc1⟩ := (E.out.arr 5 rfl).nums.at hltx
      have t0 : (0 : Int) ≤ (i : Int) := by omega
      have t1 : (i : Int) < (x.nums.length : Int) := by omega
      by_cases d0 : numF x.nums i = 0
      case pos =>
        have hcd : x.nums.getD i 0 = 0 := d0
        rw [hcd] at hc1
        have hnil : Hid (cuts x.nums (i + 1) = [] ∧ cuts x.nums i = []) := hid (by
          have : cuts x.nums i = [] := by rcases hst.out with q | q | q; exact q; omega; exact absurd d0 q
          exact ⟨cuts_zero d0 this, this⟩)
        replace d0 := hid d0
        replace hcd := hid hcd
        subst hnx
        obtain ⟨q20, q21, q22, q23⟩ := (E.out.hdr 2 rfl).all
        go_wp2_with fail
        clear q20 q21 q22 q23
        go_roundw
        case rel => exact ⟨i + 1, ia, ic, by omega, by go_num, hid (Or.inl hnil.out.1), by rw [hnil.out.1]; have q := E.out; rw [hnil.out.2] at q; exact q⟩
        case measure => simp [intOf]; omega
      case neg =>
        have hcd : x.nums.getD i 0 ≠ 0 := d0
        have d0' := hid d0
        generalize x.nums.getD i 0 = d at hc1 hcd
        have db : (d == 0) = false := by simpa using hcd
        replace hcd := hid hcd
        replace d0 := hid d0
        obtain ⟨G, hG⟩ : ∃ G, G = (cuts x.nums i).map (grpA y) := ⟨_, rfl⟩
        rw [← hG] at E
        replace hG := hid hG
        subst hnx
        obtain ⟨q20, q21, q22, q23⟩ := (E.out.hdr 2 rfl).all
        go_upto_region 15 with (fail)
        clear q20 q21 q22 q23
        clear hc1 t0 t1
        go_loopw [12] (fun v wr2 => ∃ m : Nat, i + m + 1 ≤ t ∧ v = .int .i64 ((i + m + 1 : Nat) : Int) ∧ Hid (∀ j, i < j → j < i + m + 1 → numF x.nums j = 0) ∧ Env w S wr2 [.obj bo (.cells #[.int .i64 3, .slice none 0 0, .slice none 0 0, .slice ia (G).length ic] 26 (0, 0)), .rowA ia ic (G), .obj w.heap.size (.cells #[.int .i64 x.kind, .slice sx x.shape.length cx, .slice (some ⟨b1, o1, none⟩) x.nums.length mx, .slice ix x.items.length jx] 26 (0, 0)), .obj (w.heap.size + 1) (.cells #[.int .i64 y.kind, .slice sy y.shape.length cy, .slice ny y.nums.length my, .slice iy y.items.length jy] 26 (0, 0)), .obj (w.heap.size + 1 + 1) (.cells #[.int .i64 0, .slice none 0 0, .slice none 0 0, .slice none 0 0] 26 (0, 0)), .arr x sx (some ⟨b1, o1, none⟩) ix, .arr y sy ny iy, .ints (celL y) so]) (fun v _ => t - (intOf v).toNat)
        case atStart => exact ⟨0, by omega, by rfl, hid (fun j h1 h2 => by omega), E.out⟩
        case round =>
          clear E
          obtain ⟨m, hm, rfl, hz, E⟩ := hrel
          replace E := hid E
          obtain ⟨e, he⟩ : ∃ e, e = i + m + 1 := ⟨_, rfl⟩
          rw [← he] at hm hz ⊢
          by_cases hcont : e < t ∧ numF x.nums e = 0
          case pos =>
            obtain ⟨h1, h2⟩ := hcont
            have hex : e < x.nums.length := by rw [o.out]; exact h1
            obtain ⟨b2, o2, hnx, hbl, hS1, hc1⟩ := (E.out.arr 5 rfl).nums.at hex
            injection hnx with hnx
            injection hnx with q1 q2
            subst q1
            subst q2
            have hcd : x.nums.getD e 0 = 0 := h2
            rw [hcd] at hc1
            have t0 : (0 : Int) ≤ (e : Int) := by omega
            have t1 : (e : Int) < (x.nums.length : Int) := by omega
            have t2 : (e : Int) < (t : Int) := by omega
            have hz2 : Hid (∀ j, i < j → j < e + 1 → numF x.nums j = 0) := hid (fun j g1 g2 => by
              rcases Nat.lt_succ_iff_lt_or_eq.1 g2 with g3 | g3
              · exact hz.out j g1 g3
              · rw [g3]; exact h2)
            replace h2 := hid h2
            replace hcd := hid hcd
            replace he := hid he
            obtain ⟨q20, q21, q22, q23⟩ := (E.out.hdr 2 rfl).all
            go_wp2_with fail
            clear q20 q21 q22 q23
            go_roundw
            case rel => exact ⟨m + 1, by have := he.out; omega, by rw [show i + (m + 1) + 1 = e + 1 by have := he.out; omega]; go_num, by rw [show i + (m + 1) + 1 = e + 1 by have := he.out; omega]; exact hz2, E.out⟩
            case measure => simp [intOf]; omega
          case neg =>
            have hgrow : Hid (cuts x.nums e = cuts x.nums i ++ [(i, m + 1)]) := hid (by rw [he]; exact cuts_grow d0'.out (by rw [← he]; exact hz.out))
            have hnst : Hid (cuts x.nums e = [] ∨ e = t ∨ numF x.nums e ≠ 0) := hid (by
              rcases Nat.lt_or_ge e t with q | q
              · exact Or.inr (Or.inr fun q2 => hcont ⟨q, q2⟩)
              · exact Or.inr (Or.inl (by omega)))
            obtain ⟨M, hM⟩ : ∃ M, M = m + 1 := ⟨_, rfl⟩
            have heM : e = i + M := by omega
            rw [← hM] at hgrow
            by_cases het : e < t
            case pos =>
              have hex : e < x.nums.length := by rw [o.out]; exact het
              obtain ⟨b2, o2, hnx, hbl, hS1, hc1⟩ := (E.out.arr 5 rfl).nums.at hex
              injection hnx with hnx
              injection hnx with q1 q2
              subst q1
              subst q2
              have hcd : x.nums.getD e 0 ≠ 0 := fun q => hcont ⟨het, q⟩
              generalize x.nums.getD e 0 = d2 at hc1 hcd
              have db2 : (d2 == 0) = false := by simpa using hcd
              have t0 : (0 : Int) ≤ (e : Int) := by omega
              have t1 : (e : Int) < (x.nums.length : Int) := by omega
              have t2 : (e : Int) < (t : Int) := by omega
              clear hcont
              replace hcd := hid hcd
              replace heM := hid heM
              replace hM := hid hM
              replace he := hid he
              obtain ⟨q20, q21, q22, q23⟩ := (E.out.hdr 2 rfl).all
              go_upto_region 17 with (fail)
              clear q20 q21 q22 q23
              clear hc1 t0 t1 t2
              obtain ⟨s, hsx⟩ : ∃ s, s = [(M : Int)] ++ celL y := ⟨_, rfl⟩
              have hcl8 : (celL y).length ≤ 8 := (shapeB_iff.1 (celL_ok hs)).1
              have sl9 : s.length ≤ 9 := by rw [hsx, List.length_append]; simp only [List.length_cons, List.length_nil]; omega
              replace hsx := hid hsx
              have hwr : IntKind.i64.wrap ((e : Int) - (i : Int)) = (M : Int) := by rw [show (e : Int) - (i : Int) = (M : Int) by have := heM.out; omega]; exact IntWalk.i64_in _ (by have := heM.out; omega)
              obtain ⟨q30, q31, q32, q33⟩ := (E.out.hdr 3 rfl).all
              refine wp_region_mono_tail 11 (Sees wr [(⟨(w.heap.size+1), 0, none⟩, .int .i64 y.kind), (⟨(w.heap.size+1), 1, none⟩, .slice sy y.shape.length cy), (⟨(w.heap.size+1), 2, none⟩, .slice ny y.nums.length my), (⟨(w.heap.size+1), 3, none⟩, .slice iy y.items.length jy)]) [5, 7, 8, 10] (fun k v u u' => match k with | 5 => v = .slice (some ⟨u.heap.size, 0, none⟩) 1 1 ∧ u' = u.alloc (.cells (([(M : Int)] : List Int).map (Value.int .i64)).toArray 3) | 7 => ∃ g, v = .slice (some ⟨u.heap.size, 0, none⟩) 2 2 ∧ u' = u.alloc (.cells #[.slice (some ⟨g, 0, none⟩) 1 1, .slice so (celL y).length sc] 23) ∧ IntsAt u (fun _ => True) (some ⟨g, 0, none⟩) [(M : Int)] | 8 => ∃ oa oc, v = .slice oa s.length oc ∧ OwnI u' u.heap.size oa oc s | 10 => v = .pointer (some ⟨u.heap.size, 0, none⟩) ∧ u' = u.alloc (.cells #[.int .i64 0, .slice none 0 0, .slice none 0 0, .slice none 0 0] 26) | _ => False) (fun _ _ h e => h.up e) (Sees.start (all_cons ((E.out.hdr 3 rfl).c0) (all_cons ((E.out.hdr 3 rfl).c1) (all_cons ((E.out.hdr 3 rfl).c2) (all_cons ((E.out.hdr 3 rfl).c3) (all_nil)))))) (by kernel_rfl) (by kernel_rfl) ?_
              simp only [List.take_succ_cons, List.take_zero, List.drop_succ_cons, List.drop_zero]
              repeat (first | (refine m_plain (v := ?_) (by rfl) (by rfl) ?_ ?_; rotate_left; (intro wz hSw; obtain ⟨-, hSc⟩ := hSw; (try simp only [List.forall_mem_cons, List.forall_mem_nil, and_true] at hSc); go_simp; (first | done | with_reducible rfl)); (intro K hK; (try simp only [Act.put, List.setIfInBounds_toArray, List.set_cons_zero, List.set_cons_succ]); refine hK _ _ ?_; clear hK K)) | (refine m_skip (by rfl) (by rfl) ?_; (intro K hK; (try simp only [Act.put, List.setIfInBounds_toArray, List.set_cons_zero, List.set_cons_succ]); refine hK _ _ ?_; clear hK K)))
              refine m_make (by rfl) (by rfl) ?_ ?_
              · intro wz hSw hdep R hRz
                obtain ⟨hSe, hSc⟩ := hSw
                (try simp only [List.forall_mem_cons, List.forall_mem_nil, and_true] at hSc)
                unfold does
                (go_simp; exact hRz.out _ _ ⟨ext_alloc _ _, rfl, rfl⟩)
              intro v5 u5 x5 hG5 K hK
              have hF5 := hG5.fact
              (try dsimp only at hF5)
              obtain ⟨rfl, rfl⟩ := hF5
              (try simp only [Act.put, List.setIfInBounds_toArray, List.set_cons_zero, List.set_cons_succ]); refine hK _ _ ?_; clear hK K
              repeat (first | (refine m_plain (v := ?_) (by rfl) (by rfl) ?_ ?_; rotate_left; (intro wz hSw; obtain ⟨-, hSc⟩ := hSw; (try simp only [List.forall_mem_cons, List.forall_mem_nil, and_true] at hSc); go_simp; (first | done | with_reducible rfl)); (intro K hK; (try simp only [Act.put, List.setIfInBounds_toArray, List.set_cons_zero, List.set_cons_succ]); refine hK _ _ ?_; clear hK K)) | (refine m_skip (by rfl) (by rfl) ?_; (intro K hK; (try simp only [Act.put, List.setIfInBounds_toArray, List.set_cons_zero, List.set_cons_succ]); refine hK _ _ ?_; clear hK K)))
              refine m_make (by rfl) (by rfl) ?_ ?_
              · intro wz hSw hdep R hRz
                obtain ⟨hSe, hSc⟩ := hSw
                (try simp only [List.forall_mem_cons, List.forall_mem_nil, and_true] at hSc)
                unfold does
                (go_simp; exact hRz.out _ _ ⟨ext_alloc _ _, _, rfl, rfl, (lit_at (hdep 5 _ rfl (depB_sound (f := 4) (by kernel_rfl))) (by simp)).mono (fun _ _ _ => trivial)⟩)
              intro v7 u7 x7 hG7 K hK
              have hF7 := hG7.fact
              (try dsimp only at hF7)
              obtain ⟨g7, rfl, rfl, hI7⟩ := hF7
              (try simp only [Act.put, List.setIfInBounds_toArray, List.set_cons_zero, List.set_cons_succ]); refine hK _ _ ?_; clear hK K
              repeat (first | (refine m_plain (v := ?_) (by rfl) (by rfl) ?_ ?_; rotate_left; (intro wz hSw; obtain ⟨-, hSc⟩ := hSw; (try simp only [List.forall_mem_cons, List.forall_mem_nil, and_true] at hSc); go_simp; (first | done | with_reducible rfl)); (intro K hK; (try simp only [Act.put, List.setIfInBounds_toArray, List.set_cons_zero, List.set_cons_succ]); refine hK _ _ ?_; clear hK K)) | (refine m_skip (by rfl) (by rfl) ?_; (intro K hK; (try simp only [Act.put, List.setIfInBounds_toArray, List.set_cons_zero, List.set_cons_succ]); refine hK _ _ ?_; clear hK K)))
              refine m_make (by rfl) (by rfl) ?_ ?_
              · intro wz hSw hdep R hRz
                obtain ⟨hSe, hSc⟩ := hSw
                (try simp only [List.forall_mem_cons, List.forall_mem_nil, and_true] at hSc)
                unfold does
                (go_simp; refine Calls.mono (slices_Concat2 [(M : Int)] (celL y) _ _ _ _ _ (fun _ => True) wz (hI7.up ((ext_alloc _ _).trans (hdep 7 _ rfl (depB_sound (f := 4) (by kernel_rfl))))) (((E.out.ints 7 rfl).mono (fun _ _ _ => trivial)).up hSe) (row2 (made_blk (hdep 7 _ rfl (depB_sound (f := 4) (by kernel_rfl))))).1 (row2 (made_blk (hdep 7 _ rfl (depB_sound (f := 4) (by kernel_rfl))))).2 (by simp only [List.length_cons, List.length_nil]; omega)) ?_; rw [← hsx.out]; rintro e' wq ⟨oa, oc, rfl, hO, hb⟩; exact ⟨_, rfl, hRz.out _ _ ⟨hb, oa, oc, rfl, hO⟩⟩)
              intro v8 u8 x8 hG8 K hK
              have hF8 := hG8.fact
              (try dsimp only at hF8)
              obtain ⟨oa, oc, rfl, hO⟩ := hF8
              (try simp only [Act.put, List.setIfInBounds_toArray, List.set_cons_zero, List.set_cons_succ]); refine hK _ _ ?_; clear hK K
              repeat (first | (refine m_plain (v := ?_) (by rfl) (by rfl) ?_ ?_; rotate_left; (intro wz hSw; obtain ⟨-, hSc⟩ := hSw; (try simp only [List.forall_mem_cons, List.forall_mem_nil, and_true] at hSc); go_simp; (first | done | with_reducible rfl)); (intro K hK; (try simp only [Act.put, List.setIfInBounds_toArray, List.set_cons_zero, List.set_cons_succ]); refine hK _ _ ?_; clear hK K)) | (refine m_skip (by rfl) (by rfl) ?_; (intro K hK; (try simp only [Act.put, List.setIfInBounds_toArray, List.set_cons_zero, List.set_cons_succ]); refine hK _ _ ?_; clear hK K)))
              refine m_make (by rfl) (by rfl) ?_ ?_
              · intro wz hSw hdep R hRz
                obtain ⟨hSe, hSc⟩ := hSw
                (try simp only [List.forall_mem_cons, List.forall_mem_nil, and_true] at hSc)
                unfold does
                (go_simp; exact hRz.out _ _ ⟨ext_alloc _ _, rfl, rfl⟩)
              intro v10 u10 x10 hG10 K hK
              have hF10 := hG10.fact
              (try dsimp only at hF10)
              obtain ⟨rfl, rfl⟩ := hF10
              (try simp only [Act.put, List.setIfInBounds_toArray, List.set_cons_zero, List.set_cons_succ]); refine hK _ _ ?_; clear hK K
              repeat (first | (refine m_plain (v := ?_) (by rfl) (by rfl) ?_ ?_; rotate_left; (intro wz hSw; obtain ⟨-, hSc⟩ := hSw; (try simp only [List.forall_mem_cons, List.forall_mem_nil, and_true] at hSc); go_simp; (first | done | with_reducible rfl)); (intro K hK; (try simp only [Act.put, List.setIfInBounds_toArray, List.set_cons_zero, List.set_cons_succ]); refine hK _ _ ?_; clear hK K)) | (refine m_skip (by rfl) (by rfl) ?_; (intro K hK; (try simp only [Act.put, List.setIfInBounds_toArray, List.set_cons_zero, List.set_cons_succ]); refine hK _ _ ?_; clear hK K)))
              refine m_nil ?_
              intro wf hSf hAf
              have hcap := hid hO.cap
              replace E := hid (E.out.madeI ((hO.ints (by omega)).mono fun b _ hb => hb.1) (hAf 8 _ rfl) (hG10.order 8 _ rfl) hG8.s.1 hG10.s.1 (hAf 10 _ rfl) hSf.1)
              clear hSf hAf hG5 hG7 hG8 hG10 hO hI7 hwr
              clear q30 q31 q32 q33
              (try simp only [List.cons_append, List.nil_append, List.set_cons_zero, List.set_cons_succ] at E)
              generalize u10.heap.size = bg at E ⊢
              refine wpl_store4 (by rfl) (.tmp 13) (.tmp 76) (by rfl) _ (by rfl) (by rfl) (E.out.hdr 8 rfl) ?_
              intro V4 HV CV
              replace E := hid (E.out.chg 8 rfl CV HV)
              clear HV CV
              (try simp only [List.cons_append, List.nil_append, List.set_cons_zero, List.set_cons_succ] at E)
              obtain ⟨q30, q31, q32, q33⟩ := (E.out.hdr 3 rfl).all
              go_wp2_with fail
              clear q30 q31 q32 q33
              refine (copying_collector bg y _ _ _ _ _ _ w S _ _ E.out (E.out.arr 6 rfl) hs hcy.out.1).mono ?_
              rintro e' w7 ⟨pn, py, pp, pf, sf, cf, nf, mf, jf, kf, rfl, E1⟩
              clear E
              have E := hid ((E1.row0I).row0A)
              clear E1
              (try simp only [List.cons_append, List.nil_append, List.set_cons_zero, List.set_cons_succ] at E)
              replace E := hid (E.out.pick 4 rfl)
              simp only [List.eraseIdx_cons_succ, List.eraseIdx_cons_zero] at E
              replace E := hid (E.out.pick 4 rfl)
              simp only [List.eraseIdx_cons_succ, List.eraseIdx_cons_zero] at E
              replace E := hid (E.out.pick 11 rfl)
              simp only [List.eraseIdx_cons_succ, List.eraseIdx_cons_zero] at E
              replace E := hid (E.out.pick 5 rfl)
              simp only [List.eraseIdx_cons_succ, List.eraseIdx_cons_zero] at E
              replace E := hid (E.out.pick 5 rfl)
              simp only [List.eraseIdx_cons_succ, List.eraseIdx_cons_zero] at E
              replace E := hid (E.out.pick 5 rfl)
              simp only [List.eraseIdx_cons_succ, List.eraseIdx_cons_zero] at E
              replace E := hid (E.out.pick 16 rfl)
              simp only [List.eraseIdx_cons_succ, List.eraseIdx_cons_zero] at E
              replace E := hid (E.out.pick 16 rfl)
              simp only [List.eraseIdx_cons_succ, List.eraseIdx_cons_zero] at E
              replace E := hid (E.out.pick 15 rfl)
              simp only [List.eraseIdx_cons_succ, List.eraseIdx_cons_zero] at E
              go_upto_region 19 with (fail)
              go_loopw [11] (fun v wr => ∃ (k : Nat) (na : Option Addr) (nc : Nat) (ja : Option Addr) (jc : Nat), k ≤ M ∧ v = .int .i64 ((i + k : Nat) : Int) ∧ Env w S wr [.obj bg (.cells #[.int .i64 y.kind, .slice oa s.length oc, .slice na (grL y.nums i (celN y) k).length nc, .slice ja (grL y.items i (celN y) k).length jc] 26 (0, 0)), .rowI na nc (grL y.nums i (celN y) k), .rowA ja jc (grL y.items i (celN y) k), .obj pn (.cells #[.int .i64 (celN y : Nat)] 3 (0, 0)), .obj py (.cells #[.int .i64 y.kind, .slice sy y.shape.length cy, .slice ny y.nums.length my, .slice iy y.items.length jy] 26 (0, 0)), .obj pp (.cells #[.pointer (some ⟨bg, 0, none⟩)] 58 (0, 0)), .arr y sy ny iy, .obj pf (.cells #[.int .i64 (fillS y).kind, .slice sf (fillS y).shape.length cf, .slice nf (fillS y).nums.length mf, .slice jf (fillS y).items.length kf] 26 (0, 0)), .arr (fillS y) sf nf jf, .obj bo (.cells #[.int .i64 3, .slice none 0 0, .slice none 0 0, .slice ia G.length ic] 26 (0, 0)), .rowA ia ic G, .obj w.heap.size (.cells #[.int .i64 x.kind, .slice sx x.shape.length cx, .slice (some ⟨b1, o1, none⟩) x.nums.length mx, .slice ix x.items.length jx] 26 (0, 0)), .obj (w.heap.size + 1) (.cells #[.int .i64 y.kind, .slice sy y.shape.length cy, .slice ny y.nums.length my, .slice iy y.items.length jy] 26 (0, 0)), .obj (w.heap.size + 1 + 1) (.cells #[.int .i64 0, .slice none 0 0, .slice none 0 0, .slice none 0 0] 26 (0, 0)), .arr x sx (some ⟨b1, o1, none⟩) ix, .ints (celL y) so, .ints s oa]) (fun v _ => e - (intOf v).toNat)
              case atStart => exact ⟨0, none, 0, none, 0, Nat.zero_le _, rfl, by rw [grL_0, grL_0]; exact E.out⟩
              case round =>
                clear E
                obtain ⟨k, na, nc, ja, jc, hkM, rfl, E⟩ := hrel
                replace E := hid E
                have hgn := grL_le y.nums i (celN y) k
                have hgi := grL_le y.items i (celN y) k
                have hy6 := right_l3 K.out.ry
                by_cases hlk : k < M
                case pos =>
                  have hot : i + k < talM y := by rw [← htt.out]; have := heM.out; omega
                  have hek : ((i + k : Nat) : Int) < (e : Int) := by have := heM.out; omega
                  obtain ⟨ik, hik⟩ : ∃ q, q = i + k := ⟨_, rfl⟩
                  rw [← hik] at hot hek ⊢
                  have hik2 : ik ≤ 65536 := by have := htt.out; omega
                  have g1 : Hid (grL y.nums i (celN y) (k + 1) = grL y.nums i (celN y) k ++ blkL y.nums ik (celN y)) := hid (by rw [grL_succ, hik])
                  have g2 : Hid (grL y.items i (celN y) (k + 1) = grL y.items i (celN y) k ++ blkL y.items ik (celN y)) := hid (by rw [grL_succ, hik])
                  replace hik := hid hik
                  go_wp2_with fail
                  refine (coll_add y.kind oa s.length oc na nc (grL y.nums i (celN y) k) ja jc (grL y.items i (celN y) k) y sy cy ny my iy jy bg pn py pp pf ik (celN y) w S _ _ E.out K.out.ry rfl hot (by omega) (by omega) hcy.out.2.1).mono ?_
                  rintro e' w9 ⟨na2, nc2, ja2, jc2, rfl, E1⟩
                  rw [← g1.out, ← g2.out] at E1
                  clear E
                  have E := hid E1
                  clear E1
                  go_wp2_with fail
                  go_roundw
                  case rel => exact ⟨k + 1, na2, nc2, ja2, jc2, by omega, by rw [show i + (k + 1) = ik + 1 by have := hik.out; omega]; go_num, E.out⟩
                  case measure => simp [intOf]; omega
                case neg =>
                  have hkM2 : k = M := by omega
                  have hek : ¬ ((i + k : Nat) : Int) < (e : Int) := by have := heM.out; omega
                  obtain ⟨ik, hik⟩ : ∃ q, q = i + k := ⟨_, rfl⟩
                  rw [← hik] at hek ⊢
                  have hGr : Hid ((cuts x.nums e).map (grpA y) = G ++ [.mk y.kind s (grL y.nums i (celN y) k) (grL y.items i (celN y) k)]) := hid (by rw [hgrow.out, List.map_append, ← hG.out]; congr 1; simp only [List.map_cons, List.map_nil]; rw [grpA_eq, hkM2, hsx.out]; rfl)
                  have hie : Hid (ik = e) := hid (by rw [hik, hkM2]; exact heM.out.symm)
                  replace hik := hid hik
                  replace hkM2 := hid hkM2
                  replace E := hid (E.out.doneI 1 rfl (by omega))
                  (try simp only [List.cons_append, List.nil_append, List.set_cons_zero, List.set_cons_succ] at E)
                  replace E := hid (E.out.doneA 2 rfl)
                  (try simp only [List.cons_append, List.nil_append, List.set_cons_zero, List.set_cons_succ] at E)
                  obtain ⟨nn, hnn⟩ : ∃ q, q = grL y.nums i (celN y) k := ⟨_, rfl⟩
                  obtain ⟨ii, hii⟩ : ∃ q, q = grL y.items i (celN y) k := ⟨_, rfl⟩
                  rw [← hnn, ← hii] at E
                  rw [← hnn, ← hii] at hGr
                  rw [← hii] at hgi
                  replace hnn := hid hnn
                  replace hii := hid hii
                  have hGl : G.length ≤ 65536 := by rw [hG.out, List.length_map]; have := cuts_len x.nums i; omega
                  have hll : G.length + [Arr.mk y.kind s nn ii].length ≤ 1759218604441 := by simp only [List.length_cons, List.length_nil]; omega
                  have oB := hid (box_items (z := .mk y.kind s nn ii) (sc := oc) (nc := nc) (ic := jc) (Ext.refl _) (E.out.fresh (Ext.refl _) (Nat.le_refl _)) (ArrAt.iff.2 ⟨E.out.ints 16 rfl, E.out.ints 1 rfl, by show ii.length ≤ _; omega, E.out.items 2 rfl⟩))
                  obtain ⟨q00, q01, q02, q03⟩ := (E.out.hdr 0 rfl).all
                  obtain ⟨q90, q91, q92, q93⟩ := (E.out.hdr 9 rfl).all
                  go_wp2_with (first
                    | (at_builtin; replace E := hid (E.out.up (ext_alloc _ (.cells #[.int .i64 y.kind, .slice oa s.length oc, .slice na nn.length nc, .slice ja ii.length jc] 26))); refine wplE_appA E.out 10 rfl rfl (.tmp 88) (.tmp 90) rfl rfl _ _ 1 [.mk y.kind s nn ii] rfl oB.out (fun _ _ h => h) hll ?_; intro V5 ia2 ic2 E1; clear E; have E := hid E1; clear E1; (try simp only [List.cons_append, List.nil_append, List.set_cons_zero, List.set_cons_succ] at E))
                    | (refine wpl_store3 rfl (.tmp 92) (.tmp 91) rfl bo rfl rfl (E.out.hdr 9 rfl) ?_; intro V HV CV; replace E := hid (E.out.chg 9 rfl CV HV); clear HV CV; (try simp only [List.cons_append, List.nil_append, List.set_cons_zero, List.set_cons_succ] at E)))
                  go_roundw
                  case rel =>
                    rw [hie.out]
                    rw [← hGr.out] at E
                    rw [show G.length + 1 = (cuts x.nums e).length by have q := congrArg List.length hGr.out; simpa using q.symm] at E
                    replace E := hid (E.out.pick 15 rfl)
                    simp only [List.eraseIdx_cons_succ, List.eraseIdx_cons_zero] at E
                    replace E := hid (E.out.pick 7 rfl)
                    simp only [List.eraseIdx_cons_succ, List.eraseIdx_cons_zero] at E
                    replace E := hid (E.out.pick 15 rfl)
                    simp only [List.eraseIdx_cons_succ, List.eraseIdx_cons_zero] at E
                    replace E := hid (E.out.pick 15 rfl)
                    simp only [List.eraseIdx_cons_succ, List.eraseIdx_cons_zero] at E
                    replace E := hid (E.out.pick 15 rfl)
                    simp only [List.eraseIdx_cons_succ, List.eraseIdx_cons_zero] at E
                    replace E := hid (E.out.pick 15 rfl)
                    simp only [List.eraseIdx_cons_succ, List.eraseIdx_cons_zero] at E
                    replace E := hid (E.out.pick 15 rfl)
                    simp only [List.eraseIdx_cons_succ, List.eraseIdx_cons_zero] at E
                    replace E := hid (E.out.pick 15 rfl)
                    simp only [List.eraseIdx_cons_succ, List.eraseIdx_cons_zero] at E
                    exact ⟨e, by omega, rfl, hnst, ia2, ic2, E.out.sub (List.Sublist.cons_cons _ (List.Sublist.cons_cons _ (List.Sublist.cons_cons _ (List.Sublist.cons_cons _ (List.Sublist.cons_cons _ (List.Sublist.cons_cons _ (List.Sublist.cons_cons _ (List.Sublist.cons_cons _ (List.nil_sublist _)))))))))⟩
                  case measure => have q1 := heM.out; have q2 := hM.out; have q3 := hie.out; simp [intOf]; omega
            case neg =>
              have t2 : ¬ (e : Int) < (t : Int) := by omega
              clear hcont
              replace heM := hid heM
              replace hM := hid hM
              replace he := hid he
              go_upto_region 17 with (fail)
              obtain ⟨s, hsx⟩ : ∃ s, s = [(M : Int)] ++ celL y := ⟨_, rfl⟩
              have hcl8 : (celL y).length ≤ 8 := (shapeB_iff.1 (celL_ok hs)).1
              have sl9 : s.length ≤ 9 := by rw [hsx, List.length_append]; simp only [List.length_cons, List.length_nil]; omega
              replace hsx := hid hsx
              have hwr : IntKind.i64.wrap ((e : Int) - (i : Int)) = (M : Int) := by rw [show (e : Int) - (i : Int) = (M : Int) by have := heM.out; omega]; exact IntWalk.i64_in _ (by have := heM.out; omega)
              obtain ⟨q30, q31, q32, q33⟩ := (E.out.hdr 3 rfl).all
              refine wp_region_mono_tail 11 (Sees wr [(⟨(w.heap.size+1), 0, none⟩, .int .i64 y.kind), (⟨(w.heap.size+1), 1, none⟩, .slice sy y.shape.length cy), (⟨(w.heap.size+1), 2, none⟩, .slice ny y.nums.length my), (⟨(w.heap.size+1), 3, none⟩, .slice iy y.items.length jy)]) [5, 7, 8, 10] (fun k v u u' => match k with | 5 => v = .slice (some ⟨u.heap.size, 0, none⟩) 1 1 ∧ u' = u.alloc (.cells (([(M : Int)] : List Int).map (Value.int .i64)).toArray 3) | 7 => ∃ g, v = .slice (some ⟨u.heap.size, 0, none⟩) 2 2 ∧ u' = u.alloc (.cells #[.slice (some ⟨g, 0, none⟩) 1 1, .slice so (celL y).length sc] 23) ∧ IntsAt u (fun _ => True) (some ⟨g, 0, none⟩) [(M : Int)] | 8 => ∃ oa oc, v = .slice oa s.length oc ∧ OwnI u' u.heap.size oa oc s | 10 => v = .pointer (some ⟨u.heap.size, 0, none⟩) ∧ u' = u.alloc (.cells #[.int .i64 0, .slice none 0 0, .slice none 0 0, .slice none 0 0] 26) | _ => False) (fun _ _ h e => h.up e) (Sees.start (all_cons ((E.out.hdr 3 rfl).c0) (all_cons ((E.out.hdr 3 rfl).c1) (all_cons ((E.out.hdr 3 rfl).c2) (all_cons ((E.out.hdr 3 rfl).c3) (all_nil)))))) (by kernel_rfl) (by kernel_rfl) ?_
              simp only [List.take_succ_cons, List.take_zero, List.drop_succ_cons, List.drop_zero]
              repeat (first | (refine m_plain (v := ?_) (by rfl) (by rfl) ?_ ?_; rotate_left; (intro wz hSw; obtain ⟨-, hSc⟩ := hSw; (try simp only [List.forall_mem_cons, List.forall_mem_nil, and_true] at hSc); go_simp; (first | done | with_reducible rfl)); (intro K hK; (try simp only [Act.put, List.setIfInBounds_toArray, List.set_cons_zero, List.set_cons_succ]); refine hK _ _ ?_; clear hK K)) | (refine m_skip (by rfl) (by rfl) ?_; (intro K hK; (try simp only [Act.put, List.setIfInBounds_toArray, List.set_cons_zero, List.set_cons_succ]); refine hK _ _ ?_; clear hK K)))
              refine m_make (by rfl) (by rfl) ?_ ?_
              · intro wz hSw hdep R hRz
                obtain ⟨hSe, hSc⟩ := hSw
                (try simp only [List.forall_mem_cons, List.forall_mem_nil, and_true] at hSc)
                unfold does
                (go_simp; exact hRz.out _ _ ⟨ext_alloc _ _, rfl, rfl⟩)
              intro v5 u5 x5 hG5 K hK
              have hF5 := hG5.fact
              (try dsimp only at hF5)
              obtain ⟨rfl, rfl⟩ := hF5
              (try simp only [Act.put, List.setIfInBounds_toArray, List.set_cons_zero, List.set_cons_succ]); refine hK _ _ ?_; clear hK K
              repeat (first | (refine m_plain (v := ?_) (by rfl) (by rfl) ?_ ?_; rotate_left; (intro wz hSw; obtain ⟨-, hSc⟩ := hSw; (try simp only [List.forall_mem_cons, List.forall_mem_nil, and_true] at hSc); go_simp; (first | done | with_reducible rfl)); (intro K hK; (try simp only [Act.put, List.setIfInBounds_toArray, List.set_cons_zero, List.set_cons_succ]); refine hK _ _ ?_; clear hK K)) | (refine m_skip (by rfl) (by rfl) ?_; (intro K hK; (try simp only [Act.put, List.setIfInBounds_toArray, List.set_cons_zero, List.set_cons_succ]); refine hK _ _ ?_; clear hK K)))
              refine m_make (by rfl) (by rfl) ?_ ?_
              · intro wz hSw hdep R hRz
                obtain ⟨hSe, hSc⟩ := hSw
                (try simp only [List.forall_mem_cons, List.forall_mem_nil, and_true] at hSc)
                unfold does
                (go_simp; exact hRz.out _ _ ⟨ext_alloc _ _, _, rfl, rfl, (lit_at (hdep 5 _ rfl (depB_sound (f := 4) (by kernel_rfl))) (by simp)).mono (fun _ _ _ => trivial)⟩)
              intro v7 u7 x7 hG7 K hK
              have hF7 := hG7.fact
              (try dsimp only at hF7)
              obtain ⟨g7, rfl, rfl, hI7⟩ := hF7
              (try simp only [Act.put, List.setIfInBounds_toArray, List.set_cons_zero, List.set_cons_succ]); refine hK _ _ ?_; clear hK K
              repeat (first | (refine m_plain (v := ?_) (by rfl) (by rfl) ?_ ?_; rotate_left; (intro wz hSw; obtain ⟨-, hSc⟩ := hSw; (try simp only [List.forall_mem_cons, List.forall_mem_nil, and_true] at hSc); go_simp; (first | done | with_reducible rfl)); (intro K hK; (try simp only [Act.put, List.setIfInBounds_toArray, List.set_cons_zero, List.set_cons_succ]); refine hK _ _ ?_; clear hK K)) | (refine m_skip (by rfl) (by rfl) ?_; (intro K hK; (try simp only [Act.put, List.setIfInBounds_toArray, List.set_cons_zero, List.set_cons_succ]); refine hK _ _ ?_; clear hK K)))
              refine m_make (by rfl) (by rfl) ?_ ?_
              · intro wz hSw hdep R hRz
                obtain ⟨hSe, hSc⟩ := hSw
                (try simp only [List.forall_mem_cons, List.forall_mem_nil, and_true] at hSc)
                unfold does
                (go_simp; refine Calls.mono (slices_Concat2 [(M : Int)] (celL y) _ _ _ _ _ (fun _ => True) wz (hI7.up ((ext_alloc _ _).trans (hdep 7 _ rfl (depB_sound (f := 4) (by kernel_rfl))))) (((E.out.ints 7 rfl).mono (fun _ _ _ => trivial)).up hSe) (row2 (made_blk (hdep 7 _ rfl (depB_sound (f := 4) (by kernel_rfl))))).1 (row2 (made_blk (hdep 7 _ rfl (depB_sound (f := 4) (by kernel_rfl))))).2 (by simp only [List.length_cons, List.length_nil]; omega)) ?_; rw [← hsx.out]; rintro e' wq ⟨oa, oc, rfl, hO, hb⟩; exact ⟨_, rfl, hRz.out _ _ ⟨hb, oa, oc, rfl, hO⟩⟩)
              intro v8 u8 x8 hG8 K hK
              have hF8 := hG8.fact
              (try dsimp only at hF8)
              obtain ⟨oa, oc, rfl, hO⟩ := hF8
              (try simp only [Act.put, List.setIfInBounds_toArray, List.set_cons_zero, List.set_cons_succ]); refine hK _ _ ?_; clear hK K
              repeat (first | (refine m_plain (v := ?_) (by rfl) (by rfl) ?_ ?_; rotate_left; (intro wz hSw; obtain ⟨-, hSc⟩ := hSw; (try simp only [List.forall_mem_cons, List.forall_mem_nil, and_true] at hSc); go_simp; (first | done | with_reducible rfl)); (intro K hK; (try simp only [Act.put, List.setIfInBounds_toArray, List.set_cons_zero, List.set_cons_succ]); refine hK _ _ ?_; clear hK K)) | (refine m_skip (by rfl) (by rfl) ?_; (intro K hK; (try simp only [Act.put, List.setIfInBounds_toArray, List.set_cons_zero, List.set_cons_succ]); refine hK _ _ ?_; clear hK K)))
              refine m_make (by rfl) (by rfl) ?_ ?_
              · intro wz hSw hdep R hRz
                obtain ⟨hSe, hSc⟩ := hSw
                (try simp only [List.forall_mem_cons, List.forall_mem_nil, and_true] at hSc)
                unfold does
                (go_simp; exact hRz.out _ _ ⟨ext_alloc _ _, rfl, rfl⟩)
              intro v10 u10 x10 hG10 K hK
              have hF10 := hG10.fact
              (try dsimp only at hF10)
              obtain ⟨rfl, rfl⟩ := hF10
              (try simp only [Act.put, List.setIfInBounds_toArray, List.set_cons_zero, List.set_cons_succ]); refine hK _ _ ?_; clear hK K
              repeat (first | (refine m_plain (v := ?_) (by rfl) (by rfl) ?_ ?_; rotate_left; (intro wz hSw; obtain ⟨-, hSc⟩ := hSw; (try simp only [List.forall_mem_cons, List.forall_mem_nil, and_true] at hSc); go_simp; (first | done | with_reducible rfl)); (intro K hK; (try simp only [Act.put, List.setIfInBounds_toArray, List.set_cons_zero, List.set_cons_succ]); refine hK _ _ ?_; clear hK K)) | (refine m_skip (by rfl) (by rfl) ?_; (intro K hK; (try simp only [Act.put, List.setIfInBounds_toArray, List.set_cons_zero, List.set_cons_succ]); refine hK _ _ ?_; clear hK K)))
              refine m_nil ?_
              intro wf hSf hAf
              have hcap := hid hO.cap
              replace E := hid (E.out.madeI ((hO.ints (by omega)).mono fun b _ hb => hb.1) (hAf 8 _ rfl) (hG10.order 8 _ rfl) hG8.s.1 hG10.s.1 (hAf 10 _ rfl) hSf.1)
              clear hSf hAf hG5 hG7 hG8 hG10 hO hI7 hwr
              clear q30 q31 q32 q33
              (try simp only [List.cons_append, List.nil_append, List.set_cons_zero, List.set_cons_succ] at E)
              generalize u10.heap.size = bg at E ⊢
              refine wpl_store4 (by rfl) (.tmp 13) (.tmp 76) (by rfl) _ (by rfl) (by rfl) (E.out.hdr 8 rfl) ?_
              intro V4 HV CV
              replace E := hid (E.out.chg 8 rfl CV HV)
              clear HV CV
              (try simp only [List.cons_append, List.nil_append, List.set_cons_zero, List.set_cons_succ] at E)
              obtain ⟨q30, q31, q32, q33⟩ := (E.out.hdr 3 rfl).all
              go_wp2_with fail
              clear q30 q31 q32 q33
              refine (copying_collector bg y _ _ _ _ _ _ w S _ _ E.out (E.out.arr 6 rfl) hs hcy.out.1).mono ?_
              rintro e' w7 ⟨pn, py, pp, pf, sf, cf, nf, mf, jf, kf, rfl, E1⟩
              clear E
              have E := hid ((E1.row0I).row0A)
              clear E1
              (try simp only [List.cons_append, List.nil_append, List.set_cons_zero, List.set_cons_succ] at E)
              replace E := hid (E.out.pick 4 rfl)
              simp only [List.eraseIdx_cons_succ, List.eraseIdx_cons_zero] at E
              replace E := hid (E.out.pick 4 rfl)
              simp only [List.eraseIdx_cons_succ, List.eraseIdx_cons_zero] at E
              replace E := hid (E.out.pick 11 rfl)
              simp only [List.eraseIdx_cons_succ, List.eraseIdx_cons_zero] at E
              replace E := hid (E.out.pick 5 rfl)
              simp only [List.eraseIdx_cons_succ, List.eraseIdx_cons_zero] at E
              replace E := hid (E.out.pick 5 rfl)
              simp only [List.eraseIdx_cons_succ, List.eraseIdx_cons_zero] at E
              replace E := hid (E.out.pick 5 rfl)
              simp only [List.eraseIdx_cons_succ, List.eraseIdx_cons_zero] at E
              replace E := hid (E.out.pick 16 rfl)
              simp only [List.eraseIdx_cons_succ, List.eraseIdx_cons_zero] at E
              replace E := hid (E.out.pick 16 rfl)
              simp only [List.eraseIdx_cons_succ, List.eraseIdx_cons_zero] at E
              replace E := hid (E.out.pick 15 rfl)
              simp only [List.eraseIdx_cons_succ, List.eraseIdx_cons_zero] at E
              go_upto_region 19 with (fail)
              go_loopw [11] (fun v wr => ∃ (k : Nat) (na : Option Addr) (nc : Nat) (ja : Option Addr) (jc : Nat), k ≤ M ∧ v = .int .i64 ((i + k : Nat) : Int) ∧ Env w S wr [.obj bg (.cells #[.int .i64 y.kind, .slice oa s.length oc, .slice na (grL y.nums i (celN y) k).length nc, .slice ja (grL y.items i (celN y) k).length jc] 26 (0, 0)), .rowI na nc (grL y.nums i (celN y) k), .rowA ja jc (grL y.items i (celN y) k), .obj pn (.cells #[.int .i64 (celN y : Nat)] 3 (0, 0)), .obj py (.cells #[.int .i64 y.kind, .slice sy y.shape.length cy, .slice ny y.nums.length my, .slice iy y.items.length jy] 26 (0, 0)), .obj pp (.cells #[.pointer (some ⟨bg, 0, none⟩)] 58 (0, 0)), .arr y sy ny iy, .obj pf (.cells #[.int .i64 (fillS y).kind, .slice sf (fillS y).shape.length cf, .slice nf (fillS y).nums.length mf, .slice jf (fillS y).items.length kf] 26 (0, 0)), .arr (fillS y) sf nf jf, .obj bo (.cells #[.int .i64 3, .slice none 0 0, .slice none 0 0, .slice ia G.length ic] 26 (0, 0)), .rowA ia ic G, .obj w.heap.size (.cells #[.int .i64 x.kind, .slice sx x.shape.length cx, .slice (some ⟨b1, o1, none⟩) x.nums.length mx, .slice ix x.items.length jx] 26 (0, 0)), .obj (w.heap.size + 1) (.cells #[.int .i64 y.kind, .slice sy y.shape.length cy, .slice ny y.nums.length my, .slice iy y.items.length jy] 26 (0, 0)), .obj (w.heap.size + 1 + 1) (.cells #[.int .i64 0, .slice none 0 0, .slice none 0 0, .slice none 0 0] 26 (0, 0)), .arr x sx (some ⟨b1, o1, none⟩) ix, .ints (celL y) so, .ints s oa]) (fun v _ => e - (intOf v).toNat)
              case atStart => exact ⟨0, none, 0, none, 0, Nat.zero_le _, rfl, by rw [grL_0, grL_0]; exact E.out⟩
              case round =>
                clear E
                obtain ⟨k, na, nc, ja, jc, hkM, rfl, E⟩ := hrel
                replace E := hid E
                have hgn := grL_le y.nums i (celN y) k
                have hgi := grL_le y.items i (celN y) k
                have hy6 := right_l3 K.out.ry
                by_cases hlk : k < M
                case pos =>
                  have hot : i + k < talM y := by rw [← htt.out]; have := heM.out; omega
                  have hek : ((i + k : Nat) : Int) < (e : Int) := by have := heM.out; omega
                  obtain ⟨ik, hik⟩ : ∃ q, q = i + k := ⟨_, rfl⟩
                  rw [← hik] at hot hek ⊢
                  have hik2 : ik ≤ 65536 := by have := htt.out; omega
                  have g1 : Hid (grL y.nums i (celN y) (k + 1) = grL y.nums i (celN y) k ++ blkL y.nums ik (celN y)) := hid (by rw [grL_succ, hik])
                  have g2 : Hid (grL y.items i (celN y) (k + 1) = grL y.items i (celN y) k ++ blkL y.items ik (celN y)) := hid (by rw [grL_succ, hik])
                  replace hik := hid hik
                  go_wp2_with fail
                  refine (coll_add y.kind oa s.length oc na nc (grL y.nums i (celN y) k) ja jc (grL y.items i (celN y) k) y sy cy ny my iy jy bg pn py pp pf ik (celN y) w S _ _ E.out K.out.ry rfl hot (by omega) (by omega) hcy.out.2.1).mono ?_
                  rintro e' w9 ⟨na2, nc2, ja2, jc2, rfl, E1⟩
                  rw [← g1.out, ← g2.out] at E1
                  clear E
                  have E := hid E1
                  clear E1
                  go_wp2_with fail
                  go_roundw
                  case rel => exact ⟨k + 1, na2, nc2, ja2, jc2, by omega, by rw [show i + (k + 1) = ik + 1 by have := hik.out; omega]; go_num, E.out⟩
                  case measure => simp [intOf]; omega
                case neg =>
                  have hkM2 : k = M := by omega
                  have hek : ¬ ((i + k : Nat) : Int) < (e : Int) := by have := heM.out; omega
                  obtain ⟨ik, hik⟩ : ∃ q, q = i + k := ⟨_, rfl⟩
                  rw [← hik] at hek ⊢
                  have hGr : Hid ((cuts x.nums e).map (grpA y) = G ++ [.mk y.kind s (grL y.nums i (celN y) k) (grL y.items i (celN y) k)]) := hid (by rw [hgrow.out, List.map_append, ← hG.out]; congr 1; simp only [List.map_cons, List.map_nil]; rw [grpA_eq, hkM2, hsx.out]; rfl)
                  have hie : Hid (ik = e) := hid (by rw [hik, hkM2]; exact heM.out.symm)
                  replace hik := hid hik
                  replace hkM2 := hid hkM2
                  replace E := hid (E.out.doneI 1 rfl (by omega))
                  (try simp only [List.cons_append, List.nil_append, List.set_cons_zero, List.set_cons_succ] at E)
                  replace E := hid (E.out.doneA 2 rfl)
                  (try simp only [List.cons_append, List.nil_append, List.set_cons_zero, List.set_cons_succ] at E)
                  obtain ⟨nn, hnn⟩ : ∃ q, q = grL y.nums i (celN y) k := ⟨_, rfl⟩
                  obtain ⟨ii, hii⟩ : ∃ q, q = grL y.items i (celN y) k := ⟨_, rfl⟩
                  rw [← hnn, ← hii] at E
                  rw [← hnn, ← hii] at hGr
                  rw [← hii] at hgi
                  replace hnn := hid hnn
                  replace hii := hid hii
                  have hGl : G.length ≤ 65536 := by rw [hG.out, List.length_map]; have := cuts_len x.nums i; omega
                  have hll : G.length + [Arr.mk y.kind s nn ii].length ≤ 1759218604441 := by simp only [List.length_cons, List.length_nil]; omega
                  have oB := hid (box_items (z := .mk y.kind s nn ii) (sc := oc) (nc := nc) (ic := jc) (Ext.refl _) (E.out.fresh (Ext.refl _) (Nat.le_refl _)) (ArrAt.iff.2 ⟨E.out.ints 16 rfl, E.out.ints 1 rfl, by show ii.length ≤ _; omega, E.out.items 2 rfl⟩))
                  obtain ⟨q00, q01, q02, q03⟩ := (E.out.hdr 0 rfl).all
                  obtain ⟨q90, q91, q92, q93⟩ := (E.out.hdr 9 rfl).all
                  go_wp2_with (first
                    | (at_builtin; replace E := hid (E.out.up (ext_alloc _ (.cells #[.int .i64 y.kind, .slice oa s.length oc, .slice na nn.length nc, .slice ja ii.length jc] 26))); refine wplE_appA E.out 10 rfl rfl (.tmp 88) (.tmp 90) rfl rfl _ _ 1 [.mk y.kind s nn ii] rfl oB.out (fun _ _ h => h) hll ?_; intro V5 ia2 ic2 E1; clear E; have E := hid E1; clear E1; (try simp only [List.cons_append, List.nil_append, List.set_cons_zero, List.set_cons_succ] at E))
                    | (refine wpl_store3 rfl (.tmp 92) (.tmp 91) rfl bo rfl rfl (E.out.hdr 9 rfl) ?_; intro V HV CV; replace E := hid (E.out.chg 9 rfl CV HV); clear HV CV; (try simp only [List.cons_append, List.nil_append, List.set_cons_zero, List.set_cons_succ] at E)))
                  go_roundw
                  case rel =>
                    rw [hie.out]
                    rw [← hGr.out] at E
                    rw [show G.length + 1 = (cuts x.nums e).length by have q := congrArg List.length hGr.out; simpa using q.symm] at E
                    replace E := hid (E.out.pick 15 rfl)
                    simp only [List.eraseIdx_cons_succ, List.eraseIdx_cons_zero] at E
                    replace E := hid (E.out.pick 7 rfl)
                    simp only [List.eraseIdx_cons_succ, List.eraseIdx_cons_zero] at E
                    replace E := hid (E.out.pick 15 rfl)
                    simp only [List.eraseIdx_cons_succ, List.eraseIdx_cons_zero] at E
                    replace E := hid (E.out.pick 15 rfl)
                    simp only [List.eraseIdx_cons_succ, List.eraseIdx_cons_zero] at E
                    replace E := hid (E.out.pick 15 rfl)
                    simp only [List.eraseIdx_cons_succ, List.eraseIdx_cons_zero] at E
                    replace E := hid (E.out.pick 15 rfl)
                    simp only [List.eraseIdx_cons_succ, List.eraseIdx_cons_zero] at E
                    replace E := hid (E.out.pick 15 rfl)
                    simp only [List.eraseIdx_cons_succ, List.eraseIdx_cons_zero] at E
                    replace E := hid (E.out.pick 15 rfl)
                    simp only [List.eraseIdx_cons_succ, List.eraseIdx_cons_zero] at E
                    exact ⟨e, by omega, rfl, hnst, ia2, ic2, E.out.sub (List.Sublist.cons_cons _ (List.Sublist.cons_cons _ (List.Sublist.cons_cons _ (List.Sublist.cons_cons _ (List.Sublist.cons_cons _ (List.Sublist.cons_cons _ (List.Sublist.cons_cons _ (List.Sublist.cons_cons _ (List.nil_sublist _)))))))))⟩
                  case measure => have q1 := heM.out; have q2 := hM.out; have q3 := hie.out; simp [intOf]; omega
    · obtain rfl : t = i := by omega
      obtain ⟨G, hG⟩ : ∃ G, G = (cuts x.nums t).map (grpA y) := ⟨_, rfl⟩
      rw [← hG] at E
      have hGl : G.length ≤ 65536 := by rw [hG, List.length_map]; have := cuts_len x.nums t; omega
      have hcA : cutA x y = .mk 3 [(G.length : Int)] [] G := by unfold cutA; rw [o.out, ← hG, hG, List.length_map]
      have T1 := S1.out
      have T0 := S0.out
      have hyes := fun q => cutS_yes (x := x) (y := y) q
      rw [hcA] at T1 T0 hyes
      replace hcA := hid hcA
      replace hG := hid hG
      replace T1 := hid T1
      replace T0 := hid T0
      replace hyes := hid hyes
      have hc3 := hid (OwnA.cap (E.out.rowA 1 rfl))
      replace E := hid (E.out.doneA 1 rfl)
      (try simp only [List.cons_append, List.nil_append, List.set_cons_zero, List.set_cons_succ] at E)
      obtain ⟨q00, q01, q02, q03⟩ := (E.out.hdr 0 rfl).all
      go_wp2_with (first
        | (refine wpl_buildV rfl (G.length : Int) (.tmp 95) rfl rfl ?_; have E1 : Env w S (wr.alloc (.cells #[.int .i64 (G.length : Int)] 3)) _ := E.out.lit [(G.length : Int)] (show (1 : Nat) ≤ 17592186044416 by decide); clear E; have E := hid E1; clear E1; generalize World.alloc _ (.cells #[.int .i64 (G.length : Int)] 3) = V1 at E ⊢; generalize wr.heap.size = p1 at E ⊢; (try simp only [List.cons_append, List.nil_append, List.set_cons_zero, List.set_cons_succ] at E); clear q00 q01 q02 q03; obtain ⟨q00, q01, q02, q03⟩ := (E.out.hdr 0 rfl).all)
        | (refine wpl_store1 rfl (.tmp 97) (.tmp 96) rfl bo rfl rfl (E.out.hdr 0 rfl) ?_; intro V HV CV; replace E := hid (E.out.chg 0 rfl CV HV); clear HV CV; (try simp only [List.cons_append, List.nil_append, List.set_cons_zero, List.set_cons_succ] at E); clear q00 q01 q02 q03; obtain ⟨q00, q01, q02, q03⟩ := (E.out.hdr 0 rfl).all))
      clear q00 q01 q02 q03
      have hQ : ArrAt _ _ (.mk 3 [(G.length : Int)] [] G) _ _ _ := ArrAt.iff.2 ⟨E.out.ints 8 rfl, IntsAt.nil _ _ none, by show G.length ≤ _; omega, E.out.items 1 rfl⟩
      refine (array_Right (.mk 3 [(G.length : Int)] [] G) _ 1 none 0 _ ic _ _ hQ).mono ?_
      rintro e' w9 ⟨rfl, hb9⟩
      replace E := hid (E.out.up hb9)
      clear hb9 hQ
      by_cases r : rightS (.mk 3 [(G.length : Int)] [] G) = 0
      case neg =>
        have rb : (rightS (.mk 3 [(G.length : Int)] [] G) != 0) = true := by simpa using r
        have hn := hid (T1.out r)
        have hv := hid (cutS_no (x := x) (y := y) (by rw [hn.out]; decide))
        replace r := hid r
        go_wp2_with (refine wpl_store4 rfl (.tmp 4) (.tmp 101) rfl _ rfl rfl (E.out.hdr 4 rfl) ?_; intro V HV CV; replace E := hid (E.out.chg 4 rfl CV HV))
        exact bodyPost_ret (end_arr2 rfl HV rfl rfl) rfl (hR.out _ _ (RetAEC.zero hv.out hn.out E.out.ext))
      have rb : (rightS (.mk 3 [(G.length : Int)] [] G) != 0) = false := by simpa using r
      have hn := hid (T0.out r)
      have hv := hid (hyes.out hn.out)
      replace r := hid r
      obtain ⟨q00, q01, q02, q03⟩ := (E.out.hdr 0 rfl).all
      go_wp2_with (refine wpl_store4 rfl (.tmp 4) (.tmp 102) rfl _ rfl rfl (E.out.hdr 4 rfl) ?_; intro V6 HV CV; replace E := hid (E.out.chg 4 rfl CV HV); clear CV; (try simp only [List.cons_append, List.nil_append, List.set_cons_zero, List.set_cons_succ] at E))
      refine bodyPost_ret (end_arr2 rfl HV rfl rfl) rfl (hR.out _ _ ?_)
      exact RetAEC.of hv.out hn.out rfl ((E.out.ints 8 rfl).mono fun b _ h => h.1) (IntsAt.nil _ _ none) (by omega) ((E.out.items 1 rfl).mono fun b _ h => h.1) E.out.ext (Nat.le_refl 1) (Nat.zero_le _) hc3.out
end Go.Proofs.Ythhffneibcpbdaa
