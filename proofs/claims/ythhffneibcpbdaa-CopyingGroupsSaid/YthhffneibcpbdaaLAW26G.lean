/- The law CopyingGroups: true. Conditions: the arrays are read; a slice's capacity is at least its length. -/
import Derived.Test.YthhffneibcpbdaaLAW26X
import Derived.Test.YthhffneibcpbdaaP26Z
import Derived.Test.YthhffneibcpbdaaC26H
set_option linter.unusedVariables false
set_option linter.unusedSimpArgs false
namespace Go.Proofs.Ythhffneibcpbdaa
open Go.RowKit Go.Sort
attribute [local go_sem ↓] run_max2 run_min2
attribute [local go_sem] eql_ints_nil eql_arrs_nil
set_option maxRecDepth 100000 in
set_option maxHeartbeats 8000000 in
theorem law26_CopyingGroups (x : Arr) (sx : Option Addr) (cx : Nat) (nx : Option Addr) (mx : Nat) (ix : Option Addr) (jx : Nat) (y : Arr) (sy : Option Addr) (cy : Nat) (ny : Option Addr) (my : Nat) (iy : Option Addr) (jy : Nat) (S : Nat → Prop) (w : World) (h : ArrAt w S x sx nx ix) (g : ArrAt w S y sy ny iy) (hcx : x.shape.length ≤ cx ∧ x.nums.length ≤ mx ∧ x.items.length ≤ jx) (hcy : y.shape.length ≤ cy ∧ y.nums.length ≤ my ∧ y.items.length ≤ jy) :
    Calls Try.prog 14 #[.agg #[.int .i64 x.kind, .slice sx x.shape.length cx, .slice nx x.nums.length mx, .slice ix x.items.length jx], .agg #[.int .i64 y.kind, .slice sy y.shape.length cy, .slice ny y.nums.length my, .slice iy y.items.length jy]] w fun e w' => e = .returned (.bool true) ∧ Below w.heap.size w w' := by
  refine calls_post fun R' hR => ?_
  have hsx := h.shape.1
  have hsy := g.shape.1
  have hnx := h.nums.1
  have h0 := hid h
  have g0 := hid g
  replace hcx := hid hcx
  replace hcy := hid hcy
  clear h g
  go_enter Try.func14, Try.ntmps14
  go_upto_region 1 with (fail)
  generalize hEW : ((w).alloc (.cells #[.int .i64 x.kind, .slice sx x.shape.length cx, .slice nx x.nums.length mx, .slice ix x.items.length jx] 26)).alloc (.cells #[.int .i64 y.kind, .slice sy y.shape.length cy, .slice ny y.nums.length my, .slice iy y.items.length jy] 26) = W
  have E := hid (env2 w S hEW)
  clear hEW
  replace E := hid ((E.out.arg h0.out).arg g0.out)
  (try simp only [List.cons_append, List.nil_append, List.set_cons_zero, List.set_cons_succ] at E)
  obtain ⟨q00, q01, q02, q03⟩ := (E.out.hdr 0 rfl).all
  obtain ⟨q10, q11, q12, q13⟩ := (E.out.hdr 1 rfl).all
  go_wp2_with fail
  clear q00 q01 q02 q03 q10 q11 q12 q13
  refine (law26_small x _ _ _ _ _ _ y _ _ _ _ _ _ _ _ (E.out.arr 2 rfl) (E.out.arr 3 rfl)).mono ?_
  rintro e w1 ⟨b1, rfl, hb⟩
  replace E := hid (E.out.up hb)
  clear hb
  cases b1 with
  | false =>
    go_wp2_with (go_at_call 28; refine (law26_example _).mono ?_; rintro e w9 ⟨rfl, hb9⟩)
    exact hR.out _ _ ⟨rfl, (E.out.up hb9).ext⟩
  | true =>
  by_cases c1 : y.shape.length = 0
  case pos =>
    have cb : ((y.shape.length : Int) == 0) = true := by simpa using c1
    replace c1 := hid c1
    obtain ⟨q10, q11, q12, q13⟩ := (E.out.hdr 1 rfl).all
    go_upto_region 2 with fail
    clear q10 q11 q12 q13
    go_wp2_with (go_at_call 28; refine (law26_example _).mono ?_; rintro e w9 ⟨rfl, hb9⟩)
    exact hR.out _ _ ⟨rfl, (E.out.up hb9).ext⟩
  have cb : ((y.shape.length : Int) == 0) = false := by simpa using c1
  replace c1 := hid c1
  obtain ⟨q00, q01, q02, q03⟩ := (E.out.hdr 0 rfl).all
  obtain ⟨q10, q11, q12, q13⟩ := (E.out.hdr 1 rfl).all
  go_upto_region 3 with fail
  go_wp2_with fail
  clear q00 q01 q02 q03 q10 q11 q12 q13
  clear cb
  refine (copying_CutK x _ _ _ _ _ _ y _ _ _ _ _ _ _ _ (E.out.arr 2 rfl) (E.out.arr 3 rfl) hcx.out hcy.out).mono ?_
  rintro e w3 ⟨s101, c101, n101, m101, i101, j101, rfl, hA, hb, hC101, hCC⟩
  replace E := hid ((E.out.up hb).addArr hA (fun b _ hq => E.out.res (Ext.refl _) hq))
  replace hC101 := hid hC101
  clear hA hb
  (try simp only [List.cons_append, List.nil_append, List.set_cons_zero, List.set_cons_succ] at E)
  have NO := fun q => cutS_no (x := x) (y := y) q
  have YE := fun q => cutS_yes (x := x) (y := y) q
  have OK := fun q => cut_ok (x := x) (y := y) q
  obtain ⟨r, hr⟩ : ∃ r, r = cutS x y := ⟨_, rfl⟩
  rw [← hr] at E hC101 NO hCC ⊢
  replace E := hid (E.out.addCaps 4 rfl hCC)
  clear hCC
  (try simp only [List.cons_append, List.nil_append, List.set_cons_zero, List.set_cons_succ] at E)
  obtain ⟨e1, he1⟩ : ∃ r, r = cutE x y := ⟨_, rfl⟩
  rw [← he1] at NO YE OK ⊢
  rw [← hr] at YE
  clear hr
  replace he1 := hid he1
  go_upto_region 4 with (refine wpl_store4 rfl (.tmp 5) (.tmp 29) rfl _ rfl rfl ((E.out.alloc _).hdr 6 rfl) ?_; intro V1 HV CV; replace E := hid ((E.out.alloc _).chg 6 rfl CV HV); clear CV HV; (try simp only [List.cons_append, List.nil_append, List.set_cons_zero, List.set_cons_succ] at E))
  generalize w3.heap.size = p1 at E ⊢
  by_cases f1 : e1 = 0
  case neg =>
    have cb : (e1 != 0) = true := by simpa using f1
    have hz : Hid (r = .zero) := hid (NO f1)
    clear NO YE OK
    replace f1 := hid f1
    obtain ⟨q60, q61, q62, q63⟩ := (E.out.hdr 6 rfl).all
    go_wp2_with fail
    clear q60 q61 q62 q63
    refine (ref03_Same r .zero _ _ _ _ _ _ none 0 none 0 none 0 _ (fun _ => True) _ (E.out.arr 4 rfl) (zero_at _ _ _ _ _)).mono ?_
    rintro e w5 ⟨rfl, hb⟩
    replace E := hid (E.out.up hb)
    clear hb
    rw [show sameB r .zero = true by rw [hz.out]; exact sameB_self _]
    go_wp2_with (go_at_call 28; refine (law26_example _).mono ?_; rintro e w9 ⟨rfl, hb9⟩)
    exact hR.out _ _ ⟨rfl, (E.out.up hb9).ext⟩
  have cb : (e1 != 0) = false := by simpa using f1
  have C := hid (OK f1)
  have hr := hid (YE f1)
  have hry := hid (chk26_ok C.out.c).ry
  have hs := (right_ok hry.out).2.1
  have hcn := hid (celN_eq hs)
  have hsc := hid (celL_ok hs)
  have ht6 := tal_le hs
  have hxl := hid C.out.l
  have hrl : Hid (r.items.length ≤ 65536) := hid (by have := right_l3 C.out.r; rw [← hr.out] at this; omega)
  clear NO YE OK hs
  replace f1 := hid f1
  go_upto_region 7 with fail
  clear cb
  go_loopw [7] (fun v wr => ∃ f : Nat, f ≤ x.nums.length ∧ v = .int .i64 f ∧ Hid (∀ j, j < f → numF x.nums j = 0) ∧ Env w S wr [.obj w.heap.size (.cells #[.int .i64 x.kind, .slice sx x.shape.length cx, .slice nx x.nums.length mx, .slice ix x.items.length jx] 26 (0, 0)), .obj (w.heap.size + 1) (.cells #[.int .i64 y.kind, .slice sy y.shape.length cy, .slice ny y.nums.length my, .slice iy y.items.length jy] 26 (0, 0)), .arr x sx nx ix, .arr y sy ny iy, .arr r s101 n101 i101, capsF i101 r.items, .obj p1 (.cells #[.int .i64 r.kind, .slice s101 r.shape.length c101, .slice n101 r.nums.length m101, .slice i101 r.items.length j101] 26 (0, 0))]) (fun v _ => x.nums.length - (intOf v).toNat)
  case atStart => exact ⟨0, Nat.zero_le _, rfl, hid (fun j hj => by omega), E.out⟩
  case round =>
    clear E
    obtain ⟨f, hf, rfl, hz, E⟩ := hrel
    replace E := hid E
    by_cases hlt : f < x.nums.length
    case pos =>
      obtain ⟨b1, o1, hnn, hbl1, hS1, hc1⟩ := (E.out.arr 2 rfl).nums.at hlt
      replace hnn := hid hnn
      have t0 : (0 : Int) ≤ (f : Int) := by omega
      have t1 : (f : Int) < (x.nums.length : Int) := by omega
      by_cases d0 : numF x.nums f = 0
      case pos =>
        have hcd : x.nums.getD f 0 = 0 := d0
        rw [hcd] at hc1
        have hz2 : Hid (∀ j, j < f + 1 → numF x.nums j = 0) := hid (fun j hj => by
          rcases Nat.lt_succ_iff_lt_or_eq.1 hj with q | q
          · exact hz.out j q
          · rw [q]; exact d0)
        replace d0 := hid d0
        replace hcd := hid hcd
        obtain ⟨q00, q01, q02, q03⟩ := (E.out.hdr 0 rfl).all
        rw [hnn.out] at q02
        go_wp2_with fail
        go_roundw
        case rel => exact ⟨f + 1, by omega, by go_num, hz2, E.out⟩
        case measure => simp [intOf]; omega
      case neg =>
        have hcd : x.nums.getD f 0 ≠ 0 := d0
        have he : Hid (f = x.nums.length ∨ numF x.nums f ≠ 0) := hid (Or.inr d0)
        replace d0 := hid d0
        generalize x.nums.getD f 0 = d at hc1 hcd
        have db : (d == 0) = false := by simpa using hcd
        replace hcd := hid hcd
        obtain ⟨q00, q01, q02, q03⟩ := (E.out.hdr 0 rfl).all
        rw [hnn.out] at q02
        go_upto_region 9 with fail
        clear q00 q01 q02 q03
        clear hc1 t0 t1 db
        have hGA := hid (GrpAt.start (x := x) (y := y) hf hz.out he.out)
        clear hz he
        obtain ⟨q10, q11, q12, q13⟩ := (E.out.hdr 1 rfl).all
        go_wp2_with fail
        clear q10 q11 q12 q13
        refine (ref23_Cell y _ _ _ _ _ _ _ _ (E.out.arr 3 rfl) hcy.out.1).mono ?_
        rintro e w5 ⟨co, cc, rfl, hI, hb⟩
        replace E := hid (E.out.up hb)
        clear hb
        go_wp2_with fail
        refine (ref03_Count (celL y) _ _ _ _ hI).mono ?_
        rintro e w6 ⟨rfl, rfl⟩
        clear hI
        rw [cntC_eq hsc.out, ← hcn.out]
        obtain ⟨c, hc⟩ : ∃ c, c = celN y := ⟨_, rfl⟩
        rw [← hc]
        have hsz : Hid (szA y = talM y * c) := hid (by rw [hc]; exact sz_tal hry.out)
        have hszb : talM y * c ≤ 65536 := by have := cnt_le (right_ok hry.out).2.1; have e := cnt_tal (right_ok hry.out).2.1; rw [hc]; omega
        replace hc := hid hc
        have hfc : f * c ≤ talM y * c := Nat.mul_le_mul_right c (hGA.out.le C.out.l)
        have hw1 : IntKind.i64.wrap ((f : Int) * (c : Int)) = ((f * c : Nat) : Int) := by rw [← Int.natCast_mul]; exact IntWalk.i64_in _ (by omega)
        obtain ⟨a0, ha0⟩ : ∃ a, a = f * c := ⟨_, rfl⟩
        rw [← ha0] at hw1 hfc
        replace ha0 := hid ha0
        go_upto_region 10 with fail
        clear hw1
        go_wp2_with fail
        go_loopw [8, 9, 10, 11] (fun a i u1 u2 wr => ∃ (i' q a' : Nat), i' ≤ r.items.length ∧ i = .int .i64 i' ∧ a = .int .i64 a' ∧ a' ≤ talM y * c ∧ Hid (a' = q * c ∧ GrpAt x y i' q) ∧ Env w S wr [.obj w.heap.size (.cells #[.int .i64 x.kind, .slice sx x.shape.length cx, .slice nx x.nums.length mx, .slice ix x.items.length jx] 26 (0, 0)), .obj (w.heap.size + 1) (.cells #[.int .i64 y.kind, .slice sy y.shape.length cy, .slice ny y.nums.length my, .slice iy y.items.length jy] 26 (0, 0)), .arr x sx nx ix, .arr y sy ny iy, .arr r s101 n101 i101, capsF i101 r.items, .obj p1 (.cells #[.int .i64 r.kind, .slice s101 r.shape.length c101, .slice n101 r.nums.length m101, .slice i101 r.items.length j101] 26 (0, 0))]) (fun _ i _ _ _ => r.items.length - (intOf i).toNat)
        case atStart => exact ⟨0, f, a0, Nat.zero_le _, rfl, rfl, hfc, hid ⟨ha0.out, hGA.out⟩, E.out⟩
        case round =>
          clear E hGA ha0 hfc
          obtain ⟨i, q, a, hi, rfl, rfl, ha, hQ, E⟩ := hrel
          replace E := hid E
          by_cases hlt : i < r.items.length
          case pos =>
            have hlt2 := hid hlt
            have hi6 : i ≤ 65536 := by have := hrl.out; omega
            obtain ⟨m, hm1, hm2, hm3, hm4, hm5⟩ := C.out.grp' hr.out hQ.out.2 hlt
            obtain ⟨b1, o1, sg, cg, ng, mg, ig, jg, hia, e0, e1, e2, e3, hzz, hcg⟩ := E.out.itemC 4 5 rfl rfl hlt
            rw [hm1] at e0 e1 e2 e3 hzz hcg
            have hgs := grp_size hry.out hm3
            obtain ⟨g, hg⟩ : ∃ g, g = grpA y (q, m) := ⟨_, rfl⟩
            rw [← hg] at e0 e1 e2 e3 hzz hm4 hgs hcg
            have hgc2 := hid hcg.1
            clear hcg
            have hgk : Hid (g.kind = y.kind) := hid (by rw [hg]; rfl)
            have hgc : Hid (eqI (celL g) (celL y) = true) := hid (by rw [hg, grpA_cel]; simp [eqI])
            have hgr := hid hm4
            have hgl : 0 < g.shape.length := by rw [hg]; exact Nat.succ_pos _
            have hgd : g.shape.getD 0 0 = (m : Int) := by rw [hg]; rfl
            have hqm : (q + m) * c ≤ talM y * c := Nat.mul_le_mul_right c hm3
            rw [Nat.add_mul] at hqm
            have ha1 : Hid (a = q * c) := hid hQ.out.1
            have hgz : Hid (szN g.kind g.nums.length g.items.length = m * c) := hid (by show szA g = m * c; rw [hgs, hc.out])
            have hat : Hid (∀ k : Nat, k < m * c → atS g (k : Int) = atS y ((q * c + k : Nat) : Int)) := hid (fun k hk => by rw [hg, grp_at hry.out hm3 (k := k) (by rw [← hc.out]; exact hk), hc.out])
            have hnx2 := hid hm5
            replace hg := hid hg
            clear hm1 hm4 hgs hm5
            obtain ⟨n, hn⟩ : ∃ n, n = m * c := ⟨_, rfl⟩
            rw [← hn] at hgz hat hqm
            replace hn := hid hn
            have t0 : (0 : Int) ≤ (i : Int) := by omega
            have t1 : (i : Int) < (r.items.length : Int) := by omega
            have haq := ha1.out
            rw [← haq] at hqm
            have hat2 : Hid (∀ k : Nat, k < n → atS g (k : Int) = atS y ((a + k : Nat) : Int)) := hid (fun k hk => by rw [haq]; exact hat.out k hk)
            clear hat haq
            replace hia := hid hia
            replace E := hid (E.out.addArr hzz (fun _ _ h => h))
            clear hzz
            (try simp only [List.cons_append, List.nil_append, List.set_cons_zero, List.set_cons_succ] at E)
            obtain ⟨q60, q61, q62, q63⟩ := (E.out.hdr 6 rfl).all
            rw [hia.out] at q63
            go_upto_region 14 with (refine wpl_store4 rfl (.tmp 10) (.tmp 70) rfl _ rfl rfl ((E.out.alloc _).hdr 8 rfl) ?_; intro V1 HV CV; replace E := hid ((E.out.alloc _).chg 8 rfl CV HV); clear CV HV; (try simp only [List.cons_append, List.nil_append, List.set_cons_zero, List.set_cons_succ] at E))
            clear q60 q61 q62 q63
            clear t0 t1 e0 e1 e2 e3
            generalize wr.heap.size = pg at E ⊢
            obtain ⟨bs, os, hbs, hbl2, hS2, hc2⟩ := (E.out.arr 7 rfl).shape.at (k := 0) hgl
            rw [hgd, Nat.add_zero] at hc2
            subst hbs
            have t2 : (0 : Int) < (g.shape.length : Int) := by omega
            have t3 : ((g.shape.length : Int) == 0) = false := beq_eq_false_iff_ne.2 (by omega)
            have t4 : ¬ (m : Int) < 1 := by omega
            have t5 : (g.kind != y.kind) = false := bne_eq_false_iff_eq.2 hgk.out
            clear hgd
            obtain ⟨T, hT1, hT2, hT3⟩ := E.out.tw
            refine wp_region_mono (Sees V1 [(⟨pg, 0, none⟩, .int .i64 g.kind), (⟨pg, 1, none⟩, .slice (some ⟨bs, os, none⟩) g.shape.length cg), (⟨pg, 2, none⟩, .slice ng g.nums.length mg), (⟨pg, 3, none⟩, .slice ig g.items.length jg), (⟨(w.heap.size+1), 0, none⟩, .int .i64 y.kind), (⟨(w.heap.size+1), 1, none⟩, .slice sy y.shape.length cy), (⟨(w.heap.size+1), 2, none⟩, .slice ny y.nums.length my), (⟨(w.heap.size+1), 3, none⟩, .slice iy y.items.length jy), (⟨bs, os, none⟩, .int .i64 m)]) [7, 18, 20, 21] (fun k v u u' => match k with | 7 => v = .int .i64 0 | 18 => ∃ so sc, v = .slice so (celL g).length sc ∧ IntsAt u' T so (celL g) | 20 => ∃ so sc, v = .slice so (celL y).length sc ∧ IntsAt u' T so (celL y) | 21 => v = .bool true | _ => False) (fun _ _ h e => h.up e) (Sees.start (all_cons ((E.out.hdr 8 rfl).c0) (all_cons ((E.out.hdr 8 rfl).c1) (all_cons ((E.out.hdr 8 rfl).c2) (all_cons ((E.out.hdr 8 rfl).c3) (all_cons ((E.out.hdr 1 rfl).c0) (all_cons ((E.out.hdr 1 rfl).c1) (all_cons ((E.out.hdr 1 rfl).c2) (all_cons ((E.out.hdr 1 rfl).c3) (all_cons (hc2) (all_nil))))))))))) (by kernel_rfl) (by kernel_rfl) ?_
            repeat (first | (refine m_plain (v := ?_) (by rfl) (by rfl) ?_ ?_; rotate_left; (intro wz hSw; obtain ⟨-, hSc⟩ := hSw; (try simp only [List.forall_mem_cons, List.forall_mem_nil, and_true] at hSc); go_simp; (first | done | with_reducible rfl)); (intro K hK; (try simp only [Act.put, List.setIfInBounds_toArray, List.set_cons_zero, List.set_cons_succ]); refine hK _ _ ?_; clear hK K)) | (refine m_skip (by rfl) (by rfl) ?_; (intro K hK; (try simp only [Act.put, List.setIfInBounds_toArray, List.set_cons_zero, List.set_cons_succ]); refine hK _ _ ?_; clear hK K)))
            refine m_make (by rfl) (by rfl) ?_ ?_
            · intro wz hSw hdep R hRz
              obtain ⟨hSe, hSc⟩ := hSw
              (try simp only [List.forall_mem_cons, List.forall_mem_nil, and_true] at hSc)
              unfold does
              (go_simp; refine Calls.mono (ref03_Right g _ _ _ _ _ _ _ wz (ArrAt.up (ArrAt.mono (fun b _ h => hT1 b h) _ (E.out.arr 7 rfl)) hSe)) ?_; rintro e wq ⟨rfl, hqb⟩; rw [hgr.out]; exact ⟨_, rfl, hRz.out _ _ ⟨hqb, rfl⟩⟩)
            intro v7 u7 x7 hG7 K hK
            have hF7 := hG7.fact
            (try dsimp only at hF7)
            subst hF7
            (try simp only [Act.put, List.setIfInBounds_toArray, List.set_cons_zero, List.set_cons_succ]); refine hK _ _ ?_; clear hK K
            repeat (first | (refine m_plain (v := ?_) (by rfl) (by rfl) ?_ ?_; rotate_left; (intro wz hSw; obtain ⟨-, hSc⟩ := hSw; (try simp only [List.forall_mem_cons, List.forall_mem_nil, and_true] at hSc); go_simp; (first | done | with_reducible rfl)); (intro K hK; (try simp only [Act.put, List.setIfInBounds_toArray, List.set_cons_zero, List.set_cons_succ]); refine hK _ _ ?_; clear hK K)) | (refine m_skip (by rfl) (by rfl) ?_; (intro K hK; (try simp only [Act.put, List.setIfInBounds_toArray, List.set_cons_zero, List.set_cons_succ]); refine hK _ _ ?_; clear hK K)))
            refine m_make (by rfl) (by rfl) ?_ ?_
            · intro wz hSw hdep R hRz
              obtain ⟨hSe, hSc⟩ := hSw
              (try simp only [List.forall_mem_cons, List.forall_mem_nil, and_true] at hSc)
              unfold does
              (go_simp; refine Calls.mono (ref23_Cell g _ _ _ _ _ _ _ wz (ArrAt.up (ArrAt.mono (fun b _ h => hT1 b h) _ (E.out.arr 7 rfl)) hSe) hgc2.out) ?_; rintro e wq ⟨so, sc, rfl, hI, hb⟩; exact ⟨_, rfl, hRz.out _ _ ⟨hb, so, sc, rfl, hI⟩⟩)
            intro v18 u18 x18 hG18 K hK
            have hF18 := hG18.fact
            (try dsimp only at hF18)
            obtain ⟨s18, c18, rfl, hI18⟩ := hF18
            (try simp only [Act.put, List.setIfInBounds_toArray, List.set_cons_zero, List.set_cons_succ]); refine hK _ _ ?_; clear hK K
            repeat (first | (refine m_plain (v := ?_) (by rfl) (by rfl) ?_ ?_; rotate_left; (intro wz hSw; obtain ⟨-, hSc⟩ := hSw; (try simp only [List.forall_mem_cons, List.forall_mem_nil, and_true] at hSc); go_simp; (first | done | with_reducible rfl)); (intro K hK; (try simp only [Act.put, List.setIfInBounds_toArray, List.set_cons_zero, List.set_cons_succ]); refine hK _ _ ?_; clear hK K)) | (refine m_skip (by rfl) (by rfl) ?_; (intro K hK; (try simp only [Act.put, List.setIfInBounds_toArray, List.set_cons_zero, List.set_cons_succ]); refine hK _ _ ?_; clear hK K)))
            refine m_make (by rfl) (by rfl) ?_ ?_
            · intro wz hSw hdep R hRz
              obtain ⟨hSe, hSc⟩ := hSw
              (try simp only [List.forall_mem_cons, List.forall_mem_nil, and_true] at hSc)
              unfold does
              (go_simp; refine Calls.mono (ref23_Cell y _ _ _ _ _ _ _ wz (ArrAt.up (ArrAt.mono (fun b _ h => hT1 b h) _ (E.out.arr 3 rfl)) hSe) hcy.out.1) ?_; rintro e wq ⟨so, sc, rfl, hI, hb⟩; exact ⟨_, rfl, hRz.out _ _ ⟨hb, so, sc, rfl, hI⟩⟩)
            intro v20 u20 x20 hG20 K hK
            have hF20 := hG20.fact
            (try dsimp only at hF20)
            obtain ⟨s20, c20, rfl, hI20⟩ := hF20
            (try simp only [Act.put, List.setIfInBounds_toArray, List.set_cons_zero, List.set_cons_succ]); refine hK _ _ ?_; clear hK K
            repeat (first | (refine m_plain (v := ?_) (by rfl) (by rfl) ?_ ?_; rotate_left; (intro wz hSw; obtain ⟨-, hSc⟩ := hSw; (try simp only [List.forall_mem_cons, List.forall_mem_nil, and_true] at hSc); go_simp; (first | done | with_reducible rfl)); (intro K hK; (try simp only [Act.put, List.setIfInBounds_toArray, List.set_cons_zero, List.set_cons_succ]); refine hK _ _ ?_; clear hK K)) | (refine m_skip (by rfl) (by rfl) ?_; (intro K hK; (try simp only [Act.put, List.setIfInBounds_toArray, List.set_cons_zero, List.set_cons_succ]); refine hK _ _ ?_; clear hK K)))
            refine m_make (by rfl) (by rfl) ?_ ?_
            · intro wz hSw hdep R hRz
              obtain ⟨hSe, hSc⟩ := hSw
              (try simp only [List.forall_mem_cons, List.forall_mem_nil, and_true] at hSc)
              unfold does
              (go_simp; refine Calls.mono (ref03_Shapes (celL g) (celL y) _ _ _ _ _ _ wz (hI18.up (hdep 18 _ rfl (depB_sound (f := 4) (by kernel_rfl)))) (hI20.up (hdep 20 _ rfl (depB_sound (f := 4) (by kernel_rfl))))) ?_; rintro e wq ⟨rfl, n, rfl⟩; rw [hgc.out]; exact ⟨_, rfl, hRz.out _ _ ⟨ext_drewN _ _, rfl⟩⟩)
            intro v21 u21 x21 hG21 K hK
            have hF21 := hG21.fact
            (try dsimp only at hF21)
            subst hF21
            (try simp only [Act.put, List.setIfInBounds_toArray, List.set_cons_zero, List.set_cons_succ]); refine hK _ _ ?_; clear hK K
            repeat (first | (refine m_plain (v := ?_) (by rfl) (by rfl) ?_ ?_; rotate_left; (intro wz hSw; obtain ⟨-, hSc⟩ := hSw; (try simp only [List.forall_mem_cons, List.forall_mem_nil, and_true] at hSc); go_simp; (first | done | with_reducible rfl)); (intro K hK; (try simp only [Act.put, List.setIfInBounds_toArray, List.set_cons_zero, List.set_cons_succ]); refine hK _ _ ?_; clear hK K)) | (refine m_skip (by rfl) (by rfl) ?_; (intro K hK; (try simp only [Act.put, List.setIfInBounds_toArray, List.set_cons_zero, List.set_cons_succ]); refine hK _ _ ?_; clear hK K)))
            refine m_nil ?_
            intro wf hSf hAf
            replace E := hid (E.out.up hSf.1)
            clear hSf hAf hG7 hG18 hG20 hG21 hI18 hI20 hT1 hT2 hT3 hc2 t2 t3 t4 t5
            go_wp2_with fail
            go_loopw [8, 11] (fun a' k' wr => ∃ k : Nat, k ≤ n ∧ k' = .int .i64 k ∧ a' = .int .i64 ((a + k : Nat) : Int) ∧ Env w S wr [.obj w.heap.size (.cells #[.int .i64 x.kind, .slice sx x.shape.length cx, .slice nx x.nums.length mx, .slice ix x.items.length jx] 26 (0, 0)), .obj (w.heap.size + 1) (.cells #[.int .i64 y.kind, .slice sy y.shape.length cy, .slice ny y.nums.length my, .slice iy y.items.length jy] 26 (0, 0)), .arr x sx nx ix, .arr y sy ny iy, .arr r s101 n101 i101, capsF i101 r.items, .obj p1 (.cells #[.int .i64 r.kind, .slice s101 r.shape.length c101, .slice n101 r.nums.length m101, .slice i101 r.items.length j101] 26 (0, 0)), .arr g (some ⟨bs, os, none⟩) ng ig, .obj pg (.cells #[.int .i64 g.kind, .slice (some ⟨bs, os, none⟩) g.shape.length cg, .slice ng g.nums.length mg, .slice ig g.items.length jg] 26 (0, 0))]) (fun _ k _ => n - (intOf k).toNat)
            case atStart => exact ⟨0, Nat.zero_le _, rfl, rfl, E.out⟩
            case round =>
              clear E
              obtain ⟨kq, hk, rfl, rfl, E⟩ := hrel
              replace E := hid E
              obtain ⟨q80, q81, q82, q83⟩ := (E.out.hdr 8 rfl).all
              go_wp2_with fail
              clear q80 q81 q82 q83
              refine (size_ref03_Size g _ _ _ _ _ _ _ _ (E.out.arr 7 rfl)).mono ?_
              rintro e w7 ⟨rfl, hb⟩
              replace E := hid (E.out.up hb)
              clear hb
              rw [hgz.out]
              by_cases hkn : kq < n
              case pos =>
                have pi : Hid (sameB (atS g (kq : Int)) (atS y ((a + kq : Nat) : Int)) = true) := hid (by rw [hat2.out kq hkn]; exact sameB_self _)
                obtain ⟨ak, hak⟩ : ∃ q, q = a + kq := ⟨_, rfl⟩
                rw [← hak] at pi ⊢
                have hak2 : ak ≤ 65536 := by omega
                replace hak := hid hak
                go_upto_region 19 with fail
                obtain ⟨T, hT1, hT2, hT3⟩ := E.out.tw
                refine wp_region_mono (Sees w7 [(⟨pg, 0, none⟩, .int .i64 g.kind), (⟨pg, 1, none⟩, .slice (some ⟨bs, os, none⟩) g.shape.length cg), (⟨pg, 2, none⟩, .slice ng g.nums.length mg), (⟨pg, 3, none⟩, .slice ig g.items.length jg), (⟨(w.heap.size+1), 0, none⟩, .int .i64 y.kind), (⟨(w.heap.size+1), 1, none⟩, .slice sy y.shape.length cy), (⟨(w.heap.size+1), 2, none⟩, .slice ny y.nums.length my), (⟨(w.heap.size+1), 3, none⟩, .slice iy y.items.length jy)]) [2, 5, 6] (fun k v u u' => match k with | 2 => RetA u T (atS g kq) (.returned v) u' | 5 => RetA u T (atS y ak) (.returned v) u' | 6 => v = .bool true | _ => False) (fun _ _ h e => h.up e) (Sees.start (all_cons ((E.out.hdr 8 rfl).c0) (all_cons ((E.out.hdr 8 rfl).c1) (all_cons ((E.out.hdr 8 rfl).c2) (all_cons ((E.out.hdr 8 rfl).c3) (all_cons ((E.out.hdr 1 rfl).c0) (all_cons ((E.out.hdr 1 rfl).c1) (all_cons ((E.out.hdr 1 rfl).c2) (all_cons ((E.out.hdr 1 rfl).c3) (all_nil)))))))))) (by kernel_rfl) (by kernel_rfl) ?_
                repeat (first | (refine m_plain (v := ?_) (by rfl) (by rfl) ?_ ?_; rotate_left; (intro wz hSw; obtain ⟨-, hSc⟩ := hSw; (try simp only [List.forall_mem_cons, List.forall_mem_nil, and_true] at hSc); go_simp; (first | done | with_reducible rfl)); (intro K hK; (try simp only [Act.put, List.setIfInBounds_toArray, List.set_cons_zero, List.set_cons_succ]); refine hK _ _ ?_; clear hK K)) | (refine m_skip (by rfl) (by rfl) ?_; (intro K hK; (try simp only [Act.put, List.setIfInBounds_toArray, List.set_cons_zero, List.set_cons_succ]); refine hK _ _ ?_; clear hK K)))
                refine m_make (by rfl) (by rfl) ?_ ?_
                · intro wz hSw hdep R hRz
                  obtain ⟨hSe, hSc⟩ := hSw
                  (try simp only [List.forall_mem_cons, List.forall_mem_nil, and_true] at hSc)
                  unfold does
                  (go_simp; refine Calls.mono (ref03_At g _ _ _ _ _ _ (kq : Int) _ wz (ArrAt.up (ArrAt.mono (fun b _ h => hT1 b h) _ (E.out.arr 7 rfl)) hSe)) ?_; intro e wq h; obtain ⟨v, rfl, h1⟩ := retA_arm hT2 hSe (h.eq rfl); exact ⟨_, rfl, hRz.out _ _ h1⟩)
                intro v2 u2 x2 hG2 K hK
                have hF2 := hG2.fact
                (try dsimp only at hF2)
                obtain ⟨s2, c2, n2, m2, i2, j2, he, hA2, hb2⟩ := hF2
                injection he with he
                subst he
                (try simp only [Act.put, List.setIfInBounds_toArray, List.set_cons_zero, List.set_cons_succ]); refine hK _ _ ?_; clear hK K
                repeat (first | (refine m_plain (v := ?_) (by rfl) (by rfl) ?_ ?_; rotate_left; (intro wz hSw; obtain ⟨-, hSc⟩ := hSw; (try simp only [List.forall_mem_cons, List.forall_mem_nil, and_true] at hSc); go_simp; (first | done | with_reducible rfl)); (intro K hK; (try simp only [Act.put, List.setIfInBounds_toArray, List.set_cons_zero, List.set_cons_succ]); refine hK _ _ ?_; clear hK K)) | (refine m_skip (by rfl) (by rfl) ?_; (intro K hK; (try simp only [Act.put, List.setIfInBounds_toArray, List.set_cons_zero, List.set_cons_succ]); refine hK _ _ ?_; clear hK K)))
                refine m_make (by rfl) (by rfl) ?_ ?_
                · intro wz hSw hdep R hRz
                  obtain ⟨hSe, hSc⟩ := hSw
                  (try simp only [List.forall_mem_cons, List.forall_mem_nil, and_true] at hSc)
                  unfold does
                  (go_simp; refine Calls.mono (ref03_At y _ _ _ _ _ _ (ak : Int) _ wz (ArrAt.up (ArrAt.mono (fun b _ h => hT1 b h) _ (E.out.arr 3 rfl)) hSe)) ?_; intro e wq h; obtain ⟨v, rfl, h1⟩ := retA_arm hT2 hSe (h.eq rfl); exact ⟨_, rfl, hRz.out _ _ h1⟩)
                intro v5 u5 x5 hG5 K hK
                have hF5 := hG5.fact
                (try dsimp only at hF5)
                obtain ⟨s5, c5, n5, m5, i5, j5, he, hA5, hb5⟩ := hF5
                injection he with he
                subst he
                (try simp only [Act.put, List.setIfInBounds_toArray, List.set_cons_zero, List.set_cons_succ]); refine hK _ _ ?_; clear hK K
                repeat (first | (refine m_plain (v := ?_) (by rfl) (by rfl) ?_ ?_; rotate_left; (intro wz hSw; obtain ⟨-, hSc⟩ := hSw; (try simp only [List.forall_mem_cons, List.forall_mem_nil, and_true] at hSc); go_simp; (first | done | with_reducible rfl)); (intro K hK; (try simp only [Act.put, List.setIfInBounds_toArray, List.set_cons_zero, List.set_cons_succ]); refine hK _ _ ?_; clear hK K)) | (refine m_skip (by rfl) (by rfl) ?_; (intro K hK; (try simp only [Act.put, List.setIfInBounds_toArray, List.set_cons_zero, List.set_cons_succ]); refine hK _ _ ?_; clear hK K)))
                refine m_make (by rfl) (by rfl) ?_ ?_
                · intro wz hSw hdep R hRz
                  obtain ⟨hSe, hSc⟩ := hSw
                  (try simp only [List.forall_mem_cons, List.forall_mem_nil, and_true] at hSc)
                  unfold does
                  (go_simp; refine Calls.mono (ref03_Same (atS g kq) (atS y ak) _ _ _ _ _ _ _ _ _ _ _ _ _ _ wz (hA2.up (hdep 2 _ rfl (depB_sound (f := 4) (by kernel_rfl)))) (hA5.up (hdep 5 _ rfl (depB_sound (f := 4) (by kernel_rfl))))) ?_; rintro e wq ⟨rfl, hqb⟩; rw [pi.out]; exact ⟨_, rfl, hRz.out _ _ ⟨hqb, rfl⟩⟩)
                intro v6 u6 x6 hG6 K hK
                have hF6 := hG6.fact
                (try dsimp only at hF6)
                subst hF6
                (try simp only [Act.put, List.setIfInBounds_toArray, List.set_cons_zero, List.set_cons_succ]); refine hK _ _ ?_; clear hK K
                repeat (first | (refine m_plain (v := ?_) (by rfl) (by rfl) ?_ ?_; rotate_left; (intro wz hSw; obtain ⟨-, hSc⟩ := hSw; (try simp only [List.forall_mem_cons, List.forall_mem_nil, and_true] at hSc); go_simp; (first | done | with_reducible rfl)); (intro K hK; (try simp only [Act.put, List.setIfInBounds_toArray, List.set_cons_zero, List.set_cons_succ]); refine hK _ _ ?_; clear hK K)) | (refine m_skip (by rfl) (by rfl) ?_; (intro K hK; (try simp only [Act.put, List.setIfInBounds_toArray, List.set_cons_zero, List.set_cons_succ]); refine hK _ _ ?_; clear hK K)))
                refine m_nil ?_
                intro wf hSf hAf
                replace E := hid (E.out.up hSf.1)
                clear hSf hAf hG2 hG5 hG6 hA2 hA5 hb2 hb5 hT1 hT2 hT3
                go_wp2_with fail
                go_roundw
                case rel => exact ⟨kq + 1, by omega, by go_num, by rw [show a + (kq + 1) = ak + 1 by have := hak.out; omega]; go_num, E.out⟩
                case measure => simp [intOf]; omega
              case neg =>
                have hkn2 : kq = n := by omega
                obtain ⟨ak, hak⟩ : ∃ q, q = a + kq := ⟨_, rfl⟩
                rw [← hak]
                have hak1 : ak ≤ talM y * c := by omega
                have hak2 := hid (show ak = (q + m) * c by rw [hak, hkn2, hn.out, Nat.add_mul, ← ha1.out])
                replace hak := hid hak
                go_wp2_with fail
                go_roundw
                case rel => exact ⟨i + 1, q + m, ak, hlt2.out, by go_num, rfl, hak1, hid ⟨hak2.out, hnx2.out⟩, E.out.sub (List.Sublist.cons_cons _ (List.Sublist.cons_cons _ (List.Sublist.cons_cons _ (List.Sublist.cons_cons _ (List.Sublist.cons_cons _ (List.Sublist.cons_cons _ (List.Sublist.cons_cons _ (List.nil_sublist _))))))))⟩
                case measure => have := hlt2.out; simp [intOf]; omega
          case neg =>
            have FN := C.out.fin' hr.out hQ.out.2 (show r.items.length ≤ i by omega)
            have hrs := hid FN.1
            have hsy2 : Hid (r.items.length ≠ 0 → a = szA y) := hid (fun h => by rw [hQ.out.1, hc.out]; exact FN.2 h)
            clear FN
            have hbits := hid C.out.b
            obtain ⟨q60, q61, q62, q63⟩ := (E.out.hdr 6 rfl).all
            go_upto_region 24 with fail
            clear q60 q61 q62 q63
            go_loopw [12, 13] (fun o i' wr => ∃ k : Nat, k ≤ x.nums.length ∧ i' = .int .i64 k ∧ o = .int .i64 (sumF (numF x.nums) k) ∧ Env w S wr [.obj w.heap.size (.cells #[.int .i64 x.kind, .slice sx x.shape.length cx, .slice nx x.nums.length mx, .slice ix x.items.length jx] 26 (0, 0)), .obj (w.heap.size + 1) (.cells #[.int .i64 y.kind, .slice sy y.shape.length cy, .slice ny y.nums.length my, .slice iy y.items.length jy] 26 (0, 0)), .arr x sx nx ix, .arr y sy ny iy, .arr r s101 n101 i101, capsF i101 r.items, .obj p1 (.cells #[.int .i64 r.kind, .slice s101 r.shape.length c101, .slice n101 r.nums.length m101, .slice i101 r.items.length j101] 26 (0, 0))]) (fun _ i _ => x.nums.length - (intOf i).toNat)
            case atStart => exact ⟨0, Nat.zero_le _, rfl, rfl, E.out⟩
            case round =>
              clear E
              obtain ⟨k, hk, rfl, rfl, E⟩ := hrel
              replace E := hid E
              have hx6 : x.nums.length ≤ 65536 := by have := hxl.out; omega
              by_cases hlk : k < x.nums.length
              case pos =>
                obtain ⟨b1, o1, hnn, hbl1, hS1, hc1⟩ := (E.out.arr 2 rfl).nums.at hlk
                have hd := bit_at hbits.out hlk
                have hT : Hid (sumF (numF x.nums) (k + 1) = sumF (numF x.nums) k + x.nums.getD k 0) := hid rfl
                have hsb := bits_sum hbits.out hk
                simp only [bitB, decide_eq_true_eq] at hd
                generalize x.nums.getD k 0 = d at hc1 hd hT
                generalize sumF (numF x.nums) k = sk at hT hsb ⊢
                have hd2 : 0 ≤ d ∧ d ≤ 1 := by omega
                clear hd
                replace hnn := hid hnn
                have t0 : (0 : Int) ≤ (k : Int) := by omega
                have t1 : (k : Int) < (x.nums.length : Int) := by omega
                obtain ⟨q00, q01, q02, q03⟩ := (E.out.hdr 0 rfl).all
                rw [hnn.out] at q02
                go_wp2_with fail
                go_roundw
                case rel => exact ⟨k + 1, by omega, by go_num, by rw [hT.out], E.out⟩
                case measure => simp [intOf]; omega
              case neg =>
                have hke : k = x.nums.length := by omega
                have hrs2 : sumF (numF x.nums) k = (r.items.length : Int) := by rw [hke]; exact hrs.out.symm
                rw [hrs2]
                replace hrs2 := hid hrs2
                replace hke := hid hke
                have cb : ((r.items.length : Int) == (r.items.length : Int)) = true := by simp
                by_cases o0 : r.items.length = 0
                case pos =>
                  have cb2 : ((r.items.length : Int) == 0) = true := by simpa using o0
                  replace o0 := hid o0
                  obtain ⟨q00, q01, q02, q03⟩ := (E.out.hdr 0 rfl).all
                  obtain ⟨q60, q61, q62, q63⟩ := (E.out.hdr 6 rfl).all
                  go_wp2_with (go_at_call 28; refine (law26_example _).mono ?_; rintro e w9 ⟨rfl, hb9⟩)
                  exact hR.out _ _ ⟨rfl, (E.out.up hb9).ext⟩
                case neg =>
                  have cb2 : ((r.items.length : Int) == 0) = false := by simpa using o0
                  have hsy3 := hid (hsy2.out o0)
                  replace o0 := hid o0
                  obtain ⟨q00, q01, q02, q03⟩ := (E.out.hdr 0 rfl).all
                  obtain ⟨q10, q11, q12, q13⟩ := (E.out.hdr 1 rfl).all
                  obtain ⟨q60, q61, q62, q63⟩ := (E.out.hdr 6 rfl).all
                  go_wp2_with fail
                  clear q00 q01 q02 q03 q10 q11 q12 q13 q60 q61 q62 q63
                  refine (size_ref03_Size y _ _ _ _ _ _ _ _ (E.out.arr 3 rfl)).mono ?_
                  rintro e w8 ⟨rfl, hb⟩
                  replace E := hid (E.out.up hb)
                  clear hb
                  rw [show szN y.kind y.nums.length y.items.length = a from hsy3.out.symm]
                  have cb3 : ((a : Int) == (a : Int)) = true := by simp
                  go_wp2_with (go_at_call 28; refine (law26_example _).mono ?_; rintro e w9 ⟨rfl, hb9⟩)
                  exact hR.out _ _ ⟨rfl, (E.out.up hb9).ext⟩
    case neg =>
      have he : Hid (f = x.nums.length ∨ numF x.nums f ≠ 0) := hid (Or.inl (by omega))
      obtain ⟨q00, q01, q02, q03⟩ := (E.out.hdr 0 rfl).all
      go_upto_region 9 with fail
      clear q00 q01 q02 q03
      have hGA := hid (GrpAt.start (x := x) (y := y) hf hz.out he.out)
      clear hz he
      obtain ⟨q10, q11, q12, q13⟩ := (E.out.hdr 1 rfl).all
      go_wp2_with fail
      clear q10 q11 q12 q13
      refine (ref23_Cell y _ _ _ _ _ _ _ _ (E.out.arr 3 rfl) hcy.out.1).mono ?_
      rintro e w5 ⟨co, cc, rfl, hI, hb⟩
      replace E := hid (E.out.up hb)
      clear hb
      go_wp2_with fail
      refine (ref03_Count (celL y) _ _ _ _ hI).mono ?_
      rintro e w6 ⟨rfl, rfl⟩
      clear hI
      rw [cntC_eq hsc.out, ← hcn.out]
      obtain ⟨c, hc⟩ : ∃ c, c = celN y := ⟨_, rfl⟩
      rw [← hc]
      have hsz : Hid (szA y = talM y * c) := hid (by rw [hc]; exact sz_tal hry.out)
      have hszb : talM y * c ≤ 65536 := by have := cnt_le (right_ok hry.out).2.1; have e := cnt_tal (right_ok hry.out).2.1; rw [hc]; omega
      replace hc := hid hc
      have hfc : f * c ≤ talM y * c := Nat.mul_le_mul_right c (hGA.out.le C.out.l)
      have hw1 : IntKind.i64.wrap ((f : Int) * (c : Int)) = ((f * c : Nat) : Int) := by rw [← Int.natCast_mul]; exact IntWalk.i64_in _ (by omega)
      obtain ⟨a0, ha0⟩ : ∃ a, a = f * c := ⟨_, rfl⟩
      rw [← ha0] at hw1 hfc
      replace ha0 := hid ha0
      go_upto_region 10 with fail
      clear hw1
      go_wp2_with fail
      go_loopw [8, 9, 10, 11] (fun a i u1 u2 wr => ∃ (i' q a' : Nat), i' ≤ r.items.length ∧ i = .int .i64 i' ∧ a = .int .i64 a' ∧ a' ≤ talM y * c ∧ Hid (a' = q * c ∧ GrpAt x y i' q) ∧ Env w S wr [.obj w.heap.size (.cells #[.int .i64 x.kind, .slice sx x.shape.length cx, .slice nx x.nums.length mx, .slice ix x.items.length jx] 26 (0, 0)), .obj (w.heap.size + 1) (.cells #[.int .i64 y.kind, .slice sy y.shape.length cy, .slice ny y.nums.length my, .slice iy y.items.length jy] 26 (0, 0)), .arr x sx nx ix, .arr y sy ny iy, .arr r s101 n101 i101, capsF i101 r.items, .obj p1 (.cells #[.int .i64 r.kind, .slice s101 r.shape.length c101, .slice n101 r.nums.length m101, .slice i101 r.items.length j101] 26 (0, 0))]) (fun _ i _ _ _ => r.items.length - (intOf i).toNat)
      case atStart => exact ⟨0, f, a0, Nat.zero_le _, rfl, rfl, hfc, hid ⟨ha0.out, hGA.out⟩, E.out⟩
      case round =>
        clear E hGA ha0 hfc
        obtain ⟨i, q, a, hi, rfl, rfl, ha, hQ, E⟩ := hrel
        replace E := hid E
        by_cases hlt : i < r.items.length
        case pos =>
          have hlt2 := hid hlt
          have hi6 : i ≤ 65536 := by have := hrl.out; omega
          obtain ⟨m, hm1, hm2, hm3, hm4, hm5⟩ := C.out.grp' hr.out hQ.out.2 hlt
          obtain ⟨b1, o1, sg, cg, ng, mg, ig, jg, hia, e0, e1, e2, e3, hzz, hcg⟩ := E.out.itemC 4 5 rfl rfl hlt
          rw [hm1] at e0 e1 e2 e3 hzz hcg
          have hgs := grp_size hry.out hm3
          obtain ⟨g, hg⟩ : ∃ g, g = grpA y (q, m) := ⟨_, rfl⟩
          rw [← hg] at e0 e1 e2 e3 hzz hm4 hgs hcg
          have hgc2 := hid hcg.1
          clear hcg
          have hgk : Hid (g.kind = y.kind) := hid (by rw [hg]; rfl)
          have hgc : Hid (eqI (celL g) (celL y) = true) := hid (by rw [hg, grpA_cel]; simp [eqI])
          have hgr := hid hm4
          have hgl : 0 < g.shape.length := by rw [hg]; exact Nat.succ_pos _
          have hgd : g.shape.getD 0 0 = (m : Int) := by rw [hg]; rfl
          have hqm : (q + m) * c ≤ talM y * c := Nat.mul_le_mul_right c hm3
          rw [Nat.add_mul] at hqm
          have ha1 : Hid (a = q * c) := hid hQ.out.1
          have hgz : Hid (szN g.kind g.nums.length g.items.length = m * c) := hid (by show szA g = m * c; rw [hgs, hc.out])
          have hat : Hid (∀ k : Nat, k < m * c → atS g (k : Int) = atS y ((q * c + k : Nat) : Int)) := hid (fun k hk => by rw [hg, grp_at hry.out hm3 (k := k) (by rw [← hc.out]; exact hk), hc.out])
          have hnx2 := hid hm5
          replace hg := hid hg
          clear hm1 hm4 hgs hm5
          obtain ⟨n, hn⟩ : ∃ n, n = m * c := ⟨_, rfl⟩
          rw [← hn] at hgz hat hqm
          replace hn := hid hn
          have t0 : (0 : Int) ≤ (i : Int) := by omega
          have t1 : (i : Int) < (r.items.length : Int) := by omega
          have haq := ha1.out
          rw [← haq] at hqm
          have hat2 : Hid (∀ k : Nat, k < n → atS g (k : Int) = atS y ((a + k : Nat) : Int)) := hid (fun k hk => by rw [haq]; exact hat.out k hk)
          clear hat haq
          replace hia := hid hia
          replace E := hid (E.out.addArr hzz (fun _ _ h => h))
          clear hzz
          (try simp only [List.cons_append, List.nil_append, List.set_cons_zero, List.set_cons_succ] at E)
          obtain ⟨q60, q61, q62, q63⟩ := (E.out.hdr 6 rfl).all
          rw [hia.out] at q63
          go_upto_region 14 with (refine wpl_store4 rfl (.tmp 10) (.tmp 70) rfl _ rfl rfl ((E.out.alloc _).hdr 8 rfl) ?_; intro V1 HV CV; replace E := hid ((E.out.alloc _).chg 8 rfl CV HV); clear CV HV; (try simp only [List.cons_append, List.nil_append, List.set_cons_zero, List.set_cons_succ] at E))
          clear q60 q61 q62 q63
          clear t0 t1 e0 e1 e2 e3
          generalize wr.heap.size = pg at E ⊢
          obtain ⟨bs, os, hbs, hbl2, hS2, hc2⟩ := (E.out.arr 7 rfl).shape.at (k := 0) hgl
          rw [hgd, Nat.add_zero] at hc2
          subst hbs
          have t2 : (0 : Int) < (g.shape.length : Int) := by omega
          have t3 : ((g.shape.length : Int) == 0) = false := beq_eq_false_iff_ne.2 (by omega)
          have t4 : ¬ (m : Int) < 1 := by omega
          have t5 : (g.kind != y.kind) = false := bne_eq_false_iff_eq.2 hgk.out
          clear hgd
          obtain ⟨T, hT1, hT2, hT3⟩ := E.out.tw
          refine wp_region_mono (Sees V1 [(⟨pg, 0, none⟩, .int .i64 g.kind), (⟨pg, 1, none⟩, .slice (some ⟨bs, os, none⟩) g.shape.length cg), (⟨pg, 2, none⟩, .slice ng g.nums.length mg), (⟨pg, 3, none⟩, .slice ig g.items.length jg), (⟨(w.heap.size+1), 0, none⟩, .int .i64 y.kind), (⟨(w.heap.size+1), 1, none⟩, .slice sy y.shape.length cy), (⟨(w.heap.size+1), 2, none⟩, .slice ny y.nums.length my), (⟨(w.heap.size+1), 3, none⟩, .slice iy y.items.length jy), (⟨bs, os, none⟩, .int .i64 m)]) [7, 18, 20, 21] (fun k v u u' => match k with | 7 => v = .int .i64 0 | 18 => ∃ so sc, v = .slice so (celL g).length sc ∧ IntsAt u' T so (celL g) | 20 => ∃ so sc, v = .slice so (celL y).length sc ∧ IntsAt u' T so (celL y) | 21 => v = .bool true | _ => False) (fun _ _ h e => h.up e) (Sees.start (all_cons ((E.out.hdr 8 rfl).c0) (all_cons ((E.out.hdr 8 rfl).c1) (all_cons ((E.out.hdr 8 rfl).c2) (all_cons ((E.out.hdr 8 rfl).c3) (all_cons ((E.out.hdr 1 rfl).c0) (all_cons ((E.out.hdr 1 rfl).c1) (all_cons ((E.out.hdr 1 rfl).c2) (all_cons ((E.out.hdr 1 rfl).c3) (all_cons (hc2) (all_nil))))))))))) (by kernel_rfl) (by kernel_rfl) ?_
          repeat (first | (refine m_plain (v := ?_) (by rfl) (by rfl) ?_ ?_; rotate_left; (intro wz hSw; obtain ⟨-, hSc⟩ := hSw; (try simp only [List.forall_mem_cons, List.forall_mem_nil, and_true] at hSc); go_simp; (first | done | with_reducible rfl)); (intro K hK; (try simp only [Act.put, List.setIfInBounds_toArray, List.set_cons_zero, List.set_cons_succ]); refine hK _ _ ?_; clear hK K)) | (refine m_skip (by rfl) (by rfl) ?_; (intro K hK; (try simp only [Act.put, List.setIfInBounds_toArray, List.set_cons_zero, List.set_cons_succ]); refine hK _ _ ?_; clear hK K)))
          refine m_make (by rfl) (by rfl) ?_ ?_
          · intro wz hSw hdep R hRz
            obtain ⟨hSe, hSc⟩ := hSw
            (try simp only [List.forall_mem_cons, List.forall_mem_nil, and_true] at hSc)
            unfold does
            (go_simp; refine Calls.mono (ref03_Right g _ _ _ _ _ _ _ wz (ArrAt.up (ArrAt.mono (fun b _ h => hT1 b h) _ (E.out.arr 7 rfl)) hSe)) ?_; rintro e wq ⟨rfl, hqb⟩; rw [hgr.out]; exact ⟨_, rfl, hRz.out _ _ ⟨hqb, rfl⟩⟩)
          intro v7 u7 x7 hG7 K hK
          have hF7 := hG7.fact
          (try dsimp only at hF7)
          subst hF7
          (try simp only [Act.put, List.setIfInBounds_toArray, List.set_cons_zero, List.set_cons_succ]); refine hK _ _ ?_; clear hK K
          repeat (first | (refine m_plain (v := ?_) (by rfl) (by rfl) ?_ ?_; rotate_left; (intro wz hSw; obtain ⟨-, hSc⟩ := hSw; (try simp only [List.forall_mem_cons, List.forall_mem_nil, and_true] at hSc); go_simp; (first | done | with_reducible rfl)); (intro K hK; (try simp only [Act.put, List.setIfInBounds_toArray, List.set_cons_zero, List.set_cons_succ]); refine hK _ _ ?_; clear hK K)) | (refine m_skip (by rfl) (by rfl) ?_; (intro K hK; (try simp only [Act.put, List.setIfInBounds_toArray, List.set_cons_zero, List.set_cons_succ]); refine hK _ _ ?_; clear hK K)))
          refine m_make (by rfl) (by rfl) ?_ ?_
          · intro wz hSw hdep R hRz
            obtain ⟨hSe, hSc⟩ := hSw
            (try simp only [List.forall_mem_cons, List.forall_mem_nil, and_true] at hSc)
            unfold does
            (go_simp; refine Calls.mono (ref23_Cell g _ _ _ _ _ _ _ wz (ArrAt.up (ArrAt.mono (fun b _ h => hT1 b h) _ (E.out.arr 7 rfl)) hSe) hgc2.out) ?_; rintro e wq ⟨so, sc, rfl, hI, hb⟩; exact ⟨_, rfl, hRz.out _ _ ⟨hb, so, sc, rfl, hI⟩⟩)
          intro v18 u18 x18 hG18 K hK
          have hF18 := hG18.fact
          (try dsimp only at hF18)
          obtain ⟨s18, c18, rfl, hI18⟩ := hF18
          (try simp only [Act.put, List.setIfInBounds_toArray, List.set_cons_zero, List.set_cons_succ]); refine hK _ _ ?_; clear hK K
          repeat (first | (refine m_plain (v := ?_) (by rfl) (by rfl) ?_ ?_; rotate_left; (intro wz hSw; obtain ⟨-, hSc⟩ := hSw; (try simp only [List.forall_mem_cons, List.forall_mem_nil, and_true] at hSc); go_simp; (first | done | with_reducible rfl)); (intro K hK; (try simp only [Act.put, List.setIfInBounds_toArray, List.set_cons_zero, List.set_cons_succ]); refine hK _ _ ?_; clear hK K)) | (refine m_skip (by rfl) (by rfl) ?_; (intro K hK; (try simp only [Act.put, List.setIfInBounds_toArray, List.set_cons_zero, List.set_cons_succ]); refine hK _ _ ?_; clear hK K)))
          refine m_make (by rfl) (by rfl) ?_ ?_
          · intro wz hSw hdep R hRz
            obtain ⟨hSe, hSc⟩ := hSw
            (try simp only [List.forall_mem_cons, List.forall_mem_nil, and_true] at hSc)
            unfold does
            (go_simp; refine Calls.mono (ref23_Cell y _ _ _ _ _ _ _ wz (ArrAt.up (ArrAt.mono (fun b _ h => hT1 b h) _ (E.out.arr 3 rfl)) hSe) hcy.out.1) ?_; rintro e wq ⟨so, sc, rfl, hI, hb⟩; exact ⟨_, rfl, hRz.out _ _ ⟨hb, so, sc, rfl, hI⟩⟩)
          intro v20 u20 x20 hG20 K hK
          have hF20 := hG20.fact
          (try dsimp only at hF20)
          obtain ⟨s20, c20, rfl, hI20⟩ := hF20
          (try simp only [Act.put, List.setIfInBounds_toArray, List.set_cons_zero, List.set_cons_succ]); refine hK _ _ ?_; clear hK K
          repeat (first | (refine m_plain (v := ?_) (by rfl) (by rfl) ?_ ?_; rotate_left; (intro wz hSw; obtain ⟨-, hSc⟩ := hSw; (try simp only [List.forall_mem_cons, List.forall_mem_nil, and_true] at hSc); go_simp; (first | done | with_reducible rfl)); (intro K hK; (try simp only [Act.put, List.setIfInBounds_toArray, List.set_cons_zero, List.set_cons_succ]); refine hK _ _ ?_; clear hK K)) | (refine m_skip (by rfl) (by rfl) ?_; (intro K hK; (try simp only [Act.put, List.setIfInBounds_toArray, List.set_cons_zero, List.set_cons_succ]); refine hK _ _ ?_; clear hK K)))
          refine m_make (by rfl) (by rfl) ?_ ?_
          · intro wz hSw hdep R hRz
            obtain ⟨hSe, hSc⟩ := hSw
            (try simp only [List.forall_mem_cons, List.forall_mem_nil, and_true] at hSc)
            unfold does
            (go_simp; refine Calls.mono (ref03_Shapes (celL g) (celL y) _ _ _ _ _ _ wz (hI18.up (hdep 18 _ rfl (depB_sound (f := 4) (by kernel_rfl)))) (hI20.up (hdep 20 _ rfl (depB_sound (f := 4) (by kernel_rfl))))) ?_; rintro e wq ⟨rfl, n, rfl⟩; rw [hgc.out]; exact ⟨_, rfl, hRz.out _ _ ⟨ext_drewN _ _, rfl⟩⟩)
          intro v21 u21 x21 hG21 K hK
          have hF21 := hG21.fact
          (try dsimp only at hF21)
          subst hF21
          (try simp only [Act.put, List.setIfInBounds_toArray, List.set_cons_zero, List.set_cons_succ]); refine hK _ _ ?_; clear hK K
          repeat (first | (refine m_plain (v := ?_) (by rfl) (by rfl) ?_ ?_; rotate_left; (intro wz hSw; obtain ⟨-, hSc⟩ := hSw; (try simp only [List.forall_mem_cons, List.forall_mem_nil, and_true] at hSc); go_simp; (first | done | with_reducible rfl)); (intro K hK; (try simp only [Act.put, List.setIfInBounds_toArray, List.set_cons_zero, List.set_cons_succ]); refine hK _ _ ?_; clear hK K)) | (refine m_skip (by rfl) (by rfl) ?_; (intro K hK; (try simp only [Act.put, List.setIfInBounds_toArray, List.set_cons_zero, List.set_cons_succ]); refine hK _ _ ?_; clear hK K)))
          refine m_nil ?_
          intro wf hSf hAf
          replace E := hid (E.out.up hSf.1)
          clear hSf hAf hG7 hG18 hG20 hG21 hI18 hI20 hT1 hT2 hT3 hc2 t2 t3 t4 t5
          go_wp2_with fail
          go_loopw [8, 11] (fun a' k' wr => ∃ k : Nat, k ≤ n ∧ k' = .int .i64 k ∧ a' = .int .i64 ((a + k : Nat) : Int) ∧ Env w S wr [.obj w.heap.size (.cells #[.int .i64 x.kind, .slice sx x.shape.length cx, .slice nx x.nums.length mx, .slice ix x.items.length jx] 26 (0, 0)), .obj (w.heap.size + 1) (.cells #[.int .i64 y.kind, .slice sy y.shape.length cy, .slice ny y.nums.length my, .slice iy y.items.length jy] 26 (0, 0)), .arr x sx nx ix, .arr y sy ny iy, .arr r s101 n101 i101, capsF i101 r.items, .obj p1 (.cells #[.int .i64 r.kind, .slice s101 r.shape.length c101, .slice n101 r.nums.length m101, .slice i101 r.items.length j101] 26 (0, 0)), .arr g (some ⟨bs, os, none⟩) ng ig, .obj pg (.cells #[.int .i64 g.kind, .slice (some ⟨bs, os, none⟩) g.shape.length cg, .slice ng g.nums.length mg, .slice ig g.items.length jg] 26 (0, 0))]) (fun _ k _ => n - (intOf k).toNat)
          case atStart => exact ⟨0, Nat.zero_le _, rfl, rfl, E.out⟩
          case round =>
            clear E
            obtain ⟨kq, hk, rfl, rfl, E⟩ := hrel
            replace E := hid E
            obtain ⟨q80, q81, q82, q83⟩ := (E.out.hdr 8 rfl).all
            go_wp2_with fail
            clear q80 q81 q82 q83
            refine (size_ref03_Size g _ _ _ _ _ _ _ _ (E.out.arr 7 rfl)).mono ?_
            rintro e w7 ⟨rfl, hb⟩
            replace E := hid (E.out.up hb)
            clear hb
            rw [hgz.out]
            by_cases hkn : kq < n
            case pos =>
              have pi : Hid (sameB (atS g (kq : Int)) (atS y ((a + kq : Nat) : Int)) = true) := hid (by rw [hat2.out kq hkn]; exact sameB_self _)
              obtain ⟨ak, hak⟩ : ∃ q, q = a + kq := ⟨_, rfl⟩
              rw [← hak] at pi ⊢
              have hak2 : ak ≤ 65536 := by omega
              replace hak := hid hak
              go_upto_region 19 with fail
              obtain ⟨T, hT1, hT2, hT3⟩ := E.out.tw
              refine wp_region_mono (Sees w7 [(⟨pg, 0, none⟩, .int .i64 g.kind), (⟨pg, 1, none⟩, .slice (some ⟨bs, os, none⟩) g.shape.length cg), (⟨pg, 2, none⟩, .slice ng g.nums.length mg), (⟨pg, 3, none⟩, .slice ig g.items.length jg), (⟨(w.heap.size+1), 0, none⟩, .int .i64 y.kind), (⟨(w.heap.size+1), 1, none⟩, .slice sy y.shape.length cy), (⟨(w.heap.size+1), 2, none⟩, .slice ny y.nums.length my), (⟨(w.heap.size+1), 3, none⟩, .slice iy y.items.length jy)]) [2, 5, 6] (fun k v u u' => match k with | 2 => RetA u T (atS g kq) (.returned v) u' | 5 => RetA u T (atS y ak) (.returned v) u' | 6 => v = .bool true | _ => False) (fun _ _ h e => h.up e) (Sees.start (all_cons ((E.out.hdr 8 rfl).c0) (all_cons ((E.out.hdr 8 rfl).c1) (all_cons ((E.out.hdr 8 rfl).c2) (all_cons ((E.out.hdr 8 rfl).c3) (all_cons ((E.out.hdr 1 rfl).c0) (all_cons ((E.out.hdr 1 rfl).c1) (all_cons ((E.out.hdr 1 rfl).c2) (all_cons ((E.out.hdr 1 rfl).c3) (all_nil)))))))))) (by kernel_rfl) (by kernel_rfl) ?_
              repeat (first | (refine m_plain (v := ?_) (by rfl) (by rfl) ?_ ?_; rotate_left; (intro wz hSw; obtain ⟨-, hSc⟩ := hSw; (try simp only [List.forall_mem_cons, List.forall_mem_nil, and_true] at hSc); go_simp; (first | done | with_reducible rfl)); (intro K hK; (try simp only [Act.put, List.setIfInBounds_toArray, List.set_cons_zero, List.set_cons_succ]); refine hK _ _ ?_; clear hK K)) | (refine m_skip (by rfl) (by rfl) ?_; (intro K hK; (try simp only [Act.put, List.setIfInBounds_toArray, List.set_cons_zero, List.set_cons_succ]); refine hK _ _ ?_; clear hK K)))
              refine m_make (by rfl) (by rfl) ?_ ?_
              · intro wz hSw hdep R hRz
                obtain ⟨hSe, hSc⟩ := hSw
                (try simp only [List.forall_mem_cons, List.forall_mem_nil, and_true] at hSc)
                unfold does
                (go_simp; refine Calls.mono (ref03_At g _ _ _ _ _ _ (kq : Int) _ wz (ArrAt.up (ArrAt.mono (fun b _ h => hT1 b h) _ (E.out.arr 7 rfl)) hSe)) ?_; intro e wq h; obtain ⟨v, rfl, h1⟩ := retA_arm hT2 hSe (h.eq rfl); exact ⟨_, rfl, hRz.out _ _ h1⟩)
              intro v2 u2 x2 hG2 K hK
              have hF2 := hG2.fact
              (try dsimp only at hF2)
              obtain ⟨s2, c2, n2, m2, i2, j2, he, hA2, hb2⟩ := hF2
              injection he with he
              subst he
              (try simp only [Act.put, List.setIfInBounds_toArray, List.set_cons_zero, List.set_cons_succ]); refine hK _ _ ?_; clear hK K
              repeat (first | (refine m_plain (v := ?_) (by rfl) (by rfl) ?_ ?_; rotate_left; (intro wz hSw; obtain ⟨-, hSc⟩ := hSw; (try simp only [List.forall_mem_cons, List.forall_mem_nil, and_true] at hSc); go_simp; (first | done | with_reducible rfl)); (intro K hK; (try simp only [Act.put, List.setIfInBounds_toArray, List.set_cons_zero, List.set_cons_succ]); refine hK _ _ ?_; clear hK K)) | (refine m_skip (by rfl) (by rfl) ?_; (intro K hK; (try simp only [Act.put, List.setIfInBounds_toArray, List.set_cons_zero, List.set_cons_succ]); refine hK _ _ ?_; clear hK K)))
              refine m_make (by rfl) (by rfl) ?_ ?_
              · intro wz hSw hdep R hRz
                obtain ⟨hSe, hSc⟩ := hSw
                (try simp only [List.forall_mem_cons, List.forall_mem_nil, and_true] at hSc)
                unfold does
                (go_simp; refine Calls.mono (ref03_At y _ _ _ _ _ _ (ak : Int) _ wz (ArrAt.up (ArrAt.mono (fun b _ h => hT1 b h) _ (E.out.arr 3 rfl)) hSe)) ?_; intro e wq h; obtain ⟨v, rfl, h1⟩ := retA_arm hT2 hSe (h.eq rfl); exact ⟨_, rfl, hRz.out _ _ h1⟩)
              intro v5 u5 x5 hG5 K hK
              have hF5 := hG5.fact
              (try dsimp only at hF5)
              obtain ⟨s5, c5, n5, m5, i5, j5, he, hA5, hb5⟩ := hF5
              injection he with he
              subst he
              (try simp only [Act.put, List.setIfInBounds_toArray, List.set_cons_zero, List.set_cons_succ]); refine hK _ _ ?_; clear hK K
              repeat (first | (refine m_plain (v := ?_) (by rfl) (by rfl) ?_ ?_; rotate_left; (intro wz hSw; obtain ⟨-, hSc⟩ := hSw; (try simp only [List.forall_mem_cons, List.forall_mem_nil, and_true] at hSc); go_simp; (first | done | with_reducible rfl)); (intro K hK; (try simp only [Act.put, List.setIfInBounds_toArray, List.set_cons_zero, List.set_cons_succ]); refine hK _ _ ?_; clear hK K)) | (refine m_skip (by rfl) (by rfl) ?_; (intro K hK; (try simp only [Act.put, List.setIfInBounds_toArray, List.set_cons_zero, List.set_cons_succ]); refine hK _ _ ?_; clear hK K)))
              refine m_make (by rfl) (by rfl) ?_ ?_
              · intro wz hSw hdep R hRz
                obtain ⟨hSe, hSc⟩ := hSw
                (try simp only [List.forall_mem_cons, List.forall_mem_nil, and_true] at hSc)
                unfold does
                (go_simp; refine Calls.mono (ref03_Same (atS g kq) (atS y ak) _ _ _ _ _ _ _ _ _ _ _ _ _ _ wz (hA2.up (hdep 2 _ rfl (depB_sound (f := 4) (by kernel_rfl)))) (hA5.up (hdep 5 _ rfl (depB_sound (f := 4) (by kernel_rfl))))) ?_; rintro e wq ⟨rfl, hqb⟩; rw [pi.out]; exact ⟨_, rfl, hRz.out _ _ ⟨hqb, rfl⟩⟩)
              intro v6 u6 x6 hG6 K hK
              have hF6 := hG6.fact
              (try dsimp only at hF6)
              subst hF6
              (try simp only [Act.put, List.setIfInBounds_toArray, List.set_cons_zero, List.set_cons_succ]); refine hK _ _ ?_; clear hK K
              repeat (first | (refine m_plain (v := ?_) (by rfl) (by rfl) ?_ ?_; rotate_left; (intro wz hSw; obtain ⟨-, hSc⟩ := hSw; (try simp only [List.forall_mem_cons, List.forall_mem_nil, and_true] at hSc); go_simp; (first | done | with_reducible rfl)); (intro K hK; (try simp only [Act.put, List.setIfInBounds_toArray, List.set_cons_zero, List.set_cons_succ]); refine hK _ _ ?_; clear hK K)) | (refine m_skip (by rfl) (by rfl) ?_; (intro K hK; (try simp only [Act.put, List.setIfInBounds_toArray, List.set_cons_zero, List.set_cons_succ]); refine hK _ _ ?_; clear hK K)))
              refine m_nil ?_
              intro wf hSf hAf
              replace E := hid (E.out.up hSf.1)
              clear hSf hAf hG2 hG5 hG6 hA2 hA5 hb2 hb5 hT1 hT2 hT3
              go_wp2_with fail
              go_roundw
              case rel => exact ⟨kq + 1, by omega, by go_num, by rw [show a + (kq + 1) = ak + 1 by have := hak.out; omega]; go_num, E.out⟩
              case measure => simp [intOf]; omega
            case neg =>
              have hkn2 : kq = n := by omega
              obtain ⟨ak, hak⟩ : ∃ q, q = a + kq := ⟨_, rfl⟩
              rw [← hak]
              have hak1 : ak ≤ talM y * c := by omega
              have hak2 := hid (show ak = (q + m) * c by rw [hak, hkn2, hn.out, Nat.add_mul, ← ha1.out])
              replace hak := hid hak
              go_wp2_with fail
              go_roundw
              case rel => exact ⟨i + 1, q + m, ak, hlt2.out, by go_num, rfl, hak1, hid ⟨hak2.out, hnx2.out⟩, E.out.sub (List.Sublist.cons_cons _ (List.Sublist.cons_cons _ (List.Sublist.cons_cons _ (List.Sublist.cons_cons _ (List.Sublist.cons_cons _ (List.Sublist.cons_cons _ (List.Sublist.cons_cons _ (List.nil_sublist _))))))))⟩
              case measure => have := hlt2.out; simp [intOf]; omega
        case neg =>
          have FN := C.out.fin' hr.out hQ.out.2 (show r.items.length ≤ i by omega)
          have hrs := hid FN.1
          have hsy2 : Hid (r.items.length ≠ 0 → a = szA y) := hid (fun h => by rw [hQ.out.1, hc.out]; exact FN.2 h)
          clear FN
          have hbits := hid C.out.b
          obtain ⟨q60, q61, q62, q63⟩ := (E.out.hdr 6 rfl).all
          go_upto_region 24 with fail
          clear q60 q61 q62 q63
          go_loopw [12, 13] (fun o i' wr => ∃ k : Nat, k ≤ x.nums.length ∧ i' = .int .i64 k ∧ o = .int .i64 (sumF (numF x.nums) k) ∧ Env w S wr [.obj w.heap.size (.cells #[.int .i64 x.kind, .slice sx x.shape.length cx, .slice nx x.nums.length mx, .slice ix x.items.length jx] 26 (0, 0)), .obj (w.heap.size + 1) (.cells #[.int .i64 y.kind, .slice sy y.shape.length cy, .slice ny y.nums.length my, .slice iy y.items.length jy] 26 (0, 0)), .arr x sx nx ix, .arr y sy ny iy, .arr r s101 n101 i101, capsF i101 r.items, .obj p1 (.cells #[.int .i64 r.kind, .slice s101 r.shape.length c101, .slice n101 r.nums.length m101, .slice i101 r.items.length j101] 26 (0, 0))]) (fun _ i _ => x.nums.length - (intOf i).toNat)
          case atStart => exact ⟨0, Nat.zero_le _, rfl, rfl, E.out⟩
          case round =>
            clear E
            obtain ⟨k, hk, rfl, rfl, E⟩ := hrel
            replace E := hid E
            have hx6 : x.nums.length ≤ 65536 := by have := hxl.out; omega
            by_cases hlk : k < x.nums.length
            case pos =>
              obtain ⟨b1, o1, hnn, hbl1, hS1, hc1⟩ := (E.out.arr 2 rfl).nums.at hlk
              have hd := bit_at hbits.out hlk
              have hT : Hid (sumF (numF x.nums) (k + 1) = sumF (numF x.nums) k + x.nums.getD k 0) := hid rfl
              have hsb := bits_sum hbits.out hk
              simp only [bitB, decide_eq_true_eq] at hd
              generalize x.nums.getD k 0 = d at hc1 hd hT
              generalize sumF (numF x.nums) k = sk at hT hsb ⊢
              have hd2 : 0 ≤ d ∧ d ≤ 1 := by omega
              clear hd
              replace hnn := hid hnn
              have t0 : (0 : Int) ≤ (k : Int) := by omega
              have t1 : (k : Int) < (x.nums.length : Int) := by omega
              obtain ⟨q00, q01, q02, q03⟩ := (E.out.hdr 0 rfl).all
              rw [hnn.out] at q02
              go_wp2_with fail
              go_roundw
              case rel => exact ⟨k + 1, by omega, by go_num, by rw [hT.out], E.out⟩
              case measure => simp [intOf]; omega
            case neg =>
              have hke : k = x.nums.length := by omega
              have hrs2 : sumF (numF x.nums) k = (r.items.length : Int) := by rw [hke]; exact hrs.out.symm
              rw [hrs2]
              replace hrs2 := hid hrs2
              replace hke := hid hke
              have cb : ((r.items.length : Int) == (r.items.length : Int)) = true := by simp
              by_cases o0 : r.items.length = 0
              case pos =>
                have cb2 : ((r.items.length : Int) == 0) = true := by simpa using o0
                replace o0 := hid o0
                obtain ⟨q00, q01, q02, q03⟩ := (E.out.hdr 0 rfl).all
                obtain ⟨q60, q61, q62, q63⟩ := (E.out.hdr 6 rfl).all
                go_wp2_with (go_at_call 28; refine (law26_example _).mono ?_; rintro e w9 ⟨rfl, hb9⟩)
                exact hR.out _ _ ⟨rfl, (E.out.up hb9).ext⟩
              case neg =>
                have cb2 : ((r.items.length : Int) == 0) = false := by simpa using o0
                have hsy3 := hid (hsy2.out o0)
                replace o0 := hid o0
                obtain ⟨q00, q01, q02, q03⟩ := (E.out.hdr 0 rfl).all
                obtain ⟨q10, q11, q12, q13⟩ := (E.out.hdr 1 rfl).all
                obtain ⟨q60, q61, q62, q63⟩ := (E.out.hdr 6 rfl).all
                go_wp2_with fail
                clear q00 q01 q02 q03 q10 q11 q12 q13 q60 q61 q62 q63
                refine (size_ref03_Size y _ _ _ _ _ _ _ _ (E.out.arr 3 rfl)).mono ?_
                rintro e w8 ⟨rfl, hb⟩
                replace E := hid (E.out.up hb)
                clear hb
                rw [show szN y.kind y.nums.length y.items.length = a from hsy3.out.symm]
                have cb3 : ((a : Int) == (a : Int)) = true := by simp
                go_wp2_with (go_at_call 28; refine (law26_example _).mono ?_; rintro e w9 ⟨rfl, hb9⟩)
                exact hR.out _ _ ⟨rfl, (E.out.up hb9).ext⟩
end Go.Proofs.Ythhffneibcpbdaa
