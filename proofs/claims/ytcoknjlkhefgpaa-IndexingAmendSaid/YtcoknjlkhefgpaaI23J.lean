/- indexing.Amend: contract. Conditions: the arrays are read; a slice's capacity is at least its length. -/
import Derived.Test.YtcoknjlkhefgpaaI23I
import Derived.Test.YtcoknjlkhefgpaaPAIR
set_option linter.unusedVariables false
set_option linter.unusedSimpArgs false
namespace Go.Proofs.Ytcoknjlkhefgpaa
open Go.RowKit Go.Sort
attribute [local go_sem ↓] run_max2 run_min2
attribute [local go_sem] eql_ints_nil eql_arrs_nil
theorem lenQ {f : FuncId} {xs : List Int} {n : Nat} (hn : xs.length = n) {ao : Option Addr} {cap : Nat} {u v : Value} {w : World} {R : Ending → World → Prop} (h : Calls Try.prog f #[u, v, .slice ao xs.length cap] w R) : Calls Try.prog f #[u, v, .slice ao n cap] w R := hn ▸ h
set_option maxRecDepth 100000 in
set_option maxHeartbeats 60000000 in
theorem indexing_Amend (x : Arr) (sx : Option Addr) (cx : Nat) (nx : Option Addr) (mx : Nat) (ix : Option Addr) (jx : Nat) (y : Arr) (sy : Option Addr) (cy : Nat) (ny : Option Addr) (my : Nat) (iy : Option Addr) (jy : Nat) (S : Nat → Prop) (w : World) (h : ArrAt w S x sx nx ix) (g : ArrAt w S y sy ny iy) (hcy : y.shape.length ≤ cy) :
    Calls Try.prog 16 #[.agg #[.int .i64 x.kind, .slice sx x.shape.length cx, .slice nx x.nums.length mx, .slice ix x.items.length jx], .agg #[.int .i64 y.kind, .slice sy y.shape.length cy, .slice ny y.nums.length my, .slice iy y.items.length jy]] w (RetAEC w (fun b => w.heap.size ≤ b) (amdS x y) (amdE x y)) := by
  refine calls_post fun R' hR => ?_
  have h0 := hid h
  have g0 := hid g
  have hxs := h.shape.1
  have hxn := h.nums.1
  have hys := g.shape.1
  clear h g
  go_enter Try.func16, Try.ntmps16
  go_upto_region 1 with (fail)
  generalize hEW : (((w).alloc (.cells #[.int .i64 x.kind, .slice sx x.shape.length cx, .slice nx x.nums.length mx, .slice ix x.items.length jx] 26)).alloc (.cells #[.int .i64 y.kind, .slice sy y.shape.length cy, .slice ny y.nums.length my, .slice iy y.items.length jy] 26)).alloc (.cells #[.int .i64 0, .slice none 0 0, .slice none 0 0, .slice none 0 0] 26) = W
  have E := hid (env3 w S hEW)
  clear hEW
  replace E := hid ((E.out.arg h0.out).arg g0.out)
  (try simp only [List.cons_append, List.nil_append, List.set_cons_zero, List.set_cons_succ] at E)
  obtain ⟨q00, q01, q02, q03⟩ := (E.out.hdr 0 rfl).all
  obtain ⟨q10, q11, q12, q13⟩ := (E.out.hdr 1 rfl).all
  go_wp2_with fail
  clear q00 q01 q02 q03 q10 q11 q12 q13
  replace E := hid (E.out.pair 3 4 rfl rfl cx mx jx cy my jy)
  generalize World.alloc _ _ = V3 at E ⊢
  generalize W.heap.size = p3 at E ⊢
  (try simp only [List.cons_append, List.nil_append, List.set_cons_zero, List.set_cons_succ] at E)
  refine (indexing_right [x, y] _ _ _ _ (E.out.items 5 rfl) (by simp)).mono ?_
  rintro e w6 ⟨rfl, hb⟩
  replace E := hid (E.out.up hb)
  clear hb
  by_cases c : rightS x = 0 ∧ rightS y = 0
  case neg =>
    have cb : [x, y].any badB = true := by rw [← Bool.not_eq_false]; exact fun q => c (bad_two.1 q)
    rw [cb]
    have hn := hid (amdE_r (x := x) (y := y) (by omega))
    have hv := hid (amdS_no (x := x) (y := y) (by rw [hn.out]; decide))
    replace c := hid c
    replace cb := hid cb
    go_wp2_with (refine wpl_store4 rfl (.tmp 4) (.tmp 24) rfl _ rfl rfl (E.out.hdr 2 rfl) ?_; intro V HV CV; replace E := hid (E.out.chg 2 rfl CV HV))
    exact bodyPost_ret (end_arr2 rfl HV rfl rfl) rfl (hR.out _ _ (RetAEC.zero hv.out hn.out E.out.ext))
  have cb : [x, y].any badB = false := bad_two.2 c
  rw [cb]
  replace cb := hid cb
  by_cases k : x.kind = 3
  case neg =>
    have kb : (x.kind != 3) = true := by simpa using k
    have hn := hid (amdE_k c.1 c.2 k)
    have hv := hid (amdS_no (x := x) (y := y) (by rw [hn.out]; decide))
    replace k := hid k
    replace c := hid c
    obtain ⟨q00, q01, q02, q03⟩ := (E.out.hdr 0 rfl).all
    go_wp2_with (refine wpl_store4 rfl (.tmp 4) (.tmp 29) rfl _ rfl rfl (E.out.hdr 2 rfl) ?_; intro V HV CV; replace E := hid (E.out.chg 2 rfl CV HV))
    exact bodyPost_ret (end_arr2 rfl HV rfl rfl) rfl (hR.out _ _ (RetAEC.zero hv.out hn.out E.out.ext))
  have kb : (x.kind != 3) = false := by simp [k]
  by_cases r : x.shape.length = 1
  case neg =>
    have rb : ((x.shape.length : Int) != 1) = true := bne_iff_ne.2 (by omega)
    have hn := hid (amdE_n c.1 c.2 k r)
    have hv := hid (amdS_no (x := x) (y := y) (by rw [hn.out]; decide))
    replace k := hid k
    replace c := hid c
    replace r := hid r
    obtain ⟨q00, q01, q02, q03⟩ := (E.out.hdr 0 rfl).all
    go_wp2_with (refine wpl_store4 rfl (.tmp 4) (.tmp 35) rfl _ rfl rfl (E.out.hdr 2 rfl) ?_; intro V HV CV; replace E := hid (E.out.chg 2 rfl CV HV))
    exact bodyPost_ret (end_arr2 rfl HV rfl rfl) rfl (hR.out _ _ (RetAEC.zero hv.out hn.out E.out.ext))
  have rb : ((x.shape.length : Int) != 1) = false := by simp [r]
  by_cases l : x.items.length = 2
  case neg =>
    have lb : ((x.items.length : Int) != 2) = true := bne_iff_ne.2 (by omega)
    have hn := hid (amdE_l c.1 c.2 k r l)
    have hv := hid (amdS_no (x := x) (y := y) (by rw [hn.out]; decide))
    replace k := hid k
    replace c := hid c
    replace r := hid r
    replace l := hid l
    obtain ⟨q00, q01, q02, q03⟩ := (E.out.hdr 0 rfl).all
    go_wp2_with (refine wpl_store4 rfl (.tmp 4) (.tmp 41) rfl _ rfl rfl (E.out.hdr 2 rfl) ?_; intro V HV CV; replace E := hid (E.out.chg 2 rfl CV HV))
    exact bodyPost_ret (end_arr2 rfl HV rfl rfl) rfl (hR.out _ _ (RetAEC.zero hv.out hn.out E.out.ext))
  have lb : ((x.items.length : Int) != 2) = false := by simp [l]
  have hEi := amdE_i c.1 c.2 k r l
  have hR0 := hid (fun j (hj : j < x.items.length) => ((right_iff.1 c.1).2.2.1 _ (List.getElem_mem hj)).1)
  have hSd : amdS x y = if amdE x y = 0 then agA (x.items.getD 1 .zero) y (amSrc (x.items.getD 0 .zero) (x.items.getD 1 .zero) y) else .zero := rfl
  have g0' : x.items.getD 0 .zero = x.items[0]'(by omega) := by simp [l]
  have g1' : x.items.getD 1 .zero = x.items[1]'(by omega) := by simp [l]
  have r0 := hR0.out 0 (by omega)
  have r1 := hR0.out 1 (by omega)
  rw [g0', g1'] at hEi hSd
  obtain ⟨b1, o1, sp, cp, np, mp, ip, jp, hia, _, _, e0, e1, e2, e3, hp⟩ := (E.out.arr 3 rfl).items.at (k := 0) (by omega)
  obtain ⟨b2, o2, sz, cz, nz, mz, iz, jz, hib, _, _, f0, f1, f2, f3, hz⟩ := (E.out.arr 3 rfl).items.at (k := 1) (by omega)
  rw [hia] at hib
  obtain ⟨hb2, ho2⟩ : b2 = b1 ∧ o2 = o1 := by simpa [eq_comm] using hib
  subst hb2 ho2
  generalize x.items[0]'(by omega) = p at e0 e1 e2 e3 hp hEi hSd r0
  generalize x.items[1]'(by omega) = z at f0 f1 f2 f3 hz hEi hSd r1
  simp only [Nat.zero_mul, Nat.add_zero] at e0 e1 e2 e3
  simp only [Nat.one_mul, Nat.add_assoc, Nat.reduceAdd] at f0 f1 f2 f3
  have hps := (shapeB_iff.1 (right_ok r0).2.1).1
  have hpn := hp.nums.1
  have hsY := (right_ok c.2).2.1
  have hry := hid c.2
  replace E := hid ((E.out.addArr hp (fun _ _ h => h)).addArr hz (fun _ _ h => h))
  clear hp hz hib hR0 g0' g1'
  (try simp only [List.cons_append, List.nil_append, List.set_cons_zero, List.set_cons_succ] at E)
  have t0 : (0 : Int) < (x.items.length : Int) := by omega
  have t1 : (1 : Int) < (x.items.length : Int) := by omega
  have t2 : 0 < x.items.length := by omega
  have t3 : 1 < x.items.length := by omega
  replace hia := hid hia
  replace hEi := hid hEi
  replace hSd := hid hSd
  replace r0 := hid r0
  replace r1 := hid r1
  replace k := hid k
  replace c := hid c
  replace r := hid r
  obtain ⟨q00, q01, q02, q03⟩ := (E.out.hdr 0 rfl).all
  rw [hia.out] at q03
  replace l := hid l
  go_upto_region 9 with (fail)
  have hwl := (E.out.lt 0 rfl).2
  go_cut [6, 7] (fun a b wc => ∃ pi pz, a = .pointer (some ⟨pi, 0, none⟩) ∧ b = .pointer (some ⟨pz, 0, none⟩) ∧ Env w S wc [.obj w.heap.size (.cells #[.int .i64 x.kind, .slice sx x.shape.length cx, .slice nx x.nums.length mx, .slice ix x.items.length jx] 26 (0, 0)), .obj (w.heap.size + 1) (.cells #[.int .i64 y.kind, .slice sy y.shape.length cy, .slice ny y.nums.length my, .slice iy y.items.length jy] 26 (0, 0)), .obj (w.heap.size + 1 + 1) (.cells #[.int .i64 0, .slice none 0 0, .slice none 0 0, .slice none 0 0] 26 (0, 0)), .arr x sx nx ix, .arr y sy ny iy, .items [x, y] (some ⟨p3, 0, none⟩), .arr p sp np ip, .arr z sz nz iz, .obj pi (.cells #[.int .i64 p.kind, .slice sp p.shape.length cp, .slice np p.nums.length mp, .slice ip p.items.length jp] 26 (0, 0)), .obj pz (.cells #[.int .i64 z.kind, .slice sz z.shape.length cz, .slice nz z.nums.length mz, .slice iz z.items.length jz] 26 (0, 0))])
  case first =>
    go_region_held3 (fun w' => w'.cell? ⟨w.heap.size, 3, none⟩ = some (.slice (some ⟨b2, o2, none⟩) x.items.length jx) ∧ w'.cell? ⟨b2, o2, none⟩ = some (.int .i64 p.kind) ∧ w'.cell? ⟨b2, o2 + 1, none⟩ = some (.slice sp p.shape.length cp) ∧ w'.cell? ⟨b2, o2 + 2, none⟩ = some (.slice np p.nums.length mp) ∧ w'.cell? ⟨b2, o2 + 3, none⟩ = some (.slice ip p.items.length jp) ∧ w'.cell? ⟨b2, o2 + 4, none⟩ = some (.int .i64 z.kind) ∧ w'.cell? ⟨b2, o2 + 5, none⟩ = some (.slice sz z.shape.length cz) ∧ w'.cell? ⟨b2, o2 + 6, none⟩ = some (.slice nz z.nums.length mz) ∧ w'.cell? ⟨b2, o2 + 7, none⟩ = some (.slice iz z.items.length jz)) (simp [go_sem, World.cell?_alloc_past, *]) (fail)
    · skip
      have E1 := ((E.out.alloc (.cells #[.int .i64 p.kind, .slice sp p.shape.length cp, .slice np p.nums.length mp, .slice ip p.items.length jp] 26)).alloc (.cells #[.int .i64 z.kind, .slice sz z.shape.length cz, .slice nz z.nums.length mz, .slice iz z.items.length jz] 26)).up (ext_drawn _)
      simp only [size_alloc', List.cons_append, List.nil_append] at E1
      go_wp2_with fail
      go_meet
      case rel => exact ⟨_, _, rfl, rfl, E1⟩
    · skip
      have E1 := (((E.out.alloc (.cells #[.int .i64 z.kind, .slice sz z.shape.length cz, .slice nz z.nums.length mz, .slice iz z.items.length jz] 26)).alloc (.cells #[.int .i64 p.kind, .slice sp p.shape.length cp, .slice np p.nums.length mp, .slice ip p.items.length jp] 26)).up (ext_drawn _))
      simp only [size_alloc', List.cons_append, List.nil_append] at E1
      have E2 := E1.perm (((((((((List.Perm.swap _ _ []).cons _).cons _).cons _).cons _).cons _).cons _).cons _).cons _)
      go_wp2_with fail
      go_meet
      case rel => exact ⟨_, _, rfl, rfl, E2⟩
  obtain ⟨pi, pz, rfl, rfl, E1⟩ := hcut
  clear E
  have E := hid E1
  clear E1 e0 e1 e2 e3 f0 f1 f2 f3 q00 q01 q02 q03 hwl
  obtain ⟨q10, q11, q12, q13⟩ := (E.out.hdr 1 rfl).all
  go_wp2_with fail
  clear q10 q11 q12 q13
  refine (indexing_split y _ _ _ _ _ _ _ _ (E.out.arr 4 rfl) hcy).mono ?_
  rintro e w7 ⟨so, sc, rfl, hI, hb⟩
  obtain ⟨cl, hcl⟩ : ∃ l, l = celL y := ⟨_, rfl⟩
  rw [← hcl] at hI ⊢
  replace E := hid ((E.out.up hb).addInts hI (fun _ _ h => h))
  clear hI hb
  (try simp only [List.cons_append, List.nil_append, List.set_cons_zero, List.set_cons_succ] at E)
  have hcl8 : cl.length ≤ 8 := by
    have := (shapeB_iff.1 hsY).1
    rw [hcl]; unfold celL; rw [List.length_drop]; omega
  have hsC : Hid (shapeB cl = true) := hid (by rw [hcl]; exact celL_ok hsY)
  obtain ⟨n, hn⟩ : ∃ n, n = celN y := ⟨_, rfl⟩
  have hcn : Hid (cnt cl = (n : Int)) := hid (by rw [hn, hcl]; exact (celN_eq hsY).symm)
  have hn6 : n ≤ 65536 := by rw [hn]; exact celN_le hsY
  have hnn : Hid (n = celN y) := hid hn
  have hVM : Hid (valM p z cl = amM p z y) := hid (by rw [hcl]; rfl)
  replace hcl := hid hcl
  clear hn
  obtain ⟨q80, q81, q82, q83⟩ := (E.out.hdr 8 rfl).all
  obtain ⟨q90, q91, q92, q93⟩ := (E.out.hdr 9 rfl).all
  go_wp2_with fail
  clear q80 q81 q82 q83 q90 q91 q92 q93
  refine (indexing_values p _ _ _ _ _ _ z _ _ _ _ _ _ cl _ _ _ _ (E.out.arr 6 rfl) (E.out.arr 7 rfl) (E.out.ints 10 rfl) (by omega) (by omega) hsC.out).mono ?_
  rintro e w8 ⟨ps, fv, ok, rfl, hp1, hp2, hx, hM⟩
  rw [hcn.out] at hp2
  replace E := hid (E.out.addObj hx hp1 hp2)
  clear hx hp1 hp2
  (try simp only [List.cons_append, List.nil_append, List.set_cons_zero, List.set_cons_succ] at E)
  rw [hVM.out] at hM
  have hok : Hid (amO p z y = ok) := hid (by
    unfold amO
    rcases hM with ⟨q, _, rfl⟩ | ⟨q, _, rfl⟩ | ⟨q, _, rfl⟩
    · rw [q]; rfl
    · rw [q]; rfl
    · rw [q]; rfl)
  replace hM := hid hM
  by_cases kp : p.kind = 1
  case neg =>
    have pb : (p.kind != 1) = true := by simpa using kp
    have hn := hid (hEi.out.trans (amE_k (Or.inl kp)))
    have hv := hid (amdS_no (x := x) (y := y) (by rw [hn.out]; decide))
    replace kp := hid kp
    obtain ⟨q80, q81, q82, q83⟩ := (E.out.hdr 8 rfl).all
    go_wp2_with (refine wpl_store4 rfl (.tmp 4) (.tmp 73) rfl _ rfl rfl (E.out.hdr 2 rfl) ?_; intro V HV CV; replace E := hid (E.out.chg 2 rfl CV HV))
    exact bodyPost_ret (end_arr2 rfl HV rfl rfl) rfl (hR.out _ _ (RetAEC.zero hv.out hn.out E.out.ext))
  have pb : (p.kind != 1) = false := by simp [kp]
  by_cases kz : z.kind = y.kind
  case neg =>
    have zb : (z.kind != y.kind) = true := by simpa using kz
    have hn := hid (hEi.out.trans (amE_k (Or.inr kz)))
    have hv := hid (amdS_no (x := x) (y := y) (by rw [hn.out]; decide))
    replace kz := hid kz
    replace kp := hid kp
    obtain ⟨q10, q11, q12, q13⟩ := (E.out.hdr 1 rfl).all
    obtain ⟨q80, q81, q82, q83⟩ := (E.out.hdr 8 rfl).all
    obtain ⟨q90, q91, q92, q93⟩ := (E.out.hdr 9 rfl).all
    go_wp2_with (refine wpl_store4 rfl (.tmp 4) (.tmp 73) rfl _ rfl rfl (E.out.hdr 2 rfl) ?_; intro V HV CV; replace E := hid (E.out.chg 2 rfl CV HV))
    exact bodyPost_ret (end_arr2 rfl HV rfl rfl) rfl (hR.out _ _ (RetAEC.zero hv.out hn.out E.out.ext))
  have zb : (z.kind != y.kind) = false := by simp [kz]
  cases ok with
  | false =>
    have hn := hid (hEi.out.trans (amE_o kp kz hok.out))
    have hv := hid (amdS_no (x := x) (y := y) (by rw [hn.out]; decide))
    replace kz := hid kz
    replace kp := hid kp
    obtain ⟨q10, q11, q12, q13⟩ := (E.out.hdr 1 rfl).all
    obtain ⟨q80, q81, q82, q83⟩ := (E.out.hdr 8 rfl).all
    obtain ⟨q90, q91, q92, q93⟩ := (E.out.hdr 9 rfl).all
    go_wp2_with (refine wpl_store4 rfl (.tmp 4) (.tmp 77) rfl _ rfl rfl (E.out.hdr 2 rfl) ?_; intro V HV CV; replace E := hid (E.out.chg 2 rfl CV HV))
    exact bodyPost_ret (end_arr2 rfl HV rfl rfl) rfl (hR.out _ _ (RetAEC.zero hv.out hn.out E.out.ext))
  | true =>
  have hkz := hid kz
  have hEb := hid (fun q => hEi.out.trans (amE_b (y := y) kp kz hok.out q))
  have hEg := hid (fun q => hEi.out.trans (amE_g (y := y) kp kz hok.out q))
  replace kz := hid kz
  replace kp := hid kp
  obtain ⟨q10, q11, q12, q13⟩ := (E.out.hdr 1 rfl).all
  obtain ⟨q80, q81, q82, q83⟩ := (E.out.hdr 8 rfl).all
  obtain ⟨q90, q91, q92, q93⟩ := (E.out.hdr 9 rfl).all
  go_wp2_with fail
  clear q10 q11 q12 q13 q80 q81 q82 q83 q90 q91 q92 q93
  refine (indexing_within p.nums _ _ (talN y) _ _ (E.out.arr 6 rfl).nums).mono ?_
  rintro e w9 ⟨rfl, hb⟩
  replace E := hid (E.out.up hb)
  clear hb
  cases hbB : p.nums.any (outB (talN y)) with
  | true =>
    have hn := hid (hEb.out hbB)
    have hv := hid (amdS_no (x := x) (y := y) (by rw [hn.out]; decide))
    replace hbB := hid hbB
    go_wp2_with (refine wpl_store4 rfl (.tmp 4) (.tmp 84) rfl _ rfl rfl (E.out.hdr 2 rfl) ?_; intro V HV CV; replace E := hid (E.out.chg 2 rfl CV HV))
    exact bodyPost_ret (end_arr2 rfl HV rfl rfl) rfl (hR.out _ _ (RetAEC.zero hv.out hn.out E.out.ext))
  | false =>
  have hEa := hid (hEg.out hbB)
  have hSa : Hid (amdS x y = agS z y (amSrc p z y)) := hid (by rw [hSd.out]; unfold agS; rw [hEa.out])
  have hnv : Hid (∀ m, m < p.nums.length → ∃ vv : Nat, p.nums.getD m 0 = (vv : Int) ∧ ∀ j, j < n → vv * n + j < szA y) := hid fun m hm => by
    obtain ⟨q0, q1⟩ := outB_no (any_no hbB (getD_mem hm))
    obtain ⟨vv, hvv⟩ : ∃ vv : Nat, p.nums.getD m 0 = (vv : Int) := ⟨(p.nums.getD m 0).toNat, by omega⟩
    refine ⟨vv, hvv, fun j hj => ?_⟩
    rw [sz_tal hry.out, ← hnn.out]
    rw [← tal_nn hsY] at q1
    exact cell_lt (by omega) hj
  replace hbB := hid hbB
  clear hEb hEg
  have hN6 := szA_le hry.out
  have hz6 := szA_le r1.out
  have hofb : Hid (∀ m, m < p.nums.length → ∀ j, j < n → ofM (amM p z y) n m j ≤ 65536) := hid fun m hm j hj => by
    have := of_bd r0.out kp.out r1.out hry.out hok.out hm (by rw [← hnn.out]; exact hj)
    rw [← hnn.out] at this
    omega
  have hsY2 := hid hsY
  clear hsY
  go_wp2_with fail
  refine (shape_Size cl _ _ _ _ (E.out.ints 10 rfl)).mono ?_
  rintro e w10 ⟨rfl, rfl⟩
  rw [sizeS_true hsC.out, hcn.out]
  obtain ⟨q10, q11, q12, q13⟩ := (E.out.hdr 1 rfl).all
  go_wp2_with fail
  clear q10 q11 q12 q13
  refine (size_array_Size y _ _ _ _ _ _ _ _ (E.out.arr 4 rfl)).mono ?_
  rintro e w11 ⟨rfl, hb⟩
  replace E := hid (E.out.up hb)
  clear hb
  obtain ⟨N, hNd⟩ : ∃ N, N = szA y := ⟨_, rfl⟩
  have hNN : Hid (N = szA y) := hid hNd
  have hN2 : szN y.kind y.nums.length y.items.length = N := hNd.symm
  rw [hN2]
  rw [← hNd] at hN6 hnv
  replace hNd := hid hNd
  replace hN2 := hid hN2
  have mS := fun w => run_makeI w N (by omega)
  go_upto_region 20 with (fail)
  clear mS
  replace E := hid (E.out.alloc (.cells (madeI N) 3))
  generalize World.alloc _ _ = W9 at E ⊢
  generalize w11.heap.size = gs at E ⊢
  rw [madeI_rowO] at E
  (try simp only [List.cons_append, List.nil_append, List.set_cons_zero, List.set_cons_succ] at E)
  have z0 : List.replicate 0 (-1 : Int) ++ List.replicate (N - 0) 0 = List.replicate N 0 := by simp
  replace z0 := hid z0
  go_upto_region 21 with (fail)
  go_loopw [92] (fun v wr => ∃ m : Nat, m ≤ N ∧ v = .int .i64 m ∧ Env w S wr [.obj w.heap.size (.cells #[.int .i64 x.kind, .slice sx x.shape.length cx, .slice nx x.nums.length mx, .slice ix x.items.length jx] 26 (0, 0)), .obj (w.heap.size + 1) (.cells #[.int .i64 y.kind, .slice sy y.shape.length cy, .slice ny y.nums.length my, .slice iy y.items.length jy] 26 (0, 0)), .obj (w.heap.size + 1 + 1) (.cells #[.int .i64 0, .slice none 0 0, .slice none 0 0, .slice none 0 0] 26 (0, 0)), .arr x sx nx ix, .arr y sy ny iy, .items [x, y] (some ⟨p3, 0, none⟩), .arr p sp (np) ip, .arr z sz nz iz, .obj pi (.cells #[.int .i64 p.kind, .slice sp p.shape.length cp, .slice (np) p.nums.length mp, .slice ip p.items.length jp] 26 (0, 0)), .obj pz (.cells #[.int .i64 z.kind, .slice sz z.shape.length cz, .slice nz z.nums.length mz, .slice iz z.items.length jz] 26 (0, 0)), .ints cl so, .obj ps (.cells #[.int .i64 (n : Int)] 3 (0, 0)), .obj gs (.cells (rowO (List.replicate m (-1 : Int) ++ List.replicate (N - m) 0)) 3 (0, 0))]) (fun v _ => N - (intOf v).toNat)
  case atStart => exact ⟨0, Nat.zero_le _, rfl, by rw [z0.out]; exact E.out⟩
  case round =>
    clear E
    obtain ⟨m, hm, rfl, E⟩ := hrel
    replace E := hid E
    by_cases hlt : m < N
    case pos =>
      have hst := rep_step hlt
      have hln : (List.replicate m (-1 : Int) ++ List.replicate (N - m) 0).length = N := by simp; omega
      obtain ⟨cur, hcur⟩ : ∃ c, c = List.replicate m (-1 : Int) ++ List.replicate (N - m) 0 := ⟨_, rfl⟩
      rw [← hcur] at E hst hln
      replace hcur := hid hcur
      replace hst := hid hst
      have m0 : (0 : Int) ≤ (m : Int) := by omega
      have m1 : (m : Int) < (N : Int) := by omega
      go_wp2_with (refine wplE_setO E.out 12 rfl rfl (.tmp 97) (.const (.int .i64 (-1))) rfl m (by omega) (-1) (by first | rfl | simp [Act.eval, Act.put]) rfl ?_; intro V7 E1; clear E; have E := hid E1; clear E1; (try simp only [List.cons_append, List.nil_append, List.set_cons_zero, List.set_cons_succ] at E))
      go_roundw
      case rel => exact ⟨m + 1, by omega, by go_num, by rw [← hst.out]; exact E.out⟩
      case measure => simp [intOf]; omega
    case neg =>
      obtain rfl : N = m := by omega
      have e1 : List.replicate N (-1 : Int) ++ List.replicate (N - N) 0 = List.replicate N (-1) := by simp
      rw [e1] at E
      replace e1 := hid e1
      clear z0
      obtain ⟨q80, q81, q82, q83⟩ := (E.out.hdr 8 rfl).all
      go_upto_region 26 with (fail)
      clear q80 q81 q82 q83
      rcases hM.out with ⟨hMq, rfl, hbx⟩ | ⟨hMq, rfl, hbx⟩ | ⟨hMq, rfl, hbx⟩
      · have hMd := hid hMq
        clear hM hMq hbx
        go_loopw [102] (fun v wr => ∃ m : Nat, m ≤ p.nums.length ∧ v = .int .i64 m ∧ Env w S wr [.obj w.heap.size (.cells #[.int .i64 x.kind, .slice sx x.shape.length cx, .slice nx x.nums.length mx, .slice ix x.items.length jx] 26 (0, 0)), .obj (w.heap.size + 1) (.cells #[.int .i64 y.kind, .slice sy y.shape.length cy, .slice ny y.nums.length my, .slice iy y.items.length jy] 26 (0, 0)), .obj (w.heap.size + 1 + 1) (.cells #[.int .i64 0, .slice none 0 0, .slice none 0 0, .slice none 0 0] 26 (0, 0)), .arr x sx nx ix, .arr y sy ny iy, .items [x, y] (some ⟨p3, 0, none⟩), .arr p sp (np) ip, .arr z sz nz iz, .obj pi (.cells #[.int .i64 p.kind, .slice sp p.shape.length cp, .slice (np) p.nums.length mp, .slice ip p.items.length jp] 26 (0, 0)), .obj pz (.cells #[.int .i64 z.kind, .slice sz z.shape.length cz, .slice nz z.nums.length mz, .slice iz z.items.length jz] 26 (0, 0)), .ints cl so, .obj ps (.cells #[.int .i64 (n : Int)] 3 (0, 0)), .obj gs (.cells (rowO (srcK (ofM 0 n) n p.nums m (List.replicate N (-1)))) 3 (0, 0))]) (fun v _ => p.nums.length - (intOf v).toNat)
        case atStart => exact ⟨0, Nat.zero_le _, rfl, E.out⟩
        case round =>
          clear E
          obtain ⟨m, hm, rfl, E⟩ := hrel
          replace E := hid E
          by_cases hlt : m < p.nums.length
          case pos =>
            obtain ⟨b4, o4, hnp, _, _, hc4⟩ := (E.out.arr 6 rfl).nums.at hlt
            obtain ⟨vv, hvv, hvv2⟩ := hnv.out m hlt
            have hsl : (srcK (ofM 0 n) n p.nums m (List.replicate N (-1))).length = N := by rw [srcK_len, List.length_replicate]
            have hnx : srcK (ofM 0 n) n p.nums (m + 1) (List.replicate N (-1)) = srcJ (ofM 0 n m) (vv * n) n (srcK (ofM 0 n) n p.nums m (List.replicate N (-1))) := by
              rw [srcK, hvv, Int.toNat_natCast]
            rw [hvv] at hc4
            obtain ⟨cur, hcur⟩ : ∃ c, c = srcK (ofM 0 n) n p.nums m (List.replicate N (-1)) := ⟨_, rfl⟩
            rw [← hcur] at E hsl hnx
            replace hcur := hid hcur
            replace hvv := hid hvv
            replace hnx := hid hnx
            have hof := hid (hofb.out m hlt)
            subst hnp
            go_upto_region 29 with (fail)
            go_loopw [108] (fun v wr => ∃ j : Nat, j ≤ n ∧ v = .int .i64 j ∧ Env w S wr [.obj w.heap.size (.cells #[.int .i64 x.kind, .slice sx x.shape.length cx, .slice nx x.nums.length mx, .slice ix x.items.length jx] 26 (0, 0)), .obj (w.heap.size + 1) (.cells #[.int .i64 y.kind, .slice sy y.shape.length cy, .slice ny y.nums.length my, .slice iy y.items.length jy] 26 (0, 0)), .obj (w.heap.size + 1 + 1) (.cells #[.int .i64 0, .slice none 0 0, .slice none 0 0, .slice none 0 0] 26 (0, 0)), .arr x sx nx ix, .arr y sy ny iy, .items [x, y] (some ⟨p3, 0, none⟩), .arr p sp (some ⟨b4, o4, none⟩) ip, .arr z sz nz iz, .obj pi (.cells #[.int .i64 p.kind, .slice sp p.shape.length cp, .slice (some ⟨b4, o4, none⟩) p.nums.length mp, .slice ip p.items.length jp] 26 (0, 0)), .obj pz (.cells #[.int .i64 z.kind, .slice sz z.shape.length cz, .slice nz z.nums.length mz, .slice iz z.items.length jz] 26 (0, 0)), .ints cl so, .obj ps (.cells #[.int .i64 (n : Int)] 3 (0, 0)), .obj gs (.cells (rowO (srcJ (ofM 0 n m) (vv * n) j cur)) 3 (0, 0))]) (fun v _ => n - (intOf v).toNat)
            case atStart => exact ⟨0, Nat.zero_le _, rfl, E.out⟩
            case round =>
              clear E
              obtain ⟨j, hj, rfl, E⟩ := hrel
              replace E := hid E
              by_cases hlt2 : j < n
              case pos =>
                have hidx := hvv2 j hlt2
                have hofj := hof.out j hlt2
                have hsl2 : (srcJ (ofM 0 n m) (vv * n) j cur).length = N := by rw [srcJ_len, hsl]
                obtain ⟨cur2, hcur2⟩ : ∃ c, c = srcJ (ofM 0 n m) (vv * n) j cur := ⟨_, rfl⟩
                rw [← hcur2] at E hsl2
                obtain ⟨q, hq⟩ : ∃ q, q = vv * n := ⟨_, rfl⟩
                rw [← hq] at hidx
                have hnx2 : srcJ (ofM 0 n m) (vv * n) (j + 1) cur = cur2.set (q + j) ((ofM 0 n m j : Nat) : Int) := by rw [hcur2, hq]; rfl
                have hw1 : IntKind.i64.wrap ((vv : Int) * (n : Int)) = (q : Int) := by rw [← Int.natCast_mul, ← hq]; exact IntWalk.i64_in _ (by omega)
                have hw2 : IntKind.i64.wrap ((q : Int) + (j : Int)) = ((q + j : Nat) : Int) := by rw [Int.natCast_add]; exact IntWalk.i64_in _ (by omega)
                have hi0 : (0 : Int) ≤ (q : Int) + (j : Int) := by omega
                have hi1 : (q : Int) + (j : Int) < (N : Int) := by omega
                have hi2 : ((q : Int) + (j : Int)).toNat = q + j := by omega
                obtain ⟨rv, hrv⟩ : ∃ rv : Int, rv = ((ofM 0 n m j : Nat) : Int) := ⟨_, rfl⟩
                rw [← hrv] at hnx2
                rw [hMd.out] at hofj
                replace hofj := hid hofj
                replace hrv := hid hrv
                replace hcur2 := hid hcur2
                replace hnx2 := hid hnx2
                replace hq := hid hq
                have c11 := (cell_row1 (E.out.obj 11 rfl)).1
                go_wp2_with fail
                refine (values_1 m j ps n _ c11 (by have h9 : m * n + j ≤ 65536 := hofj.out; omega)).mono ?_
                rintro e w12 ⟨he, rfl⟩
                replace he : e = .returned (.int .i64 rv) := he.trans (by rw [hrv.out]; rfl)
                subst he
                clear c11
                go_wp2_with (refine wplE_setO E.out 12 rfl rfl (.tmp 121) (.tmp 120) rfl (q + j) (by omega) rv (by first | rfl | simp [Act.eval, Act.put]) (by first | rfl | simp [Act.eval, Act.put]) ?_; intro V7 E1; clear E; have E := hid E1; clear E1; (try simp only [List.cons_append, List.nil_append, List.set_cons_zero, List.set_cons_succ] at E))
                go_roundw
                case rel => exact ⟨j + 1, by omega, by go_num, by rw [hnx2.out]; exact E.out⟩
                case measure => simp [intOf]; omega
              case neg =>
                obtain rfl : j = n := by omega
                rw [← hnx.out] at E
                obtain ⟨cur2, hcur2⟩ : ∃ c, c = srcK (ofM 0 j) j p.nums (m + 1) (List.replicate N (-1)) := ⟨_, rfl⟩
                rw [← hcur2] at E
                replace hcur2 := hid hcur2
                go_wp2_with fail
                go_roundw
                case rel => exact ⟨m + 1, by omega, by go_num, by rw [← hcur2.out]; exact E.out⟩
                case measure => simp [intOf]; omega
          case neg =>
            obtain rfl : m = p.nums.length := by omega
            have hsr : srcK (ofM 0 n) n p.nums p.nums.length (List.replicate N (-1)) = amSrc p z y := by unfold amSrc; rw [hMd.out, ← hnn.out, ← hNN.out]
            rw [hsr] at E
            obtain ⟨src, hsrc⟩ : ∃ s, s = amSrc p z y := ⟨_, rfl⟩
            rw [← hsrc] at E hEa hSa
            have hsl := amSrc_len p z y
            have hsb := amSrc_bd r0.out kp r1.out hry.out hok.out
            rw [← hsrc] at hsl hsb
            have hln : src.length ≤ 65536 := by rw [hsl, ← hNN.out]; exact hN6
            have hslN : Hid (src.length = N) := hid (by rw [hsl, ← hNN.out])
            replace hsrc := hid hsrc
            replace hsr := hid hsr
            replace hsl := hid hsl
            replace hsb := hid hsb
            replace E := hid (E.out.doneO 12 rfl (by omega))
            (try simp only [List.cons_append, List.nil_append, List.set_cons_zero, List.set_cons_succ] at E)
            obtain ⟨q10, q11, q12, q13⟩ := (E.out.hdr 1 rfl).all
            obtain ⟨q90, q91, q92, q93⟩ := (E.out.hdr 9 rfl).all
            go_wp2_with fail
            clear q10 q11 q12 q13 q90 q91 q92 q93
            refine (lenQ hslN.out (indexing_amended y _ _ _ _ _ _ z _ _ _ _ _ _ src _ _ _ _ (E.out.arr 4 rfl) (E.out.arr 7 rfl) (E.out.ints 12 rfl) (flat_of hry.out) hkz.out hsl.out (by rw [← hNN.out]; exact hN6) hsb.out)).mono ?_
            intro e w14 h
            obtain ⟨s15, c15, n15, m15, i15, j15, rfl, hA, hb, hC15⟩ := h.eq hSa.out hEa.out.symm
            replace E := hid ((E.out.up hb).addArrF hA E.out.blt E.out.size)
            replace hC15 := hid hC15
            clear hA hb h
            (try simp only [List.cons_append, List.nil_append, List.set_cons_zero, List.set_cons_succ] at E)
            go_wp2_with (refine wpl_store4 rfl (.tmp 4) (.tmp 128) rfl _ rfl rfl (E.out.hdr 2 rfl) ?_; intro V HV CV; replace E := hid (E.out.chg 2 rfl CV HV); clear CV; (try simp only [List.cons_append, List.nil_append, List.set_cons_zero, List.set_cons_succ] at E))
            refine bodyPost_ret (end_arr2 rfl HV rfl rfl) rfl (hR.out _ _ ?_)
            exact RetAEC.at rfl rfl (ArrAt.mono (fun b _ h => h.2) _ (E.out.arrF 13 rfl)) E.out.ext hC15.out
      · have hMd := hid hMq
        clear hM hMq hbx
        go_loopw [102] (fun v wr => ∃ m : Nat, m ≤ p.nums.length ∧ v = .int .i64 m ∧ Env w S wr [.obj w.heap.size (.cells #[.int .i64 x.kind, .slice sx x.shape.length cx, .slice nx x.nums.length mx, .slice ix x.items.length jx] 26 (0, 0)), .obj (w.heap.size + 1) (.cells #[.int .i64 y.kind, .slice sy y.shape.length cy, .slice ny y.nums.length my, .slice iy y.items.length jy] 26 (0, 0)), .obj (w.heap.size + 1 + 1) (.cells #[.int .i64 0, .slice none 0 0, .slice none 0 0, .slice none 0 0] 26 (0, 0)), .arr x sx nx ix, .arr y sy ny iy, .items [x, y] (some ⟨p3, 0, none⟩), .arr p sp (np) ip, .arr z sz nz iz, .obj pi (.cells #[.int .i64 p.kind, .slice sp p.shape.length cp, .slice (np) p.nums.length mp, .slice ip p.items.length jp] 26 (0, 0)), .obj pz (.cells #[.int .i64 z.kind, .slice sz z.shape.length cz, .slice nz z.nums.length mz, .slice iz z.items.length jz] 26 (0, 0)), .ints cl so, .obj ps (.cells #[.int .i64 (n : Int)] 3 (0, 0)), .obj gs (.cells (rowO (srcK (ofM 1 n) n p.nums m (List.replicate N (-1)))) 3 (0, 0))]) (fun v _ => p.nums.length - (intOf v).toNat)
        case atStart => exact ⟨0, Nat.zero_le _, rfl, E.out⟩
        case round =>
          clear E
          obtain ⟨m, hm, rfl, E⟩ := hrel
          replace E := hid E
          by_cases hlt : m < p.nums.length
          case pos =>
            obtain ⟨b4, o4, hnp, _, _, hc4⟩ := (E.out.arr 6 rfl).nums.at hlt
            obtain ⟨vv, hvv, hvv2⟩ := hnv.out m hlt
            have hsl : (srcK (ofM 1 n) n p.nums m (List.replicate N (-1))).length = N := by rw [srcK_len, List.length_replicate]
            have hnx : srcK (ofM 1 n) n p.nums (m + 1) (List.replicate N (-1)) = srcJ (ofM 1 n m) (vv * n) n (srcK (ofM 1 n) n p.nums m (List.replicate N (-1))) := by
              rw [srcK, hvv, Int.toNat_natCast]
            rw [hvv] at hc4
            obtain ⟨cur, hcur⟩ : ∃ c, c = srcK (ofM 1 n) n p.nums m (List.replicate N (-1)) := ⟨_, rfl⟩
            rw [← hcur] at E hsl hnx
            replace hcur := hid hcur
            replace hvv := hid hvv
            replace hnx := hid hnx
            have hof := hid (hofb.out m hlt)
            subst hnp
            go_upto_region 29 with (fail)
            go_loopw [108] (fun v wr => ∃ j : Nat, j ≤ n ∧ v = .int .i64 j ∧ Env w S wr [.obj w.heap.size (.cells #[.int .i64 x.kind, .slice sx x.shape.length cx, .slice nx x.nums.length mx, .slice ix x.items.length jx] 26 (0, 0)), .obj (w.heap.size + 1) (.cells #[.int .i64 y.kind, .slice sy y.shape.length cy, .slice ny y.nums.length my, .slice iy y.items.length jy] 26 (0, 0)), .obj (w.heap.size + 1 + 1) (.cells #[.int .i64 0, .slice none 0 0, .slice none 0 0, .slice none 0 0] 26 (0, 0)), .arr x sx nx ix, .arr y sy ny iy, .items [x, y] (some ⟨p3, 0, none⟩), .arr p sp (some ⟨b4, o4, none⟩) ip, .arr z sz nz iz, .obj pi (.cells #[.int .i64 p.kind, .slice sp p.shape.length cp, .slice (some ⟨b4, o4, none⟩) p.nums.length mp, .slice ip p.items.length jp] 26 (0, 0)), .obj pz (.cells #[.int .i64 z.kind, .slice sz z.shape.length cz, .slice nz z.nums.length mz, .slice iz z.items.length jz] 26 (0, 0)), .ints cl so, .obj ps (.cells #[.int .i64 (n : Int)] 3 (0, 0)), .obj gs (.cells (rowO (srcJ (ofM 1 n m) (vv * n) j cur)) 3 (0, 0))]) (fun v _ => n - (intOf v).toNat)
            case atStart => exact ⟨0, Nat.zero_le _, rfl, E.out⟩
            case round =>
              clear E
              obtain ⟨j, hj, rfl, E⟩ := hrel
              replace E := hid E
              by_cases hlt2 : j < n
              case pos =>
                have hidx := hvv2 j hlt2
                have hofj := hof.out j hlt2
                have hsl2 : (srcJ (ofM 1 n m) (vv * n) j cur).length = N := by rw [srcJ_len, hsl]
                obtain ⟨cur2, hcur2⟩ : ∃ c, c = srcJ (ofM 1 n m) (vv * n) j cur := ⟨_, rfl⟩
                rw [← hcur2] at E hsl2
                obtain ⟨q, hq⟩ : ∃ q, q = vv * n := ⟨_, rfl⟩
                rw [← hq] at hidx
                have hnx2 : srcJ (ofM 1 n m) (vv * n) (j + 1) cur = cur2.set (q + j) ((ofM 1 n m j : Nat) : Int) := by rw [hcur2, hq]; rfl
                have hw1 : IntKind.i64.wrap ((vv : Int) * (n : Int)) = (q : Int) := by rw [← Int.natCast_mul, ← hq]; exact IntWalk.i64_in _ (by omega)
                have hw2 : IntKind.i64.wrap ((q : Int) + (j : Int)) = ((q + j : Nat) : Int) := by rw [Int.natCast_add]; exact IntWalk.i64_in _ (by omega)
                have hi0 : (0 : Int) ≤ (q : Int) + (j : Int) := by omega
                have hi1 : (q : Int) + (j : Int) < (N : Int) := by omega
                have hi2 : ((q : Int) + (j : Int)).toNat = q + j := by omega
                obtain ⟨rv, hrv⟩ : ∃ rv : Int, rv = ((ofM 1 n m j : Nat) : Int) := ⟨_, rfl⟩
                rw [← hrv] at hnx2
                rw [hMd.out] at hofj
                replace hofj := hid hofj
                replace hrv := hid hrv
                replace hcur2 := hid hcur2
                replace hnx2 := hid hnx2
                replace hq := hid hq
                have c11 := (cell_row1 (E.out.obj 11 rfl)).1
                go_wp2_with fail
                refine (values_2 m j _).mono ?_
                rintro e w12 ⟨he, rfl⟩
                replace he : e = .returned (.int .i64 rv) := he.trans (by rw [hrv.out]; rfl)
                subst he
                clear c11
                go_wp2_with (refine wplE_setO E.out 12 rfl rfl (.tmp 121) (.tmp 120) rfl (q + j) (by omega) rv (by first | rfl | simp [Act.eval, Act.put]) (by first | rfl | simp [Act.eval, Act.put]) ?_; intro V7 E1; clear E; have E := hid E1; clear E1; (try simp only [List.cons_append, List.nil_append, List.set_cons_zero, List.set_cons_succ] at E))
                go_roundw
                case rel => exact ⟨j + 1, by omega, by go_num, by rw [hnx2.out]; exact E.out⟩
                case measure => simp [intOf]; omega
              case neg =>
                obtain rfl : j = n := by omega
                rw [← hnx.out] at E
                obtain ⟨cur2, hcur2⟩ : ∃ c, c = srcK (ofM 1 j) j p.nums (m + 1) (List.replicate N (-1)) := ⟨_, rfl⟩
                rw [← hcur2] at E
                replace hcur2 := hid hcur2
                go_wp2_with fail
                go_roundw
                case rel => exact ⟨m + 1, by omega, by go_num, by rw [← hcur2.out]; exact E.out⟩
                case measure => simp [intOf]; omega
          case neg =>
            obtain rfl : m = p.nums.length := by omega
            have hsr : srcK (ofM 1 n) n p.nums p.nums.length (List.replicate N (-1)) = amSrc p z y := by unfold amSrc; rw [hMd.out, ← hnn.out, ← hNN.out]
            rw [hsr] at E
            obtain ⟨src, hsrc⟩ : ∃ s, s = amSrc p z y := ⟨_, rfl⟩
            rw [← hsrc] at E hEa hSa
            have hsl := amSrc_len p z y
            have hsb := amSrc_bd r0.out kp r1.out hry.out hok.out
            rw [← hsrc] at hsl hsb
            have hln : src.length ≤ 65536 := by rw [hsl, ← hNN.out]; exact hN6
            have hslN : Hid (src.length = N) := hid (by rw [hsl, ← hNN.out])
            replace hsrc := hid hsrc
            replace hsr := hid hsr
            replace hsl := hid hsl
            replace hsb := hid hsb
            replace E := hid (E.out.doneO 12 rfl (by omega))
            (try simp only [List.cons_append, List.nil_append, List.set_cons_zero, List.set_cons_succ] at E)
            obtain ⟨q10, q11, q12, q13⟩ := (E.out.hdr 1 rfl).all
            obtain ⟨q90, q91, q92, q93⟩ := (E.out.hdr 9 rfl).all
            go_wp2_with fail
            clear q10 q11 q12 q13 q90 q91 q92 q93
            refine (lenQ hslN.out (indexing_amended y _ _ _ _ _ _ z _ _ _ _ _ _ src _ _ _ _ (E.out.arr 4 rfl) (E.out.arr 7 rfl) (E.out.ints 12 rfl) (flat_of hry.out) hkz.out hsl.out (by rw [← hNN.out]; exact hN6) hsb.out)).mono ?_
            intro e w14 h
            obtain ⟨s15, c15, n15, m15, i15, j15, rfl, hA, hb, hC15⟩ := h.eq hSa.out hEa.out.symm
            replace E := hid ((E.out.up hb).addArrF hA E.out.blt E.out.size)
            replace hC15 := hid hC15
            clear hA hb h
            (try simp only [List.cons_append, List.nil_append, List.set_cons_zero, List.set_cons_succ] at E)
            go_wp2_with (refine wpl_store4 rfl (.tmp 4) (.tmp 128) rfl _ rfl rfl (E.out.hdr 2 rfl) ?_; intro V HV CV; replace E := hid (E.out.chg 2 rfl CV HV); clear CV; (try simp only [List.cons_append, List.nil_append, List.set_cons_zero, List.set_cons_succ] at E))
            refine bodyPost_ret (end_arr2 rfl HV rfl rfl) rfl (hR.out _ _ ?_)
            exact RetAEC.at rfl rfl (ArrAt.mono (fun b _ h => h.2) _ (E.out.arrF 13 rfl)) E.out.ext hC15.out
      · have hMd := hid hMq
        clear hM hMq hbx
        go_loopw [102] (fun v wr => ∃ m : Nat, m ≤ p.nums.length ∧ v = .int .i64 m ∧ Env w S wr [.obj w.heap.size (.cells #[.int .i64 x.kind, .slice sx x.shape.length cx, .slice nx x.nums.length mx, .slice ix x.items.length jx] 26 (0, 0)), .obj (w.heap.size + 1) (.cells #[.int .i64 y.kind, .slice sy y.shape.length cy, .slice ny y.nums.length my, .slice iy y.items.length jy] 26 (0, 0)), .obj (w.heap.size + 1 + 1) (.cells #[.int .i64 0, .slice none 0 0, .slice none 0 0, .slice none 0 0] 26 (0, 0)), .arr x sx nx ix, .arr y sy ny iy, .items [x, y] (some ⟨p3, 0, none⟩), .arr p sp (np) ip, .arr z sz nz iz, .obj pi (.cells #[.int .i64 p.kind, .slice sp p.shape.length cp, .slice (np) p.nums.length mp, .slice ip p.items.length jp] 26 (0, 0)), .obj pz (.cells #[.int .i64 z.kind, .slice sz z.shape.length cz, .slice nz z.nums.length mz, .slice iz z.items.length jz] 26 (0, 0)), .ints cl so, .obj ps (.cells #[.int .i64 (n : Int)] 3 (0, 0)), .obj gs (.cells (rowO (srcK (ofM 2 n) n p.nums m (List.replicate N (-1)))) 3 (0, 0))]) (fun v _ => p.nums.length - (intOf v).toNat)
        case atStart => exact ⟨0, Nat.zero_le _, rfl, E.out⟩
        case round =>
          clear E
          obtain ⟨m, hm, rfl, E⟩ := hrel
          replace E := hid E
          by_cases hlt : m < p.nums.length
          case pos =>
            obtain ⟨b4, o4, hnp, _, _, hc4⟩ := (E.out.arr 6 rfl).nums.at hlt
            obtain ⟨vv, hvv, hvv2⟩ := hnv.out m hlt
            have hsl : (srcK (ofM 2 n) n p.nums m (List.replicate N (-1))).length = N := by rw [srcK_len, List.length_replicate]
            have hnx : srcK (ofM 2 n) n p.nums (m + 1) (List.replicate N (-1)) = srcJ (ofM 2 n m) (vv * n) n (srcK (ofM 2 n) n p.nums m (List.replicate N (-1))) := by
              rw [srcK, hvv, Int.toNat_natCast]
            rw [hvv] at hc4
            obtain ⟨cur, hcur⟩ : ∃ c, c = srcK (ofM 2 n) n p.nums m (List.replicate N (-1)) := ⟨_, rfl⟩
            rw [← hcur] at E hsl hnx
            replace hcur := hid hcur
            replace hvv := hid hvv
            replace hnx := hid hnx
            have hof := hid (hofb.out m hlt)
            subst hnp
            go_upto_region 29 with (fail)
            go_loopw [108] (fun v wr => ∃ j : Nat, j ≤ n ∧ v = .int .i64 j ∧ Env w S wr [.obj w.heap.size (.cells #[.int .i64 x.kind, .slice sx x.shape.length cx, .slice nx x.nums.length mx, .slice ix x.items.length jx] 26 (0, 0)), .obj (w.heap.size + 1) (.cells #[.int .i64 y.kind, .slice sy y.shape.length cy, .slice ny y.nums.length my, .slice iy y.items.length jy] 26 (0, 0)), .obj (w.heap.size + 1 + 1) (.cells #[.int .i64 0, .slice none 0 0, .slice none 0 0, .slice none 0 0] 26 (0, 0)), .arr x sx nx ix, .arr y sy ny iy, .items [x, y] (some ⟨p3, 0, none⟩), .arr p sp (some ⟨b4, o4, none⟩) ip, .arr z sz nz iz, .obj pi (.cells #[.int .i64 p.kind, .slice sp p.shape.length cp, .slice (some ⟨b4, o4, none⟩) p.nums.length mp, .slice ip p.items.length jp] 26 (0, 0)), .obj pz (.cells #[.int .i64 z.kind, .slice sz z.shape.length cz, .slice nz z.nums.length mz, .slice iz z.items.length jz] 26 (0, 0)), .ints cl so, .obj ps (.cells #[.int .i64 (n : Int)] 3 (0, 0)), .obj gs (.cells (rowO (srcJ (ofM 2 n m) (vv * n) j cur)) 3 (0, 0))]) (fun v _ => n - (intOf v).toNat)
            case atStart => exact ⟨0, Nat.zero_le _, rfl, E.out⟩
            case round =>
              clear E
              obtain ⟨j, hj, rfl, E⟩ := hrel
              replace E := hid E
              by_cases hlt2 : j < n
              case pos =>
                have hidx := hvv2 j hlt2
                have hofj := hof.out j hlt2
                have hsl2 : (srcJ (ofM 2 n m) (vv * n) j cur).length = N := by rw [srcJ_len, hsl]
                obtain ⟨cur2, hcur2⟩ : ∃ c, c = srcJ (ofM 2 n m) (vv * n) j cur := ⟨_, rfl⟩
                rw [← hcur2] at E hsl2
                obtain ⟨q, hq⟩ : ∃ q, q = vv * n := ⟨_, rfl⟩
                rw [← hq] at hidx
                have hnx2 : srcJ (ofM 2 n m) (vv * n) (j + 1) cur = cur2.set (q + j) ((ofM 2 n m j : Nat) : Int) := by rw [hcur2, hq]; rfl
                have hw1 : IntKind.i64.wrap ((vv : Int) * (n : Int)) = (q : Int) := by rw [← Int.natCast_mul, ← hq]; exact IntWalk.i64_in _ (by omega)
                have hw2 : IntKind.i64.wrap ((q : Int) + (j : Int)) = ((q + j : Nat) : Int) := by rw [Int.natCast_add]; exact IntWalk.i64_in _ (by omega)
                have hi0 : (0 : Int) ≤ (q : Int) + (j : Int) := by omega
                have hi1 : (q : Int) + (j : Int) < (N : Int) := by omega
                have hi2 : ((q : Int) + (j : Int)).toNat = q + j := by omega
                obtain ⟨rv, hrv⟩ : ∃ rv : Int, rv = ((ofM 2 n m j : Nat) : Int) := ⟨_, rfl⟩
                rw [← hrv] at hnx2
                rw [hMd.out] at hofj
                replace hofj := hid hofj
                replace hrv := hid hrv
                replace hcur2 := hid hcur2
                replace hnx2 := hid hnx2
                replace hq := hid hq
                have c11 := (cell_row1 (E.out.obj 11 rfl)).1
                go_wp2_with fail
                refine (values_3 m j _).mono ?_
                rintro e w12 ⟨he, rfl⟩
                replace he : e = .returned (.int .i64 rv) := he.trans (by rw [hrv.out]; rfl)
                subst he
                clear c11
                go_wp2_with (refine wplE_setO E.out 12 rfl rfl (.tmp 121) (.tmp 120) rfl (q + j) (by omega) rv (by first | rfl | simp [Act.eval, Act.put]) (by first | rfl | simp [Act.eval, Act.put]) ?_; intro V7 E1; clear E; have E := hid E1; clear E1; (try simp only [List.cons_append, List.nil_append, List.set_cons_zero, List.set_cons_succ] at E))
                go_roundw
                case rel => exact ⟨j + 1, by omega, by go_num, by rw [hnx2.out]; exact E.out⟩
                case measure => simp [intOf]; omega
              case neg =>
                obtain rfl : j = n := by omega
                rw [← hnx.out] at E
                obtain ⟨cur2, hcur2⟩ : ∃ c, c = srcK (ofM 2 j) j p.nums (m + 1) (List.replicate N (-1)) := ⟨_, rfl⟩
                rw [← hcur2] at E
                replace hcur2 := hid hcur2
                go_wp2_with fail
                go_roundw
                case rel => exact ⟨m + 1, by omega, by go_num, by rw [← hcur2.out]; exact E.out⟩
                case measure => simp [intOf]; omega
          case neg =>
            obtain rfl : m = p.nums.length := by omega
            have hsr : srcK (ofM 2 n) n p.nums p.nums.length (List.replicate N (-1)) = amSrc p z y := by unfold amSrc; rw [hMd.out, ← hnn.out, ← hNN.out]
            rw [hsr] at E
            obtain ⟨src, hsrc⟩ : ∃ s, s = amSrc p z y := ⟨_, rfl⟩
            rw [← hsrc] at E hEa hSa
            have hsl := amSrc_len p z y
            have hsb := amSrc_bd r0.out kp r1.out hry.out hok.out
            rw [← hsrc] at hsl hsb
            have hln : src.length ≤ 65536 := by rw [hsl, ← hNN.out]; exact hN6
            have hslN : Hid (src.length = N) := hid (by rw [hsl, ← hNN.out])
            replace hsrc := hid hsrc
            replace hsr := hid hsr
            replace hsl := hid hsl
            replace hsb := hid hsb
            replace E := hid (E.out.doneO 12 rfl (by omega))
            (try simp only [List.cons_append, List.nil_append, List.set_cons_zero, List.set_cons_succ] at E)
            obtain ⟨q10, q11, q12, q13⟩ := (E.out.hdr 1 rfl).all
            obtain ⟨q90, q91, q92, q93⟩ := (E.out.hdr 9 rfl).all
            go_wp2_with fail
            clear q10 q11 q12 q13 q90 q91 q92 q93
            refine (lenQ hslN.out (indexing_amended y _ _ _ _ _ _ z _ _ _ _ _ _ src _ _ _ _ (E.out.arr 4 rfl) (E.out.arr 7 rfl) (E.out.ints 12 rfl) (flat_of hry.out) hkz.out hsl.out (by rw [← hNN.out]; exact hN6) hsb.out)).mono ?_
            intro e w14 h
            obtain ⟨s15, c15, n15, m15, i15, j15, rfl, hA, hb, hC15⟩ := h.eq hSa.out hEa.out.symm
            replace E := hid ((E.out.up hb).addArrF hA E.out.blt E.out.size)
            replace hC15 := hid hC15
            clear hA hb h
            (try simp only [List.cons_append, List.nil_append, List.set_cons_zero, List.set_cons_succ] at E)
            go_wp2_with (refine wpl_store4 rfl (.tmp 4) (.tmp 128) rfl _ rfl rfl (E.out.hdr 2 rfl) ?_; intro V HV CV; replace E := hid (E.out.chg 2 rfl CV HV); clear CV; (try simp only [List.cons_append, List.nil_append, List.set_cons_zero, List.set_cons_succ] at E))
            refine bodyPost_ret (end_arr2 rfl HV rfl rfl) rfl (hR.out _ _ ?_)
            exact RetAEC.at rfl rfl (ArrAt.mono (fun b _ h => h.2) _ (E.out.arrF 13 rfl)) E.out.ext hC15.out
end Go.Proofs.Ytcoknjlkhefgpaa
