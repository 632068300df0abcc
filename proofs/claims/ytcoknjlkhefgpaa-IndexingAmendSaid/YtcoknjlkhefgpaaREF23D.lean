/- ref23.Amend: contract. Conditions: the arrays are read; a slice's capacity is at least its length. -/
import Derived.Test.YtcoknjlkhefgpaaREF23A
import Derived.Test.YtcoknjlkhefgpaaREF26A
import Derived.Test.YtcoknjlkhefgpaaCLOO
import Derived.Test.YtcoknjlkhefgpaaSETA
import Derived.Test.YtcoknjlkhefgpaaP23R
import Derived.Test.YtcoknjlkhefgpaaAPF
set_option linter.unusedVariables false
set_option linter.unusedSimpArgs false
namespace Go.Proofs.Ytcoknjlkhefgpaa
open Go.RowKit Go.Sort
attribute [local go_sem ↓] run_max2 run_min2
attribute [local go_sem] eql_ints_nil eql_arrs_nil
theorem lenB {f : FuncId} {xs : List Int} {l : List Arr} {n m : Nat} (hn : xs.length = n) (hm : l.length = m) {k s : Value} {na ia : Option Addr} {nc ic : Nat} {w : World} {R : Ending → World → Prop} (h : Calls Try.prog f #[.agg #[k, s, .slice na xs.length nc, .slice ia l.length ic]] w R) : Calls Try.prog f #[.agg #[k, s, .slice na n nc, .slice ia m ic]] w R := hn ▸ hm ▸ h
theorem ref23_CellN (y : Arr) (sy : Option Addr) (cy : Nat) (ny : Option Addr) (my : Nat) (iy : Option Addr) (jy : Nat) (cl : List Int) (hcl : cl = celL y) (S : Nat → Prop) (w : World) (h : ArrAt w S y sy ny iy) (hc : y.shape.length ≤ cy) : Calls Try.prog 27 #[.agg #[.int .i64 y.kind, .slice sy y.shape.length cy, .slice ny y.nums.length my, .slice iy y.items.length jy]] w fun e w' => ∃ so sc, e = .returned (.slice so cl.length sc) ∧ IntsAt w' S so cl ∧ Below w.heap.size w w' := by
  subst hcl
  exact ref23_Cell y _ _ _ _ _ _ S w h hc
set_option maxRecDepth 100000 in
set_option maxHeartbeats 60000000 in
theorem ref23_Amend (x : Arr) (sx : Option Addr) (cx : Nat) (nx : Option Addr) (mx : Nat) (ix : Option Addr) (jx : Nat) (y : Arr) (sy : Option Addr) (cy : Nat) (ny : Option Addr) (my : Nat) (iy : Option Addr) (jy : Nat) (S : Nat → Prop) (w : World) (h : ArrAt w S x sx nx ix) (g : ArrAt w S y sy ny iy) (hcy : y.shape.length ≤ cy) :
    Calls Try.prog 17 #[.agg #[.int .i64 x.kind, .slice sx x.shape.length cx, .slice nx x.nums.length mx, .slice ix x.items.length jx], .agg #[.int .i64 y.kind, .slice sy y.shape.length cy, .slice ny y.nums.length my, .slice iy y.items.length jy]] w (RetAEC w (fun b => S b ∨ w.heap.size ≤ b) (amdS x y) (amdE x y)) := by
  refine calls_post fun R' hR => ?_
  have h0 := hid h
  have g0 := hid g
  have hcy := hid hcy
  have hxs := h.shape.1
  have hxn := h.nums.1
  have hys := g.shape.1
  clear h g
  go_enter Try.func17, Try.ntmps17
  go_upto_region 1 with (fail)
  generalize hEW : (((w).alloc (.cells #[.int .i64 x.kind, .slice sx x.shape.length cx, .slice nx x.nums.length mx, .slice ix x.items.length jx] 26)).alloc (.cells #[.int .i64 y.kind, .slice sy y.shape.length cy, .slice ny y.nums.length my, .slice iy y.items.length jy] 26)).alloc (.cells #[.int .i64 0, .slice none 0 0, .slice none 0 0, .slice none 0 0] 26) = W
  have E := hid (env3 w S hEW)
  clear hEW
  replace E := hid ((E.out.arg h0.out).arg g0.out)
  (try simp only [List.cons_append, List.nil_append, List.set_cons_zero, List.set_cons_succ] at E)
  obtain ⟨q00, q01, q02, q03⟩ := (E.out.hdr 0 rfl).all
  go_wp2_with fail
  clear q00 q01 q02 q03
  refine (ref03_Right x _ _ _ _ _ _ _ _ (E.out.arr 3 rfl)).mono ?_
  rintro e w1 ⟨rfl, hb⟩
  replace E := hid (E.out.up hb)
  clear hb
  by_cases c1 : rightS x = 0
  case neg =>
    have cb : (rightS x != 0) = true := by simpa using c1
    have hn := hid (amdE_r (x := x) (y := y) (Or.inl c1))
    have hv := hid (amdS_no (x := x) (y := y) (by rw [hn.out]; decide))
    replace c1 := hid c1
    go_wp2_with (refine wpl_store4 rfl (.tmp 4) (.tmp 24) rfl _ rfl rfl (E.out.hdr 2 rfl) ?_; intro V HV CV; replace E := hid (E.out.chg 2 rfl CV HV))
    exact bodyPost_ret (end_arr2 rfl HV rfl rfl) rfl (hR.out _ _ (RetAEC.zero hv.out hn.out E.out.ext))
  have cb1 : (rightS x != 0) = false := by simpa using c1
  obtain ⟨q10, q11, q12, q13⟩ := (E.out.hdr 1 rfl).all
  go_wp2_with fail
  clear q10 q11 q12 q13
  refine (ref03_Right y _ _ _ _ _ _ _ _ (E.out.arr 4 rfl)).mono ?_
  rintro e w2 ⟨rfl, hb⟩
  replace E := hid (E.out.up hb)
  clear hb
  by_cases c2 : rightS y = 0
  case neg =>
    have cb : (rightS y != 0) = true := by simpa using c2
    have hn := hid (amdE_r (x := x) (y := y) (Or.inr c2))
    have hv := hid (amdS_no (x := x) (y := y) (by rw [hn.out]; decide))
    replace c1 := hid c1
    replace c2 := hid c2
    go_wp2_with (refine wpl_store4 rfl (.tmp 4) (.tmp 24) rfl _ rfl rfl (E.out.hdr 2 rfl) ?_; intro V HV CV; replace E := hid (E.out.chg 2 rfl CV HV))
    exact bodyPost_ret (end_arr2 rfl HV rfl rfl) rfl (hR.out _ _ (RetAEC.zero hv.out hn.out E.out.ext))
  have cb2 : (rightS y != 0) = false := by simpa using c2
  have c : rightS x = 0 ∧ rightS y = 0 := ⟨c1, c2⟩
  clear c1 c2
  by_cases k : x.kind = 3
  case neg =>
    have kb : (x.kind != 3) = true := by simpa using k
    have hn := hid (amdE_k c.1 c.2 k)
    have hv := hid (amdS_no (x := x) (y := y) (by rw [hn.out]; decide))
    replace k := hid k
    replace c := hid c
    obtain ⟨q00, q01, q02, q03⟩ := (E.out.hdr 0 rfl).all
    go_wp2_with (refine wpl_store4 rfl (.tmp 4) (.tmp 28) rfl _ rfl rfl (E.out.hdr 2 rfl) ?_; intro V HV CV; replace E := hid (E.out.chg 2 rfl CV HV))
    exact bodyPost_ret (end_arr2 rfl HV rfl rfl) rfl (hR.out _ _ (RetAEC.zero hv.out hn.out E.out.ext))
  have kb : (x.kind != 3) = false := by simp [k]
  by_cases r : x.shape.length = 1
  case neg =>
    have rb : ((x.shape.length : Int) != 1) = true := bne_iff_ne.2 (by omega)
    have hn := hid (amdE_n c.1 c.2 k r)
    have hv := hid (amdS_no (x := x) (y := y) (by rw [hn.out]; decide))
    replace k := hid k
    replace c := hid c
    replace r := hid r
    obtain ⟨q00, q01, q02, q03⟩ := (E.out.hdr 0 rfl).all
    go_wp2_with (refine wpl_store4 rfl (.tmp 4) (.tmp 33) rfl _ rfl rfl (E.out.hdr 2 rfl) ?_; intro V HV CV; replace E := hid (E.out.chg 2 rfl CV HV))
    exact bodyPost_ret (end_arr2 rfl HV rfl rfl) rfl (hR.out _ _ (RetAEC.zero hv.out hn.out E.out.ext))
  have rb : ((x.shape.length : Int) != 1) = false := by simp [r]
  by_cases l : x.items.length = 2
  case neg =>
    have lb : ((x.items.length : Int) != 2) = true := bne_iff_ne.2 (by omega)
    have hn := hid (amdE_l c.1 c.2 k r l)
    have hv := hid (amdS_no (x := x) (y := y) (by rw [hn.out]; decide))
    replace k := hid k
    replace c := hid c
    replace r := hid r
    replace l := hid l
    obtain ⟨q00, q01, q02, q03⟩ := (E.out.hdr 0 rfl).all
    go_wp2_with (refine wpl_store4 rfl (.tmp 4) (.tmp 38) rfl _ rfl rfl (E.out.hdr 2 rfl) ?_; intro V HV CV; replace E := hid (E.out.chg 2 rfl CV HV))
    exact bodyPost_ret (end_arr2 rfl HV rfl rfl) rfl (hR.out _ _ (RetAEC.zero hv.out hn.out E.out.ext))
  have lb : ((x.items.length : Int) != 2) = false := by simp [l]
  have hEi := amdE_i c.1 c.2 k r l
  have hR0 := hid (fun j (hj : j < x.items.length) => ((right_iff.1 c.1).2.2.1 _ (List.getElem_mem hj)).1)
  have hSd : amdS x y = if amdE x y = 0 then agA (x.items.getD 1 .zero) y (amSrc (x.items.getD 0 .zero) (x.items.getD 1 .zero) y) else .zero := rfl
  have g0' : x.items.getD 0 .zero = x.items[0]'(by omega) := by simp [l]
  have g1' : x.items.getD 1 .zero = x.items[1]'(by omega) := by simp [l]
  have r0 := hR0.out 0 (by omega)
  have r1 := hR0.out 1 (by omega)
  rw [g0', g1'] at hEi hSd
  obtain ⟨b1, o1, sp, cp, np, mp, ip, jp, hia, _, _, e0, e1, e2, e3, hp⟩ := (E.out.arr 3 rfl).items.at (k := 0) (by omega)
  obtain ⟨b2, o2, sz, cz, nz, mz, iz, jz, hib, _, _, f0, f1, f2, f3, hz⟩ := (E.out.arr 3 rfl).items.at (k := 1) (by omega)
  rw [hia] at hib
  obtain ⟨hb2, ho2⟩ : b2 = b1 ∧ o2 = o1 := by simpa [eq_comm] using hib
  subst hb2 ho2
  generalize x.items[0]'(by omega) = p at e0 e1 e2 e3 hp hEi hSd r0
  generalize x.items[1]'(by omega) = z at f0 f1 f2 f3 hz hEi hSd r1
  simp only [Nat.zero_mul, Nat.add_zero] at e0 e1 e2 e3
  simp only [Nat.one_mul, Nat.add_assoc, Nat.reduceAdd] at f0 f1 f2 f3
  have hps := (shapeB_iff.1 (right_ok r0).2.1).1
  have hpn := hp.nums.1
  have hsY := (right_ok c.2).2.1
  have hry := hid c.2
  replace E := hid ((E.out.addArr hp (fun _ _ h => h)).addArr hz (fun _ _ h => h))
  clear hp hz hib hR0 g0' g1'
  (try simp only [List.cons_append, List.nil_append, List.set_cons_zero, List.set_cons_succ] at E)
  have t0 : (0 : Int) < (x.items.length : Int) := by omega
  have t1 : (1 : Int) < (x.items.length : Int) := by omega
  have t2 : 0 < x.items.length := by omega
  have t3 : 1 < x.items.length := by omega
  replace hia := hid hia
  replace hEi := hid hEi
  replace hSd := hid hSd
  replace r0 := hid r0
  replace r1 := hid r1
  replace k := hid k
  replace c := hid c
  replace r := hid r
  obtain ⟨q00, q01, q02, q03⟩ := (E.out.hdr 0 rfl).all
  rw [hia.out] at q03
  replace l := hid l
  go_upto_region 9 with (fail)
  have hwl := (E.out.lt 0 rfl).2
  go_cut [6, 7] (fun a b wc => ∃ pi pz, a = .pointer (some ⟨pi, 0, none⟩) ∧ b = .pointer (some ⟨pz, 0, none⟩) ∧ Env w S wc [.obj w.heap.size (.cells #[.int .i64 x.kind, .slice sx x.shape.length cx, .slice nx x.nums.length mx, .slice ix x.items.length jx] 26 (0, 0)), .obj (w.heap.size + 1) (.cells #[.int .i64 y.kind, .slice sy y.shape.length cy, .slice ny y.nums.length my, .slice iy y.items.length jy] 26 (0, 0)), .obj (w.heap.size + 1 + 1) (.cells #[.int .i64 0, .slice none 0 0, .slice none 0 0, .slice none 0 0] 26 (0, 0)), .arr x sx nx ix, .arr y sy ny iy, .arr p sp np ip, .arr z sz nz iz, .obj pi (.cells #[.int .i64 p.kind, .slice sp p.shape.length cp, .slice np p.nums.length mp, .slice ip p.items.length jp] 26 (0, 0)), .obj pz (.cells #[.int .i64 z.kind, .slice sz z.shape.length cz, .slice nz z.nums.length mz, .slice iz z.items.length jz] 26 (0, 0))])
  case first =>
    go_region_held3 (fun w' => w'.cell? ⟨w.heap.size, 3, none⟩ = some (.slice (some ⟨b2, o2, none⟩) x.items.length jx) ∧ w'.cell? ⟨b2, o2, none⟩ = some (.int .i64 p.kind) ∧ w'.cell? ⟨b2, o2 + 1, none⟩ = some (.slice sp p.shape.length cp) ∧ w'.cell? ⟨b2, o2 + 2, none⟩ = some (.slice np p.nums.length mp) ∧ w'.cell? ⟨b2, o2 + 3, none⟩ = some (.slice ip p.items.length jp) ∧ w'.cell? ⟨b2, o2 + 4, none⟩ = some (.int .i64 z.kind) ∧ w'.cell? ⟨b2, o2 + 5, none⟩ = some (.slice sz z.shape.length cz) ∧ w'.cell? ⟨b2, o2 + 6, none⟩ = some (.slice nz z.nums.length mz) ∧ w'.cell? ⟨b2, o2 + 7, none⟩ = some (.slice iz z.items.length jz)) (simp [go_sem, World.cell?_alloc_past, *]) (fail)
    · skip
      have E1 := ((E.out.alloc (.cells #[.int .i64 p.kind, .slice sp p.shape.length cp, .slice np p.nums.length mp, .slice ip p.items.length jp] 26)).alloc (.cells #[.int .i64 z.kind, .slice sz z.shape.length cz, .slice nz z.nums.length mz, .slice iz z.items.length jz] 26)).up (ext_drawn _)
      simp only [size_alloc', List.cons_append, List.nil_append] at E1
      go_wp2_with fail
      go_meet
      case rel => exact ⟨_, _, rfl, rfl, E1⟩
    · skip
      have E1 := (((E.out.alloc (.cells #[.int .i64 z.kind, .slice sz z.shape.length cz, .slice nz z.nums.length mz, .slice iz z.items.length jz] 26)).alloc (.cells #[.int .i64 p.kind, .slice sp p.shape.length cp, .slice np p.nums.length mp, .slice ip p.items.length jp] 26)).up (ext_drawn _))
      simp only [size_alloc', List.cons_append, List.nil_append] at E1
      have E2 := E1.perm ((((((((List.Perm.swap _ _ []).cons _).cons _).cons _).cons _).cons _).cons _).cons _)
      go_wp2_with fail
      go_meet
      case rel => exact ⟨_, _, rfl, rfl, E2⟩
  obtain ⟨pi, pz, rfl, rfl, E1⟩ := hcut
  clear E
  have E := hid E1
  clear E1 e0 e1 e2 e3 f0 f1 f2 f3 q00 q01 q02 q03 hwl t0 t1 t2 t3
  obtain ⟨w5, hq⟩ : ∃ q : World, q = wc := ⟨_, rfl⟩
  subst hq
  by_cases kp : p.kind = 1
  case neg =>
    have pb : (p.kind != 1) = true := by simpa using kp
    have hn := hid (hEi.out.trans (amE_k (Or.inl kp)))
    have hv := hid (amdS_no (x := x) (y := y) (by rw [hn.out]; decide))
    replace kp := hid kp
    obtain ⟨q70, q71, q72, q73⟩ := (E.out.hdr 7 rfl).all
    go_wp2_with (refine wpl_store4 rfl (.tmp 4) (.tmp 57) rfl _ rfl rfl (E.out.hdr 2 rfl) ?_; intro V HV CV; replace E := hid (E.out.chg 2 rfl CV HV))
    exact bodyPost_ret (end_arr2 rfl HV rfl rfl) rfl (hR.out _ _ (RetAEC.zero hv.out hn.out E.out.ext))
  have pb : (p.kind != 1) = false := by simp [kp]
  by_cases kz : z.kind = y.kind
  case neg =>
    have zb : (z.kind != y.kind) = true := by simpa using kz
    have hn := hid (hEi.out.trans (amE_k (Or.inr kz)))
    have hv := hid (amdS_no (x := x) (y := y) (by rw [hn.out]; decide))
    replace kz := hid kz
    replace kp := hid kp
    obtain ⟨q10, q11, q12, q13⟩ := (E.out.hdr 1 rfl).all
    obtain ⟨q70, q71, q72, q73⟩ := (E.out.hdr 7 rfl).all
    obtain ⟨q80, q81, q82, q83⟩ := (E.out.hdr 8 rfl).all
    go_wp2_with (refine wpl_store4 rfl (.tmp 4) (.tmp 57) rfl _ rfl rfl (E.out.hdr 2 rfl) ?_; intro V HV CV; replace E := hid (E.out.chg 2 rfl CV HV))
    exact bodyPost_ret (end_arr2 rfl HV rfl rfl) rfl (hR.out _ _ (RetAEC.zero hv.out hn.out E.out.ext))
  have zb : (z.kind != y.kind) = false := by simp [kz]
  have hkz := hid kz
  have hEo := hid (fun q => hEi.out.trans (amE_o (y := y) kp kz q))
  have hEb := hid (fun q b => hEi.out.trans (amE_b (y := y) kp kz q b))
  have hEg := hid (fun q b => hEi.out.trans (amE_g (y := y) kp kz q b))
  obtain ⟨cl, hcl⟩ : ∃ l, l = celL y := ⟨_, rfl⟩
  have hcl8 : cl.length ≤ 8 := by
    have := (shapeB_iff.1 hsY).1
    rw [hcl]; unfold celL; rw [List.length_drop]; omega
  have hsC : Hid (shapeB cl = true) := hid (by rw [hcl]; exact celL_ok hsY)
  obtain ⟨n, hn⟩ : ∃ n, n = celN y := ⟨_, rfl⟩
  have hcn : Hid (cnt cl = (n : Int)) := hid (by rw [hn, hcl]; exact (celN_eq hsY).symm)
  have hn6 : n ≤ 65536 := by rw [hn]; exact celN_le hsY
  have hnn : Hid (n = celN y) := hid hn
  replace hcl := hid hcl
  clear hn
  have hkp := hid kp
  replace kz := hid kz
  replace kp := hid kp
  obtain ⟨q10, q11, q12, q13⟩ := (E.out.hdr 1 rfl).all
  obtain ⟨q70, q71, q72, q73⟩ := (E.out.hdr 7 rfl).all
  obtain ⟨q80, q81, q82, q83⟩ := (E.out.hdr 8 rfl).all
  go_upto_region 12 with (fail)
  clear q10 q11 q12 q13 q70 q71 q72 q73 q80 q81 q82 q83
  obtain ⟨T, hT1, hT2, hT3⟩ := E.out.tw
  refine wp_region_mono_tail 5 (Sees w5 [(⟨pi, 0, none⟩, .int .i64 p.kind), (⟨pi, 1, none⟩, .slice sp p.shape.length cp), (⟨pi, 2, none⟩, .slice np p.nums.length mp), (⟨pi, 3, none⟩, .slice ip p.items.length jp), (⟨(w.heap.size+1), 0, none⟩, .int .i64 y.kind), (⟨(w.heap.size+1), 1, none⟩, .slice sy y.shape.length cy), (⟨(w.heap.size+1), 2, none⟩, .slice ny y.nums.length my), (⟨(w.heap.size+1), 3, none⟩, .slice iy y.items.length jy)]) [2, 4] (fun k v u u' => match k with | 2 => ∃ so sc, v = .slice so p.shape.length sc ∧ OwnI u' w5.heap.size so sc p.shape | 4 => ∃ so sc, v = .slice so cl.length sc ∧ IntsAt u' T so cl | _ => False) (fun _ _ h e => h.up e) (Sees.start (all_cons ((E.out.hdr 7 rfl).c0) (all_cons ((E.out.hdr 7 rfl).c1) (all_cons ((E.out.hdr 7 rfl).c2) (all_cons ((E.out.hdr 7 rfl).c3) (all_cons ((E.out.hdr 1 rfl).c0) (all_cons ((E.out.hdr 1 rfl).c1) (all_cons ((E.out.hdr 1 rfl).c2) (all_cons ((E.out.hdr 1 rfl).c3) (all_nil)))))))))) (by kernel_rfl) (by kernel_rfl) ?_
  simp only [List.take_succ_cons, List.take_zero, List.drop_succ_cons, List.drop_zero]
  repeat (first | (refine m_plain (v := ?_) (by rfl) (by rfl) ?_ ?_; rotate_left; (intro wz hSw; obtain ⟨-, hSc⟩ := hSw; (try simp only [List.forall_mem_cons, List.forall_mem_nil, and_true] at hSc); go_simp; (first | done | with_reducible rfl)); (intro K hK; (try simp only [Act.put, List.setIfInBounds_toArray, List.set_cons_zero, List.set_cons_succ]); refine hK _ _ ?_; clear hK K)) | (refine m_skip (by rfl) (by rfl) ?_; (intro K hK; (try simp only [Act.put, List.setIfInBounds_toArray, List.set_cons_zero, List.set_cons_succ]); refine hK _ _ ?_; clear hK K)))
  refine m_make (by rfl) (by rfl) ?_ ?_
  · intro wz hSw hdep R hRz
    obtain ⟨hSe, hSc⟩ := hSw
    (try simp only [List.forall_mem_cons, List.forall_mem_nil, and_true] at hSc)
    unfold does
    (obtain ⟨so, sc, w', hr, hO, hb⟩ := run_appE wz 23 w5.heap.size none (OwnI.nil _ _) T sp cp p.shape (ArrAt.shape (ArrAt.up (ArrAt.mono (fun b _ h => hT1 b h) _ (E.out.arr 5 rfl)) hSe)) (Below.size hSe); refine does_append (.const (.slice none 0 0)) (.tmp 59) rfl rfl rfl hr ?_; exact hRz.out _ _ ⟨hb, so, sc, rfl, hO⟩)
  intro v2 u2 x2 hG2 K hK
  have hF2 := hG2.fact
  (try dsimp only at hF2)
  obtain ⟨so2, sc2, rfl, hO2⟩ := hF2
  (try simp only [Act.put, List.setIfInBounds_toArray, List.set_cons_zero, List.set_cons_succ]); refine hK _ _ ?_; clear hK K
  repeat (first | (refine m_plain (v := ?_) (by rfl) (by rfl) ?_ ?_; rotate_left; (intro wz hSw; obtain ⟨-, hSc⟩ := hSw; (try simp only [List.forall_mem_cons, List.forall_mem_nil, and_true] at hSc); go_simp; (first | done | with_reducible rfl)); (intro K hK; (try simp only [Act.put, List.setIfInBounds_toArray, List.set_cons_zero, List.set_cons_succ]); refine hK _ _ ?_; clear hK K)) | (refine m_skip (by rfl) (by rfl) ?_; (intro K hK; (try simp only [Act.put, List.setIfInBounds_toArray, List.set_cons_zero, List.set_cons_succ]); refine hK _ _ ?_; clear hK K)))
  refine m_make (by rfl) (by rfl) ?_ ?_
  · intro wz hSw hdep R hRz
    obtain ⟨hSe, hSc⟩ := hSw
    (try simp only [List.forall_mem_cons, List.forall_mem_nil, and_true] at hSc)
    unfold does
    (go_simp; refine Calls.mono (ref23_CellN y _ _ _ _ _ _ cl hcl.out T wz (ArrAt.up (ArrAt.mono (fun b _ h => hT1 b h) _ (E.out.arr 4 rfl)) hSe) hcy.out) ?_; rintro e wq ⟨so, sc, rfl, hI, hb⟩; exact ⟨_, rfl, hRz.out _ _ ⟨hb, so, sc, rfl, hI⟩⟩)
  intro v4 u4 x4 hG4 K hK
  have hF4 := hG4.fact
  (try dsimp only at hF4)
  obtain ⟨so4, sc4, rfl, hI4⟩ := hF4
  (try simp only [Act.put, List.setIfInBounds_toArray, List.set_cons_zero, List.set_cons_succ]); refine hK _ _ ?_; clear hK K
  repeat (first | (refine m_plain (v := ?_) (by rfl) (by rfl) ?_ ?_; rotate_left; (intro wz hSw; obtain ⟨-, hSc⟩ := hSw; (try simp only [List.forall_mem_cons, List.forall_mem_nil, and_true] at hSc); go_simp; (first | done | with_reducible rfl)); (intro K hK; (try simp only [Act.put, List.setIfInBounds_toArray, List.set_cons_zero, List.set_cons_succ]); refine hK _ _ ?_; clear hK K)) | (refine m_skip (by rfl) (by rfl) ?_; (intro K hK; (try simp only [Act.put, List.setIfInBounds_toArray, List.set_cons_zero, List.set_cons_succ]); refine hK _ _ ?_; clear hK K)))
  refine m_nil ?_
  intro wf hSf hAf
  have hI5 := hid (hI4.up (hAf 4 _ rfl))
  replace E := hid (E.out.addRowI (OwnI.up hO2 (hAf 2 _ rfl)) hSf.1)
  (try simp only [List.cons_append, List.nil_append, List.set_cons_zero, List.set_cons_succ] at E)
  clear hSf hAf hG2 hG4 hI4 hO2 hT1 hT2 hT3
  refine wplE_appI E.out 9 rfl (by rfl) (.tmp 60) (.tmp 62) (by rfl) (by rfl) _ _ _ cl (by rfl) hI5.out (by omega) ?_
  intro V2 a2 k2 E1
  clear E hI5
  obtain ⟨sh, hsh⟩ : ∃ s, s = p.shape ++ cl := ⟨_, rfl⟩
  have hshl : sh.length ≤ 16 := by rw [hsh, List.length_append]; omega
  rw [← hsh] at E1 ⊢
  replace hsh := hid hsh
  have E := hid (E1.doneI 9 rfl (by omega))
  clear E1
  (try simp only [List.cons_append, List.nil_append, List.set_cons_zero, List.set_cons_succ] at E)
  obtain ⟨q10, q11, q12, q13⟩ := (E.out.hdr 1 rfl).all
  go_wp2_with fail
  clear q10 q11 q12 q13
  refine (ref23_CellN y _ _ _ _ _ _ cl hcl.out _ _ (E.out.arr 4 rfl) hcy.out).mono ?_
  rintro e w7 ⟨so, sc, rfl, hI, hb⟩
  replace E := hid ((E.out.up hb).addInts hI (fun _ _ h => h))
  clear hI hb
  (try simp only [List.cons_append, List.nil_append, List.set_cons_zero, List.set_cons_succ] at E)
  go_wp2_with fail
  refine (ref03_Count cl _ _ _ _ (E.out.ints 10 rfl)).mono ?_
  rintro e w8 ⟨rfl, rfl⟩
  rw [cntC_eq hsC.out, hcn.out]
  obtain ⟨M, hM⟩ : ∃ M, M = amM p z y := ⟨_, rfl⟩
  obtain ⟨st, hst⟩ : ∃ st : Int, st = if amO p z y = true then ((stpA M n : Nat) : Int) else -1 := ⟨_, rfl⟩
  have hMD : M = if z.shape = sh then 0 else if z.shape = cl then 1 else 2 := by rw [hM, hsh.out, hcl.out]; rfl
  have hOD : amO p z y = if M = 2 then decide (z.shape.length = 0) else true := by rw [hM]; rfl
  have hs0 : Hid (z.shape = sh → st = (n : Int)) := hid fun q => by
    rw [if_pos q] at hMD
    rw [hst, hOD, hMD]; rfl
  have hs1 : Hid (z.shape ≠ sh → z.shape = cl → st = 0) := hid fun q q1 => by
    rw [if_neg q, if_pos q1] at hMD
    rw [hst, hOD, hMD]; rfl
  have hs2 : Hid (z.shape ≠ sh → z.shape ≠ cl → st = if z.shape.length = 0 then 0 else -1) := hid fun q q1 => by
    rw [if_neg q, if_neg q1] at hMD
    rw [hst, hOD, hMD]
    by_cases e : z.shape.length = 0
    · simp [e, stpA]
    · simp [e]
  replace hMD := hid hMD
  replace hOD := hid hOD
  replace hst := hid hst
  replace hM := hid hM
  obtain ⟨q80, q81, q82, q83⟩ := (E.out.hdr 8 rfl).all
  go_wp2_with fail
  clear q80 q81 q82 q83
  refine (ref03_Shapes z.shape sh _ _ _ _ _ _ _ (E.out.arr 6 rfl).shape (E.out.ints 9 rfl)).mono ?_
  rintro e w9 ⟨rfl, n9, rfl⟩
  replace E := hid (E.out.up (ext_drewN w7 n9))
  generalize w7.drewN n9 = w9 at E ⊢
  obtain ⟨bA, hbA⟩ : ∃ b, b = eqI z.shape sh := ⟨_, rfl⟩
  rw [← hbA]
  replace hbA := hid hbA
  go_upto_if 70 with (fail)
  go_cut [10] (fun v wc => v = .int .i64 st ∧ Env w S wc [.obj w.heap.size (.cells #[.int .i64 x.kind, .slice sx x.shape.length cx, .slice nx x.nums.length mx, .slice ix x.items.length jx] 26 (0, 0)), .obj (w.heap.size + 1) (.cells #[.int .i64 y.kind, .slice sy y.shape.length cy, .slice ny y.nums.length my, .slice iy y.items.length jy] 26 (0, 0)), .obj (w.heap.size + 1 + 1) (.cells #[.int .i64 0, .slice none 0 0, .slice none 0 0, .slice none 0 0] 26 (0, 0)), .arr x sx nx ix, .arr y sy ny iy, .arr p sp np ip, .arr z sz nz iz, .obj pi (.cells #[.int .i64 p.kind, .slice sp p.shape.length cp, .slice np p.nums.length mp, .slice ip p.items.length jp] 26 (0, 0)), .obj pz (.cells #[.int .i64 z.kind, .slice sz z.shape.length cz, .slice nz z.nums.length mz, .slice iz z.items.length jz] 26 (0, 0)), .ints sh a2, .ints cl so])
  case first =>
    cases bA with
    | true =>
      have mA : z.shape = sh := eqI_true hbA.out.symm
      have hs := hid (hs0.out mA)
      replace mA := hid mA
      clear hbA
      go_wp2_with fail
      go_meet
      case rel => exact ⟨by rw [hs.out], E.out⟩
    | false =>
      have mA : z.shape ≠ sh := fun q => by have h9 := hbA.out; unfold eqI at h9; rw [decide_eq_true q] at h9; cases h9
      have hs := hid (hs1.out mA)
      have hs' := hid (hs2.out mA)
      replace mA := hid mA
      clear hbA
      go_upto_region 17 with (fail)
      by_cases mB : z.shape = cl
      case pos =>
        have heb : Hid (eqI z.shape cl = true) := hid (by unfold eqI; exact decide_eq_true mB)
        replace hs := hid (hs.out mB)
        replace mB := hid mB
        obtain ⟨T, hT1, hT2, hT3⟩ := E.out.tw
        refine wp_region_mono (Sees w9 [(⟨pz, 0, none⟩, .int .i64 z.kind), (⟨pz, 1, none⟩, .slice sz z.shape.length cz), (⟨pz, 2, none⟩, .slice nz z.nums.length mz), (⟨pz, 3, none⟩, .slice iz z.items.length jz), (⟨(w.heap.size+1), 0, none⟩, .int .i64 y.kind), (⟨(w.heap.size+1), 1, none⟩, .slice sy y.shape.length cy), (⟨(w.heap.size+1), 2, none⟩, .slice ny y.nums.length my), (⟨(w.heap.size+1), 3, none⟩, .slice iy y.items.length jy)]) [3, 4] (fun k v u u' => match k with | 3 => ∃ so sc, v = .slice so (cl).length sc ∧ IntsAt u' T so (cl) | 4 => v = .bool true | _ => False) (fun _ _ h e => h.up e) (Sees.start (all_cons ((E.out.hdr 8 rfl).c0) (all_cons ((E.out.hdr 8 rfl).c1) (all_cons ((E.out.hdr 8 rfl).c2) (all_cons ((E.out.hdr 8 rfl).c3) (all_cons ((E.out.hdr 1 rfl).c0) (all_cons ((E.out.hdr 1 rfl).c1) (all_cons ((E.out.hdr 1 rfl).c2) (all_cons ((E.out.hdr 1 rfl).c3) (all_nil)))))))))) (by kernel_rfl) (by kernel_rfl) ?_
        repeat (first | (refine m_plain (v := ?_) (by rfl) (by rfl) ?_ ?_; rotate_left; (intro wz hSw; obtain ⟨-, hSc⟩ := hSw; (try simp only [List.forall_mem_cons, List.forall_mem_nil, and_true] at hSc); go_simp; (first | done | with_reducible rfl)); (intro K hK; (try simp only [Act.put, List.setIfInBounds_toArray, List.set_cons_zero, List.set_cons_succ]); refine hK _ _ ?_; clear hK K)) | (refine m_skip (by rfl) (by rfl) ?_; (intro K hK; (try simp only [Act.put, List.setIfInBounds_toArray, List.set_cons_zero, List.set_cons_succ]); refine hK _ _ ?_; clear hK K)))
        refine m_make (by rfl) (by rfl) ?_ ?_
        · intro wz hSw hdep R hRz
          obtain ⟨hSe, hSc⟩ := hSw
          (try simp only [List.forall_mem_cons, List.forall_mem_nil, and_true] at hSc)
          unfold does
          (go_simp; refine Calls.mono (ref23_CellN y _ _ _ _ _ _ cl hcl.out _ wz (ArrAt.up (ArrAt.mono (fun b _ h => hT1 b h) _ (E.out.arr 4 rfl)) hSe) hcy.out) ?_; rintro e wq ⟨so, sc, rfl, hI, hb⟩; exact ⟨_, rfl, hRz.out _ _ ⟨hb, so, sc, rfl, hI⟩⟩)
        intro v3 u3 x3 hG3 K hK
        have hF3 := hG3.fact
        (try dsimp only at hF3)
        obtain ⟨s3, c3, rfl, hI3⟩ := hF3
        (try simp only [Act.put, List.setIfInBounds_toArray, List.set_cons_zero, List.set_cons_succ]); refine hK _ _ ?_; clear hK K
        repeat (first | (refine m_plain (v := ?_) (by rfl) (by rfl) ?_ ?_; rotate_left; (intro wz hSw; obtain ⟨-, hSc⟩ := hSw; (try simp only [List.forall_mem_cons, List.forall_mem_nil, and_true] at hSc); go_simp; (first | done | with_reducible rfl)); (intro K hK; (try simp only [Act.put, List.setIfInBounds_toArray, List.set_cons_zero, List.set_cons_succ]); refine hK _ _ ?_; clear hK K)) | (refine m_skip (by rfl) (by rfl) ?_; (intro K hK; (try simp only [Act.put, List.setIfInBounds_toArray, List.set_cons_zero, List.set_cons_succ]); refine hK _ _ ?_; clear hK K)))
        refine m_make (by rfl) (by rfl) ?_ ?_
        · intro wz hSw hdep R hRz
          obtain ⟨hSe, hSc⟩ := hSw
          (try simp only [List.forall_mem_cons, List.forall_mem_nil, and_true] at hSc)
          unfold does
          (go_simp; refine Calls.mono (ref03_Shapes z.shape cl _ _ _ _ _ _ wz (ArrAt.shape (ArrAt.up (ArrAt.mono (fun b _ h => hT1 b h) _ (E.out.arr 6 rfl)) hSe)) (hI3.up (hdep 3 _ rfl (depB_sound (f := 4) (by kernel_rfl))))) ?_; rintro e wq ⟨rfl, n, rfl⟩; rw [heb.out]; exact ⟨_, rfl, hRz.out _ _ ⟨ext_drewN _ _, rfl⟩⟩)
        intro v4 u4 x4 hG4 K hK
        have hF4 := hG4.fact
        (try dsimp only at hF4)
        subst hF4
        (try simp only [Act.put, List.setIfInBounds_toArray, List.set_cons_zero, List.set_cons_succ]); refine hK _ _ ?_; clear hK K
        repeat (first | (refine m_plain (v := ?_) (by rfl) (by rfl) ?_ ?_; rotate_left; (intro wz hSw; obtain ⟨-, hSc⟩ := hSw; (try simp only [List.forall_mem_cons, List.forall_mem_nil, and_true] at hSc); go_simp; (first | done | with_reducible rfl)); (intro K hK; (try simp only [Act.put, List.setIfInBounds_toArray, List.set_cons_zero, List.set_cons_succ]); refine hK _ _ ?_; clear hK K)) | (refine m_skip (by rfl) (by rfl) ?_; (intro K hK; (try simp only [Act.put, List.setIfInBounds_toArray, List.set_cons_zero, List.set_cons_succ]); refine hK _ _ ?_; clear hK K)))
        refine m_nil ?_
        intro wf hSf hAf
        replace E := hid (E.out.up hSf.1)
        clear hSf hAf hG3 hG4 hI3 hT1 hT2 hT3
        go_wp2_with fail
        go_meet
        case rel => exact ⟨by rw [hs.out], E.out⟩
      case neg =>
        have heb : Hid (eqI z.shape cl = false) := hid (by unfold eqI; exact decide_eq_false mB)
        replace hs' := hid (hs'.out mB)
        replace mB := hid mB
        by_cases e0 : z.shape.length = 0
        case pos =>
          have eb : ((z.shape.length : Int) == 0) = true := by simpa using e0
          replace hs' := hid (hs'.out.trans (if_pos e0))
          replace e0 := hid e0
          obtain ⟨T, hT1, hT2, hT3⟩ := E.out.tw
          refine wp_region_mono (Sees w9 [(⟨pz, 0, none⟩, .int .i64 z.kind), (⟨pz, 1, none⟩, .slice sz z.shape.length cz), (⟨pz, 2, none⟩, .slice nz z.nums.length mz), (⟨pz, 3, none⟩, .slice iz z.items.length jz), (⟨(w.heap.size+1), 0, none⟩, .int .i64 y.kind), (⟨(w.heap.size+1), 1, none⟩, .slice sy y.shape.length cy), (⟨(w.heap.size+1), 2, none⟩, .slice ny y.nums.length my), (⟨(w.heap.size+1), 3, none⟩, .slice iy y.items.length jy)]) [3, 4] (fun k v u u' => match k with | 3 => ∃ so sc, v = .slice so (cl).length sc ∧ IntsAt u' T so (cl) | 4 => v = .bool false | _ => False) (fun _ _ h e => h.up e) (Sees.start (all_cons ((E.out.hdr 8 rfl).c0) (all_cons ((E.out.hdr 8 rfl).c1) (all_cons ((E.out.hdr 8 rfl).c2) (all_cons ((E.out.hdr 8 rfl).c3) (all_cons ((E.out.hdr 1 rfl).c0) (all_cons ((E.out.hdr 1 rfl).c1) (all_cons ((E.out.hdr 1 rfl).c2) (all_cons ((E.out.hdr 1 rfl).c3) (all_nil)))))))))) (by kernel_rfl) (by kernel_rfl) ?_
          repeat (first | (refine m_plain (v := ?_) (by rfl) (by rfl) ?_ ?_; rotate_left; (intro wz hSw; obtain ⟨-, hSc⟩ := hSw; (try simp only [List.forall_mem_cons, List.forall_mem_nil, and_true] at hSc); go_simp; (first | done | with_reducible rfl)); (intro K hK; (try simp only [Act.put, List.setIfInBounds_toArray, List.set_cons_zero, List.set_cons_succ]); refine hK _ _ ?_; clear hK K)) | (refine m_skip (by rfl) (by rfl) ?_; (intro K hK; (try simp only [Act.put, List.setIfInBounds_toArray, List.set_cons_zero, List.set_cons_succ]); refine hK _ _ ?_; clear hK K)))
          refine m_make (by rfl) (by rfl) ?_ ?_
          · intro wz hSw hdep R hRz
            obtain ⟨hSe, hSc⟩ := hSw
            (try simp only [List.forall_mem_cons, List.forall_mem_nil, and_true] at hSc)
            unfold does
            (go_simp; refine Calls.mono (ref23_CellN y _ _ _ _ _ _ cl hcl.out _ wz (ArrAt.up (ArrAt.mono (fun b _ h => hT1 b h) _ (E.out.arr 4 rfl)) hSe) hcy.out) ?_; rintro e wq ⟨so, sc, rfl, hI, hb⟩; exact ⟨_, rfl, hRz.out _ _ ⟨hb, so, sc, rfl, hI⟩⟩)
          intro v3 u3 x3 hG3 K hK
          have hF3 := hG3.fact
          (try dsimp only at hF3)
          obtain ⟨s3, c3, rfl, hI3⟩ := hF3
          (try simp only [Act.put, List.setIfInBounds_toArray, List.set_cons_zero, List.set_cons_succ]); refine hK _ _ ?_; clear hK K
          repeat (first | (refine m_plain (v := ?_) (by rfl) (by rfl) ?_ ?_; rotate_left; (intro wz hSw; obtain ⟨-, hSc⟩ := hSw; (try simp only [List.forall_mem_cons, List.forall_mem_nil, and_true] at hSc); go_simp; (first | done | with_reducible rfl)); (intro K hK; (try simp only [Act.put, List.setIfInBounds_toArray, List.set_cons_zero, List.set_cons_succ]); refine hK _ _ ?_; clear hK K)) | (refine m_skip (by rfl) (by rfl) ?_; (intro K hK; (try simp only [Act.put, List.setIfInBounds_toArray, List.set_cons_zero, List.set_cons_succ]); refine hK _ _ ?_; clear hK K)))
          refine m_make (by rfl) (by rfl) ?_ ?_
          · intro wz hSw hdep R hRz
            obtain ⟨hSe, hSc⟩ := hSw
            (try simp only [List.forall_mem_cons, List.forall_mem_nil, and_true] at hSc)
            unfold does
            (go_simp; refine Calls.mono (ref03_Shapes z.shape cl _ _ _ _ _ _ wz (ArrAt.shape (ArrAt.up (ArrAt.mono (fun b _ h => hT1 b h) _ (E.out.arr 6 rfl)) hSe)) (hI3.up (hdep 3 _ rfl (depB_sound (f := 4) (by kernel_rfl))))) ?_; rintro e wq ⟨rfl, n, rfl⟩; rw [heb.out]; exact ⟨_, rfl, hRz.out _ _ ⟨ext_drewN _ _, rfl⟩⟩)
          intro v4 u4 x4 hG4 K hK
          have hF4 := hG4.fact
          (try dsimp only at hF4)
          subst hF4
          (try simp only [Act.put, List.setIfInBounds_toArray, List.set_cons_zero, List.set_cons_succ]); refine hK _ _ ?_; clear hK K
          repeat (first | (refine m_plain (v := ?_) (by rfl) (by rfl) ?_ ?_; rotate_left; (intro wz hSw; obtain ⟨-, hSc⟩ := hSw; (try simp only [List.forall_mem_cons, List.forall_mem_nil, and_true] at hSc); go_simp; (first | done | with_reducible rfl)); (intro K hK; (try simp only [Act.put, List.setIfInBounds_toArray, List.set_cons_zero, List.set_cons_succ]); refine hK _ _ ?_; clear hK K)) | (refine m_skip (by rfl) (by rfl) ?_; (intro K hK; (try simp only [Act.put, List.setIfInBounds_toArray, List.set_cons_zero, List.set_cons_succ]); refine hK _ _ ?_; clear hK K)))
          refine m_nil ?_
          intro wf hSf hAf
          replace E := hid (E.out.up hSf.1)
          clear hSf hAf hG3 hG4 hI3 hT1 hT2 hT3
          go_wp2_with fail
          go_meet
          case rel => exact ⟨by rw [hs'.out], E.out⟩
        case neg =>
          have eb : ((z.shape.length : Int) == 0) = false := by simpa using e0
          replace hs' := hid (hs'.out.trans (if_neg e0))
          replace e0 := hid e0
          obtain ⟨T, hT1, hT2, hT3⟩ := E.out.tw
          refine wp_region_mono (Sees w9 [(⟨pz, 0, none⟩, .int .i64 z.kind), (⟨pz, 1, none⟩, .slice sz z.shape.length cz), (⟨pz, 2, none⟩, .slice nz z.nums.length mz), (⟨pz, 3, none⟩, .slice iz z.items.length jz), (⟨(w.heap.size+1), 0, none⟩, .int .i64 y.kind), (⟨(w.heap.size+1), 1, none⟩, .slice sy y.shape.length cy), (⟨(w.heap.size+1), 2, none⟩, .slice ny y.nums.length my), (⟨(w.heap.size+1), 3, none⟩, .slice iy y.items.length jy)]) [3, 4] (fun k v u u' => match k with | 3 => ∃ so sc, v = .slice so (cl).length sc ∧ IntsAt u' T so (cl) | 4 => v = .bool false | _ => False) (fun _ _ h e => h.up e) (Sees.start (all_cons ((E.out.hdr 8 rfl).c0) (all_cons ((E.out.hdr 8 rfl).c1) (all_cons ((E.out.hdr 8 rfl).c2) (all_cons ((E.out.hdr 8 rfl).c3) (all_cons ((E.out.hdr 1 rfl).c0) (all_cons ((E.out.hdr 1 rfl).c1) (all_cons ((E.out.hdr 1 rfl).c2) (all_cons ((E.out.hdr 1 rfl).c3) (all_nil)))))))))) (by kernel_rfl) (by kernel_rfl) ?_
          repeat (first | (refine m_plain (v := ?_) (by rfl) (by rfl) ?_ ?_; rotate_left; (intro wz hSw; obtain ⟨-, hSc⟩ := hSw; (try simp only [List.forall_mem_cons, List.forall_mem_nil, and_true] at hSc); go_simp; (first | done | with_reducible rfl)); (intro K hK; (try simp only [Act.put, List.setIfInBounds_toArray, List.set_cons_zero, List.set_cons_succ]); refine hK _ _ ?_; clear hK K)) | (refine m_skip (by rfl) (by rfl) ?_; (intro K hK; (try simp only [Act.put, List.setIfInBounds_toArray, List.set_cons_zero, List.set_cons_succ]); refine hK _ _ ?_; clear hK K)))
          refine m_make (by rfl) (by rfl) ?_ ?_
          · intro wz hSw hdep R hRz
            obtain ⟨hSe, hSc⟩ := hSw
            (try simp only [List.forall_mem_cons, List.forall_mem_nil, and_true] at hSc)
            unfold does
            (go_simp; refine Calls.mono (ref23_CellN y _ _ _ _ _ _ cl hcl.out _ wz (ArrAt.up (ArrAt.mono (fun b _ h => hT1 b h) _ (E.out.arr 4 rfl)) hSe) hcy.out) ?_; rintro e wq ⟨so, sc, rfl, hI, hb⟩; exact ⟨_, rfl, hRz.out _ _ ⟨hb, so, sc, rfl, hI⟩⟩)
          intro v3 u3 x3 hG3 K hK
          have hF3 := hG3.fact
          (try dsimp only at hF3)
          obtain ⟨s3, c3, rfl, hI3⟩ := hF3
          (try simp only [Act.put, List.setIfInBounds_toArray, List.set_cons_zero, List.set_cons_succ]); refine hK _ _ ?_; clear hK K
          repeat (first | (refine m_plain (v := ?_) (by rfl) (by rfl) ?_ ?_; rotate_left; (intro wz hSw; obtain ⟨-, hSc⟩ := hSw; (try simp only [List.forall_mem_cons, List.forall_mem_nil, and_true] at hSc); go_simp; (first | done | with_reducible rfl)); (intro K hK; (try simp only [Act.put, List.setIfInBounds_toArray, List.set_cons_zero, List.set_cons_succ]); refine hK _ _ ?_; clear hK K)) | (refine m_skip (by rfl) (by rfl) ?_; (intro K hK; (try simp only [Act.put, List.setIfInBounds_toArray, List.set_cons_zero, List.set_cons_succ]); refine hK _ _ ?_; clear hK K)))
          refine m_make (by rfl) (by rfl) ?_ ?_
          · intro wz hSw hdep R hRz
            obtain ⟨hSe, hSc⟩ := hSw
            (try simp only [List.forall_mem_cons, List.forall_mem_nil, and_true] at hSc)
            unfold does
            (go_simp; refine Calls.mono (ref03_Shapes z.shape cl _ _ _ _ _ _ wz (ArrAt.shape (ArrAt.up (ArrAt.mono (fun b _ h => hT1 b h) _ (E.out.arr 6 rfl)) hSe)) (hI3.up (hdep 3 _ rfl (depB_sound (f := 4) (by kernel_rfl))))) ?_; rintro e wq ⟨rfl, n, rfl⟩; rw [heb.out]; exact ⟨_, rfl, hRz.out _ _ ⟨ext_drewN _ _, rfl⟩⟩)
          intro v4 u4 x4 hG4 K hK
          have hF4 := hG4.fact
          (try dsimp only at hF4)
          subst hF4
          (try simp only [Act.put, List.setIfInBounds_toArray, List.set_cons_zero, List.set_cons_succ]); refine hK _ _ ?_; clear hK K
          repeat (first | (refine m_plain (v := ?_) (by rfl) (by rfl) ?_ ?_; rotate_left; (intro wz hSw; obtain ⟨-, hSc⟩ := hSw; (try simp only [List.forall_mem_cons, List.forall_mem_nil, and_true] at hSc); go_simp; (first | done | with_reducible rfl)); (intro K hK; (try simp only [Act.put, List.setIfInBounds_toArray, List.set_cons_zero, List.set_cons_succ]); refine hK _ _ ?_; clear hK K)) | (refine m_skip (by rfl) (by rfl) ?_; (intro K hK; (try simp only [Act.put, List.setIfInBounds_toArray, List.set_cons_zero, List.set_cons_succ]); refine hK _ _ ?_; clear hK K)))
          refine m_nil ?_
          intro wf hSf hAf
          replace E := hid (E.out.up hSf.1)
          clear hSf hAf hG3 hG4 hI3 hT1 hT2 hT3
          go_wp2_with fail
          go_meet
          case rel => exact ⟨by rw [hs'.out], E.out⟩
  case rest =>
  clear E
  obtain ⟨rfl, E1⟩ := hcut
  have E := hid E1
  clear E1 hs0 hs1 hs2 hbA
  obtain ⟨w10, hq⟩ : ∃ q : World, q = wc := ⟨_, rfl⟩
  subst hq
  cases ok : amO p z y with
  | false =>
    have hs : st = -1 := by rw [hst.out, ok]; rfl
    have hn := hid (hEo.out ok)
    have hv := hid (amdS_no (x := x) (y := y) (by rw [hn.out]; decide))
    subst hs
    replace ok := hid ok
    go_wp2_with (refine wpl_store4 rfl (.tmp 4) (.tmp 85) rfl _ rfl rfl (E.out.hdr 2 rfl) ?_; intro V HV CV; replace E := hid (E.out.chg 2 rfl CV HV))
    exact bodyPost_ret (end_arr2 rfl HV rfl rfl) rfl (hR.out _ _ (RetAEC.zero hv.out hn.out E.out.ext))
  | true =>
  obtain ⟨sn, hsn⟩ : ∃ s, s = stpA M n := ⟨_, rfl⟩
  have hs : st = (sn : Int) := by rw [hst.out, ok, hsn]; rfl
  subst hs
  have hok := hid ok
  replace ok := hid ok
  replace hsn := hid hsn
  have sn0 : ¬ (sn : Int) < 0 := by omega
  obtain ⟨td, htd⟩ : ∃ t, t = talN y := ⟨_, rfl⟩
  replace htd := hid htd
  go_upto_region 21 with (fail)
  obtain ⟨T, hT1, hT2, hT3⟩ := E.out.tw
  refine wp_region_mono (Sees w10 [(⟨pi, 0, none⟩, .int .i64 p.kind), (⟨pi, 1, none⟩, .slice sp p.shape.length cp), (⟨pi, 2, none⟩, .slice np p.nums.length mp), (⟨pi, 3, none⟩, .slice ip p.items.length jp), (⟨(w.heap.size+1), 0, none⟩, .int .i64 y.kind), (⟨(w.heap.size+1), 1, none⟩, .slice sy y.shape.length cy), (⟨(w.heap.size+1), 2, none⟩, .slice ny y.nums.length my), (⟨(w.heap.size+1), 3, none⟩, .slice iy y.items.length jy)]) [2, 3] (fun k v u u' => match k with | 2 => v = .int .i64 td | 3 => v = .bool (!p.nums.any (outB td)) | _ => False) (fun _ _ h e => h.up e) (Sees.start (all_cons ((E.out.hdr 7 rfl).c0) (all_cons ((E.out.hdr 7 rfl).c1) (all_cons ((E.out.hdr 7 rfl).c2) (all_cons ((E.out.hdr 7 rfl).c3) (all_cons ((E.out.hdr 1 rfl).c0) (all_cons ((E.out.hdr 1 rfl).c1) (all_cons ((E.out.hdr 1 rfl).c2) (all_cons ((E.out.hdr 1 rfl).c3) (all_nil)))))))))) (by kernel_rfl) (by kernel_rfl) ?_
  repeat (first | (refine m_plain (v := ?_) (by rfl) (by rfl) ?_ ?_; rotate_left; (intro wz hSw; obtain ⟨-, hSc⟩ := hSw; (try simp only [List.forall_mem_cons, List.forall_mem_nil, and_true] at hSc); go_simp; (first | done | with_reducible rfl)); (intro K hK; (try simp only [Act.put, List.setIfInBounds_toArray, List.set_cons_zero, List.set_cons_succ]); refine hK _ _ ?_; clear hK K)) | (refine m_skip (by rfl) (by rfl) ?_; (intro K hK; (try simp only [Act.put, List.setIfInBounds_toArray, List.set_cons_zero, List.set_cons_succ]); refine hK _ _ ?_; clear hK K)))
  refine m_make (by rfl) (by rfl) ?_ ?_
  · intro wz hSw hdep R hRz
    obtain ⟨hSe, hSc⟩ := hSw
    (try simp only [List.forall_mem_cons, List.forall_mem_nil, and_true] at hSc)
    unfold does
    (go_simp; refine Calls.mono (ref23_Tally y _ _ _ _ _ _ _ wz (ArrAt.up (ArrAt.mono (fun b _ h => hT1 b h) _ (E.out.arr 4 rfl)) hSe)) ?_; rintro e wq ⟨rfl, hqb⟩; rw [← htd.out]; exact ⟨_, rfl, hRz.out _ _ ⟨hqb, rfl⟩⟩)
  intro v2 u2 x2 hG2 K hK
  have hF2 := hG2.fact
  (try dsimp only at hF2)
  subst hF2
  (try simp only [Act.put, List.setIfInBounds_toArray, List.set_cons_zero, List.set_cons_succ]); refine hK _ _ ?_; clear hK K
  repeat (first | (refine m_plain (v := ?_) (by rfl) (by rfl) ?_ ?_; rotate_left; (intro wz hSw; obtain ⟨-, hSc⟩ := hSw; (try simp only [List.forall_mem_cons, List.forall_mem_nil, and_true] at hSc); go_simp; (first | done | with_reducible rfl)); (intro K hK; (try simp only [Act.put, List.setIfInBounds_toArray, List.set_cons_zero, List.set_cons_succ]); refine hK _ _ ?_; clear hK K)) | (refine m_skip (by rfl) (by rfl) ?_; (intro K hK; (try simp only [Act.put, List.setIfInBounds_toArray, List.set_cons_zero, List.set_cons_succ]); refine hK _ _ ?_; clear hK K)))
  refine m_make (by rfl) (by rfl) ?_ ?_
  · intro wz hSw hdep R hRz
    obtain ⟨hSe, hSc⟩ := hSw
    (try simp only [List.forall_mem_cons, List.forall_mem_nil, and_true] at hSc)
    unfold does
    (go_simp; refine Calls.mono (ref23_fits p _ _ _ _ _ _ td _ wz (ArrAt.up (ArrAt.mono (fun b _ h => hT1 b h) _ (E.out.arr 5 rfl)) hSe)) ?_; rintro e wq ⟨rfl, hqb⟩; exact ⟨_, rfl, hRz.out _ _ ⟨hqb, rfl⟩⟩)
  intro v3 u3 x3 hG3 K hK
  have hF3 := hG3.fact
  (try dsimp only at hF3)
  subst hF3
  (try simp only [Act.put, List.setIfInBounds_toArray, List.set_cons_zero, List.set_cons_succ]); refine hK _ _ ?_; clear hK K
  repeat (first | (refine m_plain (v := ?_) (by rfl) (by rfl) ?_ ?_; rotate_left; (intro wz hSw; obtain ⟨-, hSc⟩ := hSw; (try simp only [List.forall_mem_cons, List.forall_mem_nil, and_true] at hSc); go_simp; (first | done | with_reducible rfl)); (intro K hK; (try simp only [Act.put, List.setIfInBounds_toArray, List.set_cons_zero, List.set_cons_succ]); refine hK _ _ ?_; clear hK K)) | (refine m_skip (by rfl) (by rfl) ?_; (intro K hK; (try simp only [Act.put, List.setIfInBounds_toArray, List.set_cons_zero, List.set_cons_succ]); refine hK _ _ ?_; clear hK K)))
  refine m_nil ?_
  intro wf hSf hAf
  replace E := hid (E.out.up hSf.1)
  clear hSf hAf hG2 hG3 hT1 hT2 hT3
  cases hbB : p.nums.any (outB td) with
  | true =>
    have hn := hid (hEb.out hok.out (by rw [← htd.out]; exact hbB))
    have hv := hid (amdS_no (x := x) (y := y) (by rw [hn.out]; decide))
    replace hbB := hid hbB
    go_wp2_with (refine wpl_store4 rfl (.tmp 4) (.tmp 91) rfl _ rfl rfl (E.out.hdr 2 rfl) ?_; intro V HV CV; replace E := hid (E.out.chg 2 rfl CV HV))
    exact bodyPost_ret (end_arr2 rfl HV rfl rfl) rfl (hR.out _ _ (RetAEC.zero hv.out hn.out E.out.ext))
  | false =>
  have hEa := hid (hEg.out hok.out (by rw [← htd.out]; exact hbB))
  have hSa : Hid (amdS x y = agS z y (amSrc p z y)) := hid (by rw [hSd.out]; unfold agS; rw [hEa.out])
  obtain ⟨N, hNd⟩ : ∃ N, N = szA y := ⟨_, rfl⟩
  have hNN : Hid (N = szA y) := hid hNd
  have hnv : Hid (∀ m, m < p.nums.length → ∃ vv : Nat, p.nums.getD m 0 = (vv : Int) ∧ ∀ j, j < n → vv * n + j < N) := hid fun m hm => by
    obtain ⟨q0, q1⟩ := outB_no (any_no hbB (getD_mem hm))
    obtain ⟨vv, hvv⟩ : ∃ vv : Nat, p.nums.getD m 0 = (vv : Int) := ⟨(p.nums.getD m 0).toNat, by omega⟩
    refine ⟨vv, hvv, fun j hj => ?_⟩
    rw [hNd, sz_tal hry.out, ← hnn.out]
    rw [htd.out, ← tal_nn hsY] at q1
    exact cell_lt (by omega) hj
  replace hbB := hid hbB
  clear hEb hEg hEo
  have hN6 : N ≤ 65536 := by rw [hNd]; exact szA_le hry.out
  have hz6 := szA_le r1.out
  have hsp : Hid (∀ m, m < p.nums.length → ∀ j, j < n → ofM M n m j < szA z ∧ (if z.shape.length = 0 then 0 else m * sn + j) = ofM M n m j ∧ m * sn + j ≤ 65536) := hid fun m hm j hj => by
    have := stp_of r0.out hkp.out r1.out hry.out hok.out hm (by rw [← hnn.out]; exact hj)
    rw [← hM.out, ← hnn.out, ← hsn.out] at this
    exact this
  have hFy := flat_of hry.out
  have hFz := flat_of r1.out
  have hN0 : Hid (y.kind = 3 → y.nums = []) := hid hFy.n
  have hI0 : Hid (y.kind ≠ 3 → y.items = []) := hid hFy.i
  have hyi : Hid (y.kind = 3 → y.items.length = N) := hid fun q => by rw [hNd, szA_3 q]
  have hyn : Hid (y.kind ≠ 3 → y.nums.length = N) := hid fun q => by
    rcases szA_ok hry.out with ⟨k, _, _⟩ | ⟨k, q2, _⟩
    · exact absurd k q
    · rw [hNd, q2]
  have hzi : Hid (y.kind = 3 → szA z = z.items.length) := hid fun q => szA_3 (hkz.out.trans q)
  have hzn : Hid (y.kind ≠ 3 → szA z = z.nums.length) := hid fun q => by
    rcases szA_ok r1.out with ⟨k, _, _⟩ | ⟨k, q2, _⟩
    · exact absurd (hkz.out.symm.trans k) q
    · exact q2
  have hrow0 : Hid (resL 0 z.nums y.nums (List.replicate N (-1)) = y.nums ∧ resL .zero z.items y.items (List.replicate N (-1)) = y.items) := hid (by
    by_cases q : y.kind = 3
    · rw [hN0.out q]; exact ⟨resL_nil _ _ _, resL_neg (hyi.out q)⟩
    · rw [hI0.out q]; exact ⟨resL_neg (hyn.out q), resL_nil _ _ _⟩)
  have hlens : Hid (∀ src : List Int, src.length = N → (resL 0 z.nums y.nums src).length = y.nums.length ∧ (resL .zero z.items y.items src).length = y.items.length) := hid fun src hs => by
    by_cases q : y.kind = 3
    · rw [hN0.out q]; have := hyi.out q; exact ⟨rfl, by rw [resL_len]; omega⟩
    · rw [hI0.out q]; have := hyn.out q; exact ⟨by rw [resL_len]; omega, rfl⟩
  clear hFy hFz
  replace hNd := hid hNd
  have hsY2 := hid hsY
  clear hsY
  replace E := hid (E.out.sub (List.Sublist.cons_cons _ (List.Sublist.cons_cons _ (List.Sublist.cons_cons _ (List.Sublist.cons_cons _ (List.Sublist.cons_cons _ (List.Sublist.cons_cons _ (List.Sublist.cons_cons _ (List.Sublist.cons_cons _ (List.Sublist.cons_cons _ (List.nil_sublist _)))))))))))
  obtain ⟨q10, q11, q12, q13⟩ := (E.out.hdr 1 rfl).all
  go_wp2_with fail
  clear q10 q11 q12 q13
  refine (ref03_CloneO y _ _ _ _ _ _ _ _ (E.out.arr 4 rfl)).mono ?_
  rintro e w11 ⟨s11, c11, n11, m11, i11, j11, rfl, cc1, cc2, cc3, F⟩
  replace E := hid (E.out.joinOwn F)
  clear F
  (try simp only [List.cons_append, List.nil_append, List.set_cons_zero, List.set_cons_succ] at E)
  go_upto_region 24 with (refine wpl_store4 rfl (.tmp 11) (.tmp 93) rfl _ rfl rfl ((E.out.alloc _).hdr 12 rfl) ?_; intro V5 HV CV; replace E := hid ((E.out.alloc _).chg 12 rfl CV HV); clear CV HV; (try simp only [List.cons_append, List.nil_append, List.set_cons_zero, List.set_cons_succ] at E))
  generalize w11.heap.size = po at E ⊢
  rw [show Env w S V5 [.rowI n11 m11 (y.nums), .rowA i11 j11 (y.items), .ints y.shape s11, .obj w.heap.size (.cells #[.int .i64 x.kind, .slice sx x.shape.length cx, .slice nx x.nums.length mx, .slice ix x.items.length jx] 26 (0, 0)), .obj (w.heap.size + 1) (.cells #[.int .i64 y.kind, .slice sy y.shape.length cy, .slice ny y.nums.length my, .slice iy y.items.length jy] 26 (0, 0)), .obj (w.heap.size + 1 + 1) (.cells #[.int .i64 0, .slice none 0 0, .slice none 0 0, .slice none 0 0] 26 (0, 0)), .arr x sx nx ix, .arr y sy ny iy, .arr p sp (np) ip, .arr z sz nz iz, .obj pi (.cells #[.int .i64 p.kind, .slice sp p.shape.length cp, .slice (np) p.nums.length mp, .slice ip p.items.length jp] 26 (0, 0)), .obj pz (.cells #[.int .i64 z.kind, .slice sz z.shape.length cz, .slice nz z.nums.length mz, .slice iz z.items.length jz] 26 (0, 0)), .obj po (.cells #[.int .i64 y.kind, .slice s11 y.shape.length c11, .slice n11 y.nums.length m11, .slice i11 y.items.length j11] 26 (0, 0))] = Env w S V5 [.rowI n11 m11 (resL 0 z.nums y.nums (List.replicate N (-1))), .rowA i11 j11 (resL .zero z.items y.items (List.replicate N (-1))), .ints y.shape s11, .obj w.heap.size (.cells #[.int .i64 x.kind, .slice sx x.shape.length cx, .slice nx x.nums.length mx, .slice ix x.items.length jx] 26 (0, 0)), .obj (w.heap.size + 1) (.cells #[.int .i64 y.kind, .slice sy y.shape.length cy, .slice ny y.nums.length my, .slice iy y.items.length jy] 26 (0, 0)), .obj (w.heap.size + 1 + 1) (.cells #[.int .i64 0, .slice none 0 0, .slice none 0 0, .slice none 0 0] 26 (0, 0)), .arr x sx nx ix, .arr y sy ny iy, .arr p sp (np) ip, .arr z sz nz iz, .obj pi (.cells #[.int .i64 p.kind, .slice sp p.shape.length cp, .slice (np) p.nums.length mp, .slice ip p.items.length jp] 26 (0, 0)), .obj pz (.cells #[.int .i64 z.kind, .slice sz z.shape.length cz, .slice nz z.nums.length mz, .slice iz z.items.length jz] 26 (0, 0)), .obj po (.cells #[.int .i64 y.kind, .slice s11 y.shape.length c11, .slice n11 y.nums.length m11, .slice i11 y.items.length j11] 26 (0, 0))] by rw [hrow0.out.1, hrow0.out.2]] at E
  go_upto_region 25 with (fail)
  go_loopw [12] (fun v wr => ∃ m : Nat, m ≤ p.nums.length ∧ v = .int .i64 m ∧ Env w S wr [.rowI n11 m11 (resL 0 z.nums y.nums (srcK (ofM M n) n p.nums m (List.replicate N (-1)))), .rowA i11 j11 (resL .zero z.items y.items (srcK (ofM M n) n p.nums m (List.replicate N (-1)))), .ints y.shape s11, .obj w.heap.size (.cells #[.int .i64 x.kind, .slice sx x.shape.length cx, .slice nx x.nums.length mx, .slice ix x.items.length jx] 26 (0, 0)), .obj (w.heap.size + 1) (.cells #[.int .i64 y.kind, .slice sy y.shape.length cy, .slice ny y.nums.length my, .slice iy y.items.length jy] 26 (0, 0)), .obj (w.heap.size + 1 + 1) (.cells #[.int .i64 0, .slice none 0 0, .slice none 0 0, .slice none 0 0] 26 (0, 0)), .arr x sx nx ix, .arr y sy ny iy, .arr p sp (np) ip, .arr z sz nz iz, .obj pi (.cells #[.int .i64 p.kind, .slice sp p.shape.length cp, .slice (np) p.nums.length mp, .slice ip p.items.length jp] 26 (0, 0)), .obj pz (.cells #[.int .i64 z.kind, .slice sz z.shape.length cz, .slice nz z.nums.length mz, .slice iz z.items.length jz] 26 (0, 0)), .obj po (.cells #[.int .i64 y.kind, .slice s11 y.shape.length c11, .slice n11 y.nums.length m11, .slice i11 y.items.length j11] 26 (0, 0))]) (fun v _ => p.nums.length - (intOf v).toNat)
  case atStart => exact ⟨0, Nat.zero_le _, rfl, E.out⟩
  case round =>
    clear E
    obtain ⟨m, hm, rfl, E⟩ := hrel
    replace E := hid E
    by_cases hlt : m < p.nums.length
    case pos =>
      obtain ⟨b4, o4, hnp, _, _, hc4⟩ := (E.out.arr 8 rfl).nums.at hlt
      obtain ⟨vv, hvv, hvv2⟩ := hnv.out m hlt
      have hsl : (srcK (ofM M n) n p.nums m (List.replicate N (-1))).length = N := by rw [srcK_len, List.length_replicate]
      have hnx : srcK (ofM M n) n p.nums (m + 1) (List.replicate N (-1)) = srcJ (ofM M n m) (vv * n) n (srcK (ofM M n) n p.nums m (List.replicate N (-1))) := by
        rw [srcK, hvv, Int.toNat_natCast]
      obtain ⟨cur, hcur⟩ : ∃ c, c = srcK (ofM M n) n p.nums m (List.replicate N (-1)) := ⟨_, rfl⟩
      rw [← hcur] at E hsl hnx
      replace hcur := hid hcur
      replace hnx := hid hnx
      have hof := hid (hsp.out m hlt)
      clear hc4
      subst hnp
      obtain ⟨q100, q101, q102, q103⟩ := (E.out.hdr 10 rfl).all
      go_upto_region 28 with (fail)
      clear q100 q101 q102 q103
      go_loopw [13] (fun v wr => ∃ j : Nat, j ≤ n ∧ v = .int .i64 j ∧ Env w S wr [.rowI n11 m11 (resL 0 z.nums y.nums (srcJ (ofM M n m) (vv * n) j cur)), .rowA i11 j11 (resL .zero z.items y.items (srcJ (ofM M n m) (vv * n) j cur)), .ints y.shape s11, .obj w.heap.size (.cells #[.int .i64 x.kind, .slice sx x.shape.length cx, .slice nx x.nums.length mx, .slice ix x.items.length jx] 26 (0, 0)), .obj (w.heap.size + 1) (.cells #[.int .i64 y.kind, .slice sy y.shape.length cy, .slice ny y.nums.length my, .slice iy y.items.length jy] 26 (0, 0)), .obj (w.heap.size + 1 + 1) (.cells #[.int .i64 0, .slice none 0 0, .slice none 0 0, .slice none 0 0] 26 (0, 0)), .arr x sx nx ix, .arr y sy ny iy, .arr p sp (some ⟨b4, o4, none⟩) ip, .arr z sz nz iz, .obj pi (.cells #[.int .i64 p.kind, .slice sp p.shape.length cp, .slice (some ⟨b4, o4, none⟩) p.nums.length mp, .slice ip p.items.length jp] 26 (0, 0)), .obj pz (.cells #[.int .i64 z.kind, .slice sz z.shape.length cz, .slice nz z.nums.length mz, .slice iz z.items.length jz] 26 (0, 0)), .obj po (.cells #[.int .i64 y.kind, .slice s11 y.shape.length c11, .slice n11 y.nums.length m11, .slice i11 y.items.length j11] 26 (0, 0))]) (fun v _ => n - (intOf v).toNat)
      case atStart => exact ⟨0, Nat.zero_le _, rfl, E.out⟩
      case round =>
        clear E
        obtain ⟨j, hj, rfl, E⟩ := hrel
        replace E := hid E
        by_cases hlt2 : j < n
        case pos =>
          obtain ⟨fr, hfr0⟩ : ∃ f, f = ofM M n m j := ⟨_, rfl⟩
          obtain ⟨tt, htt⟩ : ∃ t, t = vv * n + j := ⟨_, rfl⟩
          obtain ⟨a1, ha1⟩ : ∃ t, t = m * sn := ⟨_, rfl⟩
          obtain ⟨q, hq⟩ : ∃ q, q = vv * n := ⟨_, rfl⟩
          obtain ⟨of1, of2, of3⟩ := hof.out j hlt2
          rw [← hfr0] at of1 of2
          rw [← ha1] at of2 of3
          have hfr : Hid (fr < szA z) := hid of1
          have htl : Hid (tt < N) := hid (by rw [htt]; exact hvv2 j hlt2)
          have hsl2 : (srcJ (ofM M n m) (vv * n) j cur).length = N := by rw [srcJ_len, hsl]
          obtain ⟨hl1, hl2⟩ := hlens.out _ hsl2
          have hnx2 : Hid (srcJ (ofM M n m) (vv * n) (j + 1) cur = (srcJ (ofM M n m) (vv * n) j cur).set tt (fr : Int)) := hid (by rw [htt, hfr0]; rfl)
          obtain ⟨cn, hcnE⟩ : ∃ c, c = resL 0 z.nums y.nums (srcJ (ofM M n m) (vv * n) j cur) := ⟨_, rfl⟩
          obtain ⟨ci, hciE⟩ : ∃ c, c = resL .zero z.items y.items (srcJ (ofM M n m) (vv * n) j cur) := ⟨_, rfl⟩
          rw [← hcnE] at E hl1
          rw [← hciE] at E hl2
          have hcnL := hid hl1
          have hciL := hid hl2
          replace hcnE := hid hcnE
          replace hciE := hid hciE
          have hw0 : IntKind.i64.wrap ((m : Int) * (sn : Int)) = (a1 : Int) := by rw [← Int.natCast_mul, ← ha1]; exact IntWalk.i64_in _ (by omega)
          have hw1 : IntKind.i64.wrap ((vv : Int) * (n : Int)) = (q : Int) := by
            have := htl.out
            rw [← Int.natCast_mul, ← hq]; exact IntWalk.i64_in _ (by omega)
          have hw2 : IntKind.i64.wrap ((q : Int) + (j : Int)) = (tt : Int) := by
            have := htl.out
            rw [hq, htt] at *
            rw [Int.natCast_add]; exact IntWalk.i64_in _ (by omega)
          have hc4 := (E.out.arr 8 rfl).nums.at hlt
          obtain ⟨b4', o4', e4, _, _, hc4⟩ := hc4
          injection e4 with e4
          injection e4 with e41 e42
          subst e41 e42
          rw [hvv] at hc4
          have m0 : (0 : Int) ≤ (m : Int) := by omega
          have m1 : (m : Int) < (p.nums.length : Int) := by omega
          replace htt := hid htt
          replace hq := hid hq
          replace ha1 := hid ha1
          replace hfr0 := hid hfr0
          clear hl1 hl2 hsl2
          by_cases e0 : z.shape.length = 0
          case pos =>
            have eb : ((z.shape.length : Int) == 0) = true := by simpa using e0
            obtain rfl : fr = 0 := by rw [if_pos e0] at of2; exact of2.symm
            replace e0 := hid e0
            replace of1 := hid of1
            replace of2 := hid of2
            have hw3 : IntKind.i64.wrap ((a1 : Int) + (j : Int)) = (a1 : Int) + (j : Int) := IntWalk.i64_in _ (by omega)
            obtain ⟨q100, q101, q102, q103⟩ := (E.out.hdr 10 rfl).all
            obtain ⟨q110, q111, q112, q113⟩ := (E.out.hdr 11 rfl).all
            go_upto_region 34 with (fail)
            clear q100 q101 q102 q103 q110 q111 q112 q113
            clear hw0 hw1 hw2 hw3 hc4
            go_upto_region 34 with (fail)
            by_cases k3 : y.kind = 3
            case pos =>
              have kb3 : (y.kind == 3) = true := by simp [k3]
              have hfl : 0 < z.items.length := by have := hzi.out k3; have := hfr.out; omega
              have hnn2 : Hid (resL 0 z.nums y.nums (srcJ (ofM M n m) (vv * n) (j + 1) cur) = cn) := hid (by rw [hcnE.out]; have := hN0.out k3; rw [this, resL_nil, resL_nil])
              have hci2 : Hid (resL .zero z.items y.items (srcJ (ofM M n m) (vv * n) (j + 1) cur) = ci.set tt (z.items[0]'hfl)) := hid (by rw [hnx2.out, resL_set, ← hciE.out, List.getD_eq_getElem?_getD, List.getElem?_eq_getElem hfl]; rfl)
              obtain ⟨b', off', sv, cv, nv, mv, iv, jv, hiz, hSb', hbl', e0, e1, e2, e3, hzv⟩ := (E.out.arr 9 rfl).items.at hfl
              have hti : tt < y.items.length := by have := hyi.out k3; have := htl.out; omega
              have htc : tt < ci.length := by rw [hciL.out]; exact hti
              generalize z.items[0]'hfl = zv at e0 e1 e2 e3 hzv hci2
              replace E := hid (E.out.addArr hzv (fun _ _ h => h))
              clear hzv
              (try simp only [Nat.zero_mul, Nat.add_zero] at e0 e1 e2 e3)
              (try simp only [List.cons_append, List.nil_append, List.set_cons_zero, List.set_cons_succ] at E)
              replace k3 := hid k3
              have hia := hid hiz
              clear hiz
              obtain ⟨g5, hg5⟩ := (E.out.rowA 1 rfl).at (by intro q; rw [q] at htc; simp at htc)
              subst hg5
              have t0 : (0 : Int) ≤ ((0 : Nat) : Int) := by omega
              have t1 : ((0 : Nat) : Int) < (z.items.length : Int) := by omega
              have t2 : (0 : Int) ≤ (tt : Int) := by omega
              have t3 : (tt : Int) < (y.items.length : Int) := by omega
              obtain ⟨q40, q41, q42, q43⟩ := (E.out.hdr 4 rfl).all
              go_upto_region 35 with (fail)
              clear q40 q41 q42 q43
              have d3 := (E.out.hdr 11 rfl).c3
              rw [hia.out] at d3
              refine wp_region_mono_tail 10 (Sees wr [(⟨po, 3, none⟩, .slice (some ⟨g5, 0, none⟩) y.items.length j11), (⟨pz, 3, none⟩, .slice (some ⟨b', off', none⟩) z.items.length jz), (⟨b', off', none⟩, .int .i64 zv.kind), (⟨b', off' + 1, none⟩, .slice sv zv.shape.length cv), (⟨b', off' + 2, none⟩, .slice nv zv.nums.length mv), (⟨b', off' + 3, none⟩, .slice iv zv.items.length jv)]) [8] (fun k v u u' => match k with | 8 => RetA u (fun b => wr.heap.size ≤ b) zv (.returned v) u' | _ => False) (fun _ _ h e => h.up e) (Sees.start (all_cons ((E.out.hdr 12 rfl).c3) (all_cons (d3) (all_cons (e0) (all_cons (e1) (all_cons (e2) (all_cons (e3) (all_nil)))))))) (by kernel_rfl) (by kernel_rfl) ?_
              simp only [List.take_succ_cons, List.take_zero, List.drop_succ_cons, List.drop_zero]
              repeat (first | (refine m_plain (v := ?_) (by rfl) (by rfl) ?_ ?_; rotate_left; (intro wz hSw; obtain ⟨-, hSc⟩ := hSw; (try simp only [List.forall_mem_cons, List.forall_mem_nil, and_true] at hSc); go_simp; (first | done | with_reducible rfl)); (intro K hK; (try simp only [Act.put, List.setIfInBounds_toArray, List.set_cons_zero, List.set_cons_succ]); refine hK _ _ ?_; clear hK K)) | (refine m_skip (by rfl) (by rfl) ?_; (intro K hK; (try simp only [Act.put, List.setIfInBounds_toArray, List.set_cons_zero, List.set_cons_succ]); refine hK _ _ ?_; clear hK K)))
              refine m_make (by rfl) (by rfl) ?_ ?_
              · intro wz hSw hdep R hRz
                obtain ⟨hSe, hSc⟩ := hSw
                (try simp only [List.forall_mem_cons, List.forall_mem_nil, and_true] at hSc)
                unfold does
                (go_simp; refine Calls.mono (ref03_Clone zv _ _ _ _ _ _ _ wz ((E.out.arr 13 rfl).up hSe)) ?_; rintro e wq ⟨ta, tc, tn, tnc, ti, tic, rfl, hq, hqb⟩; exact ⟨_, rfl, hRz.out _ _ ⟨hqb, ta, tc, tn, tnc, ti, tic, rfl, ArrAt.mono (fun b _ hb => Nat.le_trans (Below.size hSe) hb) zv hq, hqb⟩⟩)
              intro v8 u8 x8 hG8 K hK
              have hF8 := hG8.fact
              (try dsimp only at hF8)
              obtain ⟨s8, c8, n8, m8, i8, j8, he, hA8, hb8⟩ := hF8
              injection he with he
              subst he
              (try simp only [Act.put, List.setIfInBounds_toArray, List.set_cons_zero, List.set_cons_succ]); refine hK _ _ ?_; clear hK K
              repeat (first | (refine m_plain (v := ?_) (by rfl) (by rfl) ?_ ?_; rotate_left; (intro wz hSw; obtain ⟨-, hSc⟩ := hSw; (try simp only [List.forall_mem_cons, List.forall_mem_nil, and_true] at hSc); go_simp; (first | done | with_reducible rfl)); (intro K hK; (try simp only [Act.put, List.setIfInBounds_toArray, List.set_cons_zero, List.set_cons_succ]); refine hK _ _ ?_; clear hK K)) | (refine m_skip (by rfl) (by rfl) ?_; (intro K hK; (try simp only [Act.put, List.setIfInBounds_toArray, List.set_cons_zero, List.set_cons_succ]); refine hK _ _ ?_; clear hK K)))
              refine m_nil ?_
              intro wf hSf hAf
              have hfz : Hid (∀ b, wr.heap.size ≤ b → Tst w S _ b) := hid (fun b hb => E.out.fresh (Ext.refl _) hb)
              replace E := hid ((E.out.up hSf.1).addArr (ArrAt.up hA8 (hAf 8 _ rfl)) (fun b _ hb => hfz.out b hb))
              clear hSf hAf hG8 hA8 hb8 e0 e1 e2 e3 d3 hfz
              (try simp only [List.cons_append, List.nil_append, List.set_cons_zero, List.set_cons_succ] at E)
              refine wplE_setA E.out 1 (by rfl) (by rfl) (.tmp 136) (.tmp 135) (by rfl) tt htc (fun g e => by cases e; rfl) (by rfl) (E.out.arr 14 rfl) ?_
              intro V7 E1
              clear E
              have E := hid E1
              clear E1
              (try simp only [List.cons_append, List.nil_append, List.set_cons_zero, List.set_cons_succ] at E)
              go_wp2_with fail
              go_roundw
              case rel => exact ⟨j + 1, by omega, by go_num, by rw [hnn2.out, hci2.out]; exact E.out.sub (List.Sublist.cons_cons _ (List.Sublist.cons_cons _ (List.Sublist.cons_cons _ (List.Sublist.cons_cons _ (List.Sublist.cons_cons _ (List.Sublist.cons_cons _ (List.Sublist.cons_cons _ (List.Sublist.cons_cons _ (List.Sublist.cons_cons _ (List.Sublist.cons_cons _ (List.Sublist.cons_cons _ (List.Sublist.cons_cons _ (List.Sublist.cons_cons _ (List.nil_sublist _))))))))))))))⟩
              case measure => simp [intOf]; omega
            case neg =>
              have kb3 : (y.kind == 3) = false := by simp [k3]
              have hfl : 0 < z.nums.length := by have := hzn.out k3; have := hfr.out; omega
              have hci2 : Hid (resL .zero z.items y.items (srcJ (ofM M n m) (vv * n) (j + 1) cur) = ci) := hid (by rw [hciE.out]; have := hI0.out k3; rw [this, resL_nil, resL_nil])
              have hnn2 : Hid (resL 0 z.nums y.nums (srcJ (ofM M n m) (vv * n) (j + 1) cur) = cn.set tt (z.nums.getD 0 0)) := hid (by rw [hnx2.out, resL_set, ← hcnE.out])
              obtain ⟨b', off', hiz, hSb', hbl', e0⟩ := (E.out.arr 9 rfl).nums.at hfl
              have hti : tt < y.nums.length := by have := hyn.out k3; have := htl.out; omega
              have htc : tt < cn.length := by rw [hcnL.out]; exact hti
              generalize z.nums.getD 0 0 = zv at e0 hnn2
              (try simp only [Nat.add_zero] at e0)
              replace k3 := hid k3
              have hia := hid hiz
              clear hiz
              obtain ⟨g5, hg5, _⟩ := (E.out.rowI 0 rfl).set htc
              subst hg5
              have t0 : (0 : Int) ≤ ((0 : Nat) : Int) := by omega
              have t1 : ((0 : Nat) : Int) < (z.nums.length : Int) := by omega
              have t2 : (0 : Int) ≤ (tt : Int) := by omega
              have t3 : (tt : Int) < (y.nums.length : Int) := by omega
              obtain ⟨q40, q41, q42, q43⟩ := (E.out.hdr 4 rfl).all
              go_upto_region 36 with (fail)
              clear q40 q41 q42 q43
              have d3 := (E.out.hdr 11 rfl).c2
              rw [hia.out] at d3
              refine wp_region_mono_tail 9 (Sees wr [(⟨po, 2, none⟩, .slice (some ⟨g5, 0, none⟩) y.nums.length m11), (⟨pz, 2, none⟩, .slice (some ⟨b', off', none⟩) z.nums.length mz), (⟨b', off', none⟩, .int .i64 zv)]) [] (fun k v u u' => match k with  | _ => False) (fun _ _ h e => h.up e) (Sees.start (all_cons ((E.out.hdr 12 rfl).c2) (all_cons (d3) (all_cons (e0) (all_nil))))) (by kernel_rfl) (by kernel_rfl) ?_
              simp only [List.take_succ_cons, List.take_zero, List.drop_succ_cons, List.drop_zero]
              repeat (first | (refine m_plain (v := ?_) (by rfl) (by rfl) ?_ ?_; rotate_left; (intro wz hSw; obtain ⟨-, hSc⟩ := hSw; (try simp only [List.forall_mem_cons, List.forall_mem_nil, and_true] at hSc); go_simp; (first | done | with_reducible rfl)); (intro K hK; (try simp only [Act.put, List.setIfInBounds_toArray, List.set_cons_zero, List.set_cons_succ]); refine hK _ _ ?_; clear hK K)) | (refine m_skip (by rfl) (by rfl) ?_; (intro K hK; (try simp only [Act.put, List.setIfInBounds_toArray, List.set_cons_zero, List.set_cons_succ]); refine hK _ _ ?_; clear hK K)))
              refine m_nil ?_
              intro wf hSf hAf
              replace E := hid (E.out.up hSf.1)
              clear hSf hAf e0 d3
              refine wplE_setI E.out 0 (by rfl) (by rfl) (.tmp 145) (.tmp 144) (by rfl) tt htc zv (fun g e => by cases e; rfl) (by rfl) ?_
              intro V7 E1
              clear E
              have E := hid E1
              clear E1
              (try simp only [List.cons_append, List.nil_append, List.set_cons_zero, List.set_cons_succ] at E)
              go_wp2_with fail
              go_roundw
              case rel => exact ⟨j + 1, by omega, by go_num, by rw [hnn2.out, hci2.out]; exact E.out⟩
              case measure => simp [intOf]; omega
          case neg =>
            have eb : ((z.shape.length : Int) == 0) = false := by simpa using e0
            have hf1 : a1 + j = fr := by rw [if_neg e0] at of2; exact of2
            have hw3 : IntKind.i64.wrap ((a1 : Int) + (j : Int)) = (fr : Int) := by rw [← hf1, Int.natCast_add]; exact IntWalk.i64_in _ (by omega)
            replace e0 := hid e0
            replace of1 := hid of1
            replace of2 := hid of2
            replace hf1 := hid hf1
            obtain ⟨q100, q101, q102, q103⟩ := (E.out.hdr 10 rfl).all
            obtain ⟨q110, q111, q112, q113⟩ := (E.out.hdr 11 rfl).all
            go_upto_region 34 with (fail)
            clear q100 q101 q102 q103 q110 q111 q112 q113
            clear hw0 hw1 hw2 hw3 hc4
            go_upto_region 34 with (fail)
            by_cases k3 : y.kind = 3
            case pos =>
              have kb3 : (y.kind == 3) = true := by simp [k3]
              have hfl : fr < z.items.length := by have := hzi.out k3; have := hfr.out; omega
              have hnn2 : Hid (resL 0 z.nums y.nums (srcJ (ofM M n m) (vv * n) (j + 1) cur) = cn) := hid (by rw [hcnE.out]; have := hN0.out k3; rw [this, resL_nil, resL_nil])
              have hci2 : Hid (resL .zero z.items y.items (srcJ (ofM M n m) (vv * n) (j + 1) cur) = ci.set tt (z.items[fr]'hfl)) := hid (by rw [hnx2.out, resL_set, ← hciE.out, List.getD_eq_getElem?_getD, List.getElem?_eq_getElem hfl]; rfl)
              obtain ⟨b', off', sv, cv, nv, mv, iv, jv, hiz, hSb', hbl', e0, e1, e2, e3, hzv⟩ := (E.out.arr 9 rfl).items.at hfl
              have hti : tt < y.items.length := by have := hyi.out k3; have := htl.out; omega
              have htc : tt < ci.length := by rw [hciL.out]; exact hti
              generalize z.items[fr]'hfl = zv at e0 e1 e2 e3 hzv hci2
              replace E := hid (E.out.addArr hzv (fun _ _ h => h))
              clear hzv
              (try simp only [Nat.zero_mul, Nat.add_zero] at e0 e1 e2 e3)
              (try simp only [List.cons_append, List.nil_append, List.set_cons_zero, List.set_cons_succ] at E)
              replace k3 := hid k3
              have hia := hid hiz
              clear hiz
              obtain ⟨g5, hg5⟩ := (E.out.rowA 1 rfl).at (by intro q; rw [q] at htc; simp at htc)
              subst hg5
              have t0 : (0 : Int) ≤ ((fr : Nat) : Int) := by omega
              have t1 : ((fr : Nat) : Int) < (z.items.length : Int) := by omega
              have t2 : (0 : Int) ≤ (tt : Int) := by omega
              have t3 : (tt : Int) < (y.items.length : Int) := by omega
              obtain ⟨q40, q41, q42, q43⟩ := (E.out.hdr 4 rfl).all
              go_upto_region 35 with (fail)
              clear q40 q41 q42 q43
              have d3 := (E.out.hdr 11 rfl).c3
              rw [hia.out] at d3
              refine wp_region_mono_tail 10 (Sees wr [(⟨po, 3, none⟩, .slice (some ⟨g5, 0, none⟩) y.items.length j11), (⟨pz, 3, none⟩, .slice (some ⟨b', off', none⟩) z.items.length jz), (⟨b', off' + fr * 4, none⟩, .int .i64 zv.kind), (⟨b', off' + fr * 4 + 1, none⟩, .slice sv zv.shape.length cv), (⟨b', off' + fr * 4 + 2, none⟩, .slice nv zv.nums.length mv), (⟨b', off' + fr * 4 + 3, none⟩, .slice iv zv.items.length jv)]) [8] (fun k v u u' => match k with | 8 => RetA u (fun b => wr.heap.size ≤ b) zv (.returned v) u' | _ => False) (fun _ _ h e => h.up e) (Sees.start (all_cons ((E.out.hdr 12 rfl).c3) (all_cons (d3) (all_cons (e0) (all_cons (e1) (all_cons (e2) (all_cons (e3) (all_nil)))))))) (by kernel_rfl) (by kernel_rfl) ?_
              simp only [List.take_succ_cons, List.take_zero, List.drop_succ_cons, List.drop_zero]
              repeat (first | (refine m_plain (v := ?_) (by rfl) (by rfl) ?_ ?_; rotate_left; (intro wz hSw; obtain ⟨-, hSc⟩ := hSw; (try simp only [List.forall_mem_cons, List.forall_mem_nil, and_true] at hSc); go_simp; (first | done | with_reducible rfl)); (intro K hK; (try simp only [Act.put, List.setIfInBounds_toArray, List.set_cons_zero, List.set_cons_succ]); refine hK _ _ ?_; clear hK K)) | (refine m_skip (by rfl) (by rfl) ?_; (intro K hK; (try simp only [Act.put, List.setIfInBounds_toArray, List.set_cons_zero, List.set_cons_succ]); refine hK _ _ ?_; clear hK K)))
              refine m_make (by rfl) (by rfl) ?_ ?_
              · intro wz hSw hdep R hRz
                obtain ⟨hSe, hSc⟩ := hSw
                (try simp only [List.forall_mem_cons, List.forall_mem_nil, and_true] at hSc)
                unfold does
                (go_simp; refine Calls.mono (ref03_Clone zv _ _ _ _ _ _ _ wz ((E.out.arr 13 rfl).up hSe)) ?_; rintro e wq ⟨ta, tc, tn, tnc, ti, tic, rfl, hq, hqb⟩; exact ⟨_, rfl, hRz.out _ _ ⟨hqb, ta, tc, tn, tnc, ti, tic, rfl, ArrAt.mono (fun b _ hb => Nat.le_trans (Below.size hSe) hb) zv hq, hqb⟩⟩)
              intro v8 u8 x8 hG8 K hK
              have hF8 := hG8.fact
              (try dsimp only at hF8)
              obtain ⟨s8, c8, n8, m8, i8, j8, he, hA8, hb8⟩ := hF8
              injection he with he
              subst he
              (try simp only [Act.put, List.setIfInBounds_toArray, List.set_cons_zero, List.set_cons_succ]); refine hK _ _ ?_; clear hK K
              repeat (first | (refine m_plain (v := ?_) (by rfl) (by rfl) ?_ ?_; rotate_left; (intro wz hSw; obtain ⟨-, hSc⟩ := hSw; (try simp only [List.forall_mem_cons, List.forall_mem_nil, and_true] at hSc); go_simp; (first | done | with_reducible rfl)); (intro K hK; (try simp only [Act.put, List.setIfInBounds_toArray, List.set_cons_zero, List.set_cons_succ]); refine hK _ _ ?_; clear hK K)) | (refine m_skip (by rfl) (by rfl) ?_; (intro K hK; (try simp only [Act.put, List.setIfInBounds_toArray, List.set_cons_zero, List.set_cons_succ]); refine hK _ _ ?_; clear hK K)))
              refine m_nil ?_
              intro wf hSf hAf
              have hfz : Hid (∀ b, wr.heap.size ≤ b → Tst w S _ b) := hid (fun b hb => E.out.fresh (Ext.refl _) hb)
              replace E := hid ((E.out.up hSf.1).addArr (ArrAt.up hA8 (hAf 8 _ rfl)) (fun b _ hb => hfz.out b hb))
              clear hSf hAf hG8 hA8 hb8 e0 e1 e2 e3 d3 hfz
              (try simp only [List.cons_append, List.nil_append, List.set_cons_zero, List.set_cons_succ] at E)
              refine wplE_setA E.out 1 (by rfl) (by rfl) (.tmp 136) (.tmp 135) (by rfl) tt htc (fun g e => by cases e; rfl) (by rfl) (E.out.arr 14 rfl) ?_
              intro V7 E1
              clear E
              have E := hid E1
              clear E1
              (try simp only [List.cons_append, List.nil_append, List.set_cons_zero, List.set_cons_succ] at E)
              go_wp2_with fail
              go_roundw
              case rel => exact ⟨j + 1, by omega, by go_num, by rw [hnn2.out, hci2.out]; exact E.out.sub (List.Sublist.cons_cons _ (List.Sublist.cons_cons _ (List.Sublist.cons_cons _ (List.Sublist.cons_cons _ (List.Sublist.cons_cons _ (List.Sublist.cons_cons _ (List.Sublist.cons_cons _ (List.Sublist.cons_cons _ (List.Sublist.cons_cons _ (List.Sublist.cons_cons _ (List.Sublist.cons_cons _ (List.Sublist.cons_cons _ (List.Sublist.cons_cons _ (List.nil_sublist _))))))))))))))⟩
              case measure => simp [intOf]; omega
            case neg =>
              have kb3 : (y.kind == 3) = false := by simp [k3]
              have hfl : fr < z.nums.length := by have := hzn.out k3; have := hfr.out; omega
              have hci2 : Hid (resL .zero z.items y.items (srcJ (ofM M n m) (vv * n) (j + 1) cur) = ci) := hid (by rw [hciE.out]; have := hI0.out k3; rw [this, resL_nil, resL_nil])
              have hnn2 : Hid (resL 0 z.nums y.nums (srcJ (ofM M n m) (vv * n) (j + 1) cur) = cn.set tt (z.nums.getD fr 0)) := hid (by rw [hnx2.out, resL_set, ← hcnE.out])
              obtain ⟨b', off', hiz, hSb', hbl', e0⟩ := (E.out.arr 9 rfl).nums.at hfl
              have hti : tt < y.nums.length := by have := hyn.out k3; have := htl.out; omega
              have htc : tt < cn.length := by rw [hcnL.out]; exact hti
              generalize z.nums.getD fr 0 = zv at e0 hnn2
              (try simp only [Nat.add_zero] at e0)
              replace k3 := hid k3
              have hia := hid hiz
              clear hiz
              obtain ⟨g5, hg5, _⟩ := (E.out.rowI 0 rfl).set htc
              subst hg5
              have t0 : (0 : Int) ≤ ((fr : Nat) : Int) := by omega
              have t1 : ((fr : Nat) : Int) < (z.nums.length : Int) := by omega
              have t2 : (0 : Int) ≤ (tt : Int) := by omega
              have t3 : (tt : Int) < (y.nums.length : Int) := by omega
              obtain ⟨q40, q41, q42, q43⟩ := (E.out.hdr 4 rfl).all
              go_upto_region 36 with (fail)
              clear q40 q41 q42 q43
              have d3 := (E.out.hdr 11 rfl).c2
              rw [hia.out] at d3
              refine wp_region_mono_tail 9 (Sees wr [(⟨po, 2, none⟩, .slice (some ⟨g5, 0, none⟩) y.nums.length m11), (⟨pz, 2, none⟩, .slice (some ⟨b', off', none⟩) z.nums.length mz), (⟨b', off' + fr, none⟩, .int .i64 zv)]) [] (fun k v u u' => match k with  | _ => False) (fun _ _ h e => h.up e) (Sees.start (all_cons ((E.out.hdr 12 rfl).c2) (all_cons (d3) (all_cons (e0) (all_nil))))) (by kernel_rfl) (by kernel_rfl) ?_
              simp only [List.take_succ_cons, List.take_zero, List.drop_succ_cons, List.drop_zero]
              repeat (first | (refine m_plain (v := ?_) (by rfl) (by rfl) ?_ ?_; rotate_left; (intro wz hSw; obtain ⟨-, hSc⟩ := hSw; (try simp only [List.forall_mem_cons, List.forall_mem_nil, and_true] at hSc); go_simp; (first | done | with_reducible rfl)); (intro K hK; (try simp only [Act.put, List.setIfInBounds_toArray, List.set_cons_zero, List.set_cons_succ]); refine hK _ _ ?_; clear hK K)) | (refine m_skip (by rfl) (by rfl) ?_; (intro K hK; (try simp only [Act.put, List.setIfInBounds_toArray, List.set_cons_zero, List.set_cons_succ]); refine hK _ _ ?_; clear hK K)))
              refine m_nil ?_
              intro wf hSf hAf
              replace E := hid (E.out.up hSf.1)
              clear hSf hAf e0 d3
              refine wplE_setI E.out 0 (by rfl) (by rfl) (.tmp 145) (.tmp 144) (by rfl) tt htc zv (fun g e => by cases e; rfl) (by rfl) ?_
              intro V7 E1
              clear E
              have E := hid E1
              clear E1
              (try simp only [List.cons_append, List.nil_append, List.set_cons_zero, List.set_cons_succ] at E)
              go_wp2_with fail
              go_roundw
              case rel => exact ⟨j + 1, by omega, by go_num, by rw [hnn2.out, hci2.out]; exact E.out⟩
              case measure => simp [intOf]; omega
        case neg =>
          obtain rfl : j = n := by omega
          rw [← hnx.out] at E
          go_wp2_with fail
          go_roundw
          case rel => exact ⟨m + 1, by omega, by go_num, E.out⟩
          case measure => simp [intOf]; omega
    case neg =>
      obtain rfl : m = p.nums.length := by omega
      have hsr : srcK (ofM M n) n p.nums p.nums.length (List.replicate N (-1)) = amSrc p z y := by unfold amSrc; rw [← hM.out, ← hnn.out, ← hNN.out]
      rw [hsr] at E
      obtain ⟨src, hsrc⟩ : ∃ s, s = amSrc p z y := ⟨_, rfl⟩
      rw [← hsrc] at E hEa hSa
      have hsl := amSrc_len p z y
      rw [← hsrc] at hsl
      obtain ⟨q1, q2⟩ := hlens.out src (by rw [hsl, hNN.out])
      have hB1 := hid (bw_ag (flat_of hry.out) (v := z) hsl (szA_le hry.out))
      have hB2 := hid (bwS_ag (flat_of hry.out) (v := z) hsl (szA_le hry.out))
      obtain ⟨cn, hcnE⟩ : ∃ c, c = resL 0 z.nums y.nums src := ⟨_, rfl⟩
      obtain ⟨ci, hciE⟩ : ∃ c, c = resL .zero z.items y.items src := ⟨_, rfl⟩
      have hAG : Hid (agA z y src = .mk y.kind y.shape cn ci) := hid (by rw [hcnE, hciE]; rfl)
      rw [← hcnE] at E q1
      rw [← hciE] at E q2
      have hyl := (E.out.arr 7 rfl).nums.1
      have hyl2 := (E.out.arr 7 rfl).len
      have hvS : Hid (amdS x y = bwS (.mk y.kind y.shape cn ci)) := hid (by rw [hSa.out, ← hAG.out, hB2.out])
      have hvE : Hid (bwE (.mk y.kind y.shape cn ci) = amdE x y) := hid (by rw [hEa.out, ← hAG.out, hB1.out])
      replace hsrc := hid hsrc
      replace hcnE := hid hcnE
      replace hciE := hid hciE
      replace hsr := hid hsr
      replace hsl := hid hsl
      replace E := hid (E.out.doneI 0 rfl (by omega))
      (try simp only [List.cons_append, List.nil_append, List.set_cons_zero, List.set_cons_succ] at E)
      replace E := hid (E.out.doneA 1 rfl)
      (try simp only [List.cons_append, List.nil_append, List.set_cons_zero, List.set_cons_succ] at E)
      have qq1 := hid q1
      have qq2 := hid q2
      clear q1 q2
      obtain ⟨q100, q101, q102, q103⟩ := (E.out.hdr 10 rfl).all
      go_upto_region 37 with (fail)
      clear q100 q101 q102 q103
      obtain ⟨q120, q121, q122, q123⟩ := (E.out.hdr 12 rfl).all
      go_wp2_with fail
      clear q120 q121 q122 q123
      refine (lenB qq1.out qq2.out (ref23_bounded (.mk y.kind y.shape cn ci) s11 c11 n11 m11 i11 j11 _ _ (ArrAt.iff.2 ⟨E.out.ints 2 rfl, E.out.ints 0 rfl, by show ci.length ≤ _; have := qq2.out; omega, E.out.items 1 rfl⟩) ⟨cc1, by show cn.length ≤ m11; have := qq1.out; omega, by show ci.length ≤ j11; have := qq2.out; omega⟩)).mono ?_
      intro e w14 h
      obtain ⟨s15, c15, n15, m15, i15, j15, rfl, hA, hb, hC⟩ := h.eq hvS.out hvE.out
      replace E := hid ((E.out.up hb).addArr hA (fun _ _ h => h))
      have hC15 := hid hC
      clear hA hb h hC
      (try simp only [List.cons_append, List.nil_append, List.set_cons_zero, List.set_cons_succ] at E)
      go_wp2_with (refine wpl_store4 rfl (.tmp 4) (.tmp 148) rfl _ rfl rfl (E.out.hdr 5 rfl) ?_; intro V HV CV; replace E := hid (E.out.chg 5 rfl CV HV); clear CV; (try simp only [List.cons_append, List.nil_append, List.set_cons_zero, List.set_cons_succ] at E))
      refine bodyPost_ret (end_arr2 rfl HV rfl rfl) rfl (hR.out _ _ ?_)
      exact RetAEC.at rfl rfl (ArrAt.mono (fun b _ h => h.1) _ (E.out.arr 13 rfl)) E.out.ext hC15.out
end Go.Proofs.Ytcoknjlkhefgpaa
