/- taking.build: contract for a run of major cells. Conditions: the array is right and has axes; a slice's capacity is at least its length. -/
import Derived.Test.YtolnbmmkpmajdaaTAKA
import Derived.Test.YtolnbmmkpmajdaaPTAK
import Derived.Test.YtolnbmmkpmajdaaA17
import Derived.Test.YtolnbmmkpmajdaaNEWF
set_option linter.unusedVariables false
set_option maxRecDepth 20000
set_option linter.unusedSimpArgs false
namespace Go.Proofs.Ytolnbmmkpmajdaa
open Go.RowKit Go.Sort
attribute [local go_sem ↓] run_max2 run_min2
attribute [local go_sem] eql_ints_nil eql_arrs_nil
set_option maxRecDepth 100000 in
set_option maxHeartbeats 20000000 in
theorem taking_build (off m : Nat) (K : FuncId) (caps : Array Value) (y : Arr) (sy : Option Addr) (cy : Nat) (ny : Option Addr) (my : Nat) (iy : Option Addr) (jy : Nat) (s : List Int) (so : Option Addr) (sc : Nat) (S0 U : Nat → Prop) (w : World) (h : ArrAt w S0 y sy ny iy) (g : IntsAt w U so s) (hc : s.length ≤ sc) (ry : rightS y = 0) (hr : y.shape.length ≠ 0) (hs : s = (m : Int) :: celL y) (hm : off + m ≤ talM y)
    (hK : ∀ (args : Array Value) (wz : World), (callFunc K args).run Try.prog wz = .ok (.enter K args) wz)
    (hf : ∀ (j : Nat) (n : Int) (wz : World), Ext w wz → j < s.length → 0 ≤ n → n < s.getD j 0 → Calls Try.prog K (#[.int .i64 (j : Nat), .int .i64 n] ++ caps) wz fun e w' => e = .returned (.int .i64 (if j = 0 then n + (off : Int) else n)) ∧ Ext wz w') :
    Calls Try.prog 23 #[.agg #[.int .i64 y.kind, .slice sy y.shape.length cy, .slice ny y.nums.length my, .slice iy y.items.length jy], .slice so s.length sc, .func (.func K) #[] caps] w (RetAEC w (fun b => U b ∨ w.heap.size ≤ b) (secA y off m) 0) := by
  refine calls_post fun R' hR => ?_
  obtain ⟨S, hS⟩ : ∃ S : Nat → Prop, S = fun b => S0 b ∨ U b := ⟨_, rfl⟩
  have h0 : Hid (ArrAt w S y sy ny iy) := hid (ArrAt.mono (fun b _ q => by rw [hS]; exact Or.inl q) y h)
  have g0 : Hid (IntsAt w S so s) := hid (g.mono fun b _ q => by rw [hS]; exact Or.inr q)
  have gU := hid g
  replace hS := hid hS
  have hc := hid hc
  have hsY := (right_ok ry).2.1
  have hyE := tal_cons hsY hr
  have hsS : shapeB s = true := by rw [hs]; exact shapeB_first hsY hr (by omega)
  have hsB := shapeB_iff.1 hsS
  have hsl : s.length ≤ 8 := hsB.1
  have hs1 : 0 < s.length := by rw [hs]; simp
  have hlen : s.length = y.shape.length := by rw [hs, hyE]; simp
  have hs6 : Hid (∀ j, j < s.length → s.getD j 0 ≤ 65536) := hid fun j hj => Int.le_trans (prodNZ_ge_mem hsB.2.1 (getD_mem hj)) hsB.2.2
  obtain ⟨n, hn⟩ : ∃ n, n = celN y := ⟨_, rfl⟩
  have hcel : cnt (celL y) = (n : Int) := by rw [hn]; exact (celN_eq hsY).symm
  obtain ⟨N, hN⟩ : ∃ N, N = m * n := ⟨_, rfl⟩
  have hcN : Hid (cnt s = (N : Int)) := hid (by rw [hs, cnt_cons1, hcel, hN, Int.natCast_mul])
  have hN6 : N ≤ 65536 := by have := cnt_le hsS; rw [hcN.out] at this; omega
  obtain ⟨bs, os, hso, _, _, _⟩ := g.at hs1
  subst hso
  obtain ⟨b1, o1, hsy, _, _, _⟩ := h.shape.at (k := 0) (by omega)
  replace hsy := hid hsy
  have hszY := sz_tal ry
  have hsec := hid (sec_len ry hm)
  have hsecR := hid (sec_right ry hr hm)
  have hposC : Hid (0 < N → posB s) := hid fun q => posB_of hsS (k := 0) (by omega) (by rw [hcN.out]; omega)
  have hry := hid ry
  have hfl := flat_of ry
  have hn0 : Hid (y.kind = 3 → y.nums = []) := hid hfl.n
  have hi0 : Hid (y.kind ≠ 3 → y.items = []) := hid hfl.i
  -- where element f comes from
  have hat : Hid (∀ (f : Nat) (idx : List Int), f < N → inI s idx → offF s idx s.length = (f : Int) → inI y.shape (shI off idx) ∧ offF y.shape (shI off idx) y.shape.length = ((f + off * n : Nat) : Int) ∧ f + off * n < szA y) := hid fun f idx hf hi ho => by
    have hpS := hposC.out (by omega)
    have hpC : posB (celL y) := fun d hd => hpS d (by rw [hs]; exact List.mem_cons_of_mem _ hd)
    rw [hs] at hi ho
    refine ⟨by rw [hyE]; exact shift_in hi (by omega), ?_, ?_⟩
    · rw [hyE, shift_at (m := (m : Int)) hpC, ho, hcel, Int.natCast_add, Int.natCast_mul]
    · have h1 := Nat.mul_le_mul_right n hm
      rw [Nat.add_mul] at h1
      rw [hszY, ← hn]
      omega
  have hyb : Hid (∀ idx, inI y.shape idx → ∀ i, i ≤ y.shape.length → 0 ≤ offF y.shape idx i ∧ offF y.shape idx i ≤ 65536) := hid fun idx hi i hil => by
    have hB := shapeB_iff.1 hsY
    have h1 := offF_bdx hB.2.1 i hil fun j hj => hi j (by omega)
    have h2 := prodNZ_take_le hB.2.1 i
    have := hB.2.2
    omega
  have hy6 : Hid (∀ j, j < y.shape.length → y.shape.getD j 0 ≤ 65536) := hid fun j hj => Int.le_trans (prodNZ_ge_mem (shapeB_iff.1 hsY).2.1 (getD_mem hj)) (shapeB_iff.1 hsY).2.2
  have hsecE : Hid (secA y off m = .mk y.kind s ((y.nums.drop (off * n)).take N) ((y.items.drop (off * n)).take N)) := hid (by rw [hs, hN, hn]; rfl)
  obtain ⟨o, ho⟩ : ∃ o, o = off * n := ⟨_, rfl⟩
  rw [← ho] at hat hsecE
  have hnl := h.nums.1
  have hil := h.len
  replace hsY := hid hsY
  replace hyE := hid hyE
  replace hsB := hid hsB
  replace hs := hid hs
  replace hn := hid hn
  replace hN := hid hN
  replace ho := hid ho
  replace hcel := hid hcel
  replace hszY := hid hszY
  replace hf := hid hf
  have hle1 : s.length ≤ y.shape.length := by omega
  have hle2 : y.shape.length ≤ s.length := by omega
  replace hlen := hid hlen
  clear h g ry hfl
  go_enter Try.func23, Try.ntmps23
  go_upto_region 1 with (fail)
  generalize hEW : ((w).alloc (.cells #[.int .i64 y.kind, .slice sy y.shape.length cy, .slice ny y.nums.length my, .slice iy y.items.length jy] 26)).alloc (.cells #[.int .i64 0, .slice none 0 0, .slice none 0 0, .slice none 0 0] 26) = W
  have E := hid (env2 w S hEW)
  clear hEW
  replace E := hid ((E.out.arg h0.out).argI g0.out)
  (try simp only [List.cons_append, List.nil_append, List.set_cons_zero, List.set_cons_succ] at E)
  go_wp2_with fail
  refine (shape_Right s _ _ _ _ (E.out.ints 3 rfl)).mono ?_
  rintro e w1 ⟨rfl, rfl⟩
  rw [hsS]
  obtain ⟨q00, q01, q02, q03⟩ := (E.out.hdr 0 rfl).all
  go_wp2_with fail
  clear q00 q01 q02 q03
  refine (fill_array_Fill y _ _ _ _ _ _ W).mono ?_
  rintro e w2 ⟨fa, fc, fn, fnc, fi, fic, rfl, aF, hb⟩
  replace E := hid ((E.out.up hb).addArr aF (fun b _ hq => E.out.fresh (Ext.refl _) hq))
  clear aF hb
  (try simp only [List.cons_append, List.nil_append, List.set_cons_zero, List.set_cons_succ] at E)
  go_upto_region 4 with (refine wpl_store4 rfl (.tmp 8) (.tmp 22) rfl _ rfl rfl ((E.out.alloc _).hdr 5 rfl) ?_; intro V1 HV CV; replace E := hid ((E.out.alloc _).chg 5 rfl CV HV); clear CV HV; (try simp only [List.cons_append, List.nil_append, List.set_cons_zero, List.set_cons_succ] at E))
  generalize w2.heap.size = pf at E ⊢
  obtain ⟨q00, q01, q02, q03⟩ := (E.out.hdr 0 rfl).all
  go_upto_region 5 with (refine wpl_store4 rfl (.tmp 9) (.tmp 26) rfl _ rfl rfl ((E.out.alloc _).hdr 6 rfl) ?_; intro V2 HV CV; replace E := hid ((E.out.alloc _).chg 6 rfl CV HV); clear CV HV; (try simp only [List.cons_append, List.nil_append, List.set_cons_zero, List.set_cons_succ] at E))
  clear q00 q01 q02 q03
  generalize V1.heap.size = po at E ⊢
  go_upto_region 6 with (fail)
  have E2 : Env w S (V2.alloc (.cells #[.int .i64 0, .int .i64 0, .int .i64 0, .int .i64 0, .int .i64 0, .int .i64 0, .int .i64 0, .int .i64 0] 68)) _ := E.out.alloc (.cells (rowO (List.replicate 8 0)) 68)
  clear E
  generalize World.alloc V2 _ = V3 at E2 ⊢
  generalize V2.heap.size = bi at E2 ⊢
  have E := hid E2.row0I
  clear E2
  (try simp only [List.cons_append, List.nil_append, List.set_cons_zero, List.set_cons_succ] at E)
  replace E := hid E.out.row0AF
  (try simp only [List.cons_append, List.nil_append, List.set_cons_zero, List.set_cons_succ] at E)
  go_wp2_with fail
  refine (shape_Size s _ _ _ _ (E.out.ints 3 rfl)).mono ?_
  rintro e w3 ⟨rfl, rfl⟩
  rw [sizeS_true hsS, hcN.out]
  replace hsS := hid hsS
  go_upto_region 7 with (fail)
  go_loopw [29] (fun v wr => ∃ (f : Nat) (idx : List Int) (na : Option Addr) (nc : Nat) (ia : Option Addr) (ic : Nat), f ≤ N ∧ v = .int .i64 f ∧ idx.length = 8 ∧ Hid (f < N → inI s idx ∧ offF s idx s.length = (f : Int)) ∧ Env w S wr [.obj w.heap.size (.cells #[.int .i64 y.kind, .slice sy y.shape.length cy, .slice ny y.nums.length my, .slice iy y.items.length jy] 26 (0, 0)), .obj (w.heap.size + 1) (.cells #[.int .i64 0, .slice none 0 0, .slice none 0 0, .slice none 0 0] 26 (0, 0)), .arr y sy ny iy, .ints s (some ⟨bs, os, none⟩), .obj po (.cells #[.int .i64 y.kind, .slice (some ⟨bs, os, none⟩) s.length sc, .slice na ((y.nums.drop o).take f).length nc, .slice ia ((y.items.drop o).take f).length ic] 26 (0, 0)), .obj bi (.cells (rowO (idx)) 68 (0, 0)), .rowI na nc ((y.nums.drop o).take f), .rowAF ia ic ((y.items.drop o).take f)]) (fun v _ => N - (intOf v).toNat)
  case atStart => exact ⟨0, List.replicate 8 0, none, 0, none, 0, Nat.zero_le _, rfl, rfl, hid (fun q => by obtain ⟨q1, q2⟩ := idx_zero (hposC.out q) 8; exact ⟨q1, q2 _⟩), by rw [List.take_zero, List.take_zero]; exact E.out.sub (List.Sublist.cons_cons _ (List.Sublist.cons_cons _ (List.Sublist.cons_cons _ (List.Sublist.cons_cons _ (List.Sublist.cons _ (List.Sublist.cons _ (List.Sublist.cons_cons _ (List.Sublist.cons_cons _ (List.Sublist.cons_cons _ (List.Sublist.cons_cons _ (List.nil_sublist _)))))))))))⟩
  case round =>
    clear E
    obtain ⟨f, idx, na, nc, ia, ic, hfN, rfl, hix, hii, E⟩ := hrel
    replace E := hid E
    by_cases hlt : f < N
    case pos =>
      have hpB := hid (hposC.out (by omega))
      obtain ⟨hi1, hi2⟩ := hii.out hlt
      have hinI := hid hi1
      have hoI := hid hi2
      obtain ⟨hA1, hA2, hA3⟩ := hat.out f idx hlt hi1 hi2
      clear hi1 hi2
      obtain ⟨L, hL⟩ : ∃ l, l = shI off idx := ⟨_, rfl⟩
      have hLat : Hid (∀ k, (if k = 0 then idx.getD k 0 + (off : Int) else idx.getD k 0) = L.getD k 0) := hid fun k => by rw [hL]; exact (shI_at off idx k).symm
      rw [← hL] at hA1 hA2
      replace hL := hid hL
      have hLb := hid (hyb.out L hA1)
      replace hA1 := hid hA1
      replace hA2 := hid hA2
      obtain ⟨e0, he0⟩ : ∃ e, e = f + o := ⟨_, rfl⟩
      rw [← he0] at hA2 hA3
      have he1 := hid he0
      clear he0
      obtain ⟨cn, hcnE⟩ : ∃ c, c = (y.nums.drop o).take f := ⟨_, rfl⟩
      obtain ⟨ci, hciE⟩ : ∃ c, c = (y.items.drop o).take f := ⟨_, rfl⟩
      rw [← hcnE, ← hciE] at E
      replace hcnE := hid hcnE
      replace hciE := hid hciE
      obtain ⟨q00, q01, q02, q03⟩ := (E.out.hdr 0 rfl).all
      go_upto_region 9 with (refine wpl_store4 rfl (.tmp 11) (.tmp 31) rfl _ rfl rfl ((E.out.alloc _).hdr 8 rfl) ?_; intro V4 HV CV; replace E := hid ((E.out.alloc _).chg 8 rfl CV HV); clear CV HV; (try simp only [List.cons_append, List.nil_append, List.set_cons_zero, List.set_cons_succ] at E))
      clear q00 q01 q02 q03
      generalize wr.heap.size = ps at E ⊢
      have hp8 : ((s.length : Int) ≤ 8) := by omega
      have hp80 : ((0 : Int) ≤ (s.length : Int)) := by omega
      go_upto_region 10 with (fail)
      go_loopw [12, 36] (fun sv v wr => ∃ k : Nat, k ≤ s.length ∧ sv = .int .i64 (offF y.shape L k) ∧ v = .int .i64 k ∧ Env w S wr [.obj w.heap.size (.cells #[.int .i64 y.kind, .slice sy y.shape.length cy, .slice ny y.nums.length my, .slice iy y.items.length jy] 26 (0, 0)), .obj (w.heap.size + 1) (.cells #[.int .i64 0, .slice none 0 0, .slice none 0 0, .slice none 0 0] 26 (0, 0)), .arr y sy ny iy, .ints s (some ⟨bs, os, none⟩), .obj po (.cells #[.int .i64 y.kind, .slice (some ⟨bs, os, none⟩) s.length sc, .slice na (cn).length nc, .slice ia (ci).length ic] 26 (0, 0)), .obj bi (.cells (rowO (idx)) 68 (0, 0)), .rowI na nc (cn), .rowAF ia ic (ci), .obj ps (.cells #[.int .i64 y.kind, .slice sy y.shape.length cy, .slice ny y.nums.length my, .slice iy y.items.length jy] 26 (0, 0))]) (fun _ v _ => s.length - (intOf v).toNat)
      case atStart => exact ⟨0, Nat.zero_le _, rfl, rfl, E.out⟩
      case round =>
        clear E
        obtain ⟨k, hk, rfl, rfl, E⟩ := hrel
        replace E := hid E
        by_cases hl2 : k < s.length
        case pos =>
          have hdc := rowO_cell (E.out.obj 5 rfl) (k := k) (by omega)
          have hIk := hinI.out k hl2
          have hVk := hLat.out k
          obtain ⟨hV0, hV1⟩ := hA1.out k (by omega)
          have hYs := (E.out.arr 2 rfl).shape
          rw [hsy.out] at hYs
          have hcy := ints_cell hYs (k := k) (by omega)
          have hp0 := (hLb.out k (by omega))
          have hp1 := (hLb.out (k + 1) (by omega))
          have hpS : offF y.shape L (k + 1) = offF y.shape L k * y.shape.getD k 0 + L.getD k 0 := rfl
          have hty := hy6.out k (by omega)
          have hcl := hid (hf.out k (idx.getD k 0) wr E.out.ext hl2 hIk.1 hIk.2)
          rw [hVk] at hcl
          obtain ⟨dd, hdd⟩ : ∃ d, d = idx.getD k 0 := ⟨_, rfl⟩
          obtain ⟨vk, hvk⟩ : ∃ d, d = L.getD k 0 := ⟨_, rfl⟩
          obtain ⟨td, htd⟩ : ∃ d, d = y.shape.getD k 0 := ⟨_, rfl⟩
          obtain ⟨pk, hpk⟩ : ∃ d, d = offF y.shape L k := ⟨_, rfl⟩
          obtain ⟨pk1, hpk1⟩ : ∃ d, d = offF y.shape L (k + 1) := ⟨_, rfl⟩
          rw [← hdd] at hdc hcl
          rw [← hvk] at hcl hV0 hV1 hpS
          rw [← htd] at hV1 hcy hpS hty
          rw [← hpk] at hp0 hpS ⊢
          rw [← hpk1] at hp1 hpS
          replace hdd := hid hdd
          replace hvk := hid hvk
          replace htd := hid htd
          replace hpk := hid hpk
          replace hpk1 := hid hpk1
          clear hVk hIk
          have hmu : 0 ≤ pk * td ∧ pk * td ≤ 4294967296 := ⟨Int.mul_nonneg hp0.1 (by omega), by have := Int.mul_le_mul hp0.2 hty (by omega) (by omega); omega⟩
          have hw1 : IntKind.i64.wrap (pk * td) = pk * td := IntWalk.i64_in _ (by omega)
          have hw2 : IntKind.i64.wrap (pk * td + vk) = pk1 := by rw [hpS]; exact IntWalk.i64_in _ (by omega)
          replace hpS := hid hpS
          have k0 : (0 : Int) ≤ (k : Int) := by omega
          have k1 : (k : Int) < (s.length : Int) := by omega
          have k2 : (k : Int) < (y.shape.length : Int) := by omega
          have v0 : ¬ vk < 0 := by omega
          have v1 : ¬ td ≤ vk := by omega
          replace hV0 := hid hV0
          replace hV1 := hid hV1
          have hysl : k < y.shape.length := by omega
          clear hcy
          go_wp2_with fail
          refine hcl.out.mono ?_
          rintro e w5 ⟨rfl, hb⟩
          replace E := hid (E.out.up hb)
          clear hb hcl hdc
          have hYs := (E.out.arr 2 rfl).shape
          rw [hsy.out] at hYs
          have hcy := ints_cell hYs (k := k) hysl
          rw [← htd.out] at hcy
          replace hYs := hid hYs
          obtain ⟨q00, q01, q02, q03⟩ := (E.out.hdr 0 rfl).all
          rw [hsy.out] at q01
          go_wp2_with fail
          go_roundw
          case rel => exact ⟨k + 1, by omega, by rw [hpk1.out], by go_num, E.out⟩
          case measure => simp [intOf]; omega
        case neg =>
          obtain rfl : k = s.length := by omega
          rw [show offF y.shape L s.length = (e0 : Int) by rw [hlen.out]; exact hA2.out]
          by_cases k3 : y.kind = 3
          case pos =>
            have kb3 : (y.kind == 3) = true := by simp [k3]
            have hil3 : e0 < y.items.length := by have := szA_3 k3; omega
            obtain ⟨b', off', sz, cz, nz, mz, iz, jz, hna, hSb', hbl', z0, z1, z2, z3, hz⟩ := (E.out.arr 2 rfl).items.at hil3
            have hciS0 : (y.items.drop o).take (f + 1) = (y.items.drop o).take f ++ [y.items[e0]] := drop_take_step he1.out hil3
            have hcnS0 : (y.nums.drop o).take (f + 1) = (y.nums.drop o).take f := by rw [hn0.out k3]; simp
            generalize y.items[e0] = z at z0 z1 z2 z3 hz hciS0
            rw [← hciE.out] at hciS0
            rw [← hcnE.out] at hcnS0
            have hcl6 : ci.length ≤ f := by rw [hciE.out, List.length_take]; omega
            replace hciS0 := hid hciS0
            replace hcnS0 := hid hcnS0
            have t0 : (0 : Int) ≤ (e0 : Int) := by omega
            have t1 : (e0 : Int) < (y.items.length : Int) := by omega
            have hll : ci.length + [z].length ≤ 1759218604441 := by simp only [List.length_cons, List.length_nil]; omega
            replace E := hid (E.out.addArr hz (fun _ _ h => h))
            have hia := hid hna
            clear hz hna
            (try simp only [List.cons_append, List.nil_append, List.set_cons_zero, List.set_cons_succ] at E)
            replace k3 := hid k3
            obtain ⟨q00, q01, q02, q03⟩ := (E.out.hdr 0 rfl).all
            go_upto_region 18 with (fail)
            clear q00 q01 q02 q03
            have d3 := (E.out.hdr 8 rfl).c3
            rw [hia.out] at d3
            refine wp_region_mono_tail 9 (Sees wr [(⟨po, 3, none⟩, .slice ia ci.length ic), (⟨ps, 3, none⟩, .slice (some ⟨b', off', none⟩) y.items.length jy), (⟨b', off' + e0 * 4, none⟩, .int .i64 z.kind), (⟨b', off' + e0 * 4 + 1, none⟩, .slice sz z.shape.length cz), (⟨b', off' + e0 * 4 + 2, none⟩, .slice nz z.nums.length mz), (⟨b', off' + e0 * 4 + 3, none⟩, .slice iz z.items.length jz)]) [7, 8] (fun k v u u' => match k with | 7 => RetA u (fun b => wr.heap.size ≤ b) z (.returned v) u' | 8 => ∃ sa sc na nc ia ic, v = .slice (some ⟨u.heap.size, 0, none⟩) 1 1 ∧ u' = u.alloc (.cells #[.int .i64 z.kind, .slice sa z.shape.length sc, .slice na z.nums.length nc, .slice ia z.items.length ic] 26) ∧ ArrAt u (fun b => wr.heap.size ≤ b) z sa na ia | _ => False) (fun _ _ h e => h.up e) (Sees.start (all_cons ((E.out.hdr 4 rfl).c3) (all_cons (d3) (all_cons (z0) (all_cons (z1) (all_cons (z2) (all_cons (z3) (all_nil)))))))) (by kernel_rfl) (by kernel_rfl) ?_
            simp only [List.take_succ_cons, List.take_zero, List.drop_succ_cons, List.drop_zero]
            repeat (first | (refine m_plain (v := ?_) (by rfl) (by rfl) ?_ ?_; rotate_left; (intro wz hSw; obtain ⟨-, hSc⟩ := hSw; (try simp only [List.forall_mem_cons, List.forall_mem_nil, and_true] at hSc); go_simp; (first | done | with_reducible rfl)); (intro K hK; (try simp only [Act.put, List.setIfInBounds_toArray, List.set_cons_zero, List.set_cons_succ]); refine hK _ _ ?_; clear hK K)) | (refine m_skip (by rfl) (by rfl) ?_; (intro K hK; (try simp only [Act.put, List.setIfInBounds_toArray, List.set_cons_zero, List.set_cons_succ]); refine hK _ _ ?_; clear hK K)))
            refine m_make (by rfl) (by rfl) ?_ ?_
            · intro wz hSw hdep R hRz
              obtain ⟨hSe, hSc⟩ := hSw
              (try simp only [List.forall_mem_cons, List.forall_mem_nil, and_true] at hSc)
              unfold does
              (go_simp; refine Calls.mono (array_Clone z _ _ _ _ _ _ _ wz ((E.out.arr 9 rfl).up hSe)) ?_; rintro e wq ⟨ta, tc, tn, tnc, ti, tic, rfl, hq, hqb⟩; exact ⟨_, rfl, hRz.out _ _ ⟨hqb, ta, tc, tn, tnc, ti, tic, rfl, ArrAt.mono (fun b _ hb => Nat.le_trans (Below.size hSe) hb) z hq, hqb⟩⟩)
            intro v7 u7 x7 hG7 K hK
            have hF7 := hG7.fact
            (try dsimp only at hF7)
            obtain ⟨s7, c7, n7, m7, i7, j7, he, hA7, hb7⟩ := hF7
            injection he with he
            subst he
            (try simp only [Act.put, List.setIfInBounds_toArray, List.set_cons_zero, List.set_cons_succ]); refine hK _ _ ?_; clear hK K
            repeat (first | (refine m_plain (v := ?_) (by rfl) (by rfl) ?_ ?_; rotate_left; (intro wz hSw; obtain ⟨-, hSc⟩ := hSw; (try simp only [List.forall_mem_cons, List.forall_mem_nil, and_true] at hSc); go_simp; (first | done | with_reducible rfl)); (intro K hK; (try simp only [Act.put, List.setIfInBounds_toArray, List.set_cons_zero, List.set_cons_succ]); refine hK _ _ ?_; clear hK K)) | (refine m_skip (by rfl) (by rfl) ?_; (intro K hK; (try simp only [Act.put, List.setIfInBounds_toArray, List.set_cons_zero, List.set_cons_succ]); refine hK _ _ ?_; clear hK K)))
            refine m_make (by rfl) (by rfl) ?_ ?_
            · intro wz hSw hdep R hRz
              obtain ⟨hSe, hSc⟩ := hSw
              (try simp only [List.forall_mem_cons, List.forall_mem_nil, and_true] at hSc)
              unfold does
              (go_simp; exact hRz.out _ _ ⟨ext_alloc _ _, s7, c7, n7, m7, i7, j7, rfl, rfl, hA7.up (hdep 7 _ rfl (depB_sound (f := 60) (by kernel_rfl)))⟩)
            intro v8 u8 x8 hG8 K hK
            have hF8 := hG8.fact
            (try dsimp only at hF8)
            obtain ⟨s8, c8, n8, m8, i8, j8, rfl, rfl, hA8⟩ := hF8
            (try simp only [Act.put, List.setIfInBounds_toArray, List.set_cons_zero, List.set_cons_succ]); refine hK _ _ ?_; clear hK K
            repeat (first | (refine m_plain (v := ?_) (by rfl) (by rfl) ?_ ?_; rotate_left; (intro wz hSw; obtain ⟨-, hSc⟩ := hSw; (try simp only [List.forall_mem_cons, List.forall_mem_nil, and_true] at hSc); go_simp; (first | done | with_reducible rfl)); (intro K hK; (try simp only [Act.put, List.setIfInBounds_toArray, List.set_cons_zero, List.set_cons_succ]); refine hK _ _ ?_; clear hK K)) | (refine m_skip (by rfl) (by rfl) ?_; (intro K hK; (try simp only [Act.put, List.setIfInBounds_toArray, List.set_cons_zero, List.set_cons_succ]); refine hK _ _ ?_; clear hK K)))
            refine m_nil ?_
            intro wf2 hSf hAf
            have oF := hid (box_items (hAf 8 _ rfl) (Below.size hG8.s.1) hA8)
            have hfr : Hid (∀ b, b < wf2.heap.size → wr.heap.size ≤ b → Tst w S _ b ∧ w.heap.size ≤ b) := hid (fun b _ hb => ⟨E.out.fresh (Ext.refl _) hb, Nat.le_trans E.out.size hb⟩)
            replace E := hid (E.out.up hSf.1)
            clear hSf hAf hG7 hG8 hA7 hA8 hb7 z0 z1 z2 z3 d3
            refine wplE_addAF E.out 4 7 rfl rfl (by decide) rfl rfl rfl (.tmp 71) (.tmp 78) (.tmp 9) (.tmp 80) (.tmp 79) rfl rfl rfl _ _ 1 [z] rfl rfl oF.out hfr.out hll (fun _ => rfl) (fun _ _ => rfl) (fun _ _ => rfl) ?_
            intro V9 ia2 ic2 E'
            clear E oF hfr
            have E := hid E'
            clear E'
            (try simp only [List.cons_append, List.nil_append, List.set_cons_zero, List.set_cons_succ] at E)
            obtain ⟨ci2, hci2⟩ : ∃ c, c = ci ++ [z] := ⟨_, rfl⟩
            rw [← hci2] at E hciS0
            have hciS := hciS0
            have hcnS := hcnS0
            replace hci2 := hid hci2
            clear hciS0 hcnS0
            -- the odometer; E: TB with $n2 nc2 ..
            go_upto_region 21 with (fail)
            go_loopw [16] (fun v wr => ∃ (a : Nat) (idx' : List Int), a ≤ s.length ∧ v = .int .i64 ((a : Int) - 1) ∧ idx'.length = 8 ∧ Hid (∀ j, j < a → idx'.getD j 0 = idx.getD j 0) ∧ Hid (∀ j, a ≤ j → j < s.length → idx.getD j 0 = s.getD j 0 - 1 ∧ idx'.getD j 0 = 0) ∧ Env w S wr [.obj w.heap.size (.cells #[.int .i64 y.kind, .slice sy y.shape.length cy, .slice ny y.nums.length my, .slice iy y.items.length jy] 26 (0, 0)), .obj (w.heap.size + 1) (.cells #[.int .i64 0, .slice none 0 0, .slice none 0 0, .slice none 0 0] 26 (0, 0)), .arr y sy ny iy, .ints s (some ⟨bs, os, none⟩), .obj po (.cells #[.int .i64 y.kind, .slice (some ⟨bs, os, none⟩) s.length sc, .slice na (cn).length nc, .slice ia2 (ci2).length ic2] 26 (0, 0)), .obj bi (.cells (rowO (idx')) 68 (0, 0)), .rowI na nc (cn), .rowAF ia2 ic2 (ci2)]) (fun v _ => (intOf v + 1).toNat)
            case atStart => exact ⟨s.length, idx, Nat.le_refl _, rfl, hix, hid (fun _ _ => rfl), hid (fun j h1 h2 => by omega), E.out.sub (List.Sublist.cons_cons _ (List.Sublist.cons_cons _ (List.Sublist.cons_cons _ (List.Sublist.cons_cons _ (List.Sublist.cons_cons _ (List.Sublist.cons_cons _ (List.Sublist.cons_cons _ (List.Sublist.cons_cons _ (List.nil_sublist _)))))))))⟩
            case round =>
              clear E
              obtain ⟨a, idx', ha, rfl, hix', hj1, hj2, E⟩ := hrel
              replace E := hid E
              obtain rfl | ⟨b, rfl⟩ : a = 0 ∨ ∃ b, a = b + 1 := by
                cases a with
                | zero => exact Or.inl rfl
                | succ b => exact Or.inr ⟨b, rfl⟩
              · have hfN : Hid (f + 1 = N) := hid (odo_over hpB.out hcN.out hoI.out (fun j hj => (hj2.out j (Nat.zero_le _) hj).1))
                have hneg : ((0 : Nat) : Int) - 1 = -1 := rfl
                rw [hneg]
                go_wp2_with fail
                go_roundw
                case rel => exact ⟨f + 1, idx', na, nc, ia2, ic2, by omega, by go_num, hix', hid (fun q => by have := hfN.out; omega), by rw [hcnS.out, hciS.out]; exact E.out⟩
                case measure => simp [intOf]; omega
              · have hap : ((b + 1 : Nat) : Int) - 1 = (b : Int) := by omega
                rw [hap]
                have hal : b < s.length := by omega
                have ha8 : b < idx'.length := by omega
                have hd1 := hj1.out b (by omega)
                have hI := hinI.out b hal
                have hcs := ints_cell (E.out.ints 3 rfl) hal
                have hci := rowO_cell (E.out.obj 5 rfl) ha8
                rw [hd1] at hci
                have hsx : s.getD b 0 ≤ 65536 := hs6.out b hal
                obtain ⟨dd, hdd⟩ : ∃ d, d = idx.getD b 0 := ⟨_, rfl⟩
                obtain ⟨sd, hsd⟩ : ∃ d, d = s.getD b 0 := ⟨_, rfl⟩
                rw [← hdd] at hci hI
                rw [← hsd] at hI hsx hcs
                replace hdd := hid hdd
                replace hsd := hid hsd
                replace hd1 := hid hd1
                have a0 : (0 : Int) ≤ (b : Int) := by omega
                have a1 : (b : Int) < 8 := by omega
                have a2 : (b : Int) < (s.length : Int) := by omega
                have a3 : b < 8 := by omega
                have hw1 : IntKind.i64.wrap (dd + 1) = dd + 1 := IntWalk.i64_in _ (by omega)
                clear hcs
                go_upto_region 24 with (refine wplE_setT E.out 5 rfl rfl (.tmp 102) (.tmp 101) rfl b ha8 (dd + 1) (by first | rfl | simp [Act.eval, Act.put]) (by first | rfl | simp [Act.eval, Act.put]) ?_; intro V7 E1; clear E; have E := hid E1; clear E1; (try simp only [List.cons_append, List.nil_append, List.set_cons_zero, List.set_cons_succ] at E))
                clear hci hw1
                have hcs := ints_cell (E.out.ints 3 rfl) hal
                rw [← hsd.out] at hcs
                have hci := rowO_cell (E.out.obj 5 rfl) (k := b) (by rw [List.length_set]; exact ha8)
                rw [getD_setI ha8, if_pos rfl] at hci
                refine wp_region_mono (Sees V7 [(⟨bi, b, none⟩, .int .i64 (dd + 1)), (⟨bs, os + b, none⟩, .int .i64 sd)]) [] (fun k v u u' => match k with  | _ => False) (fun _ _ h e => h.up e) (Sees.start (all_cons (hci) (all_cons (hcs) (all_nil)))) (by kernel_rfl) (by kernel_rfl) ?_
                repeat (first | (refine m_plain (v := ?_) (by rfl) (by rfl) ?_ ?_; rotate_left; (intro wz hSw; obtain ⟨-, hSc⟩ := hSw; (try simp only [List.forall_mem_cons, List.forall_mem_nil, and_true] at hSc); go_simp; (first | done | with_reducible rfl)); (intro K hK; (try simp only [Act.put, List.setIfInBounds_toArray, List.set_cons_zero, List.set_cons_succ]); refine hK _ _ ?_; clear hK K)) | (refine m_skip (by rfl) (by rfl) ?_; (intro K hK; (try simp only [Act.put, List.setIfInBounds_toArray, List.set_cons_zero, List.set_cons_succ]); refine hK _ _ ?_; clear hK K)))
                refine m_nil ?_
                intro wf hSf hAf
                replace E := hid (E.out.up hSf.1)
                clear hSf hAf hcs hci
                have hix7 : (idx'.set b (dd + 1)).length = 8 := by rw [List.length_set]; exact hix'
                by_cases hlt3 : dd + 1 < sd
                case pos =>
                  have hnx : Hid (inI s (idx'.set b (dd + 1)) ∧ offF s (idx'.set b (dd + 1)) s.length = ((f + 1 : Nat) : Int)) := hid (odo_next (a := b) hinI.out hoI.out hal (fun j hj => by rw [getD_setI ha8, if_neg (by omega)]; exact hj1.out j (by omega)) (by rw [getD_setI ha8, if_pos rfl, hdd.out]) (by rw [← hdd.out, ← hsd.out]; exact hlt3) (fun j h1 h2 => by rw [getD_setI ha8, if_neg (by omega)]; exact hj2.out j (by omega) h2))
                  go_wp2_with fail
                  go_roundw
                  case rel => exact ⟨f + 1, idx'.set b (dd + 1), na, nc, ia2, ic2, by omega, by go_num, hix7, hid (fun _ => hnx.out), by rw [hcnS.out, hciS.out]; exact E.out⟩
                  case measure => simp [intOf]; omega
                case neg =>
                  have hw2 : IntKind.i64.wrap ((b : Int) - 1) = (b : Int) - 1 := IntWalk.i64_in _ (by omega)
                  have ha9 : b < (idx'.set b (dd + 1)).length := by omega
                  have hj3 : Hid (∀ j, j < b → ((idx'.set b (dd + 1)).set b 0).getD j 0 = idx.getD j 0) := hid fun j hj => by rw [getD_setI ha9, if_neg (by omega), getD_setI ha8, if_neg (by omega)]; exact hj1.out j (by omega)
                  have hj4 : Hid (∀ j, b ≤ j → j < s.length → idx.getD j 0 = s.getD j 0 - 1 ∧ ((idx'.set b (dd + 1)).set b 0).getD j 0 = 0) := hid fun j h1 h2 => by
                    rw [getD_setI ha9]
                    by_cases q : j = b
                    · subst q
                      rw [if_pos rfl, ← hdd.out, ← hsd.out]; exact ⟨by omega, rfl⟩
                    · rw [if_neg q, getD_setI ha8, if_neg q]; exact hj2.out j (by omega) h2
                  go_wp2_with (refine wplE_setT E.out 5 rfl rfl (.tmp 112) (.const (.int .i64 0)) rfl b ha9 0 (by first | rfl | simp [Act.eval, Act.put]) rfl ?_; intro V8 E1; clear E; have E := hid E1; clear E1; (try simp only [List.cons_append, List.nil_append, List.set_cons_zero, List.set_cons_succ] at E))
                  go_roundw
                  case rel => exact ⟨b, (idx'.set b (dd + 1)).set b 0, by omega, by go_num, by rw [List.length_set]; exact hix7, hj3, hj4, E.out⟩
                  case measure => simp [intOf] <;> omega
          case neg =>
            have kb3 : (y.kind == 3) = false := by simp [k3]
            have hnl3 : e0 < y.nums.length := szA_N k3 hA3
            obtain ⟨b', off', hna, hbl', hSb', z0⟩ := (E.out.arr 2 rfl).nums.at hnl3
            have hcnS0 : (y.nums.drop o).take (f + 1) = (y.nums.drop o).take f ++ [y.nums[e0]] := drop_take_step he1.out hnl3
            have hciS0 : (y.items.drop o).take (f + 1) = (y.items.drop o).take f := by rw [hi0.out k3]; simp
            have hgd : y.nums.getD e0 0 = y.nums[e0] := by simp [hnl3]
            rw [hgd] at z0
            clear hgd
            generalize y.nums[e0] = z at z0 hcnS0
            rw [← hciE.out] at hciS0
            rw [← hcnE.out] at hcnS0
            have hcl6 : cn.length ≤ f := by rw [hcnE.out, List.length_take]; omega
            replace hciS0 := hid hciS0
            replace hcnS0 := hid hcnS0
            have t0 : (0 : Int) ≤ (e0 : Int) := by omega
            have t1 : (e0 : Int) < (y.nums.length : Int) := by omega
            have hia := hid hna
            clear hna
            replace k3 := hid k3
            obtain ⟨q00, q01, q02, q03⟩ := (E.out.hdr 0 rfl).all
            go_upto_region 19 with (fail)
            clear q00 q01 q02 q03
            have d3 := (E.out.hdr 8 rfl).c2
            rw [hia.out] at d3
            refine wp_region_mono_tail 8 (Sees wr [(⟨po, 2, none⟩, .slice na cn.length nc), (⟨ps, 2, none⟩, .slice (some ⟨b', off', none⟩) y.nums.length my), (⟨b', off' + e0, none⟩, .int .i64 z)]) [7] (fun k v u u' => match k with | 7 => v = .slice (some ⟨u.heap.size, 0, none⟩) 1 1 ∧ u' = u.alloc (.cells (([z] : List Int).map (Value.int .i64)).toArray 3) | _ => False) (fun _ _ h e => h.up e) (Sees.start (all_cons ((E.out.hdr 4 rfl).c2) (all_cons (d3) (all_cons (z0) (all_nil))))) (by kernel_rfl) (by kernel_rfl) ?_
            simp only [List.take_succ_cons, List.take_zero, List.drop_succ_cons, List.drop_zero]
            repeat (first | (refine m_plain (v := ?_) (by rfl) (by rfl) ?_ ?_; rotate_left; (intro wz hSw; obtain ⟨-, hSc⟩ := hSw; (try simp only [List.forall_mem_cons, List.forall_mem_nil, and_true] at hSc); go_simp; (first | done | with_reducible rfl)); (intro K hK; (try simp only [Act.put, List.setIfInBounds_toArray, List.set_cons_zero, List.set_cons_succ]); refine hK _ _ ?_; clear hK K)) | (refine m_skip (by rfl) (by rfl) ?_; (intro K hK; (try simp only [Act.put, List.setIfInBounds_toArray, List.set_cons_zero, List.set_cons_succ]); refine hK _ _ ?_; clear hK K)))
            refine m_make (by rfl) (by rfl) ?_ ?_
            · intro wz hSw hdep R hRz
              obtain ⟨hSe, hSc⟩ := hSw
              (try simp only [List.forall_mem_cons, List.forall_mem_nil, and_true] at hSc)
              unfold does
              (go_simp; exact hRz.out _ _ ⟨ext_alloc _ _, rfl, rfl⟩)
            intro v7 u7 x7 hG7 K hK
            have hF7 := hG7.fact
            (try dsimp only at hF7)
            obtain ⟨rfl, rfl⟩ := hF7
            (try simp only [Act.put, List.setIfInBounds_toArray, List.set_cons_zero, List.set_cons_succ]); refine hK _ _ ?_; clear hK K
            repeat (first | (refine m_plain (v := ?_) (by rfl) (by rfl) ?_ ?_; rotate_left; (intro wz hSw; obtain ⟨-, hSc⟩ := hSw; (try simp only [List.forall_mem_cons, List.forall_mem_nil, and_true] at hSc); go_simp; (first | done | with_reducible rfl)); (intro K hK; (try simp only [Act.put, List.setIfInBounds_toArray, List.set_cons_zero, List.set_cons_succ]); refine hK _ _ ?_; clear hK K)) | (refine m_skip (by rfl) (by rfl) ?_; (intro K hK; (try simp only [Act.put, List.setIfInBounds_toArray, List.set_cons_zero, List.set_cons_succ]); refine hK _ _ ?_; clear hK K)))
            refine m_nil ?_
            intro wf2 hSf hAf
            have oF : Hid (IntsAt wf2 (fun b => u7.heap.size ≤ b) (some ⟨u7.heap.size, 0, none⟩) [z]) := hid (lit_at (l := [z]) (hAf 7 _ rfl) (by simp))
            replace E := hid (E.out.up hSf.1)
            clear hSf hAf hG7 z0 d3
            refine wplE_addN E.out 4 6 rfl rfl (by decide) rfl rfl rfl (.tmp 82) (.tmp 88) (.tmp 9) (.tmp 90) (.tmp 89) rfl rfl rfl _ _ 1 [z] rfl rfl oF.out (by simp only [List.length_cons, List.length_nil]; omega) (fun _ => rfl) (fun _ _ => rfl) (fun _ _ => rfl) ?_
            intro V9 na2 nc2 E'
            clear E oF
            have E := hid E'
            clear E'
            (try simp only [List.cons_append, List.nil_append, List.set_cons_zero, List.set_cons_succ] at E)
            obtain ⟨cn2, hcn2⟩ : ∃ c, c = cn ++ [z] := ⟨_, rfl⟩
            rw [← hcn2] at E hcnS0
            have hciS := hciS0
            have hcnS := hcnS0
            replace hcn2 := hid hcn2
            clear hciS0 hcnS0
            -- the odometer; E: TB with $n2 nc22 ..
            go_upto_region 21 with (fail)
            go_loopw [16] (fun v wr => ∃ (a : Nat) (idx' : List Int), a ≤ s.length ∧ v = .int .i64 ((a : Int) - 1) ∧ idx'.length = 8 ∧ Hid (∀ j, j < a → idx'.getD j 0 = idx.getD j 0) ∧ Hid (∀ j, a ≤ j → j < s.length → idx.getD j 0 = s.getD j 0 - 1 ∧ idx'.getD j 0 = 0) ∧ Env w S wr [.obj w.heap.size (.cells #[.int .i64 y.kind, .slice sy y.shape.length cy, .slice ny y.nums.length my, .slice iy y.items.length jy] 26 (0, 0)), .obj (w.heap.size + 1) (.cells #[.int .i64 0, .slice none 0 0, .slice none 0 0, .slice none 0 0] 26 (0, 0)), .arr y sy ny iy, .ints s (some ⟨bs, os, none⟩), .obj po (.cells #[.int .i64 y.kind, .slice (some ⟨bs, os, none⟩) s.length sc, .slice na2 (cn2).length nc2, .slice ia (ci).length ic] 26 (0, 0)), .obj bi (.cells (rowO (idx')) 68 (0, 0)), .rowI na2 nc2 (cn2), .rowAF ia ic (ci)]) (fun v _ => (intOf v + 1).toNat)
            case atStart => exact ⟨s.length, idx, Nat.le_refl _, rfl, hix, hid (fun _ _ => rfl), hid (fun j h1 h2 => by omega), E.out.sub (List.Sublist.cons_cons _ (List.Sublist.cons_cons _ (List.Sublist.cons_cons _ (List.Sublist.cons_cons _ (List.Sublist.cons_cons _ (List.Sublist.cons_cons _ (List.Sublist.cons_cons _ (List.Sublist.cons_cons _ (List.nil_sublist _)))))))))⟩
            case round =>
              clear E
              obtain ⟨a, idx', ha, rfl, hix', hj1, hj2, E⟩ := hrel
              replace E := hid E
              obtain rfl | ⟨b, rfl⟩ : a = 0 ∨ ∃ b, a = b + 1 := by
                cases a with
                | zero => exact Or.inl rfl
                | succ b => exact Or.inr ⟨b, rfl⟩
              · have hfN : Hid (f + 1 = N) := hid (odo_over hpB.out hcN.out hoI.out (fun j hj => (hj2.out j (Nat.zero_le _) hj).1))
                have hneg : ((0 : Nat) : Int) - 1 = -1 := rfl
                rw [hneg]
                go_wp2_with fail
                go_roundw
                case rel => exact ⟨f + 1, idx', na2, nc2, ia, ic, by omega, by go_num, hix', hid (fun q => by have := hfN.out; omega), by rw [hcnS.out, hciS.out]; exact E.out⟩
                case measure => simp [intOf]; omega
              · have hap : ((b + 1 : Nat) : Int) - 1 = (b : Int) := by omega
                rw [hap]
                have hal : b < s.length := by omega
                have ha8 : b < idx'.length := by omega
                have hd1 := hj1.out b (by omega)
                have hI := hinI.out b hal
                have hcs := ints_cell (E.out.ints 3 rfl) hal
                have hci := rowO_cell (E.out.obj 5 rfl) ha8
                rw [hd1] at hci
                have hsx : s.getD b 0 ≤ 65536 := hs6.out b hal
                obtain ⟨dd, hdd⟩ : ∃ d, d = idx.getD b 0 := ⟨_, rfl⟩
                obtain ⟨sd, hsd⟩ : ∃ d, d = s.getD b 0 := ⟨_, rfl⟩
                rw [← hdd] at hci hI
                rw [← hsd] at hI hsx hcs
                replace hdd := hid hdd
                replace hsd := hid hsd
                replace hd1 := hid hd1
                have a0 : (0 : Int) ≤ (b : Int) := by omega
                have a1 : (b : Int) < 8 := by omega
                have a2 : (b : Int) < (s.length : Int) := by omega
                have a3 : b < 8 := by omega
                have hw1 : IntKind.i64.wrap (dd + 1) = dd + 1 := IntWalk.i64_in _ (by omega)
                clear hcs
                go_upto_region 24 with (refine wplE_setT E.out 5 rfl rfl (.tmp 102) (.tmp 101) rfl b ha8 (dd + 1) (by first | rfl | simp [Act.eval, Act.put]) (by first | rfl | simp [Act.eval, Act.put]) ?_; intro V7 E1; clear E; have E := hid E1; clear E1; (try simp only [List.cons_append, List.nil_append, List.set_cons_zero, List.set_cons_succ] at E))
                clear hci hw1
                have hcs := ints_cell (E.out.ints 3 rfl) hal
                rw [← hsd.out] at hcs
                have hci := rowO_cell (E.out.obj 5 rfl) (k := b) (by rw [List.length_set]; exact ha8)
                rw [getD_setI ha8, if_pos rfl] at hci
                refine wp_region_mono (Sees V7 [(⟨bi, b, none⟩, .int .i64 (dd + 1)), (⟨bs, os + b, none⟩, .int .i64 sd)]) [] (fun k v u u' => match k with  | _ => False) (fun _ _ h e => h.up e) (Sees.start (all_cons (hci) (all_cons (hcs) (all_nil)))) (by kernel_rfl) (by kernel_rfl) ?_
                repeat (first | (refine m_plain (v := ?_) (by rfl) (by rfl) ?_ ?_; rotate_left; (intro wz hSw; obtain ⟨-, hSc⟩ := hSw; (try simp only [List.forall_mem_cons, List.forall_mem_nil, and_true] at hSc); go_simp; (first | done | with_reducible rfl)); (intro K hK; (try simp only [Act.put, List.setIfInBounds_toArray, List.set_cons_zero, List.set_cons_succ]); refine hK _ _ ?_; clear hK K)) | (refine m_skip (by rfl) (by rfl) ?_; (intro K hK; (try simp only [Act.put, List.setIfInBounds_toArray, List.set_cons_zero, List.set_cons_succ]); refine hK _ _ ?_; clear hK K)))
                refine m_nil ?_
                intro wf hSf hAf
                replace E := hid (E.out.up hSf.1)
                clear hSf hAf hcs hci
                have hix7 : (idx'.set b (dd + 1)).length = 8 := by rw [List.length_set]; exact hix'
                by_cases hlt3 : dd + 1 < sd
                case pos =>
                  have hnx : Hid (inI s (idx'.set b (dd + 1)) ∧ offF s (idx'.set b (dd + 1)) s.length = ((f + 1 : Nat) : Int)) := hid (odo_next (a := b) hinI.out hoI.out hal (fun j hj => by rw [getD_setI ha8, if_neg (by omega)]; exact hj1.out j (by omega)) (by rw [getD_setI ha8, if_pos rfl, hdd.out]) (by rw [← hdd.out, ← hsd.out]; exact hlt3) (fun j h1 h2 => by rw [getD_setI ha8, if_neg (by omega)]; exact hj2.out j (by omega) h2))
                  go_wp2_with fail
                  go_roundw
                  case rel => exact ⟨f + 1, idx'.set b (dd + 1), na2, nc2, ia, ic, by omega, by go_num, hix7, hid (fun _ => hnx.out), by rw [hcnS.out, hciS.out]; exact E.out⟩
                  case measure => simp [intOf]; omega
                case neg =>
                  have hw2 : IntKind.i64.wrap ((b : Int) - 1) = (b : Int) - 1 := IntWalk.i64_in _ (by omega)
                  have ha9 : b < (idx'.set b (dd + 1)).length := by omega
                  have hj3 : Hid (∀ j, j < b → ((idx'.set b (dd + 1)).set b 0).getD j 0 = idx.getD j 0) := hid fun j hj => by rw [getD_setI ha9, if_neg (by omega), getD_setI ha8, if_neg (by omega)]; exact hj1.out j (by omega)
                  have hj4 : Hid (∀ j, b ≤ j → j < s.length → idx.getD j 0 = s.getD j 0 - 1 ∧ ((idx'.set b (dd + 1)).set b 0).getD j 0 = 0) := hid fun j h1 h2 => by
                    rw [getD_setI ha9]
                    by_cases q : j = b
                    · subst q
                      rw [if_pos rfl, ← hdd.out, ← hsd.out]; exact ⟨by omega, rfl⟩
                    · rw [if_neg q, getD_setI ha8, if_neg q]; exact hj2.out j (by omega) h2
                  go_wp2_with (refine wplE_setT E.out 5 rfl rfl (.tmp 112) (.const (.int .i64 0)) rfl b ha9 0 (by first | rfl | simp [Act.eval, Act.put]) rfl ?_; intro V8 E1; clear E; have E := hid E1; clear E1; (try simp only [List.cons_append, List.nil_append, List.set_cons_zero, List.set_cons_succ] at E))
                  go_roundw
                  case rel => exact ⟨b, (idx'.set b (dd + 1)).set b 0, by omega, by go_num, by rw [List.length_set]; exact hix7, hj3, hj4, E.out⟩
                  case measure => simp [intOf] <;> omega
    case neg =>
      obtain rfl : f = N := by omega
      obtain ⟨cn, hcnE⟩ : ∃ c, c = (y.nums.drop o).take f := ⟨_, rfl⟩
      obtain ⟨ci, hciE⟩ : ∃ c, c = (y.items.drop o).take f := ⟨_, rfl⟩
      rw [← hcnE, ← hciE] at E hsecE
      have hcl6 : cn.length ≤ f := by rw [hcnE, List.length_take]; omega
      have hcl7 : ci.length ≤ f := by rw [hciE, List.length_take]; omega
      replace hcnE := hid hcnE
      replace hciE := hid hciE
      have hRR : Hid (rightS (.mk y.kind s cn ci) = 0) := hid (by rw [← hsecE.out]; exact hsecR.out)
      have c6 := OwnI.cap (E.out.rowI 6 rfl)
      have c7 := OwnA.cap (E.out.rowAF 7 rfl)
      replace E := hid (E.out.doneIF 6 rfl (by omega))
      (try simp only [List.cons_append, List.nil_append, List.set_cons_zero, List.set_cons_succ] at E)
      replace E := hid (E.out.doneAF 7 rfl)
      (try simp only [List.cons_append, List.nil_append, List.set_cons_zero, List.set_cons_succ] at E)
      have hArr := ArrAt.iff (a := .mk y.kind s cn ci) |>.2 ⟨E.out.ints 3 rfl, (E.out.intsF 6 rfl).mono fun b _ h => h.1, by show ci.length ≤ _; omega, (E.out.itemsF 7 rfl).mono fun b _ h => h.1⟩
      replace E := hid (E.out.addArr hArr (fun _ _ h => h))
      clear hArr
      (try simp only [List.cons_append, List.nil_append, List.set_cons_zero, List.set_cons_succ] at E)
      obtain ⟨q40, q41, q42, q43⟩ := (E.out.hdr 4 rfl).all
      go_wp2_with fail
      clear q40 q41 q42 q43
      refine (array_Right (.mk y.kind s cn ci) _ _ _ _ _ _ _ _ (E.out.arr 8 rfl)).mono ?_
      rintro e w9 ⟨rfl, hb⟩
      replace E := hid (E.out.up hb)
      clear hb
      rw [hRR.out]
      obtain ⟨q40, q41, q42, q43⟩ := (E.out.hdr 4 rfl).all
      go_wp2_with (refine wpl_store4 rfl (.tmp 6) (.tmp 118) rfl _ rfl rfl (E.out.hdr 1 rfl) ?_; intro V HV CV; replace E := hid (E.out.chg 1 rfl CV HV); clear CV; (try simp only [List.cons_append, List.nil_append, List.set_cons_zero, List.set_cons_succ] at E))
      refine bodyPost_ret (end_arr2 rfl HV rfl rfl) rfl (hR.out _ _ ?_)
      exact RetAEC.at hsecE.out rfl (ArrAt.iff.2 ⟨(gU.out.later E.out.ext).mono fun b _ h => Or.inl h, (E.out.intsF 6 rfl).mono fun b _ h => Or.inr h.2, by show ci.length ≤ _; omega, (E.out.itemsF 7 rfl).mono fun b _ h => Or.inr h.2⟩) E.out.ext ⟨hc.out, c6, c7⟩
end Go.Proofs.Ytolnbmmkpmajdaa
