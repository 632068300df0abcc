/- taking.check, abs, Take, Drop: contracts for one count. Conditions: the array is right and has axes; the count is one of its first axis. -/
import Derived.Test.YtolnbmmkpmajdaaTAK1
import Derived.Test.YtolnbmmkpmajdaaCELL1
import Derived.Test.YtolnbmmkpmajdaaTOPA
set_option linter.unusedVariables false
set_option maxRecDepth 20000
set_option linter.unusedSimpArgs false
namespace Go.Proofs.Ytolnbmmkpmajdaa
open Go.RowKit Go.Sort
attribute [local go_sem ↓] run_max2 run_min2
attribute [local go_sem] eql_ints_nil eql_arrs_nil
theorem lenT {f : FuncId} {xs : List Int} {n : Nat} (hn : xs.length = n) {ao : Option Addr} {cap : Nat} {u v : Value} {w : World} {R : Ending → World → Prop} (h : Calls Try.prog f #[u, .slice ao xs.length cap, v] w R) : Calls Try.prog f #[u, .slice ao n cap, v] w R := hn ▸ h
theorem end_arr3 {fn : Func} {a p q : Tmp} (hres : fn.results = #[.tmp a, .cell p 26, .tmp q]) {w : World} {b : Nat} {tmps : Array Value} {k s n i : Value} (h : Hdr w b k s n i) (hp : tmps.getD p undef = .pointer (some ⟨b, 0, none⟩)) {u v : Value} (ha : tmps.getD a undef = u) (hq : tmps.getD q undef = v) :
    (results fn tmps).run Try.prog w = .ok (.tuple #[u, .agg #[k, s, n, i], v]) w := by
  have hp' : tmps[p]?.getD undef = .pointer (some ⟨b, 0, none⟩) := by simpa using hp
  have hq' : tmps[q]?.getD undef = v := by simpa using hq
  have ha' : tmps[a]?.getD undef = u := by simpa using ha
  simp [results, hres, hp', hq', ha', asAddr, run_loadVar_row w b _ _ _ _ _ h Try.underlying26 rfl (by kernel_rfl)]
set_option maxHeartbeats 2000000 in
theorem taking_abs (n : Int) (h1 : -1000000 ≤ n) (h2 : n ≤ 1000000) (w : World) : Calls Try.prog 22 #[.int .i64 n] w fun e w' => e = .returned (.int .i64 (if n < 0 then -n else n)) ∧ Ext w w' := by
  refine calls_post fun R' hR => ?_
  have hw : IntKind.i64.wrap (-n) = -n := IntWalk.i64_in _ (by omega)
  go_enter Try.func22, Try.ntmps22
  by_cases c : n < 0
  · have hv : Hid ((if n < 0 then -n else n) = -n) := hid (if_pos c)
    have m1 : ¬ (-n ≤ n) := by omega
    have m2 : n ≤ -n := by omega
    have m3 : max n (-n) = -n := by omega
    replace c := hid c
    go_wp2_with fail
    exact hR.out _ _ ⟨by rw [hv.out] <;> rfl, Ext.refl _⟩
  · have hv : Hid ((if n < 0 then -n else n) = n) := hid (if_neg c)
    have m3 : max n (-n) = n := by omega
    replace c := hid c
    go_wp2_with fail
    exact hR.out _ _ ⟨by rw [hv.out] <;> rfl, Ext.refl _⟩
set_option maxHeartbeats 4000000 in
theorem taking_check (x : Arr) (sx : Option Addr) (cx : Nat) (nx : Option Addr) (mx : Nat) (ix : Option Addr) (jx : Nat) (y : Arr) (sy : Option Addr) (cy : Nat) (ny : Option Addr) (my : Nat) (iy : Option Addr) (jy : Nat) (S : Nat → Prop) (w : World) (h : ArrAt w S x sx nx ix) (g : ArrAt w S y sy ny iy) (rx : rightS x = 0) (ry : rightS y = 0) (kx : x.kind = 1) (hx : x.shape.length = 0) (hn : x.nums.length = 1) (hr : y.shape.length ≠ 0) :
    Calls Try.prog 20 #[.agg #[.int .i64 x.kind, .slice sx x.shape.length cx, .slice nx x.nums.length mx, .slice ix x.items.length jx], .agg #[.int .i64 y.kind, .slice sy y.shape.length cy, .slice ny y.nums.length my, .slice iy y.items.length jy]] w fun e w' => e = .returned (.tuple #[.slice nx x.nums.length mx, .agg #[.int .i64 y.kind, .slice sy y.shape.length cy, .slice ny y.nums.length my, .slice iy y.items.length jy], .int .i64 0]) ∧ Ext w w' := by
  refine calls_post fun R' hR => ?_
  have h0 := hid h
  have g0 := hid g
  clear h g
  have kb : (x.kind != 1) = false := by simp [kx]
  have b1 : ¬ (1 : Int) < (x.shape.length : Int) := by omega
  have b2 : (0 : Int) < (y.shape.length : Int) := by omega
  have b3 : ¬ (y.shape.length : Int) < (x.nums.length : Int) := by omega
  have b4 : ¬ (8 : Int) < (x.nums.length : Int) := by omega
  have b5 : ((y.shape.length : Int) == 0) = false := by simpa using hr
  replace kx := hid kx
  replace hx := hid hx
  replace hn := hid hn
  replace hr := hid hr
  replace rx := hid rx
  replace ry := hid ry
  go_enter Try.func20, Try.ntmps20
  go_upto_region 1 with (fail)
  generalize hEW : (((w).alloc (.cells #[.int .i64 x.kind, .slice sx x.shape.length cx, .slice nx x.nums.length mx, .slice ix x.items.length jx] 26)).alloc (.cells #[.int .i64 y.kind, .slice sy y.shape.length cy, .slice ny y.nums.length my, .slice iy y.items.length jy] 26)).alloc (.cells #[.int .i64 0, .slice none 0 0, .slice none 0 0, .slice none 0 0] 26) = W
  have E := hid (env3 w S hEW)
  clear hEW
  replace E := hid ((E.out.arg h0.out).arg g0.out)
  (try simp only [List.cons_append, List.nil_append, List.set_cons_zero, List.set_cons_succ] at E)
  obtain ⟨q00, q01, q02, q03⟩ := (E.out.hdr 0 rfl).all
  go_wp2_with fail
  clear q00 q01 q02 q03
  refine (array_Right x _ _ _ _ _ _ _ _ (E.out.arr 3 rfl)).mono ?_
  rintro e w1 ⟨rfl, hb⟩
  replace E := hid (E.out.up hb)
  clear hb
  rw [rx.out]
  obtain ⟨q10, q11, q12, q13⟩ := (E.out.hdr 1 rfl).all
  go_wp2_with fail
  clear q10 q11 q12 q13
  refine (array_Right y _ _ _ _ _ _ _ _ (E.out.arr 4 rfl)).mono ?_
  rintro e w2 ⟨rfl, hb⟩
  replace E := hid (E.out.up hb)
  clear hb
  rw [ry.out]
  obtain ⟨q00, q01, q02, q03⟩ := (E.out.hdr 0 rfl).all
  obtain ⟨q10, q11, q12, q13⟩ := (E.out.hdr 1 rfl).all
  go_upto_region 13 with (fail)
  refine wp_region_mono_tail 4 (Sees w2 [(⟨w.heap.size, 0, none⟩, .int .i64 x.kind), (⟨w.heap.size, 1, none⟩, .slice sx x.shape.length cx), (⟨w.heap.size, 2, none⟩, .slice nx x.nums.length mx), (⟨w.heap.size, 3, none⟩, .slice ix x.items.length jx), (⟨(w.heap.size+1), 0, none⟩, .int .i64 y.kind), (⟨(w.heap.size+1), 1, none⟩, .slice sy y.shape.length cy), (⟨(w.heap.size+1), 2, none⟩, .slice ny y.nums.length my), (⟨(w.heap.size+1), 3, none⟩, .slice iy y.items.length jy)]) [] (fun k v u u' => match k with  | _ => False) (fun _ _ h e => h.up e) (Sees.start (all_cons ((E.out.hdr 0 rfl).c0) (all_cons ((E.out.hdr 0 rfl).c1) (all_cons ((E.out.hdr 0 rfl).c2) (all_cons ((E.out.hdr 0 rfl).c3) (all_cons ((E.out.hdr 1 rfl).c0) (all_cons ((E.out.hdr 1 rfl).c1) (all_cons ((E.out.hdr 1 rfl).c2) (all_cons ((E.out.hdr 1 rfl).c3) (all_nil)))))))))) (by kernel_rfl) (by kernel_rfl) ?_
  simp only [List.take_succ_cons, List.take_zero, List.drop_succ_cons, List.drop_zero]
  repeat (first | (refine m_plain (v := ?_) (by rfl) (by rfl) ?_ ?_; rotate_left; (intro wz hSw; obtain ⟨-, hSc⟩ := hSw; (try simp only [List.forall_mem_cons, List.forall_mem_nil, and_true] at hSc); go_simp; (first | done | with_reducible rfl)); (intro K hK; (try simp only [Act.put, List.setIfInBounds_toArray, List.set_cons_zero, List.set_cons_succ]); refine hK _ _ ?_; clear hK K)) | (refine m_skip (by rfl) (by rfl) ?_; (intro K hK; (try simp only [Act.put, List.setIfInBounds_toArray, List.set_cons_zero, List.set_cons_succ]); refine hK _ _ ?_; clear hK K)))
  refine m_nil ?_
  intro wf hSf hAf
  replace E := hid (E.out.up hSf.1)
  clear hSf hAf
  clear q00 q01 q02 q03 q10 q11 q12 q13
  refine wpl_store4 (by rfl) (.tmp 5) (.tmp 61) (by rfl) _ (by rfl) (by rfl) (E.out.hdr 2 rfl) ?_
  intro V HV CV
  replace E := hid (E.out.chg 2 rfl CV HV)
  clear CV
  go_wp2_with fail
  exact bodyPost_ret (end_arr3 rfl HV rfl rfl rfl) rfl (hR.out _ _ ⟨rfl, E.out.ext⟩)
set_option maxHeartbeats 2000000 in
theorem taking_take1 (n : Int) (off : Nat) (s : List Int) (so : Option Addr) (sc : Nat) (no : Option Addr) (mc : Nat) (pc py : Nat) (T : Nat → Prop) (w : World) (hc : w.cell? ⟨pc, 0, none⟩ = some (.slice no 1 mc)) (hn : IntsAt w T no [n]) (hy : w.cell? ⟨py, 1, none⟩ = some (.slice so s.length sc)) (hs : IntsAt w T so s)
    (hoff : if n < 0 then (off : Int) = s.getD 0 0 + n else off = 0) (j : Nat) (i : Int) (hj : j < s.length) (h0 : 0 ≤ i) (h1 : i ≤ 65536) (h2 : -65536 ≤ n) (h3 : n ≤ 65536) (h4 : s.getD 0 0 ≤ 65536) (h5 : 0 ≤ s.getD 0 0) :
    Calls Try.prog 24 #[.int .i64 (j : Nat), .int .i64 i, .pointer (some ⟨pc, 0, none⟩), .pointer (some ⟨py, 0, none⟩)] w fun e w' => e = .returned (.int .i64 (if j = 0 then i + (off : Int) else i)) ∧ Ext w w' := by
  refine calls_post fun R' hR => ?_
  obtain ⟨bn, on, hno, _, _, hcn⟩ := hn.at (k := 0) (by simp)
  subst hno
  obtain ⟨bs, os, hso, _, _, hcs⟩ := hs.at (k := 0) (by omega)
  subst hso
  rw [show [n].getD 0 0 = n from rfl, Nat.add_zero] at hcn
  rw [Nat.add_zero] at hcs
  generalize s.getD 0 0 = t at hcs hoff h4 h5
  go_enter Try.func24, Try.ntmps24
  by_cases c : j = 0
  case neg =>
    have cb : ¬ (j : Int) < 1 := by omega
    have hv : Hid ((if j = 0 then i + (off : Int) else i) = i) := hid (if_neg c)
    replace c := hid c
    replace hoff := hid hoff
    go_wp2_with fail
    exact hR.out _ _ ⟨by rw [hv.out] <;> rfl, Ext.refl _⟩
  subst c
  by_cases d : n < 0
  case neg =>
    rw [if_neg d] at hoff
    have hv : Hid ((if 0 = 0 then i + (off : Int) else i) = i) := hid (by rw [if_pos rfl, hoff]; simp)
    replace hoff := hid hoff
    go_wp2_with fail
    exact hR.out _ _ ⟨by rw [hv.out] <;> rfl, Ext.refl _⟩
  rw [if_pos d] at hoff
  have hv : Hid ((if 0 = 0 then i + (off : Int) else i) = i + t + n) := hid (by rw [if_pos rfl, hoff]; omega)
  have hw1 : IntKind.i64.wrap (i + t) = i + t := IntWalk.i64_in _ (by omega)
  have hw2 : IntKind.i64.wrap (i + t + n) = i + t + n := IntWalk.i64_in _ (by omega)
  replace hoff := hid hoff
  have hls : 0 < s.length := hj
  have hls2 : (0 : Int) < (s.length : Int) := by omega
  go_upto_region 2 with fail
  refine wp_region_mono (Sees w [(⟨pc, 0, none⟩, .slice (some ⟨bn, on, none⟩) 1 mc), (⟨bn, on, none⟩, .int .i64 n), (⟨py, 1, none⟩, .slice (some ⟨bs, os, none⟩) s.length sc), (⟨bs, os, none⟩, .int .i64 t)]) [] (fun k v u u' => match k with  | _ => False) (fun _ _ h e => h.up e) (Sees.start (all_cons (hc) (all_cons (hcn) (all_cons (hy) (all_cons (hcs) (all_nil)))))) (by kernel_rfl) (by kernel_rfl) ?_
  repeat (first | (refine m_plain (v := ?_) (by rfl) (by rfl) ?_ ?_; rotate_left; (intro wz hSw; obtain ⟨-, hSc⟩ := hSw; (try simp only [List.forall_mem_cons, List.forall_mem_nil, and_true] at hSc); go_simp; (first | done | with_reducible rfl)); (intro K hK; (try simp only [Act.put, List.setIfInBounds_toArray, List.set_cons_zero, List.set_cons_succ]); refine hK _ _ ?_; clear hK K)) | (refine m_skip (by rfl) (by rfl) ?_; (intro K hK; (try simp only [Act.put, List.setIfInBounds_toArray, List.set_cons_zero, List.set_cons_succ]); refine hK _ _ ?_; clear hK K)))
  refine m_nil ?_
  intro wf hSf hAf
  have ef := hid hSf.1
  clear hSf hAf
  go_wp2_with fail
  exact hR.out _ _ ⟨by rw [hv.out] <;> rfl, ef.out⟩
set_option maxHeartbeats 2000000 in
theorem taking_drop1 (n : Int) (off : Nat) (no : Option Addr) (mc : Nat) (pc : Nat) (T : Nat → Prop) (w : World) (hc : w.cell? ⟨pc, 0, none⟩ = some (.slice no 1 mc)) (hn : IntsAt w T no [n])
    (hoff : (off : Int) = if 0 < n then n else 0) (j : Nat) (i : Int) (h0 : 0 ≤ i) (h1 : i ≤ 65536) (h2 : -65536 ≤ n) (h3 : n ≤ 65536) :
    Calls Try.prog 25 #[.int .i64 (j : Nat), .int .i64 i, .pointer (some ⟨pc, 0, none⟩)] w fun e w' => e = .returned (.int .i64 (if j = 0 then i + (off : Int) else i)) ∧ Ext w w' := by
  refine calls_post fun R' hR => ?_
  obtain ⟨bn, on, hno, _, _, hcn⟩ := hn.at (k := 0) (by simp)
  subst hno
  rw [show [n].getD 0 0 = n from rfl, Nat.add_zero] at hcn
  go_enter Try.func25, Try.ntmps25
  by_cases c : j = 0
  case neg =>
    have cb : ¬ (j : Int) < 1 := by omega
    have hv : Hid ((if j = 0 then i + (off : Int) else i) = i) := hid (if_neg c)
    replace c := hid c
    replace hoff := hid hoff
    go_wp2_with fail
    exact hR.out _ _ ⟨by rw [hv.out] <;> rfl, Ext.refl _⟩
  subst c
  by_cases d : 0 < n
  case neg =>
    rw [if_neg d] at hoff
    have hv : Hid ((if 0 = 0 then i + (off : Int) else i) = i) := hid (by rw [if_pos rfl, hoff]; simp)
    replace hoff := hid hoff
    go_wp2_with fail
    exact hR.out _ _ ⟨by rw [hv.out] <;> rfl, Ext.refl _⟩
  rw [if_pos d] at hoff
  have hv : Hid ((if 0 = 0 then i + (off : Int) else i) = i + n) := hid (by rw [if_pos rfl, hoff])
  have hw1 : IntKind.i64.wrap (i + n) = i + n := IntWalk.i64_in _ (by omega)
  replace hoff := hid hoff
  go_wp2_with fail
  exact hR.out _ _ ⟨by rw [hv.out] <;> rfl, Ext.refl _⟩
set_option maxRecDepth 100000 in
set_option maxHeartbeats 8000000 in
theorem taking_Take (n : Int) (off m : Nat) (x : Arr) (sx : Option Addr) (cx : Nat) (nx : Option Addr) (mx : Nat) (ix : Option Addr) (jx : Nat) (y : Arr) (sy : Option Addr) (cy : Nat) (ny : Option Addr) (my : Nat) (iy : Option Addr) (jy : Nat) (S : Nat → Prop) (w : World) (h : ArrAt w S x sx nx ix) (g : ArrAt w S y sy ny iy) (hx : x = scaA n) (he : elemB 1 n = true) (ry : rightS y = 0) (hr : y.shape.length ≠ 0)
    (hm : (m : Int) = if n < 0 then -n else n) (hm2 : m ≤ talM y) (hoff : off = if n < 0 then talM y - m else 0) :
    Calls Try.prog 8 #[.agg #[.int .i64 x.kind, .slice sx x.shape.length cx, .slice nx x.nums.length mx, .slice ix x.items.length jx], .agg #[.int .i64 y.kind, .slice sy y.shape.length cy, .slice ny y.nums.length my, .slice iy y.items.length jy]] w (RetAEC w (fun b => w.heap.size ≤ b) (secA y off m) 0) := by
  replace hm := hid hm
  replace hoff := hid hoff
  -- up to the loop; taking.Take the function
  refine calls_post fun R' hR => ?_
  have kx : x.kind = 1 := by rw [hx]; rfl
  have hxs : x.shape.length = 0 := by rw [hx]; rfl
  have hxn : Hid (x.nums = [n]) := hid (by rw [hx]; rfl)
  have hxl : x.nums.length = 1 := by rw [hx]; rfl
  have hxl2 := hid hxl
  have rx : rightS x = 0 := by rw [hx]; exact scaA_right he
  have hsY := (right_ok ry).2.1
  have hyE := tal_cons hsY hr
  have hyl := (shapeB_iff.1 hsY).1
  have hty := tal_nn hsY
  have ht6 : talM y ≤ 65536 := by
    have := prodNZ_ge_mem (shapeB_iff.1 hsY).2.1 (d := (talM y : Int)) (by rw [hyE]; exact List.mem_cons_self ..)
    have := (shapeB_iff.1 hsY).2.2
    omega
  have hd6 : Hid (∀ j, j < y.shape.length → 0 ≤ y.shape.getD j 0 ∧ y.shape.getD j 0 ≤ 65536) := hid fun j hj => ⟨(shapeB_iff.1 hsY).2.1 _ (getD_mem hj), Int.le_trans (prodNZ_ge_mem (shapeB_iff.1 hsY).2.1 (getD_mem hj)) (shapeB_iff.1 hsY).2.2⟩
  have hg0 : Hid (y.shape.getD 0 0 = (talM y : Int)) := hid (by rw [hyE]; rfl)
  obtain ⟨s, hs⟩ : ∃ s, s = (m : Int) :: celL y := ⟨_, rfl⟩
  have hset : Hid (y.shape.set 0 (m : Int) = s) := hid (by rw [hs, hyE, List.set_cons_zero])
  have hsl : s.length = y.shape.length := by rw [hs, hyE]; simp
  have hs6 : Hid (∀ j, j < s.length → s.getD j 0 ≤ 65536) := hid fun j hj => by
    rw [← hset.out, getD_setI (by omega)]
    split
    · omega
    · exact (hd6.out j (by omega)).2
  have h0 := hid h
  have g0 := hid g
  have hr0 : 0 < y.shape.length := by omega
  replace hx := hid hx
  replace kx := hid kx
  replace hxs := hid hxs
  replace hxl := hid hxl
  replace rx := hid rx
  have hry := hid ry
  clear ry
  replace hs := hid hs
  replace hyE := hid hyE
  replace hsY := hid hsY
  replace hty := hid hty
  have hle1 : s.length ≤ y.shape.length := by omega
  have hle2 : y.shape.length ≤ s.length := by omega
  replace hsl := hid hsl
  clear h g
  go_enter Try.func8, Try.ntmps8
  go_upto_region 1 with (fail)
  generalize hEW : (((w).alloc (.cells #[.int .i64 x.kind, .slice sx x.shape.length cx, .slice nx x.nums.length mx, .slice ix x.items.length jx] 26)).alloc (.cells #[.int .i64 y.kind, .slice sy y.shape.length cy, .slice ny y.nums.length my, .slice iy y.items.length jy] 26)).alloc (.cells #[.int .i64 0, .slice none 0 0, .slice none 0 0, .slice none 0 0] 26) = W
  have E := hid (env3 w S hEW)
  clear hEW
  replace E := hid ((E.out.arg h0.out).arg g0.out)
  (try simp only [List.cons_append, List.nil_append, List.set_cons_zero, List.set_cons_succ] at E)
  obtain ⟨bn, on, hno, _, _, _⟩ := (E.out.arr 3 rfl).nums.at (k := 0) (by have := hxl.out; omega)
  subst hno
  obtain ⟨q00, q01, q02, q03⟩ := (E.out.hdr 0 rfl).all
  obtain ⟨q10, q11, q12, q13⟩ := (E.out.hdr 1 rfl).all
  go_wp2_with fail
  clear q00 q01 q02 q03 q10 q11 q12 q13
  refine (taking_check x _ _ _ _ _ _ y _ _ _ _ _ _ _ _ (E.out.arr 3 rfl) (E.out.arr 4 rfl) rx.out hry.out kx.out hxs.out hxl.out hr).mono ?_
  rintro e w1 ⟨rfl, hb⟩
  replace E := hid (E.out.up hb)
  clear hb
  go_upto_region 2 with (first
    | (refine wpl_cell1S rfl (.tmp 6) (.tmp 15) rfl w1.heap.size rfl rfl ((E.out.alloc (.cells #[.slice none 0 0] 23)).obj 5 rfl) ?_; intro V1 HV CV; replace E := hid ((E.out.alloc (.cells #[.slice none 0 0] 23)).chg 5 rfl CV HV); clear HV CV; (try simp only [List.cons_append, List.nil_append, List.set_cons_zero, List.set_cons_succ] at E))
    | (refine wpl_store4 rfl (.tmp 3) (.tmp 16) rfl _ rfl rfl (E.out.hdr 1 rfl) ?_; intro V2 HV CV; replace E := hid (E.out.chg 1 rfl CV HV); clear HV CV; (try simp only [List.cons_append, List.nil_append, List.set_cons_zero, List.set_cons_succ] at E)))
  generalize w1.heap.size = pc at E ⊢
  obtain ⟨q10, q11, q12, q13⟩ := (E.out.hdr 1 rfl).all
  go_wp2_with fail
  clear q10 q11 q12 q13
  refine (slices_Clone y.shape _ _ _ _ (E.out.arr 4 rfl).shape).mono ?_
  rintro e w3 ⟨ta, tc, rfl, hO, hb⟩
  replace E := hid (E.out.addRowI hO hb)
  clear hO hb
  (try simp only [List.cons_append, List.nil_append, List.set_cons_zero, List.set_cons_succ] at E)
  obtain ⟨gt, hta, -⟩ := (E.out.rowI 6 rfl).set (j := 0) hr0
  subst hta
  have c5 := (cell_row1 (E.out.obj 5 rfl)).1
  have x1 : (0 : Int) < (x.nums.length : Int) := by have := hxl2.out; omega
  have x2 : ¬ (1 : Int) < (x.nums.length : Int) := by have := hxl2.out; omega
  go_upto_region 6 with (fail)
  clear c5
  go_loopw [27] (fun v wr => ∃ k : Nat, v = .int .i64 k ∧ (k = 0 ∧ Env w S wr [.obj w.heap.size (.cells #[.int .i64 x.kind, .slice sx x.shape.length cx, .slice (some ⟨bn, on, none⟩) x.nums.length mx, .slice ix x.items.length jx] 26 (0, 0)), .obj (w.heap.size + 1) (.cells #[.int .i64 y.kind, .slice sy y.shape.length cy, .slice ny y.nums.length my, .slice iy y.items.length jy] 26 (0, 0)), .obj (w.heap.size + 1 + 1) (.cells #[.int .i64 0, .slice none 0 0, .slice none 0 0, .slice none 0 0] 26 (0, 0)), .arr x sx (some ⟨bn, on, none⟩) ix, .arr y sy ny iy, .obj pc (.cells #[.slice (some ⟨bn, on, none⟩) x.nums.length mx] 23 (0, 0)), .rowI (some ⟨gt, 0, none⟩) tc y.shape] ∨ k = 1 ∧ Env w S wr [.obj w.heap.size (.cells #[.int .i64 x.kind, .slice sx x.shape.length cx, .slice (some ⟨bn, on, none⟩) x.nums.length mx, .slice ix x.items.length jx] 26 (0, 0)), .obj (w.heap.size + 1) (.cells #[.int .i64 y.kind, .slice sy y.shape.length cy, .slice ny y.nums.length my, .slice iy y.items.length jy] 26 (0, 0)), .obj (w.heap.size + 1 + 1) (.cells #[.int .i64 0, .slice none 0 0, .slice none 0 0, .slice none 0 0] 26 (0, 0)), .arr x sx (some ⟨bn, on, none⟩) ix, .arr y sy ny iy, .obj pc (.cells #[.slice (some ⟨bn, on, none⟩) x.nums.length mx] 23 (0, 0)), .rowI (some ⟨gt, 0, none⟩) tc s])) (fun v _ => 1 - (intOf v).toNat)
  case atStart => exact ⟨0, rfl, Or.inl ⟨rfl, E.out⟩⟩
  case round =>
  clear E
  obtain ⟨k, rfl, hE⟩ := hrel
  rcases hE with ⟨rfl, E⟩ | ⟨rfl, E⟩
  · replace E := hid E
    obtain ⟨b', o', hn', _, _, hcn⟩ := (E.out.arr 3 rfl).nums.at (k := 0) (by have := hxl2.out; omega)
    obtain ⟨h31, h32⟩ : b' = bn ∧ o' = on := by simpa [eq_comm] using hn'
    subst h31 h32
    clear hn'
    rw [hxn.out, Nat.add_zero] at hcn
    have hcn : wr.cell? ⟨b', o', none⟩ = some (.int .i64 n) := hcn
    have x3 : 0 < x.nums.length := by have := hxl2.out; omega
    have hm3 : Hid ((if n < 0 then -n else n) = (m : Int)) := hid hm.out.symm
    have n1 : -65536 ≤ n := by have := hm.out; revert this; split <;> omega
    have n2 : n ≤ 65536 := by have := hm.out; revert this; split <;> omega
    go_wp2_with fail
    refine (taking_abs n (by omega) (by omega) _).mono ?_
    rintro e w4 ⟨rfl, hb⟩
    replace E := hid (E.out.up hb)
    clear hb hcn
    rw [hm3.out]
    go_wp2_with (refine wplE_setI E.out 6 rfl rfl (.tmp 36) (.tmp 35) rfl 0 hr0 (m : Int) (fun g e => by cases e; rfl) rfl ?_; intro V7 E1; clear E; have E := hid E1; clear E1; (try simp only [List.cons_append, List.nil_append, List.set_cons_zero, List.set_cons_succ] at E))
    rw [hset.out] at E
    go_roundw
    case rel => exact ⟨1, by go_num, Or.inr ⟨rfl, E.out⟩⟩
    case measure => simp [intOf]
  · have hm := hm.out
    have hoff := hoff.out
    have n1 : -65536 ≤ n := by revert hm; split <;> omega
    have n2 : n ≤ 65536 := by revert hm; split <;> omega
    have hofN : Hid (if n < 0 then (off : Int) = y.shape.getD 0 0 + n else off = 0) := hid (by
      rw [hg0.out]
      by_cases d : n < 0
      · rw [if_pos d] at hm hoff ⊢; omega
      · rw [if_neg d] at hoff ⊢; exact hoff)
    have hmT : off + m ≤ talM y := by
      by_cases d : n < 0
      · rw [if_pos d] at hoff; omega
      · rw [if_neg d] at hoff; omega
    clear hm hoff
    replace E := hid E
    have hcap := hid (OwnI.cap (E.out.rowI 6 rfl))
    replace E := hid (E.out.doneIF 6 rfl (by omega))
    (try simp only [List.cons_append, List.nil_append, List.set_cons_zero, List.set_cons_succ] at E)
    have one1 : ((1 : Nat) : Int) = 1 := rfl
    rw [one1]
    obtain ⟨q10, q11, q12, q13⟩ := (E.out.hdr 1 rfl).all
    go_wp2_with fail
    clear q10 q11 q12 q13
    have hK : ∀ (args : Array Value) (wz : World), (callFunc 24 args).run Try.prog wz = .ok (.enter 24 args) wz := fun args wz => by kernel_rfl
    have hf := hid (fun (j : Nat) (i : Int) (wz : World) (hz : Ext wr wz) (hj : j < s.length) (i0 : 0 ≤ i) (i1 : i < s.getD j 0) => taking_take1 n off y.shape sy cy (some ⟨bn, on, none⟩) mx pc (w.heap.size + 1) _ wz (by have := (cell_row1 ((E.out.up hz).obj 5 rfl)).1; rw [hxl2.out] at this; exact this) (by have := ((E.out.up hz).arr 3 rfl).nums; rw [hxn.out] at this; exact this) (((E.out.up hz).hdr 1 rfl).c1) (((E.out.up hz).arr 4 rfl).shape.mono fun _ _ h => h) hofN.out j i (by omega) i0 (by have := hs6.out j hj; omega) n1 n2 (hd6.out 0 hr0).2 (hd6.out 0 hr0).1)
    refine (lenT hsl.out (taking_build off m 24 #[.pointer (some ⟨pc, 0, none⟩), .pointer (some ⟨w.heap.size + 1, 0, none⟩)] y _ _ _ _ _ _ s _ _ _ _ _ (E.out.arr 4 rfl) (E.out.intsF 6 rfl) hcap.out hry.out hr hs.out hmT hK hf.out)).mono ?_
    intro e w12 h
    obtain ⟨s15, c15, n15, m15, i15, j15, rfl, hA, hb, hC⟩ := h
    replace E := hid ((E.out.up hb).add (f := .arrF _ s15 n15 i15) rfl (ArrAt.mono (fun b _ h => h.elim id fun q => ⟨E.out.fresh (Ext.refl _) q, Nat.le_trans E.out.size q⟩) _ hA))
    have hC15 := hid hC
    clear hA hb hC hf hK
    (try simp only [List.cons_append, List.nil_append, List.set_cons_zero, List.set_cons_succ] at E)
    go_wp2_with (refine wpl_store4 rfl (.tmp 4) (.tmp 42) rfl _ rfl rfl (E.out.hdr 2 rfl) ?_; intro V HV CV; replace E := hid (E.out.chg 2 rfl CV HV); clear CV; (try simp only [List.cons_append, List.nil_append, List.set_cons_zero, List.set_cons_succ] at E))
    refine bodyPost_ret (end_arr2 rfl HV rfl rfl) rfl (hR.out _ _ ?_)
    exact RetAEC.at rfl rfl (ArrAt.mono (fun b _ h => h.2) _ (E.out.arrF 7 rfl)) E.out.ext hC15.out
set_option maxRecDepth 100000 in
set_option maxHeartbeats 8000000 in
theorem taking_Drop (n : Int) (off m : Nat) (x : Arr) (sx : Option Addr) (cx : Nat) (nx : Option Addr) (mx : Nat) (ix : Option Addr) (jx : Nat) (y : Arr) (sy : Option Addr) (cy : Nat) (ny : Option Addr) (my : Nat) (iy : Option Addr) (jy : Nat) (S : Nat → Prop) (w : World) (h : ArrAt w S x sx nx ix) (g : ArrAt w S y sy ny iy) (hx : x = scaA n) (he : elemB 1 n = true) (ry : rightS y = 0) (hr : y.shape.length ≠ 0)
    (hm : (m : Int) = (talM y : Int) - (if n < 0 then -n else n)) (hoff : (off : Int) = if 0 < n then n else 0) :
    Calls Try.prog 10 #[.agg #[.int .i64 x.kind, .slice sx x.shape.length cx, .slice nx x.nums.length mx, .slice ix x.items.length jx], .agg #[.int .i64 y.kind, .slice sy y.shape.length cy, .slice ny y.nums.length my, .slice iy y.items.length jy]] w (RetAEC w (fun b => w.heap.size ≤ b) (secA y off m) 0) := by
  have hm2 : m ≤ talM y := by revert hm; split <;> omega
  replace hm := hid hm
  replace hoff := hid hoff
  -- up to the loop; taking.Drop the function
  refine calls_post fun R' hR => ?_
  have kx : x.kind = 1 := by rw [hx]; rfl
  have hxs : x.shape.length = 0 := by rw [hx]; rfl
  have hxn : Hid (x.nums = [n]) := hid (by rw [hx]; rfl)
  have hxl : x.nums.length = 1 := by rw [hx]; rfl
  have hxl2 := hid hxl
  have rx : rightS x = 0 := by rw [hx]; exact scaA_right he
  have hsY := (right_ok ry).2.1
  have hyE := tal_cons hsY hr
  have hyl := (shapeB_iff.1 hsY).1
  have hty := tal_nn hsY
  have ht6 : talM y ≤ 65536 := by
    have := prodNZ_ge_mem (shapeB_iff.1 hsY).2.1 (d := (talM y : Int)) (by rw [hyE]; exact List.mem_cons_self ..)
    have := (shapeB_iff.1 hsY).2.2
    omega
  have hd6 : Hid (∀ j, j < y.shape.length → 0 ≤ y.shape.getD j 0 ∧ y.shape.getD j 0 ≤ 65536) := hid fun j hj => ⟨(shapeB_iff.1 hsY).2.1 _ (getD_mem hj), Int.le_trans (prodNZ_ge_mem (shapeB_iff.1 hsY).2.1 (getD_mem hj)) (shapeB_iff.1 hsY).2.2⟩
  have hg0 : Hid (y.shape.getD 0 0 = (talM y : Int)) := hid (by rw [hyE]; rfl)
  obtain ⟨s, hs⟩ : ∃ s, s = (m : Int) :: celL y := ⟨_, rfl⟩
  have hset : Hid (y.shape.set 0 (m : Int) = s) := hid (by rw [hs, hyE, List.set_cons_zero])
  have hsl : s.length = y.shape.length := by rw [hs, hyE]; simp
  have hs6 : Hid (∀ j, j < s.length → s.getD j 0 ≤ 65536) := hid fun j hj => by
    rw [← hset.out, getD_setI (by omega)]
    split
    · omega
    · exact (hd6.out j (by omega)).2
  have h0 := hid h
  have g0 := hid g
  have hr0 : 0 < y.shape.length := by omega
  replace hx := hid hx
  replace kx := hid kx
  replace hxs := hid hxs
  replace hxl := hid hxl
  replace rx := hid rx
  have hry := hid ry
  clear ry
  replace hs := hid hs
  replace hyE := hid hyE
  replace hsY := hid hsY
  replace hty := hid hty
  have hle1 : s.length ≤ y.shape.length := by omega
  have hle2 : y.shape.length ≤ s.length := by omega
  replace hsl := hid hsl
  clear h g
  go_enter Try.func10, Try.ntmps10
  go_upto_region 1 with (fail)
  generalize hEW : (((w).alloc (.cells #[.int .i64 x.kind, .slice sx x.shape.length cx, .slice nx x.nums.length mx, .slice ix x.items.length jx] 26)).alloc (.cells #[.int .i64 y.kind, .slice sy y.shape.length cy, .slice ny y.nums.length my, .slice iy y.items.length jy] 26)).alloc (.cells #[.int .i64 0, .slice none 0 0, .slice none 0 0, .slice none 0 0] 26) = W
  have E := hid (env3 w S hEW)
  clear hEW
  replace E := hid ((E.out.arg h0.out).arg g0.out)
  (try simp only [List.cons_append, List.nil_append, List.set_cons_zero, List.set_cons_succ] at E)
  obtain ⟨bn, on, hno, _, _, _⟩ := (E.out.arr 3 rfl).nums.at (k := 0) (by have := hxl.out; omega)
  subst hno
  obtain ⟨q00, q01, q02, q03⟩ := (E.out.hdr 0 rfl).all
  obtain ⟨q10, q11, q12, q13⟩ := (E.out.hdr 1 rfl).all
  go_wp2_with fail
  clear q00 q01 q02 q03 q10 q11 q12 q13
  refine (taking_check x _ _ _ _ _ _ y _ _ _ _ _ _ _ _ (E.out.arr 3 rfl) (E.out.arr 4 rfl) rx.out hry.out kx.out hxs.out hxl.out hr).mono ?_
  rintro e w1 ⟨rfl, hb⟩
  replace E := hid (E.out.up hb)
  clear hb
  go_upto_region 2 with (first
    | (refine wpl_cell1S rfl (.tmp 6) (.tmp 15) rfl w1.heap.size rfl rfl ((E.out.alloc (.cells #[.slice none 0 0] 23)).obj 5 rfl) ?_; intro V1 HV CV; replace E := hid ((E.out.alloc (.cells #[.slice none 0 0] 23)).chg 5 rfl CV HV); clear HV CV; (try simp only [List.cons_append, List.nil_append, List.set_cons_zero, List.set_cons_succ] at E))
    | (refine wpl_store4 rfl (.tmp 3) (.tmp 16) rfl _ rfl rfl (E.out.hdr 1 rfl) ?_; intro V2 HV CV; replace E := hid (E.out.chg 1 rfl CV HV); clear HV CV; (try simp only [List.cons_append, List.nil_append, List.set_cons_zero, List.set_cons_succ] at E)))
  generalize w1.heap.size = pc at E ⊢
  obtain ⟨q10, q11, q12, q13⟩ := (E.out.hdr 1 rfl).all
  go_wp2_with fail
  clear q10 q11 q12 q13
  refine (slices_Clone y.shape _ _ _ _ (E.out.arr 4 rfl).shape).mono ?_
  rintro e w3 ⟨ta, tc, rfl, hO, hb⟩
  replace E := hid (E.out.addRowI hO hb)
  clear hO hb
  (try simp only [List.cons_append, List.nil_append, List.set_cons_zero, List.set_cons_succ] at E)
  obtain ⟨gt, hta, -⟩ := (E.out.rowI 6 rfl).set (j := 0) hr0
  subst hta
  have c5 := (cell_row1 (E.out.obj 5 rfl)).1
  have x1 : (0 : Int) < (x.nums.length : Int) := by have := hxl2.out; omega
  have x2 : ¬ (1 : Int) < (x.nums.length : Int) := by have := hxl2.out; omega
  go_upto_region 6 with (fail)
  clear c5
  go_loopw [27] (fun v wr => ∃ k : Nat, v = .int .i64 k ∧ (k = 0 ∧ Env w S wr [.obj w.heap.size (.cells #[.int .i64 x.kind, .slice sx x.shape.length cx, .slice (some ⟨bn, on, none⟩) x.nums.length mx, .slice ix x.items.length jx] 26 (0, 0)), .obj (w.heap.size + 1) (.cells #[.int .i64 y.kind, .slice sy y.shape.length cy, .slice ny y.nums.length my, .slice iy y.items.length jy] 26 (0, 0)), .obj (w.heap.size + 1 + 1) (.cells #[.int .i64 0, .slice none 0 0, .slice none 0 0, .slice none 0 0] 26 (0, 0)), .arr x sx (some ⟨bn, on, none⟩) ix, .arr y sy ny iy, .obj pc (.cells #[.slice (some ⟨bn, on, none⟩) x.nums.length mx] 23 (0, 0)), .rowI (some ⟨gt, 0, none⟩) tc y.shape] ∨ k = 1 ∧ Env w S wr [.obj w.heap.size (.cells #[.int .i64 x.kind, .slice sx x.shape.length cx, .slice (some ⟨bn, on, none⟩) x.nums.length mx, .slice ix x.items.length jx] 26 (0, 0)), .obj (w.heap.size + 1) (.cells #[.int .i64 y.kind, .slice sy y.shape.length cy, .slice ny y.nums.length my, .slice iy y.items.length jy] 26 (0, 0)), .obj (w.heap.size + 1 + 1) (.cells #[.int .i64 0, .slice none 0 0, .slice none 0 0, .slice none 0 0] 26 (0, 0)), .arr x sx (some ⟨bn, on, none⟩) ix, .arr y sy ny iy, .obj pc (.cells #[.slice (some ⟨bn, on, none⟩) x.nums.length mx] 23 (0, 0)), .rowI (some ⟨gt, 0, none⟩) tc s])) (fun v _ => 1 - (intOf v).toNat)
  case atStart => exact ⟨0, rfl, Or.inl ⟨rfl, E.out⟩⟩
  case round =>
  clear E
  obtain ⟨k, rfl, hE⟩ := hrel
  rcases hE with ⟨rfl, E⟩ | ⟨rfl, E⟩
  · replace E := hid E
    obtain ⟨b', o', hn', _, _, hcn⟩ := (E.out.arr 3 rfl).nums.at (k := 0) (by have := hxl2.out; omega)
    obtain ⟨h31, h32⟩ : b' = bn ∧ o' = on := by simpa [eq_comm] using hn'
    subst h31 h32
    clear hn'
    rw [hxn.out, Nat.add_zero] at hcn
    have hcn : wr.cell? ⟨b', o', none⟩ = some (.int .i64 n) := hcn
    have x3 : 0 < x.nums.length := by have := hxl2.out; omega
    have hm := hm.out
    obtain ⟨an, han⟩ : ∃ a, a = if n < 0 then -n else n := ⟨_, rfl⟩
    rw [← han] at hm
    have n1 : -65536 ≤ n := by revert han; split <;> omega
    have n2 : n ≤ 65536 := by revert han; split <;> omega
    have hm3 : Hid (IntKind.i64.wrap ((talM y : Int) - an) = (m : Int)) := hid (by rw [← hm]; exact IntWalk.i64_in _ (by omega))
    have hm4 : Hid (max (m : Int) 0 = (m : Int)) := hid (by omega)
    have hgc := ints_cell (E.out.rowIr 6 rfl (by omega)) hr0
    rw [hg0.out, Nat.add_zero] at hgc
    have hrl : (0 : Int) < (y.shape.length : Int) := by omega
    replace hm := hid hm
    replace han := hid han
    have hw1 := hm3.out
    have hw2 := hm4.out
    go_upto_region 8 with (fail)
    clear hcn
    refine wp_region_mono_tail 11 (Sees wr [(⟨gt, 0, none⟩, .int .i64 (talM y : Int))]) [7] (fun k v u u' => match k with | 7 => v = .int .i64 an | _ => False) (fun _ _ h e => h.up e) (Sees.start (all_cons (hgc) (all_nil))) (by kernel_rfl) (by kernel_rfl) ?_
    simp only [List.take_succ_cons, List.take_zero, List.drop_succ_cons, List.drop_zero]
    repeat (first | (refine m_plain (v := ?_) (by rfl) (by rfl) ?_ ?_; rotate_left; (intro wz hSw; obtain ⟨-, hSc⟩ := hSw; (try simp only [List.forall_mem_cons, List.forall_mem_nil, and_true] at hSc); go_simp; (first | done | with_reducible rfl)); (intro K hK; (try simp only [Act.put, List.setIfInBounds_toArray, List.set_cons_zero, List.set_cons_succ]); refine hK _ _ ?_; clear hK K)) | (refine m_skip (by rfl) (by rfl) ?_; (intro K hK; (try simp only [Act.put, List.setIfInBounds_toArray, List.set_cons_zero, List.set_cons_succ]); refine hK _ _ ?_; clear hK K)))
    refine m_make (by rfl) (by rfl) ?_ ?_
    · intro wz hSw hdep R hRz
      obtain ⟨hSe, hSc⟩ := hSw
      (try simp only [List.forall_mem_cons, List.forall_mem_nil, and_true] at hSc)
      unfold does
      (go_simp; refine Calls.mono (taking_abs n (by omega) (by omega) wz) ?_; rintro e wq ⟨rfl, hb⟩; rw [← han.out]; exact ⟨_, rfl, hRz.out _ _ ⟨hb, rfl⟩⟩)
    intro v7 u7 x7 hG7 K hK
    have hF7 := hG7.fact
    (try dsimp only at hF7)
    subst hF7
    (try simp only [Act.put, List.setIfInBounds_toArray, List.set_cons_zero, List.set_cons_succ]); refine hK _ _ ?_; clear hK K
    repeat (first | (refine m_plain (v := ?_) (by rfl) (by rfl) ?_ ?_; rotate_left; (intro wz hSw; obtain ⟨-, hSc⟩ := hSw; (try simp only [List.forall_mem_cons, List.forall_mem_nil, and_true] at hSc); go_simp; (first | done | with_reducible rfl)); (intro K hK; (try simp only [Act.put, List.setIfInBounds_toArray, List.set_cons_zero, List.set_cons_succ]); refine hK _ _ ?_; clear hK K)) | (refine m_skip (by rfl) (by rfl) ?_; (intro K hK; (try simp only [Act.put, List.setIfInBounds_toArray, List.set_cons_zero, List.set_cons_succ]); refine hK _ _ ?_; clear hK K)))
    refine m_nil ?_
    intro wf hSf hAf
    replace E := hid (E.out.up hSf.1)
    clear hSf hAf hG7 hgc
    refine wplE_setI E.out 6 rfl (by rfl) (.tmp 42) (.tmp 41) (by rfl) 0 hr0 (m : Int) (fun g e => by cases e; rfl) (by first | rfl | simp [Act.eval, Act.put, hw1, hw2]) ?_
    intro V7 E1
    clear E
    have E := hid E1
    clear E1
    (try simp only [List.cons_append, List.nil_append, List.set_cons_zero, List.set_cons_succ] at E)
    rw [hset.out] at E
    go_wp2_with fail
    go_roundw
    case rel => exact ⟨1, by go_num, Or.inr ⟨rfl, E.out⟩⟩
    case measure => simp [intOf]
  · have hm := hm.out
    have hoff := hoff.out
    have n1 : -65536 ≤ n := by revert hm; split <;> omega
    have n2 : n ≤ 65536 := by revert hm; split <;> omega
    have hmT : off + m ≤ talM y := by
      by_cases d : 0 < n
      · rw [if_pos d] at hoff; rw [if_neg (by omega)] at hm; omega
      · rw [if_neg d] at hoff; omega
    have hofN := hid hoff
    clear hm hoff
    replace E := hid E
    have hcap := hid (OwnI.cap (E.out.rowI 6 rfl))
    replace E := hid (E.out.doneIF 6 rfl (by omega))
    (try simp only [List.cons_append, List.nil_append, List.set_cons_zero, List.set_cons_succ] at E)
    have one1 : ((1 : Nat) : Int) = 1 := rfl
    rw [one1]
    obtain ⟨q10, q11, q12, q13⟩ := (E.out.hdr 1 rfl).all
    go_wp2_with fail
    clear q10 q11 q12 q13
    have hK : ∀ (args : Array Value) (wz : World), (callFunc 25 args).run Try.prog wz = .ok (.enter 25 args) wz := fun args wz => by kernel_rfl
    have hf := hid (fun (j : Nat) (i : Int) (wz : World) (hz : Ext wr wz) (hj : j < s.length) (i0 : 0 ≤ i) (i1 : i < s.getD j 0) => taking_drop1 n off (some ⟨bn, on, none⟩) mx pc _ wz (by have := (cell_row1 ((E.out.up hz).obj 5 rfl)).1; rw [hxl2.out] at this; exact this) (by have := ((E.out.up hz).arr 3 rfl).nums; rw [hxn.out] at this; exact this) hofN.out j i i0 (by have := hs6.out j hj; omega) n1 n2)
    refine (lenT hsl.out (taking_build off m 25 #[.pointer (some ⟨pc, 0, none⟩)] y _ _ _ _ _ _ s _ _ _ _ _ (E.out.arr 4 rfl) (E.out.intsF 6 rfl) hcap.out hry.out hr hs.out hmT hK hf.out)).mono ?_
    intro e w12 h
    obtain ⟨s15, c15, n15, m15, i15, j15, rfl, hA, hb, hC⟩ := h
    replace E := hid ((E.out.up hb).add (f := .arrF _ s15 n15 i15) rfl (ArrAt.mono (fun b _ h => h.elim id fun q => ⟨E.out.fresh (Ext.refl _) q, Nat.le_trans E.out.size q⟩) _ hA))
    have hC15 := hid hC
    clear hA hb hC hf hK
    (try simp only [List.cons_append, List.nil_append, List.set_cons_zero, List.set_cons_succ] at E)
    go_wp2_with (refine wpl_store4 rfl (.tmp 4) (.tmp 48) rfl _ rfl rfl (E.out.hdr 2 rfl) ?_; intro V HV CV; replace E := hid (E.out.chg 2 rfl CV HV); clear CV; (try simp only [List.cons_append, List.nil_append, List.set_cons_zero, List.set_cons_succ] at E))
    refine bodyPost_ret (end_arr2 rfl HV rfl rfl) rfl (hR.out _ _ ?_)
    exact RetAEC.at rfl rfl (ArrAt.mono (fun b _ h => h.2) _ (E.out.arrF 7 rfl)) E.out.ext hC15.out
end Go.Proofs.Ytolnbmmkpmajdaa
