/- The order of two arrays, whole: order.contents, order.compare, order.Compare: contracts. Conditions: the arrays are read, and right; a slice's capacity is at least its length, in all their parts. -/
import Derived.Test.YtdpdcjadedcglaaGW
import Derived.Test.YtdpdcjadedcglaaGX
import Derived.Test.YtdpdcjadedcglaaTOPA
set_option linter.unusedVariables false
set_option maxRecDepth 20000
set_option linter.unusedSimpArgs false
namespace Go.Proofs.Ytdpdcjadedcglaa
open Go.RowKit Go.Sort
attribute [local go_sem ↓] run_max2 run_min2
attribute [local go_sem] eql_ints_nil eql_arrs_nil
@[reducible] def capsOk (a : Arr) (c m j : Nat) : Prop := a.shape.length ≤ c ∧ a.nums.length ≤ m ∧ a.items.length ≤ j
/-- order.compare says what the order says -/
def CmpC (f : Nat) (a b : Arr) : Prop := ∀ (sa : Option Addr) (ca : Nat) (na : Option Addr) (ma : Nat) (ia : Option Addr) (ja : Nat) (sb : Option Addr) (cb : Nat) (nb : Option Addr) (mb : Nat) (ib : Option Addr) (jb : Nat) (S : Nat → Prop) (w : World), ArrG w S a sa na ia → ArrG w S b sb nb ib → capsOk a ca ma ja → capsOk b cb mb jb →
  Calls Try.prog 84 #[.agg #[.int .i64 a.kind, .slice sa a.shape.length ca, .slice na a.nums.length ma, .slice ia a.items.length ja], .agg #[.int .i64 b.kind, .slice sb b.shape.length cb, .slice nb b.nums.length mb, .slice ib b.items.length jb]] w fun e w' => e = .returned (.int .i64 (cmpF f a b)) ∧ Below w.heap.size w w'
/-- what order.contents' inner function sees -/
structure CelW (br ba bb bf : Nat) (a : Arr) (sa : Option Addr) (ca : Nat) (na : Option Addr) (ma : Nat) (ia : Option Addr) (ja : Nat) (b : Arr) (sb : Option Addr) (cb : Nat) (nb : Option Addr) (mb : Nat) (ib : Option Addr) (jb : Nat) (S : Nat → Prop) (w : World) : Prop where
  r : w.cell? ⟨br, 0, none⟩ = some (.int .i64 (a.shape.length : Int))
  f : w.cell? ⟨bf, 0, none⟩ = some (.func (.func 108) #[] #[.pointer (some ⟨br, 0, none⟩), .pointer (some ⟨ba, 0, none⟩), .pointer (some ⟨bb, 0, none⟩), .pointer (some ⟨bf, 0, none⟩)])
  a0 : w.cell? ⟨ba, 0, none⟩ = some (.int .i64 a.kind)
  a1 : w.cell? ⟨ba, 1, none⟩ = some (.slice sa a.shape.length ca)
  a2 : w.cell? ⟨ba, 2, none⟩ = some (.slice na a.nums.length ma)
  a3 : w.cell? ⟨ba, 3, none⟩ = some (.slice ia a.items.length ja)
  b1 : w.cell? ⟨bb, 1, none⟩ = some (.slice sb b.shape.length cb)
  b2 : w.cell? ⟨bb, 2, none⟩ = some (.slice nb b.nums.length mb)
  b3 : w.cell? ⟨bb, 3, none⟩ = some (.slice ib b.items.length jb)
  ga : ArrG w S a sa na ia
  gb : ArrG w S b sb nb ib
theorem CelW.up {br ba bb bf : Nat} {a : Arr} {sa na ia : Option Addr} {ca ma ja : Nat} {b : Arr} {sb nb ib : Option Addr} {cb mb jb : Nat} {S : Nat → Prop} {w w' : World} (h : CelW br ba bb bf a sa ca na ma ia ja b sb cb nb mb ib jb S w) (e : Ext w w') : CelW br ba bb bf a sa ca na ma ia ja b sb cb nb mb ib jb S w' :=
  ⟨up_cell h.r e, up_cell h.f e, up_cell h.a0 e, up_cell h.a1 e, up_cell h.a2 e, up_cell h.a3 e, up_cell h.b1 e, up_cell h.b2 e, up_cell h.b3 e, h.ga.up e, h.gb.up e⟩
set_option maxRecDepth 100000 in
set_option maxHeartbeats 4000000 in
theorem order_cells0 (f : Nat) (br ba bb bf : Nat) (a : Arr) (sa : Option Addr) (ca : Nat) (na : Option Addr) (ma : Nat) (ia : Option Addr) (ja : Nat) (b : Arr) (sb : Option Addr) (cb : Nat) (nb : Option Addr) (mb : Nat) (ib : Option Addr) (jb : Nat) (S : Nat → Prop) (hk : a.kind = b.kind) (ra : rightS a = 0) (rb : rightS b = 0)
    (hI : a.kind = 3 → ∀ x ∈ a.items, ∀ y ∈ b.items, CmpC f x y) (i j : Nat) (w : World) (hi : i < szA a) (hj : j < szA b) (hw : CelW br ba bb bf a sa ca na ma ia ja b sb cb nb mb ib jb S w) :
    Calls Try.prog 108 #[.int .i64 (a.shape.length : Int), .int .i64 (i : Int), .int .i64 (j : Int), .pointer (some ⟨br, 0, none⟩), .pointer (some ⟨ba, 0, none⟩), .pointer (some ⟨bb, 0, none⟩), .pointer (some ⟨bf, 0, none⟩)] w fun e w' => e = .returned (.int .i64 (lfF (cmpF f) (a, i) (b, j))) ∧ Below w.heap.size w w' := by
  refine calls_post fun R' hR => ?_
  have E := hid (Env.start w (fun _ => True))
  by_cases k : a.kind = 3
  case pos =>
    have hi1 : i < a.items.length := by rw [szA_3 k] at hi; exact hi
    have hj1 : j < b.items.length := by rw [szA_3 (hk ▸ k)] at hj; exact hj
    obtain ⟨x, hx⟩ : ∃ x, x = a.items[i] := ⟨_, rfl⟩
    obtain ⟨y, hy⟩ : ∃ y, y = b.items[j] := ⟨_, rfl⟩
    have hcm := hid (hI k x (hx ▸ List.getElem_mem hi1) y (hy ▸ List.getElem_mem hj1))
    obtain ⟨cv, hv⟩ : ∃ v, v = cmpF f x y := ⟨_, rfl⟩
    have hval : lfF (cmpF f) (a, i) (b, j) = cv := by
      unfold lfF
      rw [if_pos k, hv, hx, hy]
      simp [List.getD_eq_getElem?_getD, hi1, hj1]
    rw [hval] at hR
    obtain ⟨b1, o1, s1, c1, n1, m1, i1, j1, e1, x0, x1, x2, x3, xc, gx⟩ := hw.ga.item (j := i) (x := x) (by rw [hx]; exact List.getElem?_eq_getElem hi1)
    obtain ⟨b2, o2, s2, c2, n2, m2, i2, j2, e2, y0, y1, y2, y3, yc, gy⟩ := hw.gb.item (j := j) (x := y) (by rw [hy]; exact List.getElem?_eq_getElem hj1)
    subst e1
    subst e2
    have hc0 := hw.r
    have hc1 := hw.a0
    have hc2 := hw.a3
    have hc3 := hw.b3
    have kb : (a.kind == 3) = true := by simp [k]
    replace k := hid k
    replace hx := hid hx
    replace hy := hid hy
    replace hv := hid hv
    replace hval := hid hval
    replace gx := hid gx
    replace gy := hid gy
    have hi2 : (i : Int) < (a.items.length : Int) := by omega
    have hj2 : (j : Int) < (b.items.length : Int) := by omega
    clear hw hI hk ra rb hi hj
    go_enter Try.func108, Try.ntmps108
    go_upto_region 2 with fail
    obtain ⟨T, hT1, hT2, hT3⟩ := E.out.tw
    refine wp_region_mono (Sees w [(⟨ba, 3, none⟩, .slice (some ⟨b1, o1, none⟩) a.items.length ja), (⟨bb, 3, none⟩, .slice (some ⟨b2, o2, none⟩) b.items.length jb), (⟨b1, o1 + i * 4, none⟩, .int .i64 x.kind), (⟨b1, o1 + i * 4 + 1, none⟩, .slice s1 x.shape.length c1), (⟨b1, o1 + i * 4 + 2, none⟩, .slice n1 x.nums.length m1), (⟨b1, o1 + i * 4 + 3, none⟩, .slice i1 x.items.length j1), (⟨b2, o2 + j * 4, none⟩, .int .i64 y.kind), (⟨b2, o2 + j * 4 + 1, none⟩, .slice s2 y.shape.length c2), (⟨b2, o2 + j * 4 + 2, none⟩, .slice n2 y.nums.length m2), (⟨b2, o2 + j * 4 + 3, none⟩, .slice i2 y.items.length j2)]) [10] (fun k v u u' => match k with | 10 => v = .int .i64 cv | _ => False) (fun _ _ h e => h.up e) (Sees.start (all_cons (hc2) (all_cons (hc3) (all_cons (x0) (all_cons (x1) (all_cons (x2) (all_cons (x3) (all_cons (y0) (all_cons (y1) (all_cons (y2) (all_cons (y3) (all_nil)))))))))))) (by kernel_rfl) (by kernel_rfl) ?_
    repeat (first | (refine m_plain (v := ?_) (by rfl) (by rfl) ?_ ?_; rotate_left; (intro wz hSw; obtain ⟨-, hSc⟩ := hSw; (try simp only [List.forall_mem_cons, List.forall_mem_nil, and_true] at hSc); go_simp; (first | done | with_reducible rfl)); (intro K hK; (try simp only [Act.put, List.setIfInBounds_toArray, List.set_cons_zero, List.set_cons_succ]); refine hK _ _ ?_; clear hK K)) | (refine m_skip (by rfl) (by rfl) ?_; (intro K hK; (try simp only [Act.put, List.setIfInBounds_toArray, List.set_cons_zero, List.set_cons_succ]); refine hK _ _ ?_; clear hK K)))
    refine m_make (by rfl) (by rfl) ?_ ?_
    · intro wz hSw hdep R hRz
      obtain ⟨hSe, hSc⟩ := hSw
      (try simp only [List.forall_mem_cons, List.forall_mem_nil, and_true] at hSc)
      unfold does
      (go_simp; refine Calls.mono (hcm.out _ _ _ _ _ _ _ _ _ _ _ _ S wz (gx.out.up hSe) (gy.out.up hSe) xc yc) ?_; rintro e wq ⟨rfl, hqb⟩; rw [← hv.out]; exact ⟨_, rfl, hRz.out _ _ ⟨hqb, rfl⟩⟩)
    intro v10 u10 x10 hG10 K hK
    have hF10 := hG10.fact
    (try dsimp only at hF10)
    subst hF10
    (try simp only [Act.put, List.setIfInBounds_toArray, List.set_cons_zero, List.set_cons_succ]); refine hK _ _ ?_; clear hK K
    repeat (first | (refine m_plain (v := ?_) (by rfl) (by rfl) ?_ ?_; rotate_left; (intro wz hSw; obtain ⟨-, hSc⟩ := hSw; (try simp only [List.forall_mem_cons, List.forall_mem_nil, and_true] at hSc); go_simp; (first | done | with_reducible rfl)); (intro K hK; (try simp only [Act.put, List.setIfInBounds_toArray, List.set_cons_zero, List.set_cons_succ]); refine hK _ _ ?_; clear hK K)) | (refine m_skip (by rfl) (by rfl) ?_; (intro K hK; (try simp only [Act.put, List.setIfInBounds_toArray, List.set_cons_zero, List.set_cons_succ]); refine hK _ _ ?_; clear hK K)))
    refine m_nil ?_
    intro wf hSf hAf
    have ef := hid (E.out.up hSf.1).ext
    clear hSf hAf
    go_wp2_with fail
    exact hR.out _ _ ⟨rfl, ef.out⟩
  case neg =>
    have hi1 : i < a.nums.length := szA_N k hi
    have hj1 : j < b.nums.length := szA_N (hk ▸ k) hj
    obtain ⟨b1, o1, e1, _, _, x0⟩ := (ArrAt.nums hw.ga).at hi1
    obtain ⟨b2, o2, e2, _, _, y0⟩ := (ArrAt.nums hw.gb).at hj1
    obtain ⟨x, hx⟩ : ∃ x, x = a.nums.getD i 0 := ⟨_, rfl⟩
    obtain ⟨y, hy⟩ : ∃ y, y = b.nums.getD j 0 := ⟨_, rfl⟩
    rw [← hx] at x0
    rw [← hy] at y0
    obtain ⟨cv, hv⟩ : ∃ v, v = cmpI x y := ⟨_, rfl⟩
    have hval : lfF (cmpF f) (a, i) (b, j) = cv := by
      unfold lfF
      rw [if_neg k, hv, hx, hy]
    rw [hval] at hR
    subst e1
    subst e2
    have hc0 := hw.r
    have hc1 := hw.a0
    have hc2 := hw.a2
    have hc3 := hw.b2
    have kb : (a.kind == 3) = false := by simp [k]
    replace k := hid k
    replace hx := hid hx
    replace hy := hid hy
    replace hv := hid hv
    replace hval := hid hval
    have hi2 : (i : Int) < (a.nums.length : Int) := by omega
    have hj2 : (j : Int) < (b.nums.length : Int) := by omega
    clear hw hI hk ra rb hi hj
    go_enter Try.func108, Try.ntmps108
    go_upto_region 4 with fail
    obtain ⟨T, hT1, hT2, hT3⟩ := E.out.tw
    refine wp_region_mono (Sees w [(⟨ba, 2, none⟩, .slice (some ⟨b1, o1, none⟩) a.nums.length ma), (⟨bb, 2, none⟩, .slice (some ⟨b2, o2, none⟩) b.nums.length mb), (⟨b1, o1 + i, none⟩, .int .i64 x), (⟨b2, o2 + j, none⟩, .int .i64 y)]) [10] (fun k v u u' => match k with | 10 => v = .int .i64 cv | _ => False) (fun _ _ h e => h.up e) (Sees.start (all_cons (hc2) (all_cons (hc3) (all_cons (x0) (all_cons (y0) (all_nil)))))) (by kernel_rfl) (by kernel_rfl) ?_
    repeat (first | (refine m_plain (v := ?_) (by rfl) (by rfl) ?_ ?_; rotate_left; (intro wz hSw; obtain ⟨-, hSc⟩ := hSw; (try simp only [List.forall_mem_cons, List.forall_mem_nil, and_true] at hSc); go_simp; (first | done | with_reducible rfl)); (intro K hK; (try simp only [Act.put, List.setIfInBounds_toArray, List.set_cons_zero, List.set_cons_succ]); refine hK _ _ ?_; clear hK K)) | (refine m_skip (by rfl) (by rfl) ?_; (intro K hK; (try simp only [Act.put, List.setIfInBounds_toArray, List.set_cons_zero, List.set_cons_succ]); refine hK _ _ ?_; clear hK K)))
    refine m_make (by rfl) (by rfl) ?_ ?_
    · intro wz hSw hdep R hRz
      obtain ⟨hSe, hSc⟩ := hSw
      (try simp only [List.forall_mem_cons, List.forall_mem_nil, and_true] at hSc)
      unfold does
      (go_simp; refine Calls.mono (cmp_CompareI x y wz) ?_; rintro e wq ⟨rfl, rfl⟩; rw [← hv.out]; exact ⟨_, rfl, hRz.out _ _ ⟨Ext.refl _, rfl⟩⟩)
    intro v10 u10 x10 hG10 K hK
    have hF10 := hG10.fact
    (try dsimp only at hF10)
    subst hF10
    (try simp only [Act.put, List.setIfInBounds_toArray, List.set_cons_zero, List.set_cons_succ]); refine hK _ _ ?_; clear hK K
    repeat (first | (refine m_plain (v := ?_) (by rfl) (by rfl) ?_ ?_; rotate_left; (intro wz hSw; obtain ⟨-, hSc⟩ := hSw; (try simp only [List.forall_mem_cons, List.forall_mem_nil, and_true] at hSc); go_simp; (first | done | with_reducible rfl)); (intro K hK; (try simp only [Act.put, List.setIfInBounds_toArray, List.set_cons_zero, List.set_cons_succ]); refine hK _ _ ?_; clear hK K)) | (refine m_skip (by rfl) (by rfl) ?_; (intro K hK; (try simp only [Act.put, List.setIfInBounds_toArray, List.set_cons_zero, List.set_cons_succ]); refine hK _ _ ?_; clear hK K)))
    refine m_nil ?_
    intro wf hSf hAf
    have ef := hid (E.out.up hSf.1).ext
    clear hSf hAf
    go_wp2_with fail
    exact hR.out _ _ ⟨rfl, ef.out⟩
set_option maxRecDepth 100000 in
set_option maxHeartbeats 8000000 in
theorem order_cellsS (f : Nat) (br ba bb bf : Nat) (a : Arr) (sa : Option Addr) (ca : Nat) (na : Option Addr) (ma : Nat) (ia : Option Addr) (ja : Nat) (b : Arr) (sb : Option Addr) (cb : Nat) (nb : Option Addr) (mb : Nat) (ib : Option Addr) (jb : Nat) (S : Nat → Prop) (hl : a.shape.length = b.shape.length) (ra : rightS a = 0) (rb : rightS b = 0) (hca : a.shape.length ≤ ca) (hcb : b.shape.length ≤ cb) (ax i j : Nat) (hax : ax < a.shape.length)
    (ih : ∀ (p q : Nat) (w : World), p + cN (a.shape.drop (ax + 1)) ≤ szA a → q + cN (b.shape.drop (ax + 1)) ≤ szA b → CelW br ba bb bf a sa ca na ma ia ja b sb cb nb mb ib jb S w →
      Calls Try.prog 108 #[.int .i64 ((ax : Int) + 1), .int .i64 (p : Int), .int .i64 (q : Int), .pointer (some ⟨br, 0, none⟩), .pointer (some ⟨ba, 0, none⟩), .pointer (some ⟨bb, 0, none⟩), .pointer (some ⟨bf, 0, none⟩)] w fun e w' => e = .returned (.int .i64 (cellsC (fun i j => lfF (cmpF f) (a, i) (b, j)) (a.shape.drop (ax + 1)) (b.shape.drop (ax + 1)) p q)) ∧ Below w.heap.size w w')
    (w : World) (hi : i + cN (a.shape.drop ax) ≤ szA a) (hj : j + cN (b.shape.drop ax) ≤ szA b) (hw : CelW br ba bb bf a sa ca na ma ia ja b sb cb nb mb ib jb S w) :
    Calls Try.prog 108 #[.int .i64 (ax : Int), .int .i64 (i : Int), .int .i64 (j : Int), .pointer (some ⟨br, 0, none⟩), .pointer (some ⟨ba, 0, none⟩), .pointer (some ⟨bb, 0, none⟩), .pointer (some ⟨bf, 0, none⟩)] w fun e w' => e = .returned (.int .i64 (cellsC (fun i j => lfF (cmpF f) (a, i) (b, j)) (a.shape.drop ax) (b.shape.drop ax) i j)) ∧ Below w.heap.size w w' := by
  refine calls_post fun R' hR => ?_
  have hbx : ax < b.shape.length := by omega
  have sa8 : a.shape.length ≤ 8 := (shapeB_iff.1 (right_ok ra).2.1).1
  have hd0 := shape_nn ra
  have he0 := shape_nn rb
  have za := szA_le ra
  have zb := szA_le rb
  have ha1 := shapeB_drop (right_ok ra).2.1 (ax + 1)
  have hb1 := shapeB_drop (right_ok rb).2.1 (ax + 1)
  obtain ⟨d, hd⟩ : ∃ d, d = a.shape.getD ax 0 := ⟨_, rfl⟩
  obtain ⟨e, he⟩ : ∃ e, e = b.shape.getD ax 0 := ⟨_, rfl⟩
  have hsa : a.shape.drop ax = d :: a.shape.drop (ax + 1) := by rw [hd, List.drop_eq_getElem_cons hax]; simp [List.getD_eq_getElem?_getD, hax]
  have hsb : b.shape.drop ax = e :: b.shape.drop (ax + 1) := by rw [he, List.drop_eq_getElem_cons hbx]; simp [List.getD_eq_getElem?_getD, hbx]
  have hdn : 0 ≤ d := hd0 d (by rw [hd]; simp [List.getD_eq_getElem?_getD, hax])
  have hen : 0 ≤ e := he0 e (by rw [he]; simp [List.getD_eq_getElem?_getD, hbx])
  rw [hsa] at hi
  rw [hsb] at hj
  rw [hsa, hsb] at hR
  rw [cN_cons hdn (fun x hx => hd0 x (List.mem_of_mem_drop hx))] at hi
  rw [cN_cons hen (fun x hx => he0 x (List.mem_of_mem_drop hx))] at hj
  obtain ⟨ao, ac, hra, hia⟩ := cut_at a.shape sa ca (ax + 1) (by omega) hca
  obtain ⟨bo, bc, hrb, hib⟩ := cut_at b.shape sb cb (ax + 1) (by omega) hcb
  replace hia := hia w _ (ArrAt.shape hw.ga)
  replace hib := hib w _ (ArrAt.shape hw.gb)
  generalize a.shape.drop (ax + 1) = s at *
  generalize b.shape.drop (ax + 1) = t at *
  have z1 : Hid (sizeS s = (cN s : Int)) := hid (by rw [sizeS_true ha1]; unfold cN; have := (cnt_le ha1).1; omega)
  have z2 : Hid (sizeS t = (cN t : Int)) := hid (by rw [sizeS_true hb1]; unfold cN; have := (cnt_le hb1).1; omega)
  have hcs : cN s ≤ 65536 := by unfold cN; have := cnt_le ha1; omega
  have hct : cN t ≤ 65536 := by unfold cN; have := cnt_le hb1; omega
  obtain ⟨n, hn⟩ : ∃ n : Nat, min d e = (n : Int) := ⟨(min d e).toNat, by omega⟩
  have hd6 : d ≤ 65536 := by
    rcases Int.lt_or_le 65536 d with q | q
    · have := shapeB_big hax (hd ▸ q)
      rw [(right_ok ra).2.1] at this; cases this
    · exact q
  have hnd : n ≤ d.toNat ∧ n ≤ e.toNat := by omega
  have hn6 : n ≤ 65536 := by omega
  obtain ⟨z, hz⟩ : ∃ z, z = cmpI d e := ⟨_, rfl⟩
  obtain ⟨F, hF⟩ : ∃ F : Nat → Int, F = fun k => cellsC (fun i j => lfF (cmpF f) (a, i) (b, j)) s t (i + k * cN s) (j + k * cN t) := ⟨_, rfl⟩
  obtain ⟨V, hV⟩ : ∃ V, V = fst0 F n 0 z := ⟨_, rfl⟩
  have hval : cellsC (fun i j => lfF (cmpF f) (a, i) (b, j)) (d :: s) (e :: t) i j = V := by
    rw [hV, hF, hz]
    simp only [cellsC]
    rw [hn, Int.toNat_natCast]
  rw [hval] at hR
  have hF2 : ∀ k, cellsC (fun i j => lfF (cmpF f) (a, i) (b, j)) s t (i + k * cN s) (j + k * cN t) = F k := fun k => by rw [hF]
  replace hval := hid hval
  replace hF := hid hF
  replace hF2 := hid hF2
  replace hV := hid hV
  replace hz := hid hz
  obtain ⟨b1, o1, e1, _, _, x0⟩ := (ArrAt.shape hw.ga).at hax
  obtain ⟨b2, o2, e2, _, _, y0⟩ := (ArrAt.shape hw.gb).at hbx
  rw [← hd] at x0
  rw [← he] at y0
  obtain ⟨p, hp⟩ : ∃ p, p = cN s := ⟨_, rfl⟩
  obtain ⟨q, hq⟩ : ∃ q, q = cN t := ⟨_, rfl⟩
  rw [← hp] at z1 hcs hi
  rw [← hq] at z2 hct hj
  rw [← hp, ← hq] at ih hF2
  replace hp := hid hp
  replace hq := hid hq
  replace ih := hid ih
  have hw1 : IntKind.i64.wrap ((ax : Int) + 1) = (ax : Int) + 1 := IntWalk.i64_in _ (by omega)
  have hax1 : ((ax : Int) == (a.shape.length : Int)) = false := by simp; omega
  have hax2 : (ax : Int) < (a.shape.length : Int) := by omega
  have hbx2 : (ax : Int) < (b.shape.length : Int) := by omega
  have hc0 := hw.r
  have hc1 := hw.a1
  have hc2 := hw.b1
  have hwx := hid hw
  subst e1
  subst e2
  have E := hid (Env.start w (fun _ => True))
  replace hd := hid hd
  replace he := hid he
  replace hsa := hid hsa
  replace hsb := hid hsb
  simp only [Int.natCast_add, Int.natCast_one] at hra hrb
  replace hl := hid hl
  replace hia := hid hia
  replace hib := hid hib
  clear hw hd0 he0 ha1 hb1 ra rb
  go_enter Try.func108, Try.ntmps108
  go_upto_region 5 with fail
  obtain ⟨T, hT1, hT2, hT3⟩ := E.out.tw
  refine wp_region_mono (Sees w [(⟨ba, 1, none⟩, .slice (some ⟨b1, o1, none⟩) a.shape.length ca), (⟨bb, 1, none⟩, .slice (some ⟨b2, o2, none⟩) b.shape.length cb)]) [5, 11] (fun k v u u' => match k with | 5 => v = .int .i64 (p : Int) | 11 => v = .int .i64 (q : Int) | _ => False) (fun _ _ h e => h.up e) (Sees.start (all_cons (hc1) (all_cons (hc2) (all_nil)))) (by kernel_rfl) (by kernel_rfl) ?_
  repeat (first | (refine m_plain (v := ?_) (by rfl) (by rfl) ?_ ?_; rotate_left; (intro wz hSw; obtain ⟨-, hSc⟩ := hSw; (try simp only [List.forall_mem_cons, List.forall_mem_nil, and_true] at hSc); go_simp; (first | done | with_reducible rfl)); (intro K hK; (try simp only [Act.put, List.setIfInBounds_toArray, List.set_cons_zero, List.set_cons_succ]); refine hK _ _ ?_; clear hK K)) | (refine m_skip (by rfl) (by rfl) ?_; (intro K hK; (try simp only [Act.put, List.setIfInBounds_toArray, List.set_cons_zero, List.set_cons_succ]); refine hK _ _ ?_; clear hK K)))
  refine m_make (by rfl) (by rfl) ?_ ?_
  · intro wz hSw hdep R hRz
    obtain ⟨hSe, hSc⟩ := hSw
    (try simp only [List.forall_mem_cons, List.forall_mem_nil, and_true] at hSc)
    unfold does
    (go_simp; refine Calls.mono (shape_Size s _ _ _ wz (hia.out.up hSe)) ?_; rintro e wq ⟨rfl, rfl⟩; rw [z1.out]; exact ⟨_, rfl, hRz.out _ _ ⟨Ext.refl _, rfl⟩⟩)
  intro v5 u5 x5 hG5 K hK
  have hF5 := hG5.fact
  (try dsimp only at hF5)
  subst hF5
  (try simp only [Act.put, List.setIfInBounds_toArray, List.set_cons_zero, List.set_cons_succ]); refine hK _ _ ?_; clear hK K
  repeat (first | (refine m_plain (v := ?_) (by rfl) (by rfl) ?_ ?_; rotate_left; (intro wz hSw; obtain ⟨-, hSc⟩ := hSw; (try simp only [List.forall_mem_cons, List.forall_mem_nil, and_true] at hSc); go_simp; (first | done | with_reducible rfl)); (intro K hK; (try simp only [Act.put, List.setIfInBounds_toArray, List.set_cons_zero, List.set_cons_succ]); refine hK _ _ ?_; clear hK K)) | (refine m_skip (by rfl) (by rfl) ?_; (intro K hK; (try simp only [Act.put, List.setIfInBounds_toArray, List.set_cons_zero, List.set_cons_succ]); refine hK _ _ ?_; clear hK K)))
  refine m_make (by rfl) (by rfl) ?_ ?_
  · intro wz hSw hdep R hRz
    obtain ⟨hSe, hSc⟩ := hSw
    (try simp only [List.forall_mem_cons, List.forall_mem_nil, and_true] at hSc)
    unfold does
    (go_simp; refine Calls.mono (shape_Size t _ _ _ wz (hib.out.up hSe)) ?_; rintro e wq ⟨rfl, rfl⟩; rw [z2.out]; exact ⟨_, rfl, hRz.out _ _ ⟨Ext.refl _, rfl⟩⟩)
  intro v11 u11 x11 hG11 K hK
  have hF11 := hG11.fact
  (try dsimp only at hF11)
  subst hF11
  (try simp only [Act.put, List.setIfInBounds_toArray, List.set_cons_zero, List.set_cons_succ]); refine hK _ _ ?_; clear hK K
  repeat (first | (refine m_plain (v := ?_) (by rfl) (by rfl) ?_ ?_; rotate_left; (intro wz hSw; obtain ⟨-, hSc⟩ := hSw; (try simp only [List.forall_mem_cons, List.forall_mem_nil, and_true] at hSc); go_simp; (first | done | with_reducible rfl)); (intro K hK; (try simp only [Act.put, List.setIfInBounds_toArray, List.set_cons_zero, List.set_cons_succ]); refine hK _ _ ?_; clear hK K)) | (refine m_skip (by rfl) (by rfl) ?_; (intro K hK; (try simp only [Act.put, List.setIfInBounds_toArray, List.set_cons_zero, List.set_cons_succ]); refine hK _ _ ?_; clear hK K)))
  refine m_nil ?_
  intro wf hSf hAf
  have ef : Ext w wf := hSf.1
  clear hSf hAf
  have d1 := up_cell hc1 ef
  have d2 := up_cell hc2 ef
  have d3 := up_cell x0 ef
  have d4 := up_cell y0 ef
  go_upto_region 6 with fail
  refine wp_region_mono (Sees wf [(⟨ba, 1, none⟩, .slice (some ⟨b1, o1, none⟩) a.shape.length ca), (⟨bb, 1, none⟩, .slice (some ⟨b2, o2, none⟩) b.shape.length cb), (⟨b1, o1 + ax, none⟩, .int .i64 d), (⟨b2, o2 + ax, none⟩, .int .i64 e)]) [] (fun k v u u' => match k with  | _ => False) (fun _ _ h e => h.up e) (Sees.start (all_cons (d1) (all_cons (d2) (all_cons (d3) (all_cons (d4) (all_nil)))))) (by kernel_rfl) (by kernel_rfl) ?_
  repeat (first | (refine m_plain (v := ?_) (by rfl) (by rfl) ?_ ?_; rotate_left; (intro wz hSw; obtain ⟨-, hSc⟩ := hSw; (try simp only [List.forall_mem_cons, List.forall_mem_nil, and_true] at hSc); go_simp; (first | done | with_reducible rfl)); (intro K hK; (try simp only [Act.put, List.setIfInBounds_toArray, List.set_cons_zero, List.set_cons_succ]); refine hK _ _ ?_; clear hK K)) | (refine m_skip (by rfl) (by rfl) ?_; (intro K hK; (try simp only [Act.put, List.setIfInBounds_toArray, List.set_cons_zero, List.set_cons_succ]); refine hK _ _ ?_; clear hK K)))
  refine m_nil ?_
  intro wg hSg hAg
  have eg : Ext w wg := ef.trans hSg.1
  clear hSg hAg d1 d2 d3 d4
  go_wp2_with fail
  go_loopw [73] (fun r wr => ∃ k : Nat, k ≤ n ∧ r = .int .i64 k ∧ Ext w wr ∧ V = fst0 F (n - k) k z) (fun r _ => n - (intOf r).toNat)
  case atStart => exact ⟨0, Nat.zero_le _, rfl, eg, by simpa using hV.out⟩
  case round =>
    clear eg ef
    obtain ⟨k, hkn, rfl, er, hv⟩ := hrel
    have hwr := hid (hwx.out.up er)
    by_cases hlt : k < n
    case pos =>
      have hlt2 : Hid (k + 1 ≤ n ∧ n - (k + 1) < n - k ∧ k < 65536) := hid (by omega)
      have hr2 : fst0 F (n - k) k z = if F k ≠ 0 then F k else fst0 F (n - (k + 1)) (k + 1) z := by rw [show n - k = (n - (k + 1)) + 1 by omega]; rfl
      rw [hr2] at hv
      clear hr2
      have kp : k * p + p ≤ d.toNat * p := by rw [← Nat.succ_mul]; exact Nat.mul_le_mul_right _ (by omega)
      have kq : k * q + q ≤ e.toNat * q := by rw [← Nat.succ_mul]; exact Nat.mul_le_mul_right _ (by omega)
      obtain ⟨q1, hq1⟩ : ∃ x, x = k * p := ⟨_, rfl⟩
      obtain ⟨q2, hq2⟩ : ∃ x, x = k * q := ⟨_, rfl⟩
      have hcv := hF2.out k
      rw [← hq1, ← hq2] at hcv
      rw [← hq1] at kp
      rw [← hq2] at kq
      have hm1 : IntKind.i64.wrap ((k : Int) * (p : Int)) = (q1 : Int) := by
        rw [show (k : Int) * (p : Int) = ((k * p : Nat) : Int) by rw [Int.natCast_mul], ← hq1]
        exact IntWalk.i64_in _ (by omega)
      have hm2 : IntKind.i64.wrap ((k : Int) * (q : Int)) = (q2 : Int) := by
        rw [show (k : Int) * (q : Int) = ((k * q : Nat) : Int) by rw [Int.natCast_mul], ← hq2]
        exact IntWalk.i64_in _ (by omega)
      have hm3 : IntKind.i64.wrap ((i : Int) + (q1 : Int)) = (i : Int) + (q1 : Int) := IntWalk.i64_in _ (by omega)
      have hm4 : IntKind.i64.wrap ((j : Int) + (q2 : Int)) = (j : Int) + (q2 : Int) := IntWalk.i64_in _ (by omega)
      have hc := ih.out (i + q1) (j + q2) wr (by omega) (by omega) hwr.out
      rw [hcv] at hc
      simp only [Int.natCast_add] at hc
      generalize F k = fk at hc hv
      clear hcv
      replace hq1 := hid hq1
      replace hq2 := hid hq2
      replace hc := hid hc
      have hcf := hwr.out.f
      by_cases hf0 : fk = 0
      case pos =>
        rw [if_neg (by simp [hf0])] at hv
        have hdb : (fk != 0) = false := by simp [hf0]
        replace hf0 := hid hf0
        replace hv := hid hv
        go_wp2_with fail
        refine Calls.mono hc.out ?_
        rintro e w2 ⟨rfl, hb⟩
        go_wp2_with fail
        go_roundw
        case rel => exact ⟨k + 1, hlt2.out.1, by have := hlt2.out; go_num, er.trans hb, hv.out⟩
        case measure => have := hlt2.out; simp [intOf]; omega
      case neg =>
        rw [if_pos hf0] at hv
        have hdb : (fk != 0) = true := by simp [hf0]
        replace hf0 := hid hf0
        replace hv := hid hv
        go_wp2_with fail
        refine Calls.mono hc.out ?_
        rintro e w2 ⟨rfl, hb⟩
        go_wp2_with fail
        exact hR.out _ _ ⟨by rw [hv.out] <;> rfl, er.trans hb⟩
    case neg =>
      have hkn2 : n - k = 0 := by omega
      rw [hkn2] at hv
      replace hv : Hid (V = z) := hid hv
      have d1 := up_cell hc1 er
      have d2 := up_cell hc2 er
      have d3 := up_cell x0 er
      have d4 := up_cell y0 er
      replace E := hid (E.out.up er)
      go_upto_region 13 with fail
      obtain ⟨T, hT1, hT2, hT3⟩ := E.out.tw
      refine wp_region_mono (Sees wr [(⟨ba, 1, none⟩, .slice (some ⟨b1, o1, none⟩) a.shape.length ca), (⟨bb, 1, none⟩, .slice (some ⟨b2, o2, none⟩) b.shape.length cb), (⟨b1, o1 + ax, none⟩, .int .i64 d), (⟨b2, o2 + ax, none⟩, .int .i64 e)]) [10] (fun k v u u' => match k with | 10 => v = .int .i64 z | _ => False) (fun _ _ h e => h.up e) (Sees.start (all_cons (d1) (all_cons (d2) (all_cons (d3) (all_cons (d4) (all_nil)))))) (by kernel_rfl) (by kernel_rfl) ?_
      repeat (first | (refine m_plain (v := ?_) (by rfl) (by rfl) ?_ ?_; rotate_left; (intro wz hSw; obtain ⟨-, hSc⟩ := hSw; (try simp only [List.forall_mem_cons, List.forall_mem_nil, and_true] at hSc); go_simp; (first | done | with_reducible rfl)); (intro K hK; (try simp only [Act.put, List.setIfInBounds_toArray, List.set_cons_zero, List.set_cons_succ]); refine hK _ _ ?_; clear hK K)) | (refine m_skip (by rfl) (by rfl) ?_; (intro K hK; (try simp only [Act.put, List.setIfInBounds_toArray, List.set_cons_zero, List.set_cons_succ]); refine hK _ _ ?_; clear hK K)))
      refine m_make (by rfl) (by rfl) ?_ ?_
      · intro wz hSw hdep R hRz
        obtain ⟨hSe, hSc⟩ := hSw
        (try simp only [List.forall_mem_cons, List.forall_mem_nil, and_true] at hSc)
        unfold does
        (go_simp; refine Calls.mono (cmp_CompareI d e wz) ?_; rintro e wq ⟨rfl, rfl⟩; rw [← hz.out]; exact ⟨_, rfl, hRz.out _ _ ⟨Ext.refl _, rfl⟩⟩)
      intro v10 u10 x10 hG10 K hK
      have hF10 := hG10.fact
      (try dsimp only at hF10)
      subst hF10
      (try simp only [Act.put, List.setIfInBounds_toArray, List.set_cons_zero, List.set_cons_succ]); refine hK _ _ ?_; clear hK K
      repeat (first | (refine m_plain (v := ?_) (by rfl) (by rfl) ?_ ?_; rotate_left; (intro wz hSw; obtain ⟨-, hSc⟩ := hSw; (try simp only [List.forall_mem_cons, List.forall_mem_nil, and_true] at hSc); go_simp; (first | done | with_reducible rfl)); (intro K hK; (try simp only [Act.put, List.setIfInBounds_toArray, List.set_cons_zero, List.set_cons_succ]); refine hK _ _ ?_; clear hK K)) | (refine m_skip (by rfl) (by rfl) ?_; (intro K hK; (try simp only [Act.put, List.setIfInBounds_toArray, List.set_cons_zero, List.set_cons_succ]); refine hK _ _ ?_; clear hK K)))
      refine m_nil ?_
      intro wf hSf hAf
      have ew : Ext w wf := er.trans hSf.1
      clear hSf hAf
      go_wp2_with fail
      exact hR.out _ _ ⟨by rw [hv.out] <;> rfl, ew⟩
/-- order.contents' inner function, from any axis on -/
theorem order_cells (f : Nat) (br ba bb bf : Nat) (a : Arr) (sa : Option Addr) (ca : Nat) (na : Option Addr) (ma : Nat) (ia : Option Addr) (ja : Nat) (b : Arr) (sb : Option Addr) (cb : Nat) (nb : Option Addr) (mb : Nat) (ib : Option Addr) (jb : Nat) (S : Nat → Prop) (hk : a.kind = b.kind) (hl : a.shape.length = b.shape.length) (ra : rightS a = 0) (rb : rightS b = 0) (hca : a.shape.length ≤ ca) (hcb : b.shape.length ≤ cb)
    (hI : a.kind = 3 → ∀ x ∈ a.items, ∀ y ∈ b.items, CmpC f x y) : ∀ (m ax i j : Nat) (w : World), ax + m = a.shape.length → i + cN (a.shape.drop ax) ≤ szA a → j + cN (b.shape.drop ax) ≤ szA b → CelW br ba bb bf a sa ca na ma ia ja b sb cb nb mb ib jb S w →
    Calls Try.prog 108 #[.int .i64 (ax : Int), .int .i64 (i : Int), .int .i64 (j : Int), .pointer (some ⟨br, 0, none⟩), .pointer (some ⟨ba, 0, none⟩), .pointer (some ⟨bb, 0, none⟩), .pointer (some ⟨bf, 0, none⟩)] w fun e w' => e = .returned (.int .i64 (cellsC (fun i j => lfF (cmpF f) (a, i) (b, j)) (a.shape.drop ax) (b.shape.drop ax) i j)) ∧ Below w.heap.size w w' := by
  intro m
  induction m with
  | zero =>
    intro ax i j w hm hi hj hw
    obtain rfl : ax = a.shape.length := by omega
    have e1 : a.shape.drop a.shape.length = [] := List.drop_length
    have e2 : b.shape.drop a.shape.length = [] := by rw [hl]; exact List.drop_length
    have c1 : cN [] = 1 := by unfold cN; rw [cnt_nil]; rfl
    rw [e1, c1] at hi
    rw [e2, c1] at hj
    rw [e1, e2]
    exact order_cells0 f br ba bb bf a sa ca na ma ia ja b sb cb nb mb ib jb S hk ra rb hI i j w (by omega) (by omega) hw
  | succ m ih =>
    intro ax i j w hm hi hj hw
    refine order_cellsS f br ba bb bf a sa ca na ma ia ja b sb cb nb mb ib jb S hl ra rb hca hcb ax i j (by omega) (fun p q w h1 h2 h3 => ?_) w hi hj hw
    have := ih (ax + 1) p q w (by omega) h1 h2 h3
    simpa only [Int.natCast_add, Int.natCast_one] using this
set_option maxRecDepth 100000 in
set_option maxHeartbeats 4000000 in
theorem order_contentsF (f : Nat) (a : Arr) (sa : Option Addr) (ca : Nat) (na : Option Addr) (ma : Nat) (ia : Option Addr) (ja : Nat) (b : Arr) (sb : Option Addr) (cb : Nat) (nb : Option Addr) (mb : Nat) (ib : Option Addr) (jb : Nat) (S : Nat → Prop) (w : World) (h : ArrG w S a sa na ia) (g : ArrG w S b sb nb ib) (ra : rightS a = 0) (rb : rightS b = 0) (hca : a.shape.length ≤ ca) (hcb : b.shape.length ≤ cb)
    (hI : a.kind = 3 → ∀ x ∈ a.items, ∀ y ∈ b.items, CmpC f x y) :
    Calls Try.prog 100 #[.agg #[.int .i64 a.kind, .slice sa a.shape.length ca, .slice na a.nums.length ma, .slice ia a.items.length ja], .agg #[.int .i64 b.kind, .slice sb b.shape.length cb, .slice nb b.nums.length mb, .slice ib b.items.length jb]] w fun e w' => e = .returned (.int .i64 (conF (cmpF f) a b)) ∧ Below w.heap.size w w' := by
  refine calls_post fun R' hR => ?_
  by_cases hk : a.kind = b.kind
  case neg =>
    have hv : Hid (conF (cmpF f) a b = 0) := hid (by unfold conF; rw [if_pos (Or.inl hk)])
    have kb : (a.kind != b.kind) = true := by simp [hk]
    replace hk := hid hk
    clear h g hI
    go_enter Try.func100, Try.ntmps100
    go_wp2_with fail
    exact hR.out _ _ ⟨by rw [hv.out] <;> rfl, (ext_alloc _ _).trans (ext_alloc _ _)⟩
  case pos =>
    have kb : (a.kind != b.kind) = false := by simp [hk]
    by_cases hl : a.shape.length = b.shape.length
    case neg =>
      have hv : Hid (conF (cmpF f) a b = 0) := hid (by unfold conF; rw [if_pos (Or.inr hl)])
      have lb : ((a.shape.length : Int) != (b.shape.length : Int)) = true := by simp; omega
      replace hk := hid hk
      replace hl := hid hl
      clear h g hI
      go_enter Try.func100, Try.ntmps100
      go_wp2_with fail
      exact hR.out _ _ ⟨by rw [hv.out] <;> rfl, (ext_alloc _ _).trans (ext_alloc _ _)⟩
    case pos =>
      have lb : ((a.shape.length : Int) != (b.shape.length : Int)) = false := by simp [hl]
      have hv : Hid (conF (cmpF f) a b = cellsC (fun i j => lfF (cmpF f) (a, i) (b, j)) (a.shape.drop 0) (b.shape.drop 0) 0 0) := hid (by unfold conF; rw [if_neg (by rw [hk, hl]; simp)]; rfl)
      have hz1 : 0 + cN (a.shape.drop 0) ≤ szA a := by have := sz_cnt ra; simp only [List.drop_zero]; unfold cN; omega
      have hz2 : 0 + cN (b.shape.drop 0) ≤ szA b := by have := sz_cnt rb; simp only [List.drop_zero]; unfold cN; omega
      have hall := hid (fun (wz : World) (br ba bb bf : Nat) (hw : CelW br ba bb bf a sa ca na ma ia ja b sb cb nb mb ib jb S wz) => order_cells f br ba bb bf a sa ca na ma ia ja b sb cb nb mb ib jb S hk hl ra rb hca hcb hI a.shape.length 0 0 0 wz (Nat.zero_add _) hz1 hz2 hw)
      clear hz1 hz2 hI ra rb hca hcb
      replace hk := hid hk
      replace hl := hid hl
      have h0 := hid h
      have g0 := hid g
      clear h g
      go_enter Try.func100, Try.ntmps100
      go_wp2_with fail
      have e1 := ext_alloc w (.cells #[.int .i64 a.kind, .slice sa a.shape.length ca, .slice na a.nums.length ma, .slice ia a.items.length ja] 27)
      refine Calls.mono (hall.out _ (w.heap.size + 1 + 1) w.heap.size (w.heap.size + 1) (w.heap.size + 1 + 1 + 1) ⟨?_, ?_, ?_, ?_, ?_, ?_, ?_, ?_, ?_, h0.out.up ?_, g0.out.up ?_⟩) ?_
      all_goals first | (rintro e w2 ⟨rfl, hb⟩) | (exact (((ext_alloc _ _).trans (ext_alloc _ _)).trans (ext_alloc _ _)).trans (ext_alloc _ _)) | (simp [go_sem, World.cell?_alloc_past]; done) | skip
      have hb' : Below w.heap.size w w2 := by
        refine Below.trans ?_ (Below.mono hb (by simp; omega))
        exact (((ext_alloc _ _).trans (ext_alloc _ _)).trans (ext_alloc _ _)).trans (ext_alloc _ _)
      clear hb
      go_wp2_with fail
      exact hR.out _ _ ⟨by rw [hv.out] <;> rfl, hb'⟩
set_option maxRecDepth 100000 in
set_option maxHeartbeats 4000000 in
theorem order_compareG (a : Arr) (sa : Option Addr) (ca : Nat) (na : Option Addr) (ma : Nat) (ia : Option Addr) (ja : Nat) (b : Arr) (sb : Option Addr) (cb : Nat) (nb : Option Addr) (mb : Nat) (ib : Option Addr) (jb : Nat) (c : Int) (S : Nat → Prop) (w : World) (h : ArrAt w S a sa na ia) (g : ArrAt w S b sb nb ib)
    (hcon : ∀ wz : World, Ext w wz → Calls Try.prog 100 #[.agg #[.int .i64 a.kind, .slice sa a.shape.length ca, .slice na a.nums.length ma, .slice ia a.items.length ja], .agg #[.int .i64 b.kind, .slice sb b.shape.length cb, .slice nb b.nums.length mb, .slice ib b.items.length jb]] wz fun e w' => e = .returned (.int .i64 c) ∧ Below wz.heap.size wz w') :
    Calls Try.prog 84 #[.agg #[.int .i64 a.kind, .slice sa a.shape.length ca, .slice na a.nums.length ma, .slice ia a.items.length ja], .agg #[.int .i64 b.kind, .slice sb b.shape.length cb, .slice nb b.nums.length mb, .slice ib b.items.length jb]] w fun e w' => e = .returned (.int .i64 (cmp4 a b c)) ∧ Below w.heap.size w w' := by
  refine calls_post fun R' hR => ?_
  have h0 := hid h
  have g0 := hid g
  replace hcon := hid hcon
  clear h g
  obtain ⟨r, hr⟩ : ∃ r, r = cmp4 a b c := ⟨_, rfl⟩
  have hr2 : Hid (orL [cmpI a.kind b.kind, cmpI (a.shape.length : Int) (b.shape.length : Int), c, cmpL a.shape b.shape] = r) := hid hr.symm
  rw [← hr] at hR
  replace hr := hid hr
  obtain ⟨q1, h1⟩ : ∃ q, q = cmpI a.kind b.kind := ⟨_, rfl⟩
  obtain ⟨q2, h2⟩ : ∃ q, q = cmpI (a.shape.length : Int) (b.shape.length : Int) := ⟨_, rfl⟩
  obtain ⟨q4, h4⟩ : ∃ q, q = cmpL a.shape b.shape := ⟨_, rfl⟩
  rw [← h1, ← h2, ← h4] at hr2
  replace h1 := hid h1.symm
  replace h2 := hid h2.symm
  replace h4 := hid h4.symm
  go_enter Try.func84, Try.ntmps84
  go_upto_region 1 with (fail)
  generalize hEW : ((w).alloc (.cells #[.int .i64 a.kind, .slice sa a.shape.length ca, .slice na a.nums.length ma, .slice ia a.items.length ja] 27)).alloc (.cells #[.int .i64 b.kind, .slice sb b.shape.length cb, .slice nb b.nums.length mb, .slice ib b.items.length jb] 27) = W
  have E := hid (env2 w S hEW)
  clear hEW
  replace E := hid ((E.out.arg h0.out).arg g0.out)
  (try simp only [List.cons_append, List.nil_append, List.set_cons_zero, List.set_cons_succ] at E)
  generalize w.heap.size + 1 = p1 at E ⊢
  obtain ⟨q00, q01, q02, q03⟩ := (E.out.hdr 0 rfl).all
  obtain ⟨q10, q11, q12, q13⟩ := (E.out.hdr 1 rfl).all
  obtain ⟨T, hT1, hT2, hT3⟩ := E.out.tw
  refine wp_region_mono (Sees W [(⟨w.heap.size, 0, none⟩, .int .i64 a.kind), (⟨w.heap.size, 1, none⟩, .slice sa a.shape.length ca), (⟨w.heap.size, 2, none⟩, .slice na a.nums.length ma), (⟨w.heap.size, 3, none⟩, .slice ia a.items.length ja), (⟨p1, 0, none⟩, .int .i64 b.kind), (⟨p1, 1, none⟩, .slice sb b.shape.length cb), (⟨p1, 2, none⟩, .slice nb b.nums.length mb), (⟨p1, 3, none⟩, .slice ib b.items.length jb)]) [4, 11, 14, 19, 20, 21] (fun k v u u' => match k with | 4 => v = .int .i64 q1 | 11 => v = .int .i64 q2 | 14 => v = .int .i64 c | 19 => v = .int .i64 q4 | 20 => v = .slice (some ⟨u.heap.size, 0, none⟩) 4 4 ∧ u' = u.alloc (.cells (([q1, q2, c, q4] : List Int).map (Value.int .i64)).toArray 3) | 21 => v = .int .i64 r | _ => False) (fun _ _ h e => h.up e) (Sees.start (all_cons ((E.out.hdr 0 rfl).c0) (all_cons ((E.out.hdr 0 rfl).c1) (all_cons ((E.out.hdr 0 rfl).c2) (all_cons ((E.out.hdr 0 rfl).c3) (all_cons ((E.out.hdr 1 rfl).c0) (all_cons ((E.out.hdr 1 rfl).c1) (all_cons ((E.out.hdr 1 rfl).c2) (all_cons ((E.out.hdr 1 rfl).c3) (all_nil)))))))))) (by kernel_rfl) (by kernel_rfl) ?_
  repeat (first | (refine m_plain (v := ?_) (by rfl) (by rfl) ?_ ?_; rotate_left; (intro wz hSw; obtain ⟨-, hSc⟩ := hSw; (try simp only [List.forall_mem_cons, List.forall_mem_nil, and_true] at hSc); go_simp; (first | done | with_reducible rfl)); (intro K hK; (try simp only [Act.put, List.setIfInBounds_toArray, List.set_cons_zero, List.set_cons_succ]); refine hK _ _ ?_; clear hK K)) | (refine m_skip (by rfl) (by rfl) ?_; (intro K hK; (try simp only [Act.put, List.setIfInBounds_toArray, List.set_cons_zero, List.set_cons_succ]); refine hK _ _ ?_; clear hK K)))
  refine m_make (by rfl) (by rfl) ?_ ?_
  · intro wz hSw hdep R hRz
    obtain ⟨hSe, hSc⟩ := hSw
    (try simp only [List.forall_mem_cons, List.forall_mem_nil, and_true] at hSc)
    unfold does
    (go_simp; refine Calls.mono (cmp_CompareK a.kind b.kind wz) ?_; rintro e wq ⟨rfl, rfl⟩; rw [h1.out]; exact ⟨_, rfl, hRz.out _ _ ⟨Ext.refl _, rfl⟩⟩)
  intro v4 u4 x4 hG4 K hK
  have hF4 := hG4.fact
  (try dsimp only at hF4)
  subst hF4
  (try simp only [Act.put, List.setIfInBounds_toArray, List.set_cons_zero, List.set_cons_succ]); refine hK _ _ ?_; clear hK K
  repeat (first | (refine m_plain (v := ?_) (by rfl) (by rfl) ?_ ?_; rotate_left; (intro wz hSw; obtain ⟨-, hSc⟩ := hSw; (try simp only [List.forall_mem_cons, List.forall_mem_nil, and_true] at hSc); go_simp; (first | done | with_reducible rfl)); (intro K hK; (try simp only [Act.put, List.setIfInBounds_toArray, List.set_cons_zero, List.set_cons_succ]); refine hK _ _ ?_; clear hK K)) | (refine m_skip (by rfl) (by rfl) ?_; (intro K hK; (try simp only [Act.put, List.setIfInBounds_toArray, List.set_cons_zero, List.set_cons_succ]); refine hK _ _ ?_; clear hK K)))
  refine m_make (by rfl) (by rfl) ?_ ?_
  · intro wz hSw hdep R hRz
    obtain ⟨hSe, hSc⟩ := hSw
    (try simp only [List.forall_mem_cons, List.forall_mem_nil, and_true] at hSc)
    unfold does
    (go_simp; refine Calls.mono (cmp_CompareI (a.shape.length : Int) (b.shape.length : Int) wz) ?_; rintro e wq ⟨rfl, rfl⟩; rw [h2.out]; exact ⟨_, rfl, hRz.out _ _ ⟨Ext.refl _, rfl⟩⟩)
  intro v11 u11 x11 hG11 K hK
  have hF11 := hG11.fact
  (try dsimp only at hF11)
  subst hF11
  (try simp only [Act.put, List.setIfInBounds_toArray, List.set_cons_zero, List.set_cons_succ]); refine hK _ _ ?_; clear hK K
  repeat (first | (refine m_plain (v := ?_) (by rfl) (by rfl) ?_ ?_; rotate_left; (intro wz hSw; obtain ⟨-, hSc⟩ := hSw; (try simp only [List.forall_mem_cons, List.forall_mem_nil, and_true] at hSc); go_simp; (first | done | with_reducible rfl)); (intro K hK; (try simp only [Act.put, List.setIfInBounds_toArray, List.set_cons_zero, List.set_cons_succ]); refine hK _ _ ?_; clear hK K)) | (refine m_skip (by rfl) (by rfl) ?_; (intro K hK; (try simp only [Act.put, List.setIfInBounds_toArray, List.set_cons_zero, List.set_cons_succ]); refine hK _ _ ?_; clear hK K)))
  refine m_make (by rfl) (by rfl) ?_ ?_
  · intro wz hSw hdep R hRz
    obtain ⟨hSe, hSc⟩ := hSw
    (try simp only [List.forall_mem_cons, List.forall_mem_nil, and_true] at hSc)
    unfold does
    (go_simp; refine Calls.mono (hcon.out wz (Below.trans E.out.ext (Below.mono hSe E.out.size))) ?_; rintro e wq ⟨rfl, hqb⟩; exact ⟨_, rfl, hRz.out _ _ ⟨hqb, rfl⟩⟩)
  intro v14 u14 x14 hG14 K hK
  have hF14 := hG14.fact
  (try dsimp only at hF14)
  subst hF14
  (try simp only [Act.put, List.setIfInBounds_toArray, List.set_cons_zero, List.set_cons_succ]); refine hK _ _ ?_; clear hK K
  repeat (first | (refine m_plain (v := ?_) (by rfl) (by rfl) ?_ ?_; rotate_left; (intro wz hSw; obtain ⟨-, hSc⟩ := hSw; (try simp only [List.forall_mem_cons, List.forall_mem_nil, and_true] at hSc); go_simp; (first | done | with_reducible rfl)); (intro K hK; (try simp only [Act.put, List.setIfInBounds_toArray, List.set_cons_zero, List.set_cons_succ]); refine hK _ _ ?_; clear hK K)) | (refine m_skip (by rfl) (by rfl) ?_; (intro K hK; (try simp only [Act.put, List.setIfInBounds_toArray, List.set_cons_zero, List.set_cons_succ]); refine hK _ _ ?_; clear hK K)))
  refine m_make (by rfl) (by rfl) ?_ ?_
  · intro wz hSw hdep R hRz
    obtain ⟨hSe, hSc⟩ := hSw
    (try simp only [List.forall_mem_cons, List.forall_mem_nil, and_true] at hSc)
    unfold does
    (go_simp; refine Calls.mono (slices_Compare a.shape b.shape _ _ _ _ _ wz ((ArrAt.up (ArrAt.mono (fun b _ h => hT1 b h) _ (E.out.arr 2 rfl)) hSe)).shape ((ArrAt.up (ArrAt.mono (fun b _ h => hT1 b h) _ (E.out.arr 3 rfl)) hSe)).shape) ?_; rintro e wq ⟨rfl, rfl⟩; rw [h4.out]; exact ⟨_, rfl, hRz.out _ _ ⟨Ext.refl _, rfl⟩⟩)
  intro v19 u19 x19 hG19 K hK
  have hF19 := hG19.fact
  (try dsimp only at hF19)
  subst hF19
  (try simp only [Act.put, List.setIfInBounds_toArray, List.set_cons_zero, List.set_cons_succ]); refine hK _ _ ?_; clear hK K
  repeat (first | (refine m_plain (v := ?_) (by rfl) (by rfl) ?_ ?_; rotate_left; (intro wz hSw; obtain ⟨-, hSc⟩ := hSw; (try simp only [List.forall_mem_cons, List.forall_mem_nil, and_true] at hSc); go_simp; (first | done | with_reducible rfl)); (intro K hK; (try simp only [Act.put, List.setIfInBounds_toArray, List.set_cons_zero, List.set_cons_succ]); refine hK _ _ ?_; clear hK K)) | (refine m_skip (by rfl) (by rfl) ?_; (intro K hK; (try simp only [Act.put, List.setIfInBounds_toArray, List.set_cons_zero, List.set_cons_succ]); refine hK _ _ ?_; clear hK K)))
  refine m_make (by rfl) (by rfl) ?_ ?_
  · intro wz hSw hdep R hRz
    obtain ⟨hSe, hSc⟩ := hSw
    (try simp only [List.forall_mem_cons, List.forall_mem_nil, and_true] at hSc)
    unfold does
    (go_simp; exact hRz.out _ _ ⟨ext_alloc _ _, rfl, rfl⟩)
  intro v20 u20 x20 hG20 K hK
  have hF20 := hG20.fact
  (try dsimp only at hF20)
  obtain ⟨rfl, rfl⟩ := hF20
  (try simp only [Act.put, List.setIfInBounds_toArray, List.set_cons_zero, List.set_cons_succ]); refine hK _ _ ?_; clear hK K
  repeat (first | (refine m_plain (v := ?_) (by rfl) (by rfl) ?_ ?_; rotate_left; (intro wz hSw; obtain ⟨-, hSc⟩ := hSw; (try simp only [List.forall_mem_cons, List.forall_mem_nil, and_true] at hSc); go_simp; (first | done | with_reducible rfl)); (intro K hK; (try simp only [Act.put, List.setIfInBounds_toArray, List.set_cons_zero, List.set_cons_succ]); refine hK _ _ ?_; clear hK K)) | (refine m_skip (by rfl) (by rfl) ?_; (intro K hK; (try simp only [Act.put, List.setIfInBounds_toArray, List.set_cons_zero, List.set_cons_succ]); refine hK _ _ ?_; clear hK K)))
  refine m_make (by rfl) (by rfl) ?_ ?_
  · intro wz hSw hdep R hRz
    obtain ⟨hSe, hSc⟩ := hSw
    (try simp only [List.forall_mem_cons, List.forall_mem_nil, and_true] at hSc)
    unfold does
    (go_simp; refine Calls.mono (cmp_Or [q1, q2, c, q4] _ _ _ wz ((lit_at (hdep 20 _ rfl (depB_sound (f := 4) (by kernel_rfl))) (by first | decide | simp)).mono (fun b _ hb => hT2 b (Nat.le_trans (Below.size hG20.s.1) hb)))) ?_; rintro e wq ⟨rfl, rfl⟩; rw [hr2.out]; exact ⟨_, rfl, hRz.out _ _ ⟨Ext.refl _, rfl⟩⟩)
  intro v21 u21 x21 hG21 K hK
  have hF21 := hG21.fact
  (try dsimp only at hF21)
  subst hF21
  (try simp only [Act.put, List.setIfInBounds_toArray, List.set_cons_zero, List.set_cons_succ]); refine hK _ _ ?_; clear hK K
  repeat (first | (refine m_plain (v := ?_) (by rfl) (by rfl) ?_ ?_; rotate_left; (intro wz hSw; obtain ⟨-, hSc⟩ := hSw; (try simp only [List.forall_mem_cons, List.forall_mem_nil, and_true] at hSc); go_simp; (first | done | with_reducible rfl)); (intro K hK; (try simp only [Act.put, List.setIfInBounds_toArray, List.set_cons_zero, List.set_cons_succ]); refine hK _ _ ?_; clear hK K)) | (refine m_skip (by rfl) (by rfl) ?_; (intro K hK; (try simp only [Act.put, List.setIfInBounds_toArray, List.set_cons_zero, List.set_cons_succ]); refine hK _ _ ?_; clear hK K)))
  refine m_nil ?_
  intro wf hSf hAf
  have ef := hid (E.out.up hSf.1).ext
  clear hSf hAf
  go_wp2_with fail
  exact hR.out _ _ ⟨rfl, ef.out⟩
/-- order.compare says what the order says -/
theorem order_compareF : ∀ (f : Nat) (a b : Arr), OkF f a → OkF f b → CmpC f a b
  | 0, a, b, ha, _ => absurd ha.2 (by have := (dep_le a).1; omega)
  | f + 1, a, b, ha, hb => fun sa ca na ma ia ja sb cb nb mb ib jb S w h g hca hcb =>
    order_compareG a sa ca na ma ia ja b sb cb nb mb ib jb (conF (cmpF f) a b) S w h.arr g.arr fun wz e =>
      order_contentsF f a sa ca na ma ia ja b sb cb nb mb ib jb S wz (h.up e) (g.up e) ha.1 hb.1 hca.1 hcb.1 fun _ x hx y hy => order_compareF f x y (okF_item ha hx) (okF_item hb hy)
set_option maxRecDepth 100000 in
set_option maxHeartbeats 4000000 in
theorem order_CompareF (a : Arr) (sa : Option Addr) (ca : Nat) (na : Option Addr) (ma : Nat) (ia : Option Addr) (ja : Nat) (b : Arr) (sb : Option Addr) (cb : Nat) (nb : Option Addr) (mb : Nat) (ib : Option Addr) (jb : Nat) (S : Nat → Prop) (w : World) (h : ArrG w S a sa na ia) (g : ArrG w S b sb nb ib) (ra : rightS a = 0) (rb : rightS b = 0) (hca : capsOk a ca ma ja) (hcb : capsOk b cb mb jb) :
    Calls Try.prog 54 #[.agg #[.int .i64 a.kind, .slice sa a.shape.length ca, .slice na a.nums.length ma, .slice ia a.items.length ja], .agg #[.int .i64 b.kind, .slice sb b.shape.length cb, .slice nb b.nums.length mb, .slice ib b.items.length jb]] w fun e w' => e = .returned (.int .i64 (cmpF 17 a b)) ∧ Below w.heap.size w w' := by
  refine calls_post fun R' hR => ?_
  have h0 := hid h.arr
  have g0 := hid g.arr
  have hcon := hid (fun (wz : World) (e : Ext w wz) => order_compareF 17 a b (okF17 ra) (okF17 rb) sa ca na ma ia ja sb cb nb mb ib jb S wz (h.up e) (g.up e) hca hcb)
  clear h g hca hcb
  have ra0 : Hid (rightS a = 0) := hid ra
  have rb0 : Hid (rightS b = 0) := hid rb
  clear ra rb
  go_enter Try.func54, Try.ntmps54
  go_upto_region 1 with (fail)
  generalize hEW : ((w).alloc (.cells #[.int .i64 a.kind, .slice sa a.shape.length ca, .slice na a.nums.length ma, .slice ia a.items.length ja] 27)).alloc (.cells #[.int .i64 b.kind, .slice sb b.shape.length cb, .slice nb b.nums.length mb, .slice ib b.items.length jb] 27) = W
  have E := hid (env2 w S hEW)
  clear hEW
  replace E := hid ((E.out.arg h0.out).arg g0.out)
  (try simp only [List.cons_append, List.nil_append, List.set_cons_zero, List.set_cons_succ] at E)
  obtain ⟨q00, q01, q02, q03⟩ := (E.out.hdr 0 rfl).all
  obtain ⟨q10, q11, q12, q13⟩ := (E.out.hdr 1 rfl).all
  go_wp2_with fail
  clear q00 q01 q02 q03 q10 q11 q12 q13
  refine (array_Right a _ _ _ _ _ _ _ _ (E.out.arr 2 rfl)).mono ?_
  rintro e w1 ⟨rfl, hb⟩
  replace E := hid (E.out.up hb)
  clear hb
  rw [ra0.out]
  obtain ⟨q00, q01, q02, q03⟩ := (E.out.hdr 0 rfl).all
  obtain ⟨q10, q11, q12, q13⟩ := (E.out.hdr 1 rfl).all
  go_wp2_with fail
  clear q00 q01 q02 q03 q10 q11 q12 q13
  refine (array_Right b _ _ _ _ _ _ _ _ (E.out.arr 3 rfl)).mono ?_
  rintro e w2 ⟨rfl, hb⟩
  replace E := hid (E.out.up hb)
  clear hb
  rw [rb0.out]
  obtain ⟨q00, q01, q02, q03⟩ := (E.out.hdr 0 rfl).all
  obtain ⟨q10, q11, q12, q13⟩ := (E.out.hdr 1 rfl).all
  go_wp2_with fail
  clear q00 q01 q02 q03 q10 q11 q12 q13
  refine (hcon.out _ E.out.ext).mono ?_
  rintro e w3 ⟨rfl, hb⟩
  replace E := hid (E.out.up hb)
  clear hb
  go_wp2_with fail
  exact hR.out _ _ ⟨rfl, E.out.ext⟩
end Go.Proofs.Ytdpdcjadedcglaa
