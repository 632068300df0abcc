/- The example of the law of copying: true. -/
import Derived.Test.YthhffneibcpbdaaJ26A
import Derived.Test.YthhffneibcpbdaaC26G
set_option linter.unusedVariables false
set_option linter.unusedSimpArgs false
namespace Go.Proofs.Ythhffneibcpbdaa
open Go.RowKit Go.Sort
attribute [local go_sem ↓] run_max2 run_min2
attribute [local go_sem] eql_ints_nil eql_arrs_nil
theorem items_two {w : World} {S : Nat → Prop} {b : Nat} {x y : Arr} {sa na ja sb nb jb : Option Addr} {sc nc jc sd nd jd : Nat} (hS : S b)
    (h : w.heap[b]? = some (.cells #[.int .i64 x.kind, .slice sa x.shape.length sc, .slice na x.nums.length nc, .slice ja x.items.length jc, .int .i64 y.kind, .slice sb y.shape.length sd, .slice nb y.nums.length nd, .slice jb y.items.length jd] 26 (0, 0)))
    (hx : ArrAt w S x sa na ja) (hy : ArrAt w S y sb nb jb) : ItemsAt w S (some ⟨b, 0, none⟩) 0 [x, y] := by
  refine ItemsAt.of_get fun j z hz => ?_
  have hj : j < 2 := by have := (List.getElem?_eq_some_iff.1 hz).1; simpa using this
  match j, hj with
  | 0, _ =>
    simp at hz; subst hz
    exact ⟨b, 0, sa, sc, na, nc, ja, jc, rfl, hS, block_lt_of_cell (cell_of_row w b 0 _ _ _ h), cell_of_row w b 0 _ _ _ h, cell_of_row w b 1 _ _ _ h, cell_of_row w b 2 _ _ _ h, cell_of_row w b 3 _ _ _ h, hx⟩
  | 1, _ =>
    simp at hz; subst hz
    exact ⟨b, 0, sb, sd, nb, nd, jb, jd, rfl, hS, block_lt_of_cell (cell_of_row w b 0 _ _ _ h), cell_of_row w b 4 _ _ _ h, cell_of_row w b 5 _ _ _ h, cell_of_row w b 6 _ _ _ h, cell_of_row w b 7 _ _ _ h, hy⟩
theorem Env.pair {w0 w : World} {S : Nat → Prop} {L : List Fact} {a b : Arr} {sa na ia sb nb ib : Option Addr} (E : Env w0 S w L) (j k : Nat) (hj : L[j]? = some (.arr a sa na ia)) (hk : L[k]? = some (.arr b sb nb ib)) (sc nc ic sd nd id : Nat) :
    Env w0 S (w.alloc (.cells #[.int .i64 a.kind, .slice sa a.shape.length sc, .slice na a.nums.length nc, .slice ia a.items.length ic, .int .i64 b.kind, .slice sb b.shape.length sd, .slice nb b.nums.length nd, .slice ib b.items.length id] 26)) (L ++ [.items [a, b] (some ⟨w.heap.size, 0, none⟩)]) :=
  (E.up (ext_alloc _ _)).addItems (T := Tst w0 S L) (items_two (E.fresh (Ext.refl _) (Nat.le_refl _)) (heap_alloc_new _ _) ((E.arr j hj).up (ext_alloc _ _)) ((E.arr k hk).up (ext_alloc _ _))) fun b _ hb => hb
set_option maxRecDepth 100000 in
set_option maxHeartbeats 8000000 in
theorem law26_example (w : World) : Calls Try.prog 28 #[] w fun e w' => e = .returned (.bool true) ∧ Ext w w' := by
  refine calls_post fun R' hR => ?_
  obtain ⟨a1, ha1⟩ : ∃ a, a = Arr.mk 1 [3] [1, 0, 2] [] := ⟨_, rfl⟩
  obtain ⟨a2, ha2⟩ : ∃ a, a = Arr.mk 1 [3] [7, 8, 9] [] := ⟨_, rfl⟩
  obtain ⟨a3, ha3⟩ : ∃ a, a = Arr.mk 1 [] [2] [] := ⟨_, rfl⟩
  obtain ⟨a4, ha4⟩ : ∃ a, a = Arr.mk 1 [2] [5, 6] [] := ⟨_, rfl⟩
  obtain ⟨a5, ha5⟩ : ∃ a, a = Arr.mk 1 [3] [1, 0, 1] [] := ⟨_, rfl⟩
  obtain ⟨a6, ha6⟩ : ∃ a, a = Arr.mk 1 [2] [7, 8] [] := ⟨_, rfl⟩
  obtain ⟨a7, ha7⟩ : ∃ a, a = Arr.mk 1 [4] [0, 1, 0, 1] [] := ⟨_, rfl⟩
  obtain ⟨a8, ha8⟩ : ∃ a, a = Arr.mk 1 [4] [1, 2, 3, 4] [] := ⟨_, rfl⟩
  obtain ⟨g1, hg1⟩ : ∃ a, a = Arr.mk 1 [2] [2, 3] [] := ⟨_, rfl⟩
  obtain ⟨g2, hg2⟩ : ∃ a, a = Arr.mk 1 [1] [4] [] := ⟨_, rfl⟩
  obtain ⟨b1, hb1⟩ : ∃ a, a = Arr.mk 1 [3] [7, 9, 9] [] := ⟨_, rfl⟩
  obtain ⟨b2, hb2⟩ : ∃ a, a = Arr.mk 1 [4] [5, 5, 6, 6] [] := ⟨_, rfl⟩
  obtain ⟨b3, hb3⟩ : ∃ a, a = Arr.mk 1 [3] [7, 0, 8] [] := ⟨_, rfl⟩
  obtain ⟨r1, hr1⟩ : ∃ a, a = copyS a1 a2 := ⟨_, rfl⟩
  obtain ⟨r2, hr2⟩ : ∃ a, a = copyS a3 a4 := ⟨_, rfl⟩
  obtain ⟨r3, hr3⟩ : ∃ a, a = expS a5 a6 := ⟨_, rfl⟩
  obtain ⟨r4, hr4⟩ : ∃ a, a = cutS a7 a8 := ⟨_, rfl⟩
  have z1 : copyE a1 a2 = 0 := by rw [ha1, ha2]; kernel_rfl
  have z2 : copyE a3 a4 = 0 := by rw [ha3, ha4]; kernel_rfl
  have z3 : expE a5 a6 = 0 := by rw [ha5, ha6]; kernel_rfl
  have z4 : cutE a7 a8 = 0 := by rw [ha7, ha8]; kernel_rfl
  have y1 : r1 = b1 := by rw [hr1, ha1, ha2, hb1]; kernel_rfl
  have y2 : r2 = b2 := by rw [hr2, ha3, ha4, hb2]; kernel_rfl
  have y3 : r3 = b3 := by rw [hr3, ha5, ha6, hb3]; kernel_rfl
  have y4 : r4 = .mk 3 [2] [] [g1, g2] := by rw [hr4, ha7, ha8, hg1, hg2]; kernel_rfl
  have hu1 : Hid (sameB r1 b1 = true) := hid (by rw [y1]; exact sameB_self _)
  have hu2 : Hid (sameB r2 b2 = true) := hid (by rw [y2]; exact sameB_self _)
  have hu3 : Hid (sameB r3 b3 = true) := hid (by rw [y3]; exact sameB_self _)
  have hu4 : Hid (sameB r4 (.mk 3 [2] [] [g1, g2]) = true) := hid (by rw [y4]; exact sameB_self _)
  clear y1 y2 y3 y4
  replace ha1 := hid ha1
  replace ha2 := hid ha2
  replace ha3 := hid ha3
  replace ha4 := hid ha4
  replace ha5 := hid ha5
  replace ha6 := hid ha6
  replace ha7 := hid ha7
  replace ha8 := hid ha8
  replace hg1 := hid hg1
  replace hg2 := hid hg2
  replace hb1 := hid hb1
  replace hb2 := hid hb2
  replace hb3 := hid hb3
  replace hr1 := hid hr1
  replace hr2 := hid hr2
  replace hr3 := hid hr3
  replace hr4 := hid hr4
  replace z1 := hid z1
  replace z2 := hid z2
  replace z3 := hid z3
  replace z4 := hid z4
  have E := hid (Env.start w (fun _ => False))
  go_enter Try.func28, Try.ntmps28
  go_wp2_with fail
  replace E := hid (E.out.lit2 [3] [1, 0, 2] (by decide) (by decide))
  (try simp only [List.cons_append, List.nil_append, List.set_cons_zero, List.set_cons_succ] at E)
  refine (law26_ints [3] [1, 0, 2] _ _ _ _ _ _ (E.out.ints 0 rfl) (E.out.ints 1 rfl) (by decide) (by decide)).mono ?_
  intro e w1 h
  obtain ⟨s101, c101, n101, m101, i101, j101, rfl, hA, hb, hC101⟩ := h.eq ha1.out
  replace E := hid ((E.out.up hb).addArr hA (fun b _ hq => E.out.res (Ext.refl _) hq))
  replace hC101 := hid hC101
  clear hA hb h
  (try simp only [List.cons_append, List.nil_append, List.set_cons_zero, List.set_cons_succ] at E)
  go_wp2_with fail
  replace E := hid (E.out.lit2 [3] [7, 8, 9] (by decide) (by decide))
  (try simp only [List.cons_append, List.nil_append, List.set_cons_zero, List.set_cons_succ] at E)
  refine (law26_ints [3] [7, 8, 9] _ _ _ _ _ _ (E.out.ints 3 rfl) (E.out.ints 4 rfl) (by decide) (by decide)).mono ?_
  intro e w2 h
  obtain ⟨s102, c102, n102, m102, i102, j102, rfl, hA, hb, hC102⟩ := h.eq ha2.out
  replace E := hid ((E.out.up hb).addArr hA (fun b _ hq => E.out.res (Ext.refl _) hq))
  replace hC102 := hid hC102
  clear hA hb h
  (try simp only [List.cons_append, List.nil_append, List.set_cons_zero, List.set_cons_succ] at E)
  go_wp2_with fail
  refine (copying_Copy a1 _ _ _ _ _ _ a2 _ _ _ _ _ _ _ _ (E.out.arr 2 rfl) (E.out.arr 5 rfl) hC101.out hC102.out).mono ?_
  intro e w3 h
  obtain ⟨s103, c103, n103, m103, i103, j103, rfl, hA, hb, hC103⟩ := h.eq hr1.out z1.out
  replace E := hid ((E.out.up hb).addArr hA (fun b _ hq => E.out.res (Ext.refl _) hq))
  replace hC103 := hid hC103
  clear hA hb h
  (try simp only [List.cons_append, List.nil_append, List.set_cons_zero, List.set_cons_succ] at E)
  go_upto_region 2 with (refine wpl_store4 rfl (.tmp 1) (.tmp 18) rfl _ rfl rfl ((E.out.alloc _).hdr 7 rfl) ?_; intro V1 HV CV; replace E := hid ((E.out.alloc _).chg 7 rfl CV HV); clear CV HV; (try simp only [List.cons_append, List.nil_append, List.set_cons_zero, List.set_cons_succ] at E))
  generalize w3.heap.size = p1 at E ⊢
  clear hC101 hC102 hC103
  go_wp2_with fail
  replace E := hid (E.out.lit [2] (by decide))
  (try simp only [List.cons_append, List.nil_append, List.set_cons_zero, List.set_cons_succ] at E)
  refine (law26_ints [] [2] none 0 _ _ _ _ (IntsAt.nil _ _ _) (E.out.ints 8 rfl) (by decide) (by decide)).mono ?_
  intro e w4 h
  obtain ⟨s104, c104, n104, m104, i104, j104, rfl, hA, hb, hC104⟩ := h.eq ha3.out
  replace E := hid ((E.out.up hb).addArr hA (fun b _ hq => E.out.res (Ext.refl _) hq))
  replace hC104 := hid hC104
  clear hA hb h
  (try simp only [List.cons_append, List.nil_append, List.set_cons_zero, List.set_cons_succ] at E)
  go_wp2_with fail
  replace E := hid (E.out.lit2 [2] [5, 6] (by decide) (by decide))
  (try simp only [List.cons_append, List.nil_append, List.set_cons_zero, List.set_cons_succ] at E)
  refine (law26_ints [2] [5, 6] _ _ _ _ _ _ (E.out.ints 10 rfl) (E.out.ints 11 rfl) (by decide) (by decide)).mono ?_
  intro e w5 h
  obtain ⟨s105, c105, n105, m105, i105, j105, rfl, hA, hb, hC105⟩ := h.eq ha4.out
  replace E := hid ((E.out.up hb).addArr hA (fun b _ hq => E.out.res (Ext.refl _) hq))
  replace hC105 := hid hC105
  clear hA hb h
  (try simp only [List.cons_append, List.nil_append, List.set_cons_zero, List.set_cons_succ] at E)
  go_wp2_with fail
  refine (copying_Copy a3 _ _ _ _ _ _ a4 _ _ _ _ _ _ _ _ (E.out.arr 9 rfl) (E.out.arr 12 rfl) hC104.out hC105.out).mono ?_
  intro e w6 h
  obtain ⟨s106, c106, n106, m106, i106, j106, rfl, hA, hb, hC106⟩ := h.eq hr2.out z2.out
  replace E := hid ((E.out.up hb).addArr hA (fun b _ hq => E.out.res (Ext.refl _) hq))
  replace hC106 := hid hC106
  clear hA hb h
  (try simp only [List.cons_append, List.nil_append, List.set_cons_zero, List.set_cons_succ] at E)
  go_upto_region 3 with (refine wpl_store4 rfl (.tmp 3) (.tmp 27) rfl _ rfl rfl ((E.out.alloc _).hdr 14 rfl) ?_; intro V2 HV CV; replace E := hid ((E.out.alloc _).chg 14 rfl CV HV); clear CV HV; (try simp only [List.cons_append, List.nil_append, List.set_cons_zero, List.set_cons_succ] at E))
  generalize w6.heap.size = p2 at E ⊢
  clear hC104 hC105 hC106
  go_wp2_with fail
  replace E := hid (E.out.lit2 [3] [1, 0, 1] (by decide) (by decide))
  (try simp only [List.cons_append, List.nil_append, List.set_cons_zero, List.set_cons_succ] at E)
  refine (law26_ints [3] [1, 0, 1] _ _ _ _ _ _ (E.out.ints 15 rfl) (E.out.ints 16 rfl) (by decide) (by decide)).mono ?_
  intro e w7 h
  obtain ⟨s107, c107, n107, m107, i107, j107, rfl, hA, hb, hC107⟩ := h.eq ha5.out
  replace E := hid ((E.out.up hb).addArr hA (fun b _ hq => E.out.res (Ext.refl _) hq))
  replace hC107 := hid hC107
  clear hA hb h
  (try simp only [List.cons_append, List.nil_append, List.set_cons_zero, List.set_cons_succ] at E)
  go_wp2_with fail
  replace E := hid (E.out.lit2 [2] [7, 8] (by decide) (by decide))
  (try simp only [List.cons_append, List.nil_append, List.set_cons_zero, List.set_cons_succ] at E)
  refine (law26_ints [2] [7, 8] _ _ _ _ _ _ (E.out.ints 18 rfl) (E.out.ints 19 rfl) (by decide) (by decide)).mono ?_
  intro e w8 h
  obtain ⟨s108, c108, n108, m108, i108, j108, rfl, hA, hb, hC108⟩ := h.eq ha6.out
  replace E := hid ((E.out.up hb).addArr hA (fun b _ hq => E.out.res (Ext.refl _) hq))
  replace hC108 := hid hC108
  clear hA hb h
  (try simp only [List.cons_append, List.nil_append, List.set_cons_zero, List.set_cons_succ] at E)
  go_wp2_with fail
  refine (copying_Expand a5 _ _ _ _ _ _ a6 _ _ _ _ _ _ _ _ (E.out.arr 17 rfl) (E.out.arr 20 rfl) hC107.out hC108.out).mono ?_
  intro e w9 h
  obtain ⟨s109, c109, n109, m109, i109, j109, rfl, hA, hb, hC109⟩ := h.eq hr3.out z3.out
  replace E := hid ((E.out.up hb).addArr hA (fun b _ hq => E.out.res (Ext.refl _) hq))
  replace hC109 := hid hC109
  clear hA hb h
  (try simp only [List.cons_append, List.nil_append, List.set_cons_zero, List.set_cons_succ] at E)
  go_upto_region 4 with (refine wpl_store4 rfl (.tmp 5) (.tmp 37) rfl _ rfl rfl ((E.out.alloc _).hdr 22 rfl) ?_; intro V3 HV CV; replace E := hid ((E.out.alloc _).chg 22 rfl CV HV); clear CV HV; (try simp only [List.cons_append, List.nil_append, List.set_cons_zero, List.set_cons_succ] at E))
  generalize w9.heap.size = p3 at E ⊢
  clear hC107 hC108 hC109
  go_wp2_with fail
  replace E := hid (E.out.lit2 [4] [0, 1, 0, 1] (by decide) (by decide))
  (try simp only [List.cons_append, List.nil_append, List.set_cons_zero, List.set_cons_succ] at E)
  refine (law26_ints [4] [0, 1, 0, 1] _ _ _ _ _ _ (E.out.ints 23 rfl) (E.out.ints 24 rfl) (by decide) (by decide)).mono ?_
  intro e w10 h
  obtain ⟨s110, c110, n110, m110, i110, j110, rfl, hA, hb, hC110⟩ := h.eq ha7.out
  replace E := hid ((E.out.up hb).addArr hA (fun b _ hq => E.out.res (Ext.refl _) hq))
  replace hC110 := hid hC110
  clear hA hb h
  (try simp only [List.cons_append, List.nil_append, List.set_cons_zero, List.set_cons_succ] at E)
  go_wp2_with fail
  replace E := hid (E.out.lit2 [4] [1, 2, 3, 4] (by decide) (by decide))
  (try simp only [List.cons_append, List.nil_append, List.set_cons_zero, List.set_cons_succ] at E)
  refine (law26_ints [4] [1, 2, 3, 4] _ _ _ _ _ _ (E.out.ints 26 rfl) (E.out.ints 27 rfl) (by decide) (by decide)).mono ?_
  intro e w11 h
  obtain ⟨s111, c111, n111, m111, i111, j111, rfl, hA, hb, hC111⟩ := h.eq ha8.out
  replace E := hid ((E.out.up hb).addArr hA (fun b _ hq => E.out.res (Ext.refl _) hq))
  replace hC111 := hid hC111
  clear hA hb h
  (try simp only [List.cons_append, List.nil_append, List.set_cons_zero, List.set_cons_succ] at E)
  go_wp2_with fail
  refine (copying_Cut a7 _ _ _ _ _ _ a8 _ _ _ _ _ _ _ _ (E.out.arr 25 rfl) (E.out.arr 28 rfl) hC110.out hC111.out).mono ?_
  intro e w12 h
  obtain ⟨s112, c112, n112, m112, i112, j112, rfl, hA, hb, hC112⟩ := h.eq hr4.out z4.out
  replace E := hid ((E.out.up hb).addArr hA (fun b _ hq => E.out.res (Ext.refl _) hq))
  replace hC112 := hid hC112
  clear hA hb h
  (try simp only [List.cons_append, List.nil_append, List.set_cons_zero, List.set_cons_succ] at E)
  go_upto_region 5 with (refine wpl_store4 rfl (.tmp 7) (.tmp 47) rfl _ rfl rfl ((E.out.alloc _).hdr 30 rfl) ?_; intro V4 HV CV; replace E := hid ((E.out.alloc _).chg 30 rfl CV HV); clear CV HV; (try simp only [List.cons_append, List.nil_append, List.set_cons_zero, List.set_cons_succ] at E))
  generalize w12.heap.size = p4 at E ⊢
  clear hC110 hC111 hC112
  go_wp2_with fail
  replace E := hid (E.out.lit [2] (by decide))
  (try simp only [List.cons_append, List.nil_append, List.set_cons_zero, List.set_cons_succ] at E)
  replace E := hid (E.out.lit2 [2] [2, 3] (by decide) (by decide))
  (try simp only [List.cons_append, List.nil_append, List.set_cons_zero, List.set_cons_succ] at E)
  simp only [size_alloc'] at E
  refine (law26_ints [2] [2, 3] _ _ _ _ _ _ (E.out.ints 32 rfl) (E.out.ints 33 rfl) (by decide) (by decide)).mono ?_
  intro e w13 h
  obtain ⟨s113, c113, n113, m113, i113, j113, rfl, hA, hb, hC113⟩ := h.eq hg1.out
  replace E := hid ((E.out.up hb).addArr hA (fun b _ hq => E.out.res (Ext.refl _) hq))
  replace hC113 := hid hC113
  clear hA hb h
  (try simp only [List.cons_append, List.nil_append, List.set_cons_zero, List.set_cons_succ] at E)
  go_wp2_with fail
  replace E := hid (E.out.lit2 [1] [4] (by decide) (by decide))
  (try simp only [List.cons_append, List.nil_append, List.set_cons_zero, List.set_cons_succ] at E)
  refine (law26_ints [1] [4] _ _ _ _ _ _ (E.out.ints 35 rfl) (E.out.ints 36 rfl) (by decide) (by decide)).mono ?_
  intro e w14 h
  obtain ⟨s114, c114, n114, m114, i114, j114, rfl, hA, hb, hC114⟩ := h.eq hg2.out
  replace E := hid ((E.out.up hb).addArr hA (fun b _ hq => E.out.res (Ext.refl _) hq))
  replace hC114 := hid hC114
  clear hA hb h
  (try simp only [List.cons_append, List.nil_append, List.set_cons_zero, List.set_cons_succ] at E)
  clear hC113 hC114
  go_upto_region 6 with fail
  replace E := hid ((E.out.pair 34 37 rfl rfl c113 m113 j113 c114 m114 j114).alloc (.cells #[.int .i64 3, .slice (some ⟨V4.heap.size, 0, none⟩) 1 1, .slice none 0 0, .slice (some ⟨w14.heap.size, 0, none⟩) 2 2] 26))
  (try simp only [List.cons_append, List.nil_append, List.set_cons_zero, List.set_cons_succ] at E)
  simp only [size_alloc'] at E
  generalize World.alloc (World.alloc w14 _) _ = V5 at E ⊢
  generalize V4.heap.size = q1 at E ⊢
  obtain ⟨p5, hp5⟩ : ∃ p, p = w14.heap.size + 1 := ⟨_, rfl⟩
  rw [← hp5] at E ⊢
  clear hp5
  generalize w14.heap.size = q2 at E ⊢
  replace E := hid (E.out.addArr (a := .mk 3 [2] [] [g1, g2]) (ArrAt.iff.2 ⟨E.out.ints 31 rfl, IntsAt.nil _ _ none, by simp [Arr.items], E.out.items 38 rfl⟩) (fun _ _ h => h))
  (try simp only [List.cons_append, List.nil_append, List.set_cons_zero, List.set_cons_succ] at E)
  obtain ⟨T, hT1, hT2, hT3⟩ := E.out.tw
  refine wp_region_mono (Sees V5 [(⟨p1, 0, none⟩, .int .i64 r1.kind), (⟨p1, 1, none⟩, .slice s103 r1.shape.length c103), (⟨p1, 2, none⟩, .slice n103 r1.nums.length m103), (⟨p1, 3, none⟩, .slice i103 r1.items.length j103), (⟨p2, 0, none⟩, .int .i64 r2.kind), (⟨p2, 1, none⟩, .slice s106 r2.shape.length c106), (⟨p2, 2, none⟩, .slice n106 r2.nums.length m106), (⟨p2, 3, none⟩, .slice i106 r2.items.length j106), (⟨p3, 0, none⟩, .int .i64 r3.kind), (⟨p3, 1, none⟩, .slice s109 r3.shape.length c109), (⟨p3, 2, none⟩, .slice n109 r3.nums.length m109), (⟨p3, 3, none⟩, .slice i109 r3.items.length j109), (⟨p4, 0, none⟩, .int .i64 r4.kind), (⟨p4, 1, none⟩, .slice s112 r4.shape.length c112), (⟨p4, 2, none⟩, .slice n112 r4.nums.length m112), (⟨p4, 3, none⟩, .slice i112 r4.items.length j112), (⟨p5, 0, none⟩, .int .i64 3), (⟨p5, 1, none⟩, .slice (some ⟨q1, 0, none⟩) 1 1), (⟨p5, 2, none⟩, .slice none 0 0), (⟨p5, 3, none⟩, .slice (some ⟨q2, 0, none⟩) 2 2)]) [16, 17, 18, 19, 23, 24, 25, 26, 30, 31, 32, 33, 38] (fun k v u u' => match k with | 16 => v = .slice (some ⟨u.heap.size, 0, none⟩) 1 1 ∧ u' = u.alloc (.cells (([3] : List Int).map (Value.int .i64)).toArray 3) | 17 => v = .slice (some ⟨u.heap.size, 0, none⟩) 3 3 ∧ u' = u.alloc (.cells (([7, 9, 9] : List Int).map (Value.int .i64)).toArray 3) | 18 => RetAC u T (b1) (.returned v) u' | 19 => v = .bool true | 23 => v = .slice (some ⟨u.heap.size, 0, none⟩) 1 1 ∧ u' = u.alloc (.cells (([4] : List Int).map (Value.int .i64)).toArray 3) | 24 => v = .slice (some ⟨u.heap.size, 0, none⟩) 4 4 ∧ u' = u.alloc (.cells (([5, 5, 6, 6] : List Int).map (Value.int .i64)).toArray 3) | 25 => RetAC u T (b2) (.returned v) u' | 26 => v = .bool true | 30 => v = .slice (some ⟨u.heap.size, 0, none⟩) 1 1 ∧ u' = u.alloc (.cells (([3] : List Int).map (Value.int .i64)).toArray 3) | 31 => v = .slice (some ⟨u.heap.size, 0, none⟩) 3 3 ∧ u' = u.alloc (.cells (([7, 0, 8] : List Int).map (Value.int .i64)).toArray 3) | 32 => RetAC u T (b3) (.returned v) u' | 33 => v = .bool true | 38 => v = .bool true | _ => False) (fun _ _ h e => h.up e) (Sees.start (all_cons ((E.out.hdr 7 rfl).c0) (all_cons ((E.out.hdr 7 rfl).c1) (all_cons ((E.out.hdr 7 rfl).c2) (all_cons ((E.out.hdr 7 rfl).c3) (all_cons ((E.out.hdr 14 rfl).c0) (all_cons ((E.out.hdr 14 rfl).c1) (all_cons ((E.out.hdr 14 rfl).c2) (all_cons ((E.out.hdr 14 rfl).c3) (all_cons ((E.out.hdr 22 rfl).c0) (all_cons ((E.out.hdr 22 rfl).c1) (all_cons ((E.out.hdr 22 rfl).c2) (all_cons ((E.out.hdr 22 rfl).c3) (all_cons ((E.out.hdr 30 rfl).c0) (all_cons ((E.out.hdr 30 rfl).c1) (all_cons ((E.out.hdr 30 rfl).c2) (all_cons ((E.out.hdr 30 rfl).c3) (all_cons ((E.out.hdr 39 rfl).c0) (all_cons ((E.out.hdr 39 rfl).c1) (all_cons ((E.out.hdr 39 rfl).c2) (all_cons ((E.out.hdr 39 rfl).c3) (all_nil)))))))))))))))))))))) (by kernel_rfl) (by kernel_rfl) ?_
  repeat (first | (refine m_plain (v := ?_) (by rfl) (by rfl) ?_ ?_; rotate_left; (intro wz hSw; obtain ⟨-, hSc⟩ := hSw; (try simp only [List.forall_mem_cons, List.forall_mem_nil, and_true] at hSc); go_simp; (first | done | with_reducible rfl)); (intro K hK; (try simp only [Act.put, List.setIfInBounds_toArray, List.set_cons_zero, List.set_cons_succ]); refine hK _ _ ?_; clear hK K)) | (refine m_skip (by rfl) (by rfl) ?_; (intro K hK; (try simp only [Act.put, List.setIfInBounds_toArray, List.set_cons_zero, List.set_cons_succ]); refine hK _ _ ?_; clear hK K)))
  refine m_make (by rfl) (by rfl) ?_ ?_
  · intro wz hSw hdep R hRz
    obtain ⟨hSe, hSc⟩ := hSw
    (try simp only [List.forall_mem_cons, List.forall_mem_nil, and_true] at hSc)
    unfold does
    (go_simp; exact hRz.out _ _ ⟨ext_alloc _ _, rfl, rfl⟩)
  intro v16 u16 x16 hG16 K hK
  have hF16 := hG16.fact
  (try dsimp only at hF16)
  obtain ⟨rfl, rfl⟩ := hF16
  (try simp only [Act.put, List.setIfInBounds_toArray, List.set_cons_zero, List.set_cons_succ]); refine hK _ _ ?_; clear hK K
  repeat (first | (refine m_plain (v := ?_) (by rfl) (by rfl) ?_ ?_; rotate_left; (intro wz hSw; obtain ⟨-, hSc⟩ := hSw; (try simp only [List.forall_mem_cons, List.forall_mem_nil, and_true] at hSc); go_simp; (first | done | with_reducible rfl)); (intro K hK; (try simp only [Act.put, List.setIfInBounds_toArray, List.set_cons_zero, List.set_cons_succ]); refine hK _ _ ?_; clear hK K)) | (refine m_skip (by rfl) (by rfl) ?_; (intro K hK; (try simp only [Act.put, List.setIfInBounds_toArray, List.set_cons_zero, List.set_cons_succ]); refine hK _ _ ?_; clear hK K)))
  refine m_make (by rfl) (by rfl) ?_ ?_
  · intro wz hSw hdep R hRz
    obtain ⟨hSe, hSc⟩ := hSw
    (try simp only [List.forall_mem_cons, List.forall_mem_nil, and_true] at hSc)
    unfold does
    (go_simp; exact hRz.out _ _ ⟨ext_alloc _ _, rfl, rfl⟩)
  intro v17 u17 x17 hG17 K hK
  have hF17 := hG17.fact
  (try dsimp only at hF17)
  obtain ⟨rfl, rfl⟩ := hF17
  (try simp only [Act.put, List.setIfInBounds_toArray, List.set_cons_zero, List.set_cons_succ]); refine hK _ _ ?_; clear hK K
  repeat (first | (refine m_plain (v := ?_) (by rfl) (by rfl) ?_ ?_; rotate_left; (intro wz hSw; obtain ⟨-, hSc⟩ := hSw; (try simp only [List.forall_mem_cons, List.forall_mem_nil, and_true] at hSc); go_simp; (first | done | with_reducible rfl)); (intro K hK; (try simp only [Act.put, List.setIfInBounds_toArray, List.set_cons_zero, List.set_cons_succ]); refine hK _ _ ?_; clear hK K)) | (refine m_skip (by rfl) (by rfl) ?_; (intro K hK; (try simp only [Act.put, List.setIfInBounds_toArray, List.set_cons_zero, List.set_cons_succ]); refine hK _ _ ?_; clear hK K)))
  refine m_make (by rfl) (by rfl) ?_ ?_
  · intro wz hSw hdep R hRz
    obtain ⟨hSe, hSc⟩ := hSw
    (try simp only [List.forall_mem_cons, List.forall_mem_nil, and_true] at hSc)
    unfold does
    (go_simp; refine Calls.mono (law26_ints [3] [7, 9, 9] _ _ _ _ _ wz ((lit_at (hdep 16 _ rfl (depB_sound (f := 4) (by kernel_rfl))) (by first | decide | simp)).mono (fun b _ hb => hT2 b (Nat.le_trans (Below.size hG16.s.1) hb))) ((lit_at (hdep 17 _ rfl (depB_sound (f := 4) (by kernel_rfl))) (by first | decide | simp)).mono (fun b _ hb => hT2 b (Nat.le_trans (Below.size hG17.s.1) hb))) (by decide) (by decide)) ?_; intro e wq h; obtain ⟨v, rfl, h1⟩ := retAC_arm hT2 hSe (h.eq hb1.out); exact ⟨_, rfl, hRz.out _ _ h1⟩)
  intro v18 u18 x18 hG18 K hK
  have hF18 := hG18.fact
  (try dsimp only at hF18)
  obtain ⟨s18, c18, n18, m18, i18, j18, he, hA18, hb18, hC18⟩ := hF18
  injection he with he
  subst he
  replace hC18 := hid hC18
  (try simp only [Act.put, List.setIfInBounds_toArray, List.set_cons_zero, List.set_cons_succ]); refine hK _ _ ?_; clear hK K
  repeat (first | (refine m_plain (v := ?_) (by rfl) (by rfl) ?_ ?_; rotate_left; (intro wz hSw; obtain ⟨-, hSc⟩ := hSw; (try simp only [List.forall_mem_cons, List.forall_mem_nil, and_true] at hSc); go_simp; (first | done | with_reducible rfl)); (intro K hK; (try simp only [Act.put, List.setIfInBounds_toArray, List.set_cons_zero, List.set_cons_succ]); refine hK _ _ ?_; clear hK K)) | (refine m_skip (by rfl) (by rfl) ?_; (intro K hK; (try simp only [Act.put, List.setIfInBounds_toArray, List.set_cons_zero, List.set_cons_succ]); refine hK _ _ ?_; clear hK K)))
  refine m_make (by rfl) (by rfl) ?_ ?_
  · intro wz hSw hdep R hRz
    obtain ⟨hSe, hSc⟩ := hSw
    (try simp only [List.forall_mem_cons, List.forall_mem_nil, and_true] at hSc)
    unfold does
    (go_simp; refine Calls.mono (ref03_Same r1 b1 _ _ _ _ _ _ _ _ _ _ _ _ _ _ wz (ArrAt.up (ArrAt.mono (fun b _ h => hT1 b h) _ (E.out.arr 6 rfl)) hSe) (hA18.up (hdep 18 _ rfl (depB_sound (f := 4) (by kernel_rfl))))) ?_; rintro e wq ⟨rfl, hqb⟩; rw [hu1.out]; exact ⟨_, rfl, hRz.out _ _ ⟨hqb, rfl⟩⟩)
  intro v19 u19 x19 hG19 K hK
  have hF19 := hG19.fact
  (try dsimp only at hF19)
  subst hF19
  (try simp only [Act.put, List.setIfInBounds_toArray, List.set_cons_zero, List.set_cons_succ]); refine hK _ _ ?_; clear hK K
  repeat (first | (refine m_plain (v := ?_) (by rfl) (by rfl) ?_ ?_; rotate_left; (intro wz hSw; obtain ⟨-, hSc⟩ := hSw; (try simp only [List.forall_mem_cons, List.forall_mem_nil, and_true] at hSc); go_simp; (first | done | with_reducible rfl)); (intro K hK; (try simp only [Act.put, List.setIfInBounds_toArray, List.set_cons_zero, List.set_cons_succ]); refine hK _ _ ?_; clear hK K)) | (refine m_skip (by rfl) (by rfl) ?_; (intro K hK; (try simp only [Act.put, List.setIfInBounds_toArray, List.set_cons_zero, List.set_cons_succ]); refine hK _ _ ?_; clear hK K)))
  refine m_make (by rfl) (by rfl) ?_ ?_
  · intro wz hSw hdep R hRz
    obtain ⟨hSe, hSc⟩ := hSw
    (try simp only [List.forall_mem_cons, List.forall_mem_nil, and_true] at hSc)
    unfold does
    (go_simp; exact hRz.out _ _ ⟨ext_alloc _ _, rfl, rfl⟩)
  intro v23 u23 x23 hG23 K hK
  have hF23 := hG23.fact
  (try dsimp only at hF23)
  obtain ⟨rfl, rfl⟩ := hF23
  (try simp only [Act.put, List.setIfInBounds_toArray, List.set_cons_zero, List.set_cons_succ]); refine hK _ _ ?_; clear hK K
  repeat (first | (refine m_plain (v := ?_) (by rfl) (by rfl) ?_ ?_; rotate_left; (intro wz hSw; obtain ⟨-, hSc⟩ := hSw; (try simp only [List.forall_mem_cons, List.forall_mem_nil, and_true] at hSc); go_simp; (first | done | with_reducible rfl)); (intro K hK; (try simp only [Act.put, List.setIfInBounds_toArray, List.set_cons_zero, List.set_cons_succ]); refine hK _ _ ?_; clear hK K)) | (refine m_skip (by rfl) (by rfl) ?_; (intro K hK; (try simp only [Act.put, List.setIfInBounds_toArray, List.set_cons_zero, List.set_cons_succ]); refine hK _ _ ?_; clear hK K)))
  refine m_make (by rfl) (by rfl) ?_ ?_
  · intro wz hSw hdep R hRz
    obtain ⟨hSe, hSc⟩ := hSw
    (try simp only [List.forall_mem_cons, List.forall_mem_nil, and_true] at hSc)
    unfold does
    (go_simp; exact hRz.out _ _ ⟨ext_alloc _ _, rfl, rfl⟩)
  intro v24 u24 x24 hG24 K hK
  have hF24 := hG24.fact
  (try dsimp only at hF24)
  obtain ⟨rfl, rfl⟩ := hF24
  (try simp only [Act.put, List.setIfInBounds_toArray, List.set_cons_zero, List.set_cons_succ]); refine hK _ _ ?_; clear hK K
  repeat (first | (refine m_plain (v := ?_) (by rfl) (by rfl) ?_ ?_; rotate_left; (intro wz hSw; obtain ⟨-, hSc⟩ := hSw; (try simp only [List.forall_mem_cons, List.forall_mem_nil, and_true] at hSc); go_simp; (first | done | with_reducible rfl)); (intro K hK; (try simp only [Act.put, List.setIfInBounds_toArray, List.set_cons_zero, List.set_cons_succ]); refine hK _ _ ?_; clear hK K)) | (refine m_skip (by rfl) (by rfl) ?_; (intro K hK; (try simp only [Act.put, List.setIfInBounds_toArray, List.set_cons_zero, List.set_cons_succ]); refine hK _ _ ?_; clear hK K)))
  refine m_make (by rfl) (by rfl) ?_ ?_
  · intro wz hSw hdep R hRz
    obtain ⟨hSe, hSc⟩ := hSw
    (try simp only [List.forall_mem_cons, List.forall_mem_nil, and_true] at hSc)
    unfold does
    (go_simp; refine Calls.mono (law26_ints [4] [5, 5, 6, 6] _ _ _ _ _ wz ((lit_at (hdep 23 _ rfl (depB_sound (f := 4) (by kernel_rfl))) (by first | decide | simp)).mono (fun b _ hb => hT2 b (Nat.le_trans (Below.size hG23.s.1) hb))) ((lit_at (hdep 24 _ rfl (depB_sound (f := 4) (by kernel_rfl))) (by first | decide | simp)).mono (fun b _ hb => hT2 b (Nat.le_trans (Below.size hG24.s.1) hb))) (by decide) (by decide)) ?_; intro e wq h; obtain ⟨v, rfl, h1⟩ := retAC_arm hT2 hSe (h.eq hb2.out); exact ⟨_, rfl, hRz.out _ _ h1⟩)
  intro v25 u25 x25 hG25 K hK
  have hF25 := hG25.fact
  (try dsimp only at hF25)
  obtain ⟨s25, c25, n25, m25, i25, j25, he, hA25, hb25, hC25⟩ := hF25
  injection he with he
  subst he
  replace hC25 := hid hC25
  (try simp only [Act.put, List.setIfInBounds_toArray, List.set_cons_zero, List.set_cons_succ]); refine hK _ _ ?_; clear hK K
  repeat (first | (refine m_plain (v := ?_) (by rfl) (by rfl) ?_ ?_; rotate_left; (intro wz hSw; obtain ⟨-, hSc⟩ := hSw; (try simp only [List.forall_mem_cons, List.forall_mem_nil, and_true] at hSc); go_simp; (first | done | with_reducible rfl)); (intro K hK; (try simp only [Act.put, List.setIfInBounds_toArray, List.set_cons_zero, List.set_cons_succ]); refine hK _ _ ?_; clear hK K)) | (refine m_skip (by rfl) (by rfl) ?_; (intro K hK; (try simp only [Act.put, List.setIfInBounds_toArray, List.set_cons_zero, List.set_cons_succ]); refine hK _ _ ?_; clear hK K)))
  refine m_make (by rfl) (by rfl) ?_ ?_
  · intro wz hSw hdep R hRz
    obtain ⟨hSe, hSc⟩ := hSw
    (try simp only [List.forall_mem_cons, List.forall_mem_nil, and_true] at hSc)
    unfold does
    (go_simp; refine Calls.mono (ref03_Same r2 b2 _ _ _ _ _ _ _ _ _ _ _ _ _ _ wz (ArrAt.up (ArrAt.mono (fun b _ h => hT1 b h) _ (E.out.arr 13 rfl)) hSe) (hA25.up (hdep 25 _ rfl (depB_sound (f := 4) (by kernel_rfl))))) ?_; rintro e wq ⟨rfl, hqb⟩; rw [hu2.out]; exact ⟨_, rfl, hRz.out _ _ ⟨hqb, rfl⟩⟩)
  intro v26 u26 x26 hG26 K hK
  have hF26 := hG26.fact
  (try dsimp only at hF26)
  subst hF26
  (try simp only [Act.put, List.setIfInBounds_toArray, List.set_cons_zero, List.set_cons_succ]); refine hK _ _ ?_; clear hK K
  repeat (first | (refine m_plain (v := ?_) (by rfl) (by rfl) ?_ ?_; rotate_left; (intro wz hSw; obtain ⟨-, hSc⟩ := hSw; (try simp only [List.forall_mem_cons, List.forall_mem_nil, and_true] at hSc); go_simp; (first | done | with_reducible rfl)); (intro K hK; (try simp only [Act.put, List.setIfInBounds_toArray, List.set_cons_zero, List.set_cons_succ]); refine hK _ _ ?_; clear hK K)) | (refine m_skip (by rfl) (by rfl) ?_; (intro K hK; (try simp only [Act.put, List.setIfInBounds_toArray, List.set_cons_zero, List.set_cons_succ]); refine hK _ _ ?_; clear hK K)))
  refine m_make (by rfl) (by rfl) ?_ ?_
  · intro wz hSw hdep R hRz
    obtain ⟨hSe, hSc⟩ := hSw
    (try simp only [List.forall_mem_cons, List.forall_mem_nil, and_true] at hSc)
    unfold does
    (go_simp; exact hRz.out _ _ ⟨ext_alloc _ _, rfl, rfl⟩)
  intro v30 u30 x30 hG30 K hK
  have hF30 := hG30.fact
  (try dsimp only at hF30)
  obtain ⟨rfl, rfl⟩ := hF30
  (try simp only [Act.put, List.setIfInBounds_toArray, List.set_cons_zero, List.set_cons_succ]); refine hK _ _ ?_; clear hK K
  repeat (first | (refine m_plain (v := ?_) (by rfl) (by rfl) ?_ ?_; rotate_left; (intro wz hSw; obtain ⟨-, hSc⟩ := hSw; (try simp only [List.forall_mem_cons, List.forall_mem_nil, and_true] at hSc); go_simp; (first | done | with_reducible rfl)); (intro K hK; (try simp only [Act.put, List.setIfInBounds_toArray, List.set_cons_zero, List.set_cons_succ]); refine hK _ _ ?_; clear hK K)) | (refine m_skip (by rfl) (by rfl) ?_; (intro K hK; (try simp only [Act.put, List.setIfInBounds_toArray, List.set_cons_zero, List.set_cons_succ]); refine hK _ _ ?_; clear hK K)))
  refine m_make (by rfl) (by rfl) ?_ ?_
  · intro wz hSw hdep R hRz
    obtain ⟨hSe, hSc⟩ := hSw
    (try simp only [List.forall_mem_cons, List.forall_mem_nil, and_true] at hSc)
    unfold does
    (go_simp; exact hRz.out _ _ ⟨ext_alloc _ _, rfl, rfl⟩)
  intro v31 u31 x31 hG31 K hK
  have hF31 := hG31.fact
  (try dsimp only at hF31)
  obtain ⟨rfl, rfl⟩ := hF31
  (try simp only [Act.put, List.setIfInBounds_toArray, List.set_cons_zero, List.set_cons_succ]); refine hK _ _ ?_; clear hK K
  repeat (first | (refine m_plain (v := ?_) (by rfl) (by rfl) ?_ ?_; rotate_left; (intro wz hSw; obtain ⟨-, hSc⟩ := hSw; (try simp only [List.forall_mem_cons, List.forall_mem_nil, and_true] at hSc); go_simp; (first | done | with_reducible rfl)); (intro K hK; (try simp only [Act.put, List.setIfInBounds_toArray, List.set_cons_zero, List.set_cons_succ]); refine hK _ _ ?_; clear hK K)) | (refine m_skip (by rfl) (by rfl) ?_; (intro K hK; (try simp only [Act.put, List.setIfInBounds_toArray, List.set_cons_zero, List.set_cons_succ]); refine hK _ _ ?_; clear hK K)))
  refine m_make (by rfl) (by rfl) ?_ ?_
  · intro wz hSw hdep R hRz
    obtain ⟨hSe, hSc⟩ := hSw
    (try simp only [List.forall_mem_cons, List.forall_mem_nil, and_true] at hSc)
    unfold does
    (go_simp; refine Calls.mono (law26_ints [3] [7, 0, 8] _ _ _ _ _ wz ((lit_at (hdep 30 _ rfl (depB_sound (f := 4) (by kernel_rfl))) (by first | decide | simp)).mono (fun b _ hb => hT2 b (Nat.le_trans (Below.size hG30.s.1) hb))) ((lit_at (hdep 31 _ rfl (depB_sound (f := 4) (by kernel_rfl))) (by first | decide | simp)).mono (fun b _ hb => hT2 b (Nat.le_trans (Below.size hG31.s.1) hb))) (by decide) (by decide)) ?_; intro e wq h; obtain ⟨v, rfl, h1⟩ := retAC_arm hT2 hSe (h.eq hb3.out); exact ⟨_, rfl, hRz.out _ _ h1⟩)
  intro v32 u32 x32 hG32 K hK
  have hF32 := hG32.fact
  (try dsimp only at hF32)
  obtain ⟨s32, c32, n32, m32, i32, j32, he, hA32, hb32, hC32⟩ := hF32
  injection he with he
  subst he
  replace hC32 := hid hC32
  (try simp only [Act.put, List.setIfInBounds_toArray, List.set_cons_zero, List.set_cons_succ]); refine hK _ _ ?_; clear hK K
  repeat (first | (refine m_plain (v := ?_) (by rfl) (by rfl) ?_ ?_; rotate_left; (intro wz hSw; obtain ⟨-, hSc⟩ := hSw; (try simp only [List.forall_mem_cons, List.forall_mem_nil, and_true] at hSc); go_simp; (first | done | with_reducible rfl)); (intro K hK; (try simp only [Act.put, List.setIfInBounds_toArray, List.set_cons_zero, List.set_cons_succ]); refine hK _ _ ?_; clear hK K)) | (refine m_skip (by rfl) (by rfl) ?_; (intro K hK; (try simp only [Act.put, List.setIfInBounds_toArray, List.set_cons_zero, List.set_cons_succ]); refine hK _ _ ?_; clear hK K)))
  refine m_make (by rfl) (by rfl) ?_ ?_
  · intro wz hSw hdep R hRz
    obtain ⟨hSe, hSc⟩ := hSw
    (try simp only [List.forall_mem_cons, List.forall_mem_nil, and_true] at hSc)
    unfold does
    (go_simp; refine Calls.mono (ref03_Same r3 b3 _ _ _ _ _ _ _ _ _ _ _ _ _ _ wz (ArrAt.up (ArrAt.mono (fun b _ h => hT1 b h) _ (E.out.arr 21 rfl)) hSe) (hA32.up (hdep 32 _ rfl (depB_sound (f := 4) (by kernel_rfl))))) ?_; rintro e wq ⟨rfl, hqb⟩; rw [hu3.out]; exact ⟨_, rfl, hRz.out _ _ ⟨hqb, rfl⟩⟩)
  intro v33 u33 x33 hG33 K hK
  have hF33 := hG33.fact
  (try dsimp only at hF33)
  subst hF33
  (try simp only [Act.put, List.setIfInBounds_toArray, List.set_cons_zero, List.set_cons_succ]); refine hK _ _ ?_; clear hK K
  repeat (first | (refine m_plain (v := ?_) (by rfl) (by rfl) ?_ ?_; rotate_left; (intro wz hSw; obtain ⟨-, hSc⟩ := hSw; (try simp only [List.forall_mem_cons, List.forall_mem_nil, and_true] at hSc); go_simp; (first | done | with_reducible rfl)); (intro K hK; (try simp only [Act.put, List.setIfInBounds_toArray, List.set_cons_zero, List.set_cons_succ]); refine hK _ _ ?_; clear hK K)) | (refine m_skip (by rfl) (by rfl) ?_; (intro K hK; (try simp only [Act.put, List.setIfInBounds_toArray, List.set_cons_zero, List.set_cons_succ]); refine hK _ _ ?_; clear hK K)))
  refine m_make (by rfl) (by rfl) ?_ ?_
  · intro wz hSw hdep R hRz
    obtain ⟨hSe, hSc⟩ := hSw
    (try simp only [List.forall_mem_cons, List.forall_mem_nil, and_true] at hSc)
    unfold does
    (go_simp; refine Calls.mono (ref03_Same r4 (.mk 3 [2] [] [g1, g2]) _ _ _ _ _ _ _ _ _ _ _ _ _ _ wz (ArrAt.up (ArrAt.mono (fun b _ h => hT1 b h) _ (E.out.arr 29 rfl)) hSe) (ArrAt.up (ArrAt.mono (fun b _ h => hT1 b h) _ (E.out.arr 40 rfl)) hSe)) ?_; rintro e wq ⟨rfl, hqb⟩; rw [hu4.out]; exact ⟨_, rfl, hRz.out _ _ ⟨hqb, rfl⟩⟩)
  intro v38 u38 x38 hG38 K hK
  have hF38 := hG38.fact
  (try dsimp only at hF38)
  subst hF38
  (try simp only [Act.put, List.setIfInBounds_toArray, List.set_cons_zero, List.set_cons_succ]); refine hK _ _ ?_; clear hK K
  repeat (first | (refine m_plain (v := ?_) (by rfl) (by rfl) ?_ ?_; rotate_left; (intro wz hSw; obtain ⟨-, hSc⟩ := hSw; (try simp only [List.forall_mem_cons, List.forall_mem_nil, and_true] at hSc); go_simp; (first | done | with_reducible rfl)); (intro K hK; (try simp only [Act.put, List.setIfInBounds_toArray, List.set_cons_zero, List.set_cons_succ]); refine hK _ _ ?_; clear hK K)) | (refine m_skip (by rfl) (by rfl) ?_; (intro K hK; (try simp only [Act.put, List.setIfInBounds_toArray, List.set_cons_zero, List.set_cons_succ]); refine hK _ _ ?_; clear hK K)))
  refine m_nil ?_
  intro wf hSf hAf
  have ef := hid (E.out.up hSf.1).ext
  clear hSf hAf
  go_wp2_with fail
  exact hR.out _ _ ⟨rfl, ef.out⟩
end Go.Proofs.Ythhffneibcpbdaa
