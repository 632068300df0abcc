/- The law JoiningEmpty: true. Conditions: the array is read; a slice's capacity is at least its length. -/
import Derived.Test.YthhffneibcpbdaaLAW20X
import Derived.Test.YthhffneibcpbdaaGJ
set_option linter.unusedVariables false
set_option linter.unusedSimpArgs false
namespace Go.Proofs.Ythhffneibcpbdaa
open Go.RowKit Go.Sort
attribute [local go_sem ↓] run_max2 run_min2
attribute [local go_sem] eql_ints_nil eql_arrs_nil
theorem own_lit1 {w : World} {base : Nat} {d : Int} (hb : base ≤ w.heap.size) : OwnI (w.alloc (.cells #[.int .i64 d] 3)) base (some ⟨w.heap.size, 0, none⟩) 1 [d] :=
  ⟨rfl, Or.inr ⟨w.heap.size, 1, #[.int .i64 d], rfl, hb, made_blk (Ext.refl _), Nat.le_refl _, by decide, rfl, rfl⟩⟩
theorem wpl_build1 {ops : Array Oper} {rest : List Oper} {o : Oper} {a : Act} {Q : Exit → Act → World → Prop} {w : World} (hgd : o.guard = none) (d : Int) (ho : o.op = .buildSlice 23 1 #[(0, .const (.int .i64 d))])
    (h : wpList Try.prog ops Q rest (a.put o.dst (.slice (some ⟨w.heap.size, 0, none⟩) 1 1)) (w.alloc (.cells #[.int .i64 d] 3))) : wpList Try.prog ops Q (o :: rest) a w := by
  refine wpList_plain hgd fun K hK => ?_
  have := hK _ _ h
  unfold Oper.wp execOp
  simp only [ho]
  simp [go_sem]
  exact this
set_option maxRecDepth 100000 in
set_option maxHeartbeats 8000000 in
theorem law20_JoiningEmpty (x : Arr) (sx : Option Addr) (cx : Nat) (nx : Option Addr) (mx : Nat) (ix : Option Addr) (jx : Nat) (S : Nat → Prop) (w : World) (h : ArrAt w S x sx nx ix) (hcx : x.shape.length ≤ cx ∧ x.nums.length ≤ mx ∧ x.items.length ≤ jx) :
    Calls Try.prog 5 #[.agg #[.int .i64 x.kind, .slice sx x.shape.length cx, .slice nx x.nums.length mx, .slice ix x.items.length jx]] w fun e w' => e = .returned (.bool true) ∧ Below w.heap.size w w' := by
  refine calls_post fun R' hR => ?_
  have h0 := hid h
  have hsx := h.shape.1
  replace hcx := hid hcx
  clear h
  go_enter Try.func5, Try.ntmps5
  go_upto_region 1 with (fail)
  generalize hEW : (w).alloc (.cells #[.int .i64 x.kind, .slice sx x.shape.length cx, .slice nx x.nums.length mx, .slice ix x.items.length jx] 26) = W
  have E := hid (env1 w S hEW)
  clear hEW
  replace E := hid (E.out.arg h0.out)
  (try simp only [List.cons_append, List.nil_append, List.set_cons_zero, List.set_cons_succ] at E)
  obtain ⟨q00, q01, q02, q03⟩ := (E.out.hdr 0 rfl).all
  go_wp2_with fail
  clear q00 q01 q02 q03
  refine (ref03_Small x _ _ _ _ _ _ _ _ (E.out.arr 1 rfl)).mono ?_
  rintro e w1 ⟨b1, rfl, hb⟩
  replace E := hid (E.out.up hb)
  clear hb
  cases b1 with
  | false =>
    go_wp2_with (go_at_call 16; refine (law20_example _).mono ?_; rintro e w9 ⟨rfl, hb9⟩)
    exact hR.out _ _ ⟨rfl, (E.out.up hb9).ext⟩
  | true =>
  obtain ⟨q00, q01, q02, q03⟩ := (E.out.hdr 0 rfl).all
  go_wp2_with fail
  clear q00 q01 q02 q03
  refine (ref03_Right x _ _ _ _ _ _ _ _ (E.out.arr 1 rfl)).mono ?_
  rintro e w2 ⟨rfl, hb⟩
  replace E := hid (E.out.up hb)
  clear hb
  by_cases c : rightS x = 0
  case neg =>
    have cb : (rightS x != 0) = true := by simpa using c
    replace c := hid c
    go_wp2_with (go_at_call 16; refine (law20_example _).mono ?_; rintro e w9 ⟨rfl, hb9⟩)
    exact hR.out _ _ ⟨rfl, (E.out.up hb9).ext⟩
  have cb : (rightS x != 0) = false := by simpa using c
  by_cases c3 : x.shape.length = 0
  case pos =>
    have cb3 : ((x.shape.length : Int) == 0) = true := by simpa using c3
    replace c3 := hid c3
    replace c := hid c
    obtain ⟨q00, q01, q02, q03⟩ := (E.out.hdr 0 rfl).all
    go_upto_region 2 with fail
    clear q00 q01 q02 q03
    go_wp2_with (go_at_call 16; refine (law20_example _).mono ?_; rintro e w9 ⟨rfl, hb9⟩)
    exact hR.out _ _ ⟨rfl, (E.out.up hb9).ext⟩
  have cb3 : ((x.shape.length : Int) == 0) = false := by simpa using c3
  obtain ⟨k, hk⟩ : ∃ k, x.shape.length = k + 1 := ⟨x.shape.length - 1, by omega⟩
  have EL := emp_last c hk
  have EF := emp_first c c3
  obtain ⟨l1, hl1⟩ : ∃ l, l = x.shape.take k := ⟨_, rfl⟩
  obtain ⟨l2, hl2⟩ : ∃ l, l = l1 ++ [0] := ⟨_, rfl⟩
  obtain ⟨l3, hl3⟩ : ∃ l, l = x.shape.drop 1 := ⟨_, rfl⟩
  obtain ⟨l4, hl4⟩ : ∃ l, l = [0] ++ l3 := ⟨_, rfl⟩
  rw [← hl1, ← hl2] at EL
  rw [← hl3, ← hl4] at EF
  have n1 : Hid (l1.length = k) := hid (by rw [hl1]; simp; omega)
  have n3 : Hid (l3.length = x.shape.length - 1) := hid (by rw [hl3]; simp)
  replace hl1 := hid hl1
  replace hl2 := hid hl2
  replace hl3 := hid hl3
  replace hl4 := hid hl4
  replace EL := hid EL
  replace EF := hid EF
  replace c := hid c
  have hcl : k + 1 ≤ cx := by have := hcx.out.1; omega
  obtain ⟨q00, q01, q02, q03⟩ := (E.out.hdr 0 rfl).all
  go_upto_region 3 with fail
  clear q00 q01 q02 q03
  clear cb cb3
  have hkk := hid hk
  clear hk c3
  obtain ⟨q00, q01, q02, q03⟩ := (E.out.hdr 0 rfl).all
  have hwl := (E.out.lt 0 rfl).2
  go_region_held3 (fun w' => w'.cell? ⟨w.heap.size, 0, none⟩ = some (.int .i64 x.kind)) (simp [go_sem, World.cell?_alloc_past, *]) (fail)
  · skip
    clear q00 q01 q02 q03
    have E1 := ((E.out.alloc (.cells #[.int .i64 x.kind, .slice none 0 0, .slice none 0 0, .slice none 0 0] 26)).alloc (.cells #[.int .i64 x.kind, .slice none 0 0, .slice none 0 0, .slice none 0 0] 26)).up (ext_drawn _)
    clear E
    have E := hid E1
    clear E1 hwl
    simp only [size_alloc'] at E
    generalize World.drew _ = V1 at E ⊢
    generalize w2.heap.size + 1 = p4 at E ⊢
    generalize w2.heap.size = p3 at E ⊢
    have hk := hkk.out
    have c3 : ¬ x.shape.length = 0 := by omega
    have hw : IntKind.i64.wrap ((x.shape.length : Int) - 1) = (k : Int) := by rw [show ((x.shape.length : Int) - 1) = (k : Int) by omega]; exact IntWalk.i64_in _ (by omega)
    have t0 : ¬ (k : Int) < 0 := by omega
    have t1 : ¬ (x.shape.length : Int) < (k : Int) := by omega
    have t2 : (0 : Int) ≤ (k : Int) := by omega
    have t3 : (k : Int) ≤ (x.shape.length : Int) := by omega
    have t4 : (k : Int) ≤ (cx : Int) := by omega
    have t5 : (k : Int).toNat = k := by omega
    have c0 : ¬ cx = 0 := by omega
    have kb : k ≤ 17592186044415 := by omega
    clear hk c3
    obtain ⟨q00, q01, q02, q03⟩ := (E.out.hdr 0 rfl).all
    go_upto_region 4 with fail
    clear q00 q01 q02 q03
    obtain ⟨q00, q01, q02, q03⟩ := (E.out.hdr 0 rfl).all
    go_upto_region 5 with (first
      | (refine wpl_build0 rfl rfl ?_; replace E := hid (E.out.addRowI (own_empty (Nat.le_refl _) (Ext.refl _)) (ext_alloc _ _)); generalize V1.alloc (.cells #[] 3) = V2 at E ⊢; (try simp only [List.cons_append, List.nil_append, List.set_cons_zero, List.set_cons_succ] at E); clear q00 q01 q02 q03; obtain ⟨q00, q01, q02, q03⟩ := (E.out.hdr 0 rfl).all)
      | (at_builtin; refine wplE_appI E.out 4 rfl rfl (.tmp 34) (.tmp 41) rfl rfl _ _ _ l1 (by rw [n1.out]; rfl) (hl1.out ▸ ((E.out.arr 1 rfl).shape.take k)) (by have q1 := n1.out; (try simp only [List.length_nil, List.length_cons]); omega) ?_; intro V2 a2 k2 E1; rw [List.nil_append] at E1 ⊢; clear E; have E := hid E1; clear E1; (try simp only [List.cons_append, List.nil_append, List.set_cons_zero, List.set_cons_succ] at E))
      | (at_builtin; replace E := hid (E.out.lit [0] (by decide)); (try simp only [List.cons_append, List.nil_append, List.set_cons_zero, List.set_cons_succ] at E); refine wplE_appI E.out 4 rfl rfl (.tmp 42) (.tmp 43) rfl rfl _ _ _ [0] rfl (E.out.ints 5 rfl) (by have q1 := n1.out; (try simp only [List.length_nil, List.length_cons]); omega) ?_; intro V3 a3 k3 E1; rw [← hl2.out] at E1 ⊢; clear E; have E := hid E1; clear E1; (try simp only [List.cons_append, List.nil_append, List.set_cons_zero, List.set_cons_succ] at E))
      | (refine wpl_store1 rfl (.tmp 45) (.tmp 44) rfl p3 rfl rfl (E.out.hdr 2 rfl) ?_; intro V HV CV; replace E := hid (E.out.chg 2 rfl CV HV); clear HV CV; (try simp only [List.cons_append, List.nil_append, List.set_cons_zero, List.set_cons_succ] at E)))
    have hc2 := OwnI.cap (E.out.rowI 4 rfl)
    have n2 : Hid (l2.length = k + 1) := hid (by rw [hl2.out, List.length_append, n1.out]; rfl)
    replace E := hid (E.out.doneI 4 rfl (by rw [n2.out]; omega))
    (try simp only [List.cons_append, List.nil_append, List.set_cons_zero, List.set_cons_succ] at E)
    clear t0 t1 t2 t3 t4 t5 q00 q01 q02 q03
    have s0 : ¬ (x.shape.length : Int) < 1 := by rw [hkk.out]; omega
    have s1' : (1 : Int) ≤ (x.shape.length : Int) := by rw [hkk.out]; omega
    have s2' : (1 : Int) ≤ (cx : Int) := by omega
    have hxk := hid (show x.shape.length = k + 1 from hkk.out)
    by_cases c1 : cx = 1
    case pos =>
      subst c1
      have hq := hid (show x.shape.length ≤ 1 by rw [hxk.out]; omega)
      obtain ⟨q00, q01, q02, q03⟩ := (E.out.hdr 0 rfl).all
      go_upto_region 6 with (first
        | (refine wpl_build1 rfl 0 rfl ?_; replace E := hid (E.out.addRowI (own_lit1 (d := 0) (Nat.le_refl _)) (ext_alloc _ _)); generalize World.alloc _ (.cells #[.int .i64 0] 3) = V6 at E ⊢; (try simp only [List.cons_append, List.nil_append, List.set_cons_zero, List.set_cons_succ] at E); clear q00 q01 q02 q03; obtain ⟨q00, q01, q02, q03⟩ := (E.out.hdr 0 rfl).all)
        | (at_builtin; refine wplE_appI E.out 6 rfl rfl (.tmp 46) (.tmp 49) rfl rfl _ _ _ l3 (by rw [n3.out]; rfl) (hl3.out ▸ ((E.out.arr 1 rfl).shape.cut0 hq.out)) (by have q1 := n3.out; have q2 := hxk.out; (try simp only [List.length_nil, List.length_cons]); omega) ?_; intro V4 a4 k4 E1; rw [← hl4.out] at E1 ⊢; clear E; have E := hid E1; clear E1; (try simp only [List.cons_append, List.nil_append, List.set_cons_zero, List.set_cons_succ] at E))
        | (refine wpl_store1 rfl (.tmp 51) (.tmp 50) rfl p4 rfl rfl (E.out.hdr 3 rfl) ?_; intro V HV CV; replace E := hid (E.out.chg 3 rfl CV HV); clear HV CV; (try simp only [List.cons_append, List.nil_append, List.set_cons_zero, List.set_cons_succ] at E)))
      clear q00 q01 q02 q03
      have hc4 := OwnI.cap (E.out.rowI 6 rfl)
      have n4 : Hid (l4.length = k + 1) := hid (by rw [hl4.out, List.length_append, n3.out, hxk.out]; simp; omega)
      replace E := hid (E.out.doneI 6 rfl (by rw [n4.out]; omega))
      (try simp only [List.cons_append, List.nil_append, List.set_cons_zero, List.set_cons_succ] at E)
      replace hc2 := hid hc2
      replace hc4 := hid hc4
      replace E := hid ((E.out.addArr (vec_at (k := x.kind) (E.out.ints 4 rfl) (IntsAt.nil _ _ none)) (fun _ _ h => h)).addArr (vec_at (k := x.kind) (E.out.ints 6 rfl) (IntsAt.nil _ _ none)) (fun _ _ h => h))
      (try simp only [List.cons_append, List.nil_append, List.set_cons_zero, List.set_cons_succ] at E)
      clear s0 s1' s2'
      obtain ⟨q00, q01, q02, q03⟩ := (E.out.hdr 0 rfl).all
      obtain ⟨q20, q21, q22, q23⟩ := (E.out.hdr 2 rfl).all
      go_wp2_with fail
      clear q00 q01 q02 q03 q20 q21 q22 q23
      refine (joining_Last x _ _ _ _ _ _ (.mk x.kind l2 [] []) _ _ none 0 none 0 _ _ (E.out.arr 1 rfl) (E.out.arr 7 rfl) hcx.out ⟨hc2.out, Nat.le_refl _, Nat.le_refl _⟩).mono ?_
      intro e w3 h
      obtain ⟨s101, c101, n101, m101, i101, j101, rfl, hA, hb, hC101⟩ := h.eq EL.out.1.2.symm EL.out.1.1
      replace E := hid ((E.out.up hb).addArr hA (fun b _ hq => E.out.res (Ext.refl _) hq))
      replace hC101 := hid hC101
      clear hA hb h
      (try simp only [List.cons_append, List.nil_append, List.set_cons_zero, List.set_cons_succ] at E)
      go_upto_region 7 with (refine wpl_store4 rfl (.tmp 5) (.tmp 56) rfl _ rfl rfl ((E.out.alloc _).hdr 10 rfl) ?_; intro V8 HV CV; replace E := hid ((E.out.alloc _).chg 10 rfl CV HV); clear CV HV; (try simp only [List.cons_append, List.nil_append, List.set_cons_zero, List.set_cons_succ] at E))
      generalize w3.heap.size = p101 at E ⊢
      obtain ⟨q20, q21, q22, q23⟩ := (E.out.hdr 2 rfl).all
      obtain ⟨q00, q01, q02, q03⟩ := (E.out.hdr 0 rfl).all
      go_wp2_with fail
      clear q20 q21 q22 q23 q00 q01 q02 q03
      refine (joining_Last (.mk x.kind l2 [] []) _ _ none 0 none 0 x _ _ _ _ _ _ _ _ (E.out.arr 7 rfl) (E.out.arr 1 rfl) ⟨hc2.out, Nat.le_refl _, Nat.le_refl _⟩ hcx.out).mono ?_
      intro e w4 h
      obtain ⟨s102, c102, n102, m102, i102, j102, rfl, hA, hb, hC102⟩ := h.eq EL.out.2.2.symm EL.out.2.1
      replace E := hid ((E.out.up hb).addArr hA (fun b _ hq => E.out.res (Ext.refl _) hq))
      replace hC102 := hid hC102
      clear hA hb h
      (try simp only [List.cons_append, List.nil_append, List.set_cons_zero, List.set_cons_succ] at E)
      go_upto_region 8 with (refine wpl_store4 rfl (.tmp 7) (.tmp 62) rfl _ rfl rfl ((E.out.alloc _).hdr 12 rfl) ?_; intro V8 HV CV; replace E := hid ((E.out.alloc _).chg 12 rfl CV HV); clear CV HV; (try simp only [List.cons_append, List.nil_append, List.set_cons_zero, List.set_cons_succ] at E))
      generalize w4.heap.size = p102 at E ⊢
      obtain ⟨q00, q01, q02, q03⟩ := (E.out.hdr 0 rfl).all
      obtain ⟨q30, q31, q32, q33⟩ := (E.out.hdr 3 rfl).all
      go_wp2_with fail
      clear q00 q01 q02 q03 q30 q31 q32 q33
      refine (joining_First x _ _ _ _ _ _ (.mk x.kind l4 [] []) _ _ none 0 none 0 _ _ (E.out.arr 1 rfl) (E.out.arr 8 rfl) hcx.out ⟨hc4.out, Nat.le_refl _, Nat.le_refl _⟩).mono ?_
      intro e w5 h
      obtain ⟨s103, c103, n103, m103, i103, j103, rfl, hA, hb, hC103⟩ := h.eq EF.out.1.2.symm EF.out.1.1
      replace E := hid ((E.out.up hb).addArr hA (fun b _ hq => E.out.res (Ext.refl _) hq))
      replace hC103 := hid hC103
      clear hA hb h
      (try simp only [List.cons_append, List.nil_append, List.set_cons_zero, List.set_cons_succ] at E)
      go_upto_region 9 with (refine wpl_store4 rfl (.tmp 9) (.tmp 68) rfl _ rfl rfl ((E.out.alloc _).hdr 14 rfl) ?_; intro V8 HV CV; replace E := hid ((E.out.alloc _).chg 14 rfl CV HV); clear CV HV; (try simp only [List.cons_append, List.nil_append, List.set_cons_zero, List.set_cons_succ] at E))
      generalize w5.heap.size = p103 at E ⊢
      obtain ⟨q30, q31, q32, q33⟩ := (E.out.hdr 3 rfl).all
      obtain ⟨q00, q01, q02, q03⟩ := (E.out.hdr 0 rfl).all
      go_wp2_with fail
      clear q30 q31 q32 q33 q00 q01 q02 q03
      refine (joining_First (.mk x.kind l4 [] []) _ _ none 0 none 0 x _ _ _ _ _ _ _ _ (E.out.arr 8 rfl) (E.out.arr 1 rfl) ⟨hc4.out, Nat.le_refl _, Nat.le_refl _⟩ hcx.out).mono ?_
      intro e w6 h
      obtain ⟨s104, c104, n104, m104, i104, j104, rfl, hA, hb, hC104⟩ := h.eq EF.out.2.2.symm EF.out.2.1
      replace E := hid ((E.out.up hb).addArr hA (fun b _ hq => E.out.res (Ext.refl _) hq))
      replace hC104 := hid hC104
      clear hA hb h
      (try simp only [List.cons_append, List.nil_append, List.set_cons_zero, List.set_cons_succ] at E)
      go_upto_region 10 with (refine wpl_store4 rfl (.tmp 11) (.tmp 74) rfl _ rfl rfl ((E.out.alloc _).hdr 16 rfl) ?_; intro V8 HV CV; replace E := hid ((E.out.alloc _).chg 16 rfl CV HV); clear CV HV; (try simp only [List.cons_append, List.nil_append, List.set_cons_zero, List.set_cons_succ] at E))
      generalize w6.heap.size = p104 at E ⊢
      obtain ⟨q100, q101, q102, q103⟩ := (E.out.hdr 10 rfl).all
      obtain ⟨q00, q01, q02, q03⟩ := (E.out.hdr 0 rfl).all
      go_wp2_with fail
      clear q100 q101 q102 q103 q00 q01 q02 q03
      refine (ref03_Same x x _ _ _ _ _ _ _ _ _ _ _ _ _ _ _ (E.out.arr 9 rfl) (E.out.arr 1 rfl)).mono ?_
      rintro e w7 ⟨rfl, hb⟩
      replace E := hid (E.out.up hb)
      clear hb
      rw [show sameB x x = true from sameB_self _]
      obtain ⟨q120, q121, q122, q123⟩ := (E.out.hdr 12 rfl).all
      obtain ⟨q00, q01, q02, q03⟩ := (E.out.hdr 0 rfl).all
      go_wp2_with fail
      clear q120 q121 q122 q123 q00 q01 q02 q03
      refine (ref03_Same x x _ _ _ _ _ _ _ _ _ _ _ _ _ _ _ (E.out.arr 11 rfl) (E.out.arr 1 rfl)).mono ?_
      rintro e w8 ⟨rfl, hb⟩
      replace E := hid (E.out.up hb)
      clear hb
      rw [show sameB x x = true from sameB_self _]
      obtain ⟨q140, q141, q142, q143⟩ := (E.out.hdr 14 rfl).all
      obtain ⟨q00, q01, q02, q03⟩ := (E.out.hdr 0 rfl).all
      go_wp2_with fail
      clear q140 q141 q142 q143 q00 q01 q02 q03
      refine (ref03_Same x x _ _ _ _ _ _ _ _ _ _ _ _ _ _ _ (E.out.arr 13 rfl) (E.out.arr 1 rfl)).mono ?_
      rintro e w10 ⟨rfl, hb⟩
      replace E := hid (E.out.up hb)
      clear hb
      rw [show sameB x x = true from sameB_self _]
      obtain ⟨q160, q161, q162, q163⟩ := (E.out.hdr 16 rfl).all
      obtain ⟨q00, q01, q02, q03⟩ := (E.out.hdr 0 rfl).all
      go_wp2_with fail
      clear q160 q161 q162 q163 q00 q01 q02 q03
      refine (ref03_Same x x _ _ _ _ _ _ _ _ _ _ _ _ _ _ _ (E.out.arr 15 rfl) (E.out.arr 1 rfl)).mono ?_
      rintro e w11 ⟨rfl, hb⟩
      replace E := hid (E.out.up hb)
      clear hb
      rw [show sameB x x = true from sameB_self _]
      go_wp2_with (go_at_call 16; refine (law20_example _).mono ?_; rintro e w9 ⟨rfl, hb9⟩)
      exact hR.out _ _ ⟨rfl, (E.out.up hb9).ext⟩
    case neg =>
      obtain ⟨q00, q01, q02, q03⟩ := (E.out.hdr 0 rfl).all
      go_upto_region 6 with (first
        | (refine wpl_build1 rfl 0 rfl ?_; replace E := hid (E.out.addRowI (own_lit1 (d := 0) (Nat.le_refl _)) (ext_alloc _ _)); generalize World.alloc _ (.cells #[.int .i64 0] 3) = V6 at E ⊢; (try simp only [List.cons_append, List.nil_append, List.set_cons_zero, List.set_cons_succ] at E); clear q00 q01 q02 q03; obtain ⟨q00, q01, q02, q03⟩ := (E.out.hdr 0 rfl).all)
        | (at_builtin; refine wplE_appI E.out 6 rfl rfl (.tmp 46) (.tmp 49) rfl rfl _ _ _ l3 (by rw [n3.out]; rfl) (hl3.out ▸ ((E.out.arr 1 rfl).shape.cut 1)) (by have q1 := n3.out; have q2 := hxk.out; (try simp only [List.length_nil, List.length_cons]); omega) ?_; intro V4 a4 k4 E1; rw [← hl4.out] at E1 ⊢; clear E; have E := hid E1; clear E1; (try simp only [List.cons_append, List.nil_append, List.set_cons_zero, List.set_cons_succ] at E))
        | (refine wpl_store1 rfl (.tmp 51) (.tmp 50) rfl p4 rfl rfl (E.out.hdr 3 rfl) ?_; intro V HV CV; replace E := hid (E.out.chg 3 rfl CV HV); clear HV CV; (try simp only [List.cons_append, List.nil_append, List.set_cons_zero, List.set_cons_succ] at E)))
      clear q00 q01 q02 q03
      have hc4 := OwnI.cap (E.out.rowI 6 rfl)
      have n4 : Hid (l4.length = k + 1) := hid (by rw [hl4.out, List.length_append, n3.out, hxk.out]; simp; omega)
      replace E := hid (E.out.doneI 6 rfl (by rw [n4.out]; omega))
      (try simp only [List.cons_append, List.nil_append, List.set_cons_zero, List.set_cons_succ] at E)
      replace hc2 := hid hc2
      replace hc4 := hid hc4
      replace E := hid ((E.out.addArr (vec_at (k := x.kind) (E.out.ints 4 rfl) (IntsAt.nil _ _ none)) (fun _ _ h => h)).addArr (vec_at (k := x.kind) (E.out.ints 6 rfl) (IntsAt.nil _ _ none)) (fun _ _ h => h))
      (try simp only [List.cons_append, List.nil_append, List.set_cons_zero, List.set_cons_succ] at E)
      clear s0 s1' s2'
      obtain ⟨q00, q01, q02, q03⟩ := (E.out.hdr 0 rfl).all
      obtain ⟨q20, q21, q22, q23⟩ := (E.out.hdr 2 rfl).all
      go_wp2_with fail
      clear q00 q01 q02 q03 q20 q21 q22 q23
      refine (joining_Last x _ _ _ _ _ _ (.mk x.kind l2 [] []) _ _ none 0 none 0 _ _ (E.out.arr 1 rfl) (E.out.arr 7 rfl) hcx.out ⟨hc2.out, Nat.le_refl _, Nat.le_refl _⟩).mono ?_
      intro e w3 h
      obtain ⟨s101, c101, n101, m101, i101, j101, rfl, hA, hb, hC101⟩ := h.eq EL.out.1.2.symm EL.out.1.1
      replace E := hid ((E.out.up hb).addArr hA (fun b _ hq => E.out.res (Ext.refl _) hq))
      replace hC101 := hid hC101
      clear hA hb h
      (try simp only [List.cons_append, List.nil_append, List.set_cons_zero, List.set_cons_succ] at E)
      go_upto_region 7 with (refine wpl_store4 rfl (.tmp 5) (.tmp 56) rfl _ rfl rfl ((E.out.alloc _).hdr 10 rfl) ?_; intro V8 HV CV; replace E := hid ((E.out.alloc _).chg 10 rfl CV HV); clear CV HV; (try simp only [List.cons_append, List.nil_append, List.set_cons_zero, List.set_cons_succ] at E))
      generalize w3.heap.size = p101 at E ⊢
      obtain ⟨q20, q21, q22, q23⟩ := (E.out.hdr 2 rfl).all
      obtain ⟨q00, q01, q02, q03⟩ := (E.out.hdr 0 rfl).all
      go_wp2_with fail
      clear q20 q21 q22 q23 q00 q01 q02 q03
      refine (joining_Last (.mk x.kind l2 [] []) _ _ none 0 none 0 x _ _ _ _ _ _ _ _ (E.out.arr 7 rfl) (E.out.arr 1 rfl) ⟨hc2.out, Nat.le_refl _, Nat.le_refl _⟩ hcx.out).mono ?_
      intro e w4 h
      obtain ⟨s102, c102, n102, m102, i102, j102, rfl, hA, hb, hC102⟩ := h.eq EL.out.2.2.symm EL.out.2.1
      replace E := hid ((E.out.up hb).addArr hA (fun b _ hq => E.out.res (Ext.refl _) hq))
      replace hC102 := hid hC102
      clear hA hb h
      (try simp only [List.cons_append, List.nil_append, List.set_cons_zero, List.set_cons_succ] at E)
      go_upto_region 8 with (refine wpl_store4 rfl (.tmp 7) (.tmp 62) rfl _ rfl rfl ((E.out.alloc _).hdr 12 rfl) ?_; intro V8 HV CV; replace E := hid ((E.out.alloc _).chg 12 rfl CV HV); clear CV HV; (try simp only [List.cons_append, List.nil_append, List.set_cons_zero, List.set_cons_succ] at E))
      generalize w4.heap.size = p102 at E ⊢
      obtain ⟨q00, q01, q02, q03⟩ := (E.out.hdr 0 rfl).all
      obtain ⟨q30, q31, q32, q33⟩ := (E.out.hdr 3 rfl).all
      go_wp2_with fail
      clear q00 q01 q02 q03 q30 q31 q32 q33
      refine (joining_First x _ _ _ _ _ _ (.mk x.kind l4 [] []) _ _ none 0 none 0 _ _ (E.out.arr 1 rfl) (E.out.arr 8 rfl) hcx.out ⟨hc4.out, Nat.le_refl _, Nat.le_refl _⟩).mono ?_
      intro e w5 h
      obtain ⟨s103, c103, n103, m103, i103, j103, rfl, hA, hb, hC103⟩ := h.eq EF.out.1.2.symm EF.out.1.1
      replace E := hid ((E.out.up hb).addArr hA (fun b _ hq => E.out.res (Ext.refl _) hq))
      replace hC103 := hid hC103
      clear hA hb h
      (try simp only [List.cons_append, List.nil_append, List.set_cons_zero, List.set_cons_succ] at E)
      go_upto_region 9 with (refine wpl_store4 rfl (.tmp 9) (.tmp 68) rfl _ rfl rfl ((E.out.alloc _).hdr 14 rfl) ?_; intro V8 HV CV; replace E := hid ((E.out.alloc _).chg 14 rfl CV HV); clear CV HV; (try simp only [List.cons_append, List.nil_append, List.set_cons_zero, List.set_cons_succ] at E))
      generalize w5.heap.size = p103 at E ⊢
      obtain ⟨q30, q31, q32, q33⟩ := (E.out.hdr 3 rfl).all
      obtain ⟨q00, q01, q02, q03⟩ := (E.out.hdr 0 rfl).all
      go_wp2_with fail
      clear q30 q31 q32 q33 q00 q01 q02 q03
      refine (joining_First (.mk x.kind l4 [] []) _ _ none 0 none 0 x _ _ _ _ _ _ _ _ (E.out.arr 8 rfl) (E.out.arr 1 rfl) ⟨hc4.out, Nat.le_refl _, Nat.le_refl _⟩ hcx.out).mono ?_
      intro e w6 h
      obtain ⟨s104, c104, n104, m104, i104, j104, rfl, hA, hb, hC104⟩ := h.eq EF.out.2.2.symm EF.out.2.1
      replace E := hid ((E.out.up hb).addArr hA (fun b _ hq => E.out.res (Ext.refl _) hq))
      replace hC104 := hid hC104
      clear hA hb h
      (try simp only [List.cons_append, List.nil_append, List.set_cons_zero, List.set_cons_succ] at E)
      go_upto_region 10 with (refine wpl_store4 rfl (.tmp 11) (.tmp 74) rfl _ rfl rfl ((E.out.alloc _).hdr 16 rfl) ?_; intro V8 HV CV; replace E := hid ((E.out.alloc _).chg 16 rfl CV HV); clear CV HV; (try simp only [List.cons_append, List.nil_append, List.set_cons_zero, List.set_cons_succ] at E))
      generalize w6.heap.size = p104 at E ⊢
      obtain ⟨q100, q101, q102, q103⟩ := (E.out.hdr 10 rfl).all
      obtain ⟨q00, q01, q02, q03⟩ := (E.out.hdr 0 rfl).all
      go_wp2_with fail
      clear q100 q101 q102 q103 q00 q01 q02 q03
      refine (ref03_Same x x _ _ _ _ _ _ _ _ _ _ _ _ _ _ _ (E.out.arr 9 rfl) (E.out.arr 1 rfl)).mono ?_
      rintro e w7 ⟨rfl, hb⟩
      replace E := hid (E.out.up hb)
      clear hb
      rw [show sameB x x = true from sameB_self _]
      obtain ⟨q120, q121, q122, q123⟩ := (E.out.hdr 12 rfl).all
      obtain ⟨q00, q01, q02, q03⟩ := (E.out.hdr 0 rfl).all
      go_wp2_with fail
      clear q120 q121 q122 q123 q00 q01 q02 q03
      refine (ref03_Same x x _ _ _ _ _ _ _ _ _ _ _ _ _ _ _ (E.out.arr 11 rfl) (E.out.arr 1 rfl)).mono ?_
      rintro e w8 ⟨rfl, hb⟩
      replace E := hid (E.out.up hb)
      clear hb
      rw [show sameB x x = true from sameB_self _]
      obtain ⟨q140, q141, q142, q143⟩ := (E.out.hdr 14 rfl).all
      obtain ⟨q00, q01, q02, q03⟩ := (E.out.hdr 0 rfl).all
      go_wp2_with fail
      clear q140 q141 q142 q143 q00 q01 q02 q03
      refine (ref03_Same x x _ _ _ _ _ _ _ _ _ _ _ _ _ _ _ (E.out.arr 13 rfl) (E.out.arr 1 rfl)).mono ?_
      rintro e w10 ⟨rfl, hb⟩
      replace E := hid (E.out.up hb)
      clear hb
      rw [show sameB x x = true from sameB_self _]
      obtain ⟨q160, q161, q162, q163⟩ := (E.out.hdr 16 rfl).all
      obtain ⟨q00, q01, q02, q03⟩ := (E.out.hdr 0 rfl).all
      go_wp2_with fail
      clear q160 q161 q162 q163 q00 q01 q02 q03
      refine (ref03_Same x x _ _ _ _ _ _ _ _ _ _ _ _ _ _ _ (E.out.arr 15 rfl) (E.out.arr 1 rfl)).mono ?_
      rintro e w11 ⟨rfl, hb⟩
      replace E := hid (E.out.up hb)
      clear hb
      rw [show sameB x x = true from sameB_self _]
      go_wp2_with (go_at_call 16; refine (law20_example _).mono ?_; rintro e w9 ⟨rfl, hb9⟩)
      exact hR.out _ _ ⟨rfl, (E.out.up hb9).ext⟩
  · skip
    clear q00 q01 q02 q03
    have E1 := ((E.out.alloc (.cells #[.int .i64 x.kind, .slice none 0 0, .slice none 0 0, .slice none 0 0] 26)).alloc (.cells #[.int .i64 x.kind, .slice none 0 0, .slice none 0 0, .slice none 0 0] 26)).up (ext_drawn _)
    clear E
    have E := hid (E1.perm (((List.Perm.swap _ _ []).cons _).cons _))
    clear E1 hwl
    simp only [size_alloc'] at E
    generalize World.drew _ = V1 at E ⊢
    generalize w2.heap.size + 1 = p3 at E ⊢
    generalize w2.heap.size = p4 at E ⊢
    have hk := hkk.out
    have c3 : ¬ x.shape.length = 0 := by omega
    have hw : IntKind.i64.wrap ((x.shape.length : Int) - 1) = (k : Int) := by rw [show ((x.shape.length : Int) - 1) = (k : Int) by omega]; exact IntWalk.i64_in _ (by omega)
    have t0 : ¬ (k : Int) < 0 := by omega
    have t1 : ¬ (x.shape.length : Int) < (k : Int) := by omega
    have t2 : (0 : Int) ≤ (k : Int) := by omega
    have t3 : (k : Int) ≤ (x.shape.length : Int) := by omega
    have t4 : (k : Int) ≤ (cx : Int) := by omega
    have t5 : (k : Int).toNat = k := by omega
    have c0 : ¬ cx = 0 := by omega
    have kb : k ≤ 17592186044415 := by omega
    clear hk c3
    obtain ⟨q00, q01, q02, q03⟩ := (E.out.hdr 0 rfl).all
    go_upto_region 4 with fail
    clear q00 q01 q02 q03
    obtain ⟨q00, q01, q02, q03⟩ := (E.out.hdr 0 rfl).all
    go_upto_region 5 with (first
      | (refine wpl_build0 rfl rfl ?_; replace E := hid (E.out.addRowI (own_empty (Nat.le_refl _) (Ext.refl _)) (ext_alloc _ _)); generalize V1.alloc (.cells #[] 3) = V2 at E ⊢; (try simp only [List.cons_append, List.nil_append, List.set_cons_zero, List.set_cons_succ] at E); clear q00 q01 q02 q03; obtain ⟨q00, q01, q02, q03⟩ := (E.out.hdr 0 rfl).all)
      | (at_builtin; refine wplE_appI E.out 4 rfl rfl (.tmp 34) (.tmp 41) rfl rfl _ _ _ l1 (by rw [n1.out]; rfl) (hl1.out ▸ ((E.out.arr 1 rfl).shape.take k)) (by have q1 := n1.out; (try simp only [List.length_nil, List.length_cons]); omega) ?_; intro V2 a2 k2 E1; rw [List.nil_append] at E1 ⊢; clear E; have E := hid E1; clear E1; (try simp only [List.cons_append, List.nil_append, List.set_cons_zero, List.set_cons_succ] at E))
      | (at_builtin; replace E := hid (E.out.lit [0] (by decide)); (try simp only [List.cons_append, List.nil_append, List.set_cons_zero, List.set_cons_succ] at E); refine wplE_appI E.out 4 rfl rfl (.tmp 42) (.tmp 43) rfl rfl _ _ _ [0] rfl (E.out.ints 5 rfl) (by have q1 := n1.out; (try simp only [List.length_nil, List.length_cons]); omega) ?_; intro V3 a3 k3 E1; rw [← hl2.out] at E1 ⊢; clear E; have E := hid E1; clear E1; (try simp only [List.cons_append, List.nil_append, List.set_cons_zero, List.set_cons_succ] at E))
      | (refine wpl_store1 rfl (.tmp 45) (.tmp 44) rfl p3 rfl rfl (E.out.hdr 2 rfl) ?_; intro V HV CV; replace E := hid (E.out.chg 2 rfl CV HV); clear HV CV; (try simp only [List.cons_append, List.nil_append, List.set_cons_zero, List.set_cons_succ] at E)))
    have hc2 := OwnI.cap (E.out.rowI 4 rfl)
    have n2 : Hid (l2.length = k + 1) := hid (by rw [hl2.out, List.length_append, n1.out]; rfl)
    replace E := hid (E.out.doneI 4 rfl (by rw [n2.out]; omega))
    (try simp only [List.cons_append, List.nil_append, List.set_cons_zero, List.set_cons_succ] at E)
    clear t0 t1 t2 t3 t4 t5 q00 q01 q02 q03
    have s0 : ¬ (x.shape.length : Int) < 1 := by rw [hkk.out]; omega
    have s1' : (1 : Int) ≤ (x.shape.length : Int) := by rw [hkk.out]; omega
    have s2' : (1 : Int) ≤ (cx : Int) := by omega
    have hxk := hid (show x.shape.length = k + 1 from hkk.out)
    by_cases c1 : cx = 1
    case pos =>
      subst c1
      have hq := hid (show x.shape.length ≤ 1 by rw [hxk.out]; omega)
      obtain ⟨q00, q01, q02, q03⟩ := (E.out.hdr 0 rfl).all
      go_upto_region 6 with (first
        | (refine wpl_build1 rfl 0 rfl ?_; replace E := hid (E.out.addRowI (own_lit1 (d := 0) (Nat.le_refl _)) (ext_alloc _ _)); generalize World.alloc _ (.cells #[.int .i64 0] 3) = V6 at E ⊢; (try simp only [List.cons_append, List.nil_append, List.set_cons_zero, List.set_cons_succ] at E); clear q00 q01 q02 q03; obtain ⟨q00, q01, q02, q03⟩ := (E.out.hdr 0 rfl).all)
        | (at_builtin; refine wplE_appI E.out 6 rfl rfl (.tmp 46) (.tmp 49) rfl rfl _ _ _ l3 (by rw [n3.out]; rfl) (hl3.out ▸ ((E.out.arr 1 rfl).shape.cut0 hq.out)) (by have q1 := n3.out; have q2 := hxk.out; (try simp only [List.length_nil, List.length_cons]); omega) ?_; intro V4 a4 k4 E1; rw [← hl4.out] at E1 ⊢; clear E; have E := hid E1; clear E1; (try simp only [List.cons_append, List.nil_append, List.set_cons_zero, List.set_cons_succ] at E))
        | (refine wpl_store1 rfl (.tmp 51) (.tmp 50) rfl p4 rfl rfl (E.out.hdr 3 rfl) ?_; intro V HV CV; replace E := hid (E.out.chg 3 rfl CV HV); clear HV CV; (try simp only [List.cons_append, List.nil_append, List.set_cons_zero, List.set_cons_succ] at E)))
      clear q00 q01 q02 q03
      have hc4 := OwnI.cap (E.out.rowI 6 rfl)
      have n4 : Hid (l4.length = k + 1) := hid (by rw [hl4.out, List.length_append, n3.out, hxk.out]; simp; omega)
      replace E := hid (E.out.doneI 6 rfl (by rw [n4.out]; omega))
      (try simp only [List.cons_append, List.nil_append, List.set_cons_zero, List.set_cons_succ] at E)
      replace hc2 := hid hc2
      replace hc4 := hid hc4
      replace E := hid ((E.out.addArr (vec_at (k := x.kind) (E.out.ints 4 rfl) (IntsAt.nil _ _ none)) (fun _ _ h => h)).addArr (vec_at (k := x.kind) (E.out.ints 6 rfl) (IntsAt.nil _ _ none)) (fun _ _ h => h))
      (try simp only [List.cons_append, List.nil_append, List.set_cons_zero, List.set_cons_succ] at E)
      clear s0 s1' s2'
      obtain ⟨q00, q01, q02, q03⟩ := (E.out.hdr 0 rfl).all
      obtain ⟨q20, q21, q22, q23⟩ := (E.out.hdr 2 rfl).all
      go_wp2_with fail
      clear q00 q01 q02 q03 q20 q21 q22 q23
      refine (joining_Last x _ _ _ _ _ _ (.mk x.kind l2 [] []) _ _ none 0 none 0 _ _ (E.out.arr 1 rfl) (E.out.arr 7 rfl) hcx.out ⟨hc2.out, Nat.le_refl _, Nat.le_refl _⟩).mono ?_
      intro e w3 h
      obtain ⟨s101, c101, n101, m101, i101, j101, rfl, hA, hb, hC101⟩ := h.eq EL.out.1.2.symm EL.out.1.1
      replace E := hid ((E.out.up hb).addArr hA (fun b _ hq => E.out.res (Ext.refl _) hq))
      replace hC101 := hid hC101
      clear hA hb h
      (try simp only [List.cons_append, List.nil_append, List.set_cons_zero, List.set_cons_succ] at E)
      go_upto_region 7 with (refine wpl_store4 rfl (.tmp 5) (.tmp 56) rfl _ rfl rfl ((E.out.alloc _).hdr 10 rfl) ?_; intro V8 HV CV; replace E := hid ((E.out.alloc _).chg 10 rfl CV HV); clear CV HV; (try simp only [List.cons_append, List.nil_append, List.set_cons_zero, List.set_cons_succ] at E))
      generalize w3.heap.size = p101 at E ⊢
      obtain ⟨q20, q21, q22, q23⟩ := (E.out.hdr 2 rfl).all
      obtain ⟨q00, q01, q02, q03⟩ := (E.out.hdr 0 rfl).all
      go_wp2_with fail
      clear q20 q21 q22 q23 q00 q01 q02 q03
      refine (joining_Last (.mk x.kind l2 [] []) _ _ none 0 none 0 x _ _ _ _ _ _ _ _ (E.out.arr 7 rfl) (E.out.arr 1 rfl) ⟨hc2.out, Nat.le_refl _, Nat.le_refl _⟩ hcx.out).mono ?_
      intro e w4 h
      obtain ⟨s102, c102, n102, m102, i102, j102, rfl, hA, hb, hC102⟩ := h.eq EL.out.2.2.symm EL.out.2.1
      replace E := hid ((E.out.up hb).addArr hA (fun b _ hq => E.out.res (Ext.refl _) hq))
      replace hC102 := hid hC102
      clear hA hb h
      (try simp only [List.cons_append, List.nil_append, List.set_cons_zero, List.set_cons_succ] at E)
      go_upto_region 8 with (refine wpl_store4 rfl (.tmp 7) (.tmp 62) rfl _ rfl rfl ((E.out.alloc _).hdr 12 rfl) ?_; intro V8 HV CV; replace E := hid ((E.out.alloc _).chg 12 rfl CV HV); clear CV HV; (try simp only [List.cons_append, List.nil_append, List.set_cons_zero, List.set_cons_succ] at E))
      generalize w4.heap.size = p102 at E ⊢
      obtain ⟨q00, q01, q02, q03⟩ := (E.out.hdr 0 rfl).all
      obtain ⟨q30, q31, q32, q33⟩ := (E.out.hdr 3 rfl).all
      go_wp2_with fail
      clear q00 q01 q02 q03 q30 q31 q32 q33
      refine (joining_First x _ _ _ _ _ _ (.mk x.kind l4 [] []) _ _ none 0 none 0 _ _ (E.out.arr 1 rfl) (E.out.arr 8 rfl) hcx.out ⟨hc4.out, Nat.le_refl _, Nat.le_refl _⟩).mono ?_
      intro e w5 h
      obtain ⟨s103, c103, n103, m103, i103, j103, rfl, hA, hb, hC103⟩ := h.eq EF.out.1.2.symm EF.out.1.1
      replace E := hid ((E.out.up hb).addArr hA (fun b _ hq => E.out.res (Ext.refl _) hq))
      replace hC103 := hid hC103
      clear hA hb h
      (try simp only [List.cons_append, List.nil_append, List.set_cons_zero, List.set_cons_succ] at E)
      go_upto_region 9 with (refine wpl_store4 rfl (.tmp 9) (.tmp 68) rfl _ rfl rfl ((E.out.alloc _).hdr 14 rfl) ?_; intro V8 HV CV; replace E := hid ((E.out.alloc _).chg 14 rfl CV HV); clear CV HV; (try simp only [List.cons_append, List.nil_append, List.set_cons_zero, List.set_cons_succ] at E))
      generalize w5.heap.size = p103 at E ⊢
      obtain ⟨q30, q31, q32, q33⟩ := (E.out.hdr 3 rfl).all
      obtain ⟨q00, q01, q02, q03⟩ := (E.out.hdr 0 rfl).all
      go_wp2_with fail
      clear q30 q31 q32 q33 q00 q01 q02 q03
      refine (joining_First (.mk x.kind l4 [] []) _ _ none 0 none 0 x _ _ _ _ _ _ _ _ (E.out.arr 8 rfl) (E.out.arr 1 rfl) ⟨hc4.out, Nat.le_refl _, Nat.le_refl _⟩ hcx.out).mono ?_
      intro e w6 h
      obtain ⟨s104, c104, n104, m104, i104, j104, rfl, hA, hb, hC104⟩ := h.eq EF.out.2.2.symm EF.out.2.1
      replace E := hid ((E.out.up hb).addArr hA (fun b _ hq => E.out.res (Ext.refl _) hq))
      replace hC104 := hid hC104
      clear hA hb h
      (try simp only [List.cons_append, List.nil_append, List.set_cons_zero, List.set_cons_succ] at E)
      go_upto_region 10 with (refine wpl_store4 rfl (.tmp 11) (.tmp 74) rfl _ rfl rfl ((E.out.alloc _).hdr 16 rfl) ?_; intro V8 HV CV; replace E := hid ((E.out.alloc _).chg 16 rfl CV HV); clear CV HV; (try simp only [List.cons_append, List.nil_append, List.set_cons_zero, List.set_cons_succ] at E))
      generalize w6.heap.size = p104 at E ⊢
      obtain ⟨q100, q101, q102, q103⟩ := (E.out.hdr 10 rfl).all
      obtain ⟨q00, q01, q02, q03⟩ := (E.out.hdr 0 rfl).all
      go_wp2_with fail
      clear q100 q101 q102 q103 q00 q01 q02 q03
      refine (ref03_Same x x _ _ _ _ _ _ _ _ _ _ _ _ _ _ _ (E.out.arr 9 rfl) (E.out.arr 1 rfl)).mono ?_
      rintro e w7 ⟨rfl, hb⟩
      replace E := hid (E.out.up hb)
      clear hb
      rw [show sameB x x = true from sameB_self _]
      obtain ⟨q120, q121, q122, q123⟩ := (E.out.hdr 12 rfl).all
      obtain ⟨q00, q01, q02, q03⟩ := (E.out.hdr 0 rfl).all
      go_wp2_with fail
      clear q120 q121 q122 q123 q00 q01 q02 q03
      refine (ref03_Same x x _ _ _ _ _ _ _ _ _ _ _ _ _ _ _ (E.out.arr 11 rfl) (E.out.arr 1 rfl)).mono ?_
      rintro e w8 ⟨rfl, hb⟩
      replace E := hid (E.out.up hb)
      clear hb
      rw [show sameB x x = true from sameB_self _]
      obtain ⟨q140, q141, q142, q143⟩ := (E.out.hdr 14 rfl).all
      obtain ⟨q00, q01, q02, q03⟩ := (E.out.hdr 0 rfl).all
      go_wp2_with fail
      clear q140 q141 q142 q143 q00 q01 q02 q03
      refine (ref03_Same x x _ _ _ _ _ _ _ _ _ _ _ _ _ _ _ (E.out.arr 13 rfl) (E.out.arr 1 rfl)).mono ?_
      rintro e w10 ⟨rfl, hb⟩
      replace E := hid (E.out.up hb)
      clear hb
      rw [show sameB x x = true from sameB_self _]
      obtain ⟨q160, q161, q162, q163⟩ := (E.out.hdr 16 rfl).all
      obtain ⟨q00, q01, q02, q03⟩ := (E.out.hdr 0 rfl).all
      go_wp2_with fail
      clear q160 q161 q162 q163 q00 q01 q02 q03
      refine (ref03_Same x x _ _ _ _ _ _ _ _ _ _ _ _ _ _ _ (E.out.arr 15 rfl) (E.out.arr 1 rfl)).mono ?_
      rintro e w11 ⟨rfl, hb⟩
      replace E := hid (E.out.up hb)
      clear hb
      rw [show sameB x x = true from sameB_self _]
      go_wp2_with (go_at_call 16; refine (law20_example _).mono ?_; rintro e w9 ⟨rfl, hb9⟩)
      exact hR.out _ _ ⟨rfl, (E.out.up hb9).ext⟩
    case neg =>
      obtain ⟨q00, q01, q02, q03⟩ := (E.out.hdr 0 rfl).all
      go_upto_region 6 with (first
        | (refine wpl_build1 rfl 0 rfl ?_; replace E := hid (E.out.addRowI (own_lit1 (d := 0) (Nat.le_refl _)) (ext_alloc _ _)); generalize World.alloc _ (.cells #[.int .i64 0] 3) = V6 at E ⊢; (try simp only [List.cons_append, List.nil_append, List.set_cons_zero, List.set_cons_succ] at E); clear q00 q01 q02 q03; obtain ⟨q00, q01, q02, q03⟩ := (E.out.hdr 0 rfl).all)
        | (at_builtin; refine wplE_appI E.out 6 rfl rfl (.tmp 46) (.tmp 49) rfl rfl _ _ _ l3 (by rw [n3.out]; rfl) (hl3.out ▸ ((E.out.arr 1 rfl).shape.cut 1)) (by have q1 := n3.out; have q2 := hxk.out; (try simp only [List.length_nil, List.length_cons]); omega) ?_; intro V4 a4 k4 E1; rw [← hl4.out] at E1 ⊢; clear E; have E := hid E1; clear E1; (try simp only [List.cons_append, List.nil_append, List.set_cons_zero, List.set_cons_succ] at E))
        | (refine wpl_store1 rfl (.tmp 51) (.tmp 50) rfl p4 rfl rfl (E.out.hdr 3 rfl) ?_; intro V HV CV; replace E := hid (E.out.chg 3 rfl CV HV); clear HV CV; (try simp only [List.cons_append, List.nil_append, List.set_cons_zero, List.set_cons_succ] at E)))
      clear q00 q01 q02 q03
      have hc4 := OwnI.cap (E.out.rowI 6 rfl)
      have n4 : Hid (l4.length = k + 1) := hid (by rw [hl4.out, List.length_append, n3.out, hxk.out]; simp; omega)
      replace E := hid (E.out.doneI 6 rfl (by rw [n4.out]; omega))
      (try simp only [List.cons_append, List.nil_append, List.set_cons_zero, List.set_cons_succ] at E)
      replace hc2 := hid hc2
      replace hc4 := hid hc4
      replace E := hid ((E.out.addArr (vec_at (k := x.kind) (E.out.ints 4 rfl) (IntsAt.nil _ _ none)) (fun _ _ h => h)).addArr (vec_at (k := x.kind) (E.out.ints 6 rfl) (IntsAt.nil _ _ none)) (fun _ _ h => h))
      (try simp only [List.cons_append, List.nil_append, List.set_cons_zero, List.set_cons_succ] at E)
      clear s0 s1' s2'
      obtain ⟨q00, q01, q02, q03⟩ := (E.out.hdr 0 rfl).all
      obtain ⟨q20, q21, q22, q23⟩ := (E.out.hdr 2 rfl).all
      go_wp2_with fail
      clear q00 q01 q02 q03 q20 q21 q22 q23
      refine (joining_Last x _ _ _ _ _ _ (.mk x.kind l2 [] []) _ _ none 0 none 0 _ _ (E.out.arr 1 rfl) (E.out.arr 7 rfl) hcx.out ⟨hc2.out, Nat.le_refl _, Nat.le_refl _⟩).mono ?_
      intro e w3 h
      obtain ⟨s101, c101, n101, m101, i101, j101, rfl, hA, hb, hC101⟩ := h.eq EL.out.1.2.symm EL.out.1.1
      replace E := hid ((E.out.up hb).addArr hA (fun b _ hq => E.out.res (Ext.refl _) hq))
      replace hC101 := hid hC101
      clear hA hb h
      (try simp only [List.cons_append, List.nil_append, List.set_cons_zero, List.set_cons_succ] at E)
      go_upto_region 7 with (refine wpl_store4 rfl (.tmp 5) (.tmp 56) rfl _ rfl rfl ((E.out.alloc _).hdr 10 rfl) ?_; intro V8 HV CV; replace E := hid ((E.out.alloc _).chg 10 rfl CV HV); clear CV HV; (try simp only [List.cons_append, List.nil_append, List.set_cons_zero, List.set_cons_succ] at E))
      generalize w3.heap.size = p101 at E ⊢
      obtain ⟨q20, q21, q22, q23⟩ := (E.out.hdr 2 rfl).all
      obtain ⟨q00, q01, q02, q03⟩ := (E.out.hdr 0 rfl).all
      go_wp2_with fail
      clear q20 q21 q22 q23 q00 q01 q02 q03
      refine (joining_Last (.mk x.kind l2 [] []) _ _ none 0 none 0 x _ _ _ _ _ _ _ _ (E.out.arr 7 rfl) (E.out.arr 1 rfl) ⟨hc2.out, Nat.le_refl _, Nat.le_refl _⟩ hcx.out).mono ?_
      intro e w4 h
      obtain ⟨s102, c102, n102, m102, i102, j102, rfl, hA, hb, hC102⟩ := h.eq EL.out.2.2.symm EL.out.2.1
      replace E := hid ((E.out.up hb).addArr hA (fun b _ hq => E.out.res (Ext.refl _) hq))
      replace hC102 := hid hC102
      clear hA hb h
      (try simp only [List.cons_append, List.nil_append, List.set_cons_zero, List.set_cons_succ] at E)
      go_upto_region 8 with (refine wpl_store4 rfl (.tmp 7) (.tmp 62) rfl _ rfl rfl ((E.out.alloc _).hdr 12 rfl) ?_; intro V8 HV CV; replace E := hid ((E.out.alloc _).chg 12 rfl CV HV); clear CV HV; (try simp only [List.cons_append, List.nil_append, List.set_cons_zero, List.set_cons_succ] at E))
      generalize w4.heap.size = p102 at E ⊢
      obtain ⟨q00, q01, q02, q03⟩ := (E.out.hdr 0 rfl).all
      obtain ⟨q30, q31, q32, q33⟩ := (E.out.hdr 3 rfl).all
      go_wp2_with fail
      clear q00 q01 q02 q03 q30 q31 q32 q33
      refine (joining_First x _ _ _ _ _ _ (.mk x.kind l4 [] []) _ _ none 0 none 0 _ _ (E.out.arr 1 rfl) (E.out.arr 8 rfl) hcx.out ⟨hc4.out, Nat.le_refl _, Nat.le_refl _⟩).mono ?_
      intro e w5 h
      obtain ⟨s103, c103, n103, m103, i103, j103, rfl, hA, hb, hC103⟩ := h.eq EF.out.1.2.symm EF.out.1.1
      replace E := hid ((E.out.up hb).addArr hA (fun b _ hq => E.out.res (Ext.refl _) hq))
      replace hC103 := hid hC103
      clear hA hb h
      (try simp only [List.cons_append, List.nil_append, List.set_cons_zero, List.set_cons_succ] at E)
      go_upto_region 9 with (refine wpl_store4 rfl (.tmp 9) (.tmp 68) rfl _ rfl rfl ((E.out.alloc _).hdr 14 rfl) ?_; intro V8 HV CV; replace E := hid ((E.out.alloc _).chg 14 rfl CV HV); clear CV HV; (try simp only [List.cons_append, List.nil_append, List.set_cons_zero, List.set_cons_succ] at E))
      generalize w5.heap.size = p103 at E ⊢
      obtain ⟨q30, q31, q32, q33⟩ := (E.out.hdr 3 rfl).all
      obtain ⟨q00, q01, q02, q03⟩ := (E.out.hdr 0 rfl).all
      go_wp2_with fail
      clear q30 q31 q32 q33 q00 q01 q02 q03
      refine (joining_First (.mk x.kind l4 [] []) _ _ none 0 none 0 x _ _ _ _ _ _ _ _ (E.out.arr 8 rfl) (E.out.arr 1 rfl) ⟨hc4.out, Nat.le_refl _, Nat.le_refl _⟩ hcx.out).mono ?_
      intro e w6 h
      obtain ⟨s104, c104, n104, m104, i104, j104, rfl, hA, hb, hC104⟩ := h.eq EF.out.2.2.symm EF.out.2.1
      replace E := hid ((E.out.up hb).addArr hA (fun b _ hq => E.out.res (Ext.refl _) hq))
      replace hC104 := hid hC104
      clear hA hb h
      (try simp only [List.cons_append, List.nil_append, List.set_cons_zero, List.set_cons_succ] at E)
      go_upto_region 10 with (refine wpl_store4 rfl (.tmp 11) (.tmp 74) rfl _ rfl rfl ((E.out.alloc _).hdr 16 rfl) ?_; intro V8 HV CV; replace E := hid ((E.out.alloc _).chg 16 rfl CV HV); clear CV HV; (try simp only [List.cons_append, List.nil_append, List.set_cons_zero, List.set_cons_succ] at E))
      generalize w6.heap.size = p104 at E ⊢
      obtain ⟨q100, q101, q102, q103⟩ := (E.out.hdr 10 rfl).all
      obtain ⟨q00, q01, q02, q03⟩ := (E.out.hdr 0 rfl).all
      go_wp2_with fail
      clear q100 q101 q102 q103 q00 q01 q02 q03
      refine (ref03_Same x x _ _ _ _ _ _ _ _ _ _ _ _ _ _ _ (E.out.arr 9 rfl) (E.out.arr 1 rfl)).mono ?_
      rintro e w7 ⟨rfl, hb⟩
      replace E := hid (E.out.up hb)
      clear hb
      rw [show sameB x x = true from sameB_self _]
      obtain ⟨q120, q121, q122, q123⟩ := (E.out.hdr 12 rfl).all
      obtain ⟨q00, q01, q02, q03⟩ := (E.out.hdr 0 rfl).all
      go_wp2_with fail
      clear q120 q121 q122 q123 q00 q01 q02 q03
      refine (ref03_Same x x _ _ _ _ _ _ _ _ _ _ _ _ _ _ _ (E.out.arr 11 rfl) (E.out.arr 1 rfl)).mono ?_
      rintro e w8 ⟨rfl, hb⟩
      replace E := hid (E.out.up hb)
      clear hb
      rw [show sameB x x = true from sameB_self _]
      obtain ⟨q140, q141, q142, q143⟩ := (E.out.hdr 14 rfl).all
      obtain ⟨q00, q01, q02, q03⟩ := (E.out.hdr 0 rfl).all
      go_wp2_with fail
      clear q140 q141 q142 q143 q00 q01 q02 q03
      refine (ref03_Same x x _ _ _ _ _ _ _ _ _ _ _ _ _ _ _ (E.out.arr 13 rfl) (E.out.arr 1 rfl)).mono ?_
      rintro e w10 ⟨rfl, hb⟩
      replace E := hid (E.out.up hb)
      clear hb
      rw [show sameB x x = true from sameB_self _]
      obtain ⟨q160, q161, q162, q163⟩ := (E.out.hdr 16 rfl).all
      obtain ⟨q00, q01, q02, q03⟩ := (E.out.hdr 0 rfl).all
      go_wp2_with fail
      clear q160 q161 q162 q163 q00 q01 q02 q03
      refine (ref03_Same x x _ _ _ _ _ _ _ _ _ _ _ _ _ _ _ (E.out.arr 15 rfl) (E.out.arr 1 rfl)).mono ?_
      rintro e w11 ⟨rfl, hb⟩
      replace E := hid (E.out.up hb)
      clear hb
      rw [show sameB x x = true from sameB_self _]
      go_wp2_with (go_at_call 16; refine (law20_example _).mono ?_; rintro e w9 ⟨rfl, hb9⟩)
      exact hR.out _ _ ⟨rfl, (E.out.up hb9).ext⟩
end Go.Proofs.Ythhffneibcpbdaa
