/- The law JoiningAssociates: true. Conditions: the arrays are read; a slice's capacity is at least its length. -/
import Derived.Test.YthhffneibcpbdaaLAW20X
import Derived.Test.YthhffneibcpbdaaGI
set_option linter.unusedVariables false
set_option linter.unusedSimpArgs false
namespace Go.Proofs.Ythhffneibcpbdaa
open Go.RowKit Go.Sort
attribute [local go_sem ↓] run_max2 run_min2
attribute [local go_sem] eql_ints_nil eql_arrs_nil
theorem assocS {last : Bool} {x y z : Arr} (h : Eqr x y) (g : Eqr y z) (E1 : joinE last x y = 0) (E2 : joinE last y z = 0) :
    joinE last x (joinS last y z) = joinE last (joinS last x y) z ∧ joinS last x (joinS last y z) = joinS last (joinS last x y) z := by
  have a : joinS last x y = joinA last x y := if_pos E1
  have b : joinS last y z = joinA last y z := if_pos E2
  have c := join_assoc h g (joinOk E1) (joinOk E2)
  rw [a, b]; exact ⟨c.1.symm, c.2.symm⟩
set_option maxRecDepth 100000 in
set_option maxHeartbeats 8000000 in
theorem law20_JoiningAssociates (x : Arr) (sx : Option Addr) (cx : Nat) (nx : Option Addr) (mx : Nat) (ix : Option Addr) (jx : Nat) (y : Arr) (sy : Option Addr) (cy : Nat) (ny : Option Addr) (my : Nat) (iy : Option Addr) (jy : Nat) (z : Arr) (sz : Option Addr) (cz : Nat) (nz : Option Addr) (mz : Nat) (iz : Option Addr) (jz : Nat) (S : Nat → Prop) (w : World) (h : ArrAt w S x sx nx ix) (g : ArrAt w S y sy ny iy) (k : ArrAt w S z sz nz iz) (hcx : x.shape.length ≤ cx ∧ x.nums.length ≤ mx ∧ x.items.length ≤ jx) (hcy : y.shape.length ≤ cy ∧ y.nums.length ≤ my ∧ y.items.length ≤ jy) (hcz : z.shape.length ≤ cz ∧ z.nums.length ≤ mz ∧ z.items.length ≤ jz) :
    Calls Try.prog 6 #[.agg #[.int .i64 x.kind, .slice sx x.shape.length cx, .slice nx x.nums.length mx, .slice ix x.items.length jx], .agg #[.int .i64 y.kind, .slice sy y.shape.length cy, .slice ny y.nums.length my, .slice iy y.items.length jy], .agg #[.int .i64 z.kind, .slice sz z.shape.length cz, .slice nz z.nums.length mz, .slice iz z.items.length jz]] w fun e w' => e = .returned (.bool true) ∧ Below w.heap.size w w' := by
  refine calls_post fun R' hR => ?_
  have h0 := hid h
  have g0 := hid g
  have k0 := hid k
  have hsx := h.shape.1
  have hsy := g.shape.1
  have hsz := k.shape.1
  replace hcx := hid hcx
  replace hcy := hid hcy
  replace hcz := hid hcz
  clear h g k
  go_enter Try.func6, Try.ntmps6
  go_upto_region 1 with (fail)
  generalize hEW : (((w).alloc (.cells #[.int .i64 x.kind, .slice sx x.shape.length cx, .slice nx x.nums.length mx, .slice ix x.items.length jx] 26)).alloc (.cells #[.int .i64 y.kind, .slice sy y.shape.length cy, .slice ny y.nums.length my, .slice iy y.items.length jy] 26)).alloc (.cells #[.int .i64 z.kind, .slice sz z.shape.length cz, .slice nz z.nums.length mz, .slice iz z.items.length jz] 26) = W
  have E := hid (env3 w S hEW)
  clear hEW
  replace E := hid (((E.out.arg h0.out).arg g0.out).arg k0.out)
  (try simp only [List.cons_append, List.nil_append, List.set_cons_zero, List.set_cons_succ] at E)
  obtain ⟨q00, q01, q02, q03⟩ := (E.out.hdr 0 rfl).all
  obtain ⟨q10, q11, q12, q13⟩ := (E.out.hdr 1 rfl).all
  obtain ⟨q20, q21, q22, q23⟩ := (E.out.hdr 2 rfl).all
  go_wp2_with fail
  clear q00 q01 q02 q03 q10 q11 q12 q13 q20 q21 q22 q23
  refine (ref03_Small x _ _ _ _ _ _ _ _ (E.out.arr 3 rfl)).mono ?_
  rintro e w1 ⟨b1, rfl, hb⟩
  replace E := hid (E.out.up hb)
  clear hb
  cases b1 with
  | false =>
    go_wp2_with (go_at_call 16; refine (law20_example _).mono ?_; rintro e w9 ⟨rfl, hb9⟩)
    exact hR.out _ _ ⟨rfl, (E.out.up hb9).ext⟩
  | true =>
  obtain ⟨q00, q01, q02, q03⟩ := (E.out.hdr 0 rfl).all
  obtain ⟨q10, q11, q12, q13⟩ := (E.out.hdr 1 rfl).all
  obtain ⟨q20, q21, q22, q23⟩ := (E.out.hdr 2 rfl).all
  go_wp2_with fail
  clear q00 q01 q02 q03 q10 q11 q12 q13 q20 q21 q22 q23
  refine (ref03_Small y _ _ _ _ _ _ _ _ (E.out.arr 4 rfl)).mono ?_
  rintro e w2 ⟨b1, rfl, hb⟩
  replace E := hid (E.out.up hb)
  clear hb
  cases b1 with
  | false =>
    go_wp2_with (go_at_call 16; refine (law20_example _).mono ?_; rintro e w9 ⟨rfl, hb9⟩)
    exact hR.out _ _ ⟨rfl, (E.out.up hb9).ext⟩
  | true =>
  obtain ⟨q00, q01, q02, q03⟩ := (E.out.hdr 0 rfl).all
  obtain ⟨q10, q11, q12, q13⟩ := (E.out.hdr 1 rfl).all
  obtain ⟨q20, q21, q22, q23⟩ := (E.out.hdr 2 rfl).all
  go_wp2_with fail
  clear q00 q01 q02 q03 q10 q11 q12 q13 q20 q21 q22 q23
  refine (ref03_Small z _ _ _ _ _ _ _ _ (E.out.arr 5 rfl)).mono ?_
  rintro e w3 ⟨b1, rfl, hb⟩
  replace E := hid (E.out.up hb)
  clear hb
  cases b1 with
  | false =>
    go_wp2_with (go_at_call 16; refine (law20_example _).mono ?_; rintro e w9 ⟨rfl, hb9⟩)
    exact hR.out _ _ ⟨rfl, (E.out.up hb9).ext⟩
  | true =>
  by_cases c1 : x.shape.length = y.shape.length
  case neg =>
    have cb : ((x.shape.length : Int) != (y.shape.length : Int)) = true := by simp; omega
    replace c1 := hid c1
    obtain ⟨q00, q01, q02, q03⟩ := (E.out.hdr 0 rfl).all
    obtain ⟨q10, q11, q12, q13⟩ := (E.out.hdr 1 rfl).all
    obtain ⟨q20, q21, q22, q23⟩ := (E.out.hdr 2 rfl).all
    go_upto_region 2 with fail
    clear q00 q01 q02 q03 q10 q11 q12 q13 q20 q21 q22 q23
    go_wp2_with (go_at_call 16; refine (law20_example _).mono ?_; rintro e w9 ⟨rfl, hb9⟩)
    exact hR.out _ _ ⟨rfl, (E.out.up hb9).ext⟩
  have cb : ((x.shape.length : Int) != (y.shape.length : Int)) = false := by simp; omega
  by_cases c2 : y.shape.length = z.shape.length
  case neg =>
    have cb2 : ((y.shape.length : Int) != (z.shape.length : Int)) = true := by simp; omega
    replace c1 := hid c1
    replace c2 := hid c2
    obtain ⟨q00, q01, q02, q03⟩ := (E.out.hdr 0 rfl).all
    obtain ⟨q10, q11, q12, q13⟩ := (E.out.hdr 1 rfl).all
    obtain ⟨q20, q21, q22, q23⟩ := (E.out.hdr 2 rfl).all
    go_upto_region 2 with fail
    clear q00 q01 q02 q03 q10 q11 q12 q13 q20 q21 q22 q23
    go_wp2_with (go_at_call 16; refine (law20_example _).mono ?_; rintro e w9 ⟨rfl, hb9⟩)
    exact hR.out _ _ ⟨rfl, (E.out.up hb9).ext⟩
  have cb2 : ((y.shape.length : Int) != (z.shape.length : Int)) = false := by simp; omega
  by_cases c3 : x.shape.length = 0
  case pos =>
    have cb3 : ((x.shape.length : Int) == 0) = true := by simpa using c3
    replace c1 := hid c1
    replace c2 := hid c2
    replace c3 := hid c3
    obtain ⟨q00, q01, q02, q03⟩ := (E.out.hdr 0 rfl).all
    obtain ⟨q10, q11, q12, q13⟩ := (E.out.hdr 1 rfl).all
    obtain ⟨q20, q21, q22, q23⟩ := (E.out.hdr 2 rfl).all
    go_upto_region 2 with fail
    clear q00 q01 q02 q03 q10 q11 q12 q13 q20 q21 q22 q23
    go_wp2_with (go_at_call 16; refine (law20_example _).mono ?_; rintro e w9 ⟨rfl, hb9⟩)
    exact hR.out _ _ ⟨rfl, (E.out.up hb9).ext⟩
  have cb3 : ((x.shape.length : Int) == 0) = false := by simpa using c3
  have Q1 : Hid (Eqr x y) := hid ⟨c1.symm, c3⟩
  have Q2 : Hid (Eqr y z) := hid ⟨c2.symm, by omega⟩
  have AS := hid (fun last E1 E2 => assocS (last := last) Q1.out Q2.out E1 E2)
  replace c1 := hid c1
  replace c2 := hid c2
  replace c3 := hid c3
  obtain ⟨q00, q01, q02, q03⟩ := (E.out.hdr 0 rfl).all
  obtain ⟨q10, q11, q12, q13⟩ := (E.out.hdr 1 rfl).all
  obtain ⟨q20, q21, q22, q23⟩ := (E.out.hdr 2 rfl).all
  go_upto_region 3 with fail
  clear q00 q01 q02 q03 q10 q11 q12 q13 q20 q21 q22 q23
  clear cb cb2 cb3
  obtain ⟨q00, q01, q02, q03⟩ := (E.out.hdr 0 rfl).all
  obtain ⟨q10, q11, q12, q13⟩ := (E.out.hdr 1 rfl).all
  go_wp2_with fail
  clear q00 q01 q02 q03 q10 q11 q12 q13
  refine (joining_Last x _ _ _ _ _ _ y _ _ _ _ _ _ _ _ (E.out.arr 3 rfl) (E.out.arr 4 rfl) hcx.out hcy.out).mono ?_
  intro e w4 h
  obtain ⟨s101, c101, n101, m101, i101, j101, rfl, hA, hb, hC101⟩ := h.eq rfl rfl
  replace E := hid ((E.out.up hb).addArr hA (fun b _ hq => E.out.res (Ext.refl _) hq))
  replace hC101 := hid hC101
  clear hA hb h
  (try simp only [List.cons_append, List.nil_append, List.set_cons_zero, List.set_cons_succ] at E)
  obtain ⟨r101, hr101⟩ : ∃ r, r = joinS true x y := ⟨_, rfl⟩
  rw [← hr101] at E hC101 ⊢
  obtain ⟨e101, he101⟩ : ∃ r, r = joinE true x y := ⟨_, rfl⟩
  rw [← he101]
  replace hr101 := hid hr101
  replace he101 := hid he101
  go_upto_region 4 with (refine wpl_store4 rfl (.tmp 7) (.tmp 61) rfl _ rfl rfl ((E.out.alloc _).hdr 7 rfl) ?_; intro V1 HV CV; replace E := hid ((E.out.alloc _).chg 7 rfl CV HV); clear CV HV; (try simp only [List.cons_append, List.nil_append, List.set_cons_zero, List.set_cons_succ] at E))
  generalize w4.heap.size = p1 at E ⊢
  obtain ⟨q10, q11, q12, q13⟩ := (E.out.hdr 1 rfl).all
  obtain ⟨q20, q21, q22, q23⟩ := (E.out.hdr 2 rfl).all
  go_wp2_with fail
  clear q10 q11 q12 q13 q20 q21 q22 q23
  refine (joining_Last y _ _ _ _ _ _ z _ _ _ _ _ _ _ _ (E.out.arr 4 rfl) (E.out.arr 5 rfl) hcy.out hcz.out).mono ?_
  intro e w5 h
  obtain ⟨s102, c102, n102, m102, i102, j102, rfl, hA, hb, hC102⟩ := h.eq rfl rfl
  replace E := hid ((E.out.up hb).addArr hA (fun b _ hq => E.out.res (Ext.refl _) hq))
  replace hC102 := hid hC102
  clear hA hb h
  (try simp only [List.cons_append, List.nil_append, List.set_cons_zero, List.set_cons_succ] at E)
  obtain ⟨r102, hr102⟩ : ∃ r, r = joinS true y z := ⟨_, rfl⟩
  rw [← hr102] at E hC102 ⊢
  obtain ⟨e102, he102⟩ : ∃ r, r = joinE true y z := ⟨_, rfl⟩
  rw [← he102]
  replace hr102 := hid hr102
  replace he102 := hid he102
  go_upto_region 5 with (refine wpl_store4 rfl (.tmp 9) (.tmp 67) rfl _ rfl rfl ((E.out.alloc _).hdr 9 rfl) ?_; intro V2 HV CV; replace E := hid ((E.out.alloc _).chg 9 rfl CV HV); clear CV HV; (try simp only [List.cons_append, List.nil_append, List.set_cons_zero, List.set_cons_succ] at E))
  generalize w5.heap.size = p2 at E ⊢
  by_cases f1 : e101 = 0
  case neg =>
    have cb : (e101 == 0) = false := by simpa using f1
    replace f1 := hid f1
    go_upto_region 10 with fail
    clear cb
    obtain ⟨q00, q01, q02, q03⟩ := (E.out.hdr 0 rfl).all
    obtain ⟨q10, q11, q12, q13⟩ := (E.out.hdr 1 rfl).all
    go_wp2_with fail
    clear q00 q01 q02 q03 q10 q11 q12 q13
    refine (joining_First x _ _ _ _ _ _ y _ _ _ _ _ _ _ _ (E.out.arr 3 rfl) (E.out.arr 4 rfl) hcx.out hcy.out).mono ?_
    intro e w10 h
    obtain ⟨s201, c201, n201, m201, i201, j201, rfl, hA, hb, hC201⟩ := h.eq rfl rfl
    replace E := hid ((E.out.up hb).addArr hA (fun b _ hq => E.out.res (Ext.refl _) hq))
    replace hC201 := hid hC201
    clear hA hb h
    (try simp only [List.cons_append, List.nil_append, List.set_cons_zero, List.set_cons_succ] at E)
    obtain ⟨r201, hr201⟩ : ∃ r, r = joinS false x y := ⟨_, rfl⟩
    rw [← hr201] at E hC201 ⊢
    obtain ⟨e201, he201⟩ : ∃ r, r = joinE false x y := ⟨_, rfl⟩
    rw [← he201]
    replace hr201 := hid hr201
    replace he201 := hid he201
    go_upto_region 11 with (refine wpl_store4 rfl (.tmp 7) (.tmp 100) rfl _ rfl rfl (E.out.hdr 7 rfl) ?_; intro V5 HV CV; replace E := hid (E.out.chg 7 rfl CV HV); clear CV HV; (try simp only [List.cons_append, List.nil_append, List.set_cons_zero, List.set_cons_succ] at E))
    obtain ⟨q10, q11, q12, q13⟩ := (E.out.hdr 1 rfl).all
    obtain ⟨q20, q21, q22, q23⟩ := (E.out.hdr 2 rfl).all
    go_wp2_with fail
    clear q10 q11 q12 q13 q20 q21 q22 q23
    refine (joining_First y _ _ _ _ _ _ z _ _ _ _ _ _ _ _ (E.out.arr 4 rfl) (E.out.arr 5 rfl) hcy.out hcz.out).mono ?_
    intro e w11 h
    obtain ⟨s202, c202, n202, m202, i202, j202, rfl, hA, hb, hC202⟩ := h.eq rfl rfl
    replace E := hid ((E.out.up hb).addArr hA (fun b _ hq => E.out.res (Ext.refl _) hq))
    replace hC202 := hid hC202
    clear hA hb h
    (try simp only [List.cons_append, List.nil_append, List.set_cons_zero, List.set_cons_succ] at E)
    obtain ⟨r202, hr202⟩ : ∃ r, r = joinS false y z := ⟨_, rfl⟩
    rw [← hr202] at E hC202 ⊢
    obtain ⟨e202, he202⟩ : ∃ r, r = joinE false y z := ⟨_, rfl⟩
    rw [← he202]
    replace hr202 := hid hr202
    replace he202 := hid he202
    go_upto_region 12 with (refine wpl_store4 rfl (.tmp 9) (.tmp 106) rfl _ rfl rfl (E.out.hdr 9 rfl) ?_; intro V6 HV CV; replace E := hid (E.out.chg 9 rfl CV HV); clear CV HV; (try simp only [List.cons_append, List.nil_append, List.set_cons_zero, List.set_cons_succ] at E))
    by_cases f1 : e201 = 0
    case neg =>
      have cb : (e201 == 0) = false := by simpa using f1
      replace f1 := hid f1
      go_upto_region 17 with fail
      go_wp2_with (go_at_call 16; refine (law20_example _).mono ?_; rintro e w9 ⟨rfl, hb9⟩)
      exact hR.out _ _ ⟨rfl, (E.out.up hb9).ext⟩
    have cb : (e201 == 0) = true := by simpa using f1
    by_cases f2 : e202 = 0
    case neg =>
      have cb2 : (e202 == 0) = false := by simpa using f2
      replace f1 := hid f1
      replace f2 := hid f2
      go_upto_region 17 with fail
      go_wp2_with (go_at_call 16; refine (law20_example _).mono ?_; rintro e w9 ⟨rfl, hb9⟩)
      exact hR.out _ _ ⟨rfl, (E.out.up hb9).ext⟩
    have cb2 : (e202 == 0) = true := by simpa using f2
    have A1 := hid (AS.out false (he201.out.symm.trans f1) (he202.out.symm.trans f2))
    rw [← hr201.out, ← hr202.out] at A1
    replace f1 := hid f1
    replace f2 := hid f2
    go_upto_region 13 with fail
    clear cb cb2
    obtain ⟨q70, q71, q72, q73⟩ := (E.out.hdr 7 rfl).all
    obtain ⟨q20, q21, q22, q23⟩ := (E.out.hdr 2 rfl).all
    go_wp2_with fail
    clear q70 q71 q72 q73 q20 q21 q22 q23
    refine (joining_First r201 _ _ _ _ _ _ z _ _ _ _ _ _ _ _ (E.out.arr 10 rfl) (E.out.arr 5 rfl) hC201.out hcz.out).mono ?_
    intro e w12 h
    obtain ⟨s203, c203, n203, m203, i203, j203, rfl, hA, hb, hC203⟩ := h.eq rfl rfl
    replace E := hid ((E.out.up hb).addArr hA (fun b _ hq => E.out.res (Ext.refl _) hq))
    replace hC203 := hid hC203
    clear hA hb h
    (try simp only [List.cons_append, List.nil_append, List.set_cons_zero, List.set_cons_succ] at E)
    obtain ⟨r203, hr203⟩ : ∃ r, r = joinS false r201 z := ⟨_, rfl⟩
    rw [← hr203] at E hC203 ⊢
    obtain ⟨e203, he203⟩ : ∃ r, r = joinE false r201 z := ⟨_, rfl⟩
    rw [← he203]
    replace hr203 := hid hr203
    replace he203 := hid he203
    go_upto_region 14 with (refine wpl_store4 rfl (.tmp 15) (.tmp 118) rfl _ rfl rfl ((E.out.alloc _).hdr 13 rfl) ?_; intro V7 HV CV; replace E := hid ((E.out.alloc _).chg 13 rfl CV HV); clear CV HV; (try simp only [List.cons_append, List.nil_append, List.set_cons_zero, List.set_cons_succ] at E))
    generalize w12.heap.size = p5 at E ⊢
    obtain ⟨q00, q01, q02, q03⟩ := (E.out.hdr 0 rfl).all
    obtain ⟨q90, q91, q92, q93⟩ := (E.out.hdr 9 rfl).all
    go_wp2_with fail
    clear q00 q01 q02 q03 q90 q91 q92 q93
    refine (joining_First x _ _ _ _ _ _ r202 _ _ _ _ _ _ _ _ (E.out.arr 3 rfl) (E.out.arr 11 rfl) hcx.out hC202.out).mono ?_
    intro e w13 h
    obtain ⟨s204, c204, n204, m204, i204, j204, rfl, hA, hb, hC204⟩ := h.eq rfl rfl
    replace E := hid ((E.out.up hb).addArr hA (fun b _ hq => E.out.res (Ext.refl _) hq))
    replace hC204 := hid hC204
    clear hA hb h
    (try simp only [List.cons_append, List.nil_append, List.set_cons_zero, List.set_cons_succ] at E)
    obtain ⟨r204, hr204⟩ : ∃ r, r = joinS false x r202 := ⟨_, rfl⟩
    rw [← hr204] at E hC204 ⊢
    obtain ⟨e204, he204⟩ : ∃ r, r = joinE false x r202 := ⟨_, rfl⟩
    rw [← he204]
    replace hr204 := hid hr204
    replace he204 := hid he204
    go_upto_region 15 with (refine wpl_store4 rfl (.tmp 17) (.tmp 124) rfl _ rfl rfl ((E.out.alloc _).hdr 15 rfl) ?_; intro V8 HV CV; replace E := hid ((E.out.alloc _).chg 15 rfl CV HV); clear CV HV; (try simp only [List.cons_append, List.nil_append, List.set_cons_zero, List.set_cons_succ] at E))
    generalize w13.heap.size = p6 at E ⊢
    have q1 : e204 = e203 := by rw [he204.out, he203.out]; exact A1.out.1
    have q2 : r204 = r203 := by rw [hr204.out, hr203.out]; exact A1.out.2
    subst q1
    subst q2
    have hne : (e204 != e204) = false := by simp
    obtain ⟨q130, q131, q132, q133⟩ := (E.out.hdr 13 rfl).all
    obtain ⟨q150, q151, q152, q153⟩ := (E.out.hdr 15 rfl).all
    go_wp2_with fail
    clear q130 q131 q132 q133 q150 q151 q152 q153
    refine (ref03_Same r204 r204 _ _ _ _ _ _ _ _ _ _ _ _ _ _ _ (E.out.arr 12 rfl) (E.out.arr 14 rfl)).mono ?_
    rintro e w14 ⟨rfl, hb⟩
    replace E := hid (E.out.up hb)
    clear hb
    rw [show sameB r204 r204 = true from sameB_self _]
    clear hne
    go_upto_region 17 with fail
    go_wp2_with (go_at_call 16; refine (law20_example _).mono ?_; rintro e w9 ⟨rfl, hb9⟩)
    exact hR.out _ _ ⟨rfl, (E.out.up hb9).ext⟩
  have cb : (e101 == 0) = true := by simpa using f1
  by_cases f2 : e102 = 0
  case neg =>
    have cb2 : (e102 == 0) = false := by simpa using f2
    replace f1 := hid f1
    replace f2 := hid f2
    go_upto_region 10 with fail
    clear cb cb2
    obtain ⟨q00, q01, q02, q03⟩ := (E.out.hdr 0 rfl).all
    obtain ⟨q10, q11, q12, q13⟩ := (E.out.hdr 1 rfl).all
    go_wp2_with fail
    clear q00 q01 q02 q03 q10 q11 q12 q13
    refine (joining_First x _ _ _ _ _ _ y _ _ _ _ _ _ _ _ (E.out.arr 3 rfl) (E.out.arr 4 rfl) hcx.out hcy.out).mono ?_
    intro e w10 h
    obtain ⟨s201, c201, n201, m201, i201, j201, rfl, hA, hb, hC201⟩ := h.eq rfl rfl
    replace E := hid ((E.out.up hb).addArr hA (fun b _ hq => E.out.res (Ext.refl _) hq))
    replace hC201 := hid hC201
    clear hA hb h
    (try simp only [List.cons_append, List.nil_append, List.set_cons_zero, List.set_cons_succ] at E)
    obtain ⟨r201, hr201⟩ : ∃ r, r = joinS false x y := ⟨_, rfl⟩
    rw [← hr201] at E hC201 ⊢
    obtain ⟨e201, he201⟩ : ∃ r, r = joinE false x y := ⟨_, rfl⟩
    rw [← he201]
    replace hr201 := hid hr201
    replace he201 := hid he201
    go_upto_region 11 with (refine wpl_store4 rfl (.tmp 7) (.tmp 100) rfl _ rfl rfl (E.out.hdr 7 rfl) ?_; intro V5 HV CV; replace E := hid (E.out.chg 7 rfl CV HV); clear CV HV; (try simp only [List.cons_append, List.nil_append, List.set_cons_zero, List.set_cons_succ] at E))
    obtain ⟨q10, q11, q12, q13⟩ := (E.out.hdr 1 rfl).all
    obtain ⟨q20, q21, q22, q23⟩ := (E.out.hdr 2 rfl).all
    go_wp2_with fail
    clear q10 q11 q12 q13 q20 q21 q22 q23
    refine (joining_First y _ _ _ _ _ _ z _ _ _ _ _ _ _ _ (E.out.arr 4 rfl) (E.out.arr 5 rfl) hcy.out hcz.out).mono ?_
    intro e w11 h
    obtain ⟨s202, c202, n202, m202, i202, j202, rfl, hA, hb, hC202⟩ := h.eq rfl rfl
    replace E := hid ((E.out.up hb).addArr hA (fun b _ hq => E.out.res (Ext.refl _) hq))
    replace hC202 := hid hC202
    clear hA hb h
    (try simp only [List.cons_append, List.nil_append, List.set_cons_zero, List.set_cons_succ] at E)
    obtain ⟨r202, hr202⟩ : ∃ r, r = joinS false y z := ⟨_, rfl⟩
    rw [← hr202] at E hC202 ⊢
    obtain ⟨e202, he202⟩ : ∃ r, r = joinE false y z := ⟨_, rfl⟩
    rw [← he202]
    replace hr202 := hid hr202
    replace he202 := hid he202
    go_upto_region 12 with (refine wpl_store4 rfl (.tmp 9) (.tmp 106) rfl _ rfl rfl (E.out.hdr 9 rfl) ?_; intro V6 HV CV; replace E := hid (E.out.chg 9 rfl CV HV); clear CV HV; (try simp only [List.cons_append, List.nil_append, List.set_cons_zero, List.set_cons_succ] at E))
    by_cases f1 : e201 = 0
    case neg =>
      have cb : (e201 == 0) = false := by simpa using f1
      replace f1 := hid f1
      go_upto_region 17 with fail
      go_wp2_with (go_at_call 16; refine (law20_example _).mono ?_; rintro e w9 ⟨rfl, hb9⟩)
      exact hR.out _ _ ⟨rfl, (E.out.up hb9).ext⟩
    have cb : (e201 == 0) = true := by simpa using f1
    by_cases f2 : e202 = 0
    case neg =>
      have cb2 : (e202 == 0) = false := by simpa using f2
      replace f1 := hid f1
      replace f2 := hid f2
      go_upto_region 17 with fail
      go_wp2_with (go_at_call 16; refine (law20_example _).mono ?_; rintro e w9 ⟨rfl, hb9⟩)
      exact hR.out _ _ ⟨rfl, (E.out.up hb9).ext⟩
    have cb2 : (e202 == 0) = true := by simpa using f2
    have A1 := hid (AS.out false (he201.out.symm.trans f1) (he202.out.symm.trans f2))
    rw [← hr201.out, ← hr202.out] at A1
    replace f1 := hid f1
    replace f2 := hid f2
    go_upto_region 13 with fail
    clear cb cb2
    obtain ⟨q70, q71, q72, q73⟩ := (E.out.hdr 7 rfl).all
    obtain ⟨q20, q21, q22, q23⟩ := (E.out.hdr 2 rfl).all
    go_wp2_with fail
    clear q70 q71 q72 q73 q20 q21 q22 q23
    refine (joining_First r201 _ _ _ _ _ _ z _ _ _ _ _ _ _ _ (E.out.arr 10 rfl) (E.out.arr 5 rfl) hC201.out hcz.out).mono ?_
    intro e w12 h
    obtain ⟨s203, c203, n203, m203, i203, j203, rfl, hA, hb, hC203⟩ := h.eq rfl rfl
    replace E := hid ((E.out.up hb).addArr hA (fun b _ hq => E.out.res (Ext.refl _) hq))
    replace hC203 := hid hC203
    clear hA hb h
    (try simp only [List.cons_append, List.nil_append, List.set_cons_zero, List.set_cons_succ] at E)
    obtain ⟨r203, hr203⟩ : ∃ r, r = joinS false r201 z := ⟨_, rfl⟩
    rw [← hr203] at E hC203 ⊢
    obtain ⟨e203, he203⟩ : ∃ r, r = joinE false r201 z := ⟨_, rfl⟩
    rw [← he203]
    replace hr203 := hid hr203
    replace he203 := hid he203
    go_upto_region 14 with (refine wpl_store4 rfl (.tmp 15) (.tmp 118) rfl _ rfl rfl ((E.out.alloc _).hdr 13 rfl) ?_; intro V7 HV CV; replace E := hid ((E.out.alloc _).chg 13 rfl CV HV); clear CV HV; (try simp only [List.cons_append, List.nil_append, List.set_cons_zero, List.set_cons_succ] at E))
    generalize w12.heap.size = p5 at E ⊢
    obtain ⟨q00, q01, q02, q03⟩ := (E.out.hdr 0 rfl).all
    obtain ⟨q90, q91, q92, q93⟩ := (E.out.hdr 9 rfl).all
    go_wp2_with fail
    clear q00 q01 q02 q03 q90 q91 q92 q93
    refine (joining_First x _ _ _ _ _ _ r202 _ _ _ _ _ _ _ _ (E.out.arr 3 rfl) (E.out.arr 11 rfl) hcx.out hC202.out).mono ?_
    intro e w13 h
    obtain ⟨s204, c204, n204, m204, i204, j204, rfl, hA, hb, hC204⟩ := h.eq rfl rfl
    replace E := hid ((E.out.up hb).addArr hA (fun b _ hq => E.out.res (Ext.refl _) hq))
    replace hC204 := hid hC204
    clear hA hb h
    (try simp only [List.cons_append, List.nil_append, List.set_cons_zero, List.set_cons_succ] at E)
    obtain ⟨r204, hr204⟩ : ∃ r, r = joinS false x r202 := ⟨_, rfl⟩
    rw [← hr204] at E hC204 ⊢
    obtain ⟨e204, he204⟩ : ∃ r, r = joinE false x r202 := ⟨_, rfl⟩
    rw [← he204]
    replace hr204 := hid hr204
    replace he204 := hid he204
    go_upto_region 15 with (refine wpl_store4 rfl (.tmp 17) (.tmp 124) rfl _ rfl rfl ((E.out.alloc _).hdr 15 rfl) ?_; intro V8 HV CV; replace E := hid ((E.out.alloc _).chg 15 rfl CV HV); clear CV HV; (try simp only [List.cons_append, List.nil_append, List.set_cons_zero, List.set_cons_succ] at E))
    generalize w13.heap.size = p6 at E ⊢
    have q1 : e204 = e203 := by rw [he204.out, he203.out]; exact A1.out.1
    have q2 : r204 = r203 := by rw [hr204.out, hr203.out]; exact A1.out.2
    subst q1
    subst q2
    have hne : (e204 != e204) = false := by simp
    obtain ⟨q130, q131, q132, q133⟩ := (E.out.hdr 13 rfl).all
    obtain ⟨q150, q151, q152, q153⟩ := (E.out.hdr 15 rfl).all
    go_wp2_with fail
    clear q130 q131 q132 q133 q150 q151 q152 q153
    refine (ref03_Same r204 r204 _ _ _ _ _ _ _ _ _ _ _ _ _ _ _ (E.out.arr 12 rfl) (E.out.arr 14 rfl)).mono ?_
    rintro e w14 ⟨rfl, hb⟩
    replace E := hid (E.out.up hb)
    clear hb
    rw [show sameB r204 r204 = true from sameB_self _]
    clear hne
    go_upto_region 17 with fail
    go_wp2_with (go_at_call 16; refine (law20_example _).mono ?_; rintro e w9 ⟨rfl, hb9⟩)
    exact hR.out _ _ ⟨rfl, (E.out.up hb9).ext⟩
  have cb2 : (e102 == 0) = true := by simpa using f2
  have A1 := hid (AS.out true (he101.out.symm.trans f1) (he102.out.symm.trans f2))
  rw [← hr101.out, ← hr102.out] at A1
  replace f1 := hid f1
  replace f2 := hid f2
  go_upto_region 6 with fail
  clear cb cb2
  obtain ⟨q70, q71, q72, q73⟩ := (E.out.hdr 7 rfl).all
  obtain ⟨q20, q21, q22, q23⟩ := (E.out.hdr 2 rfl).all
  go_wp2_with fail
  clear q70 q71 q72 q73 q20 q21 q22 q23
  refine (joining_Last r101 _ _ _ _ _ _ z _ _ _ _ _ _ _ _ (E.out.arr 6 rfl) (E.out.arr 5 rfl) hC101.out hcz.out).mono ?_
  intro e w6 h
  obtain ⟨s103, c103, n103, m103, i103, j103, rfl, hA, hb, hC103⟩ := h.eq rfl rfl
  replace E := hid ((E.out.up hb).addArr hA (fun b _ hq => E.out.res (Ext.refl _) hq))
  replace hC103 := hid hC103
  clear hA hb h
  (try simp only [List.cons_append, List.nil_append, List.set_cons_zero, List.set_cons_succ] at E)
  obtain ⟨r103, hr103⟩ : ∃ r, r = joinS true r101 z := ⟨_, rfl⟩
  rw [← hr103] at E hC103 ⊢
  obtain ⟨e103, he103⟩ : ∃ r, r = joinE true r101 z := ⟨_, rfl⟩
  rw [← he103]
  replace hr103 := hid hr103
  replace he103 := hid he103
  go_upto_region 7 with (refine wpl_store4 rfl (.tmp 11) (.tmp 79) rfl _ rfl rfl ((E.out.alloc _).hdr 11 rfl) ?_; intro V3 HV CV; replace E := hid ((E.out.alloc _).chg 11 rfl CV HV); clear CV HV; (try simp only [List.cons_append, List.nil_append, List.set_cons_zero, List.set_cons_succ] at E))
  generalize w6.heap.size = p3 at E ⊢
  obtain ⟨q00, q01, q02, q03⟩ := (E.out.hdr 0 rfl).all
  obtain ⟨q90, q91, q92, q93⟩ := (E.out.hdr 9 rfl).all
  go_wp2_with fail
  clear q00 q01 q02 q03 q90 q91 q92 q93
  refine (joining_Last x _ _ _ _ _ _ r102 _ _ _ _ _ _ _ _ (E.out.arr 3 rfl) (E.out.arr 8 rfl) hcx.out hC102.out).mono ?_
  intro e w7 h
  obtain ⟨s104, c104, n104, m104, i104, j104, rfl, hA, hb, hC104⟩ := h.eq rfl rfl
  replace E := hid ((E.out.up hb).addArr hA (fun b _ hq => E.out.res (Ext.refl _) hq))
  replace hC104 := hid hC104
  clear hA hb h
  (try simp only [List.cons_append, List.nil_append, List.set_cons_zero, List.set_cons_succ] at E)
  obtain ⟨r104, hr104⟩ : ∃ r, r = joinS true x r102 := ⟨_, rfl⟩
  rw [← hr104] at E hC104 ⊢
  obtain ⟨e104, he104⟩ : ∃ r, r = joinE true x r102 := ⟨_, rfl⟩
  rw [← he104]
  replace hr104 := hid hr104
  replace he104 := hid he104
  go_upto_region 8 with (refine wpl_store4 rfl (.tmp 13) (.tmp 85) rfl _ rfl rfl ((E.out.alloc _).hdr 13 rfl) ?_; intro V4 HV CV; replace E := hid ((E.out.alloc _).chg 13 rfl CV HV); clear CV HV; (try simp only [List.cons_append, List.nil_append, List.set_cons_zero, List.set_cons_succ] at E))
  generalize w7.heap.size = p4 at E ⊢
  have q1 : e104 = e103 := by rw [he104.out, he103.out]; exact A1.out.1
  have q2 : r104 = r103 := by rw [hr104.out, hr103.out]; exact A1.out.2
  subst q1
  subst q2
  have hne : (e104 != e104) = false := by simp
  obtain ⟨q110, q111, q112, q113⟩ := (E.out.hdr 11 rfl).all
  obtain ⟨q130, q131, q132, q133⟩ := (E.out.hdr 13 rfl).all
  go_wp2_with fail
  clear q110 q111 q112 q113 q130 q131 q132 q133
  refine (ref03_Same r104 r104 _ _ _ _ _ _ _ _ _ _ _ _ _ _ _ (E.out.arr 10 rfl) (E.out.arr 12 rfl)).mono ?_
  rintro e w8 ⟨rfl, hb⟩
  replace E := hid (E.out.up hb)
  clear hb
  rw [show sameB r104 r104 = true from sameB_self _]
  clear hne
  go_upto_region 10 with fail
  clear A1 hr101 hr102 hr103 hr104 he101 he102 he103 he104 f1 f2
  obtain ⟨q00, q01, q02, q03⟩ := (E.out.hdr 0 rfl).all
  obtain ⟨q10, q11, q12, q13⟩ := (E.out.hdr 1 rfl).all
  go_wp2_with fail
  clear q00 q01 q02 q03 q10 q11 q12 q13
  refine (joining_First x _ _ _ _ _ _ y _ _ _ _ _ _ _ _ (E.out.arr 3 rfl) (E.out.arr 4 rfl) hcx.out hcy.out).mono ?_
  intro e w10 h
  obtain ⟨s201, c201, n201, m201, i201, j201, rfl, hA, hb, hC201⟩ := h.eq rfl rfl
  replace E := hid ((E.out.up hb).addArr hA (fun b _ hq => E.out.res (Ext.refl _) hq))
  replace hC201 := hid hC201
  clear hA hb h
  (try simp only [List.cons_append, List.nil_append, List.set_cons_zero, List.set_cons_succ] at E)
  obtain ⟨r201, hr201⟩ : ∃ r, r = joinS false x y := ⟨_, rfl⟩
  rw [← hr201] at E hC201 ⊢
  obtain ⟨e201, he201⟩ : ∃ r, r = joinE false x y := ⟨_, rfl⟩
  rw [← he201]
  replace hr201 := hid hr201
  replace he201 := hid he201
  go_upto_region 11 with (refine wpl_store4 rfl (.tmp 7) (.tmp 100) rfl _ rfl rfl (E.out.hdr 7 rfl) ?_; intro V5 HV CV; replace E := hid (E.out.chg 7 rfl CV HV); clear CV HV; (try simp only [List.cons_append, List.nil_append, List.set_cons_zero, List.set_cons_succ] at E))
  obtain ⟨q10, q11, q12, q13⟩ := (E.out.hdr 1 rfl).all
  obtain ⟨q20, q21, q22, q23⟩ := (E.out.hdr 2 rfl).all
  go_wp2_with fail
  clear q10 q11 q12 q13 q20 q21 q22 q23
  refine (joining_First y _ _ _ _ _ _ z _ _ _ _ _ _ _ _ (E.out.arr 4 rfl) (E.out.arr 5 rfl) hcy.out hcz.out).mono ?_
  intro e w11 h
  obtain ⟨s202, c202, n202, m202, i202, j202, rfl, hA, hb, hC202⟩ := h.eq rfl rfl
  replace E := hid ((E.out.up hb).addArr hA (fun b _ hq => E.out.res (Ext.refl _) hq))
  replace hC202 := hid hC202
  clear hA hb h
  (try simp only [List.cons_append, List.nil_append, List.set_cons_zero, List.set_cons_succ] at E)
  obtain ⟨r202, hr202⟩ : ∃ r, r = joinS false y z := ⟨_, rfl⟩
  rw [← hr202] at E hC202 ⊢
  obtain ⟨e202, he202⟩ : ∃ r, r = joinE false y z := ⟨_, rfl⟩
  rw [← he202]
  replace hr202 := hid hr202
  replace he202 := hid he202
  go_upto_region 12 with (refine wpl_store4 rfl (.tmp 9) (.tmp 106) rfl _ rfl rfl (E.out.hdr 9 rfl) ?_; intro V6 HV CV; replace E := hid (E.out.chg 9 rfl CV HV); clear CV HV; (try simp only [List.cons_append, List.nil_append, List.set_cons_zero, List.set_cons_succ] at E))
  by_cases f1 : e201 = 0
  case neg =>
    have cb : (e201 == 0) = false := by simpa using f1
    replace f1 := hid f1
    go_upto_region 17 with fail
    go_wp2_with (go_at_call 16; refine (law20_example _).mono ?_; rintro e w9 ⟨rfl, hb9⟩)
    exact hR.out _ _ ⟨rfl, (E.out.up hb9).ext⟩
  have cb : (e201 == 0) = true := by simpa using f1
  by_cases f2 : e202 = 0
  case neg =>
    have cb2 : (e202 == 0) = false := by simpa using f2
    replace f1 := hid f1
    replace f2 := hid f2
    go_upto_region 17 with fail
    go_wp2_with (go_at_call 16; refine (law20_example _).mono ?_; rintro e w9 ⟨rfl, hb9⟩)
    exact hR.out _ _ ⟨rfl, (E.out.up hb9).ext⟩
  have cb2 : (e202 == 0) = true := by simpa using f2
  have A1 := hid (AS.out false (he201.out.symm.trans f1) (he202.out.symm.trans f2))
  rw [← hr201.out, ← hr202.out] at A1
  replace f1 := hid f1
  replace f2 := hid f2
  go_upto_region 13 with fail
  clear cb cb2
  obtain ⟨q70, q71, q72, q73⟩ := (E.out.hdr 7 rfl).all
  obtain ⟨q20, q21, q22, q23⟩ := (E.out.hdr 2 rfl).all
  go_wp2_with fail
  clear q70 q71 q72 q73 q20 q21 q22 q23
  refine (joining_First r201 _ _ _ _ _ _ z _ _ _ _ _ _ _ _ (E.out.arr 14 rfl) (E.out.arr 5 rfl) hC201.out hcz.out).mono ?_
  intro e w12 h
  obtain ⟨s203, c203, n203, m203, i203, j203, rfl, hA, hb, hC203⟩ := h.eq rfl rfl
  replace E := hid ((E.out.up hb).addArr hA (fun b _ hq => E.out.res (Ext.refl _) hq))
  replace hC203 := hid hC203
  clear hA hb h
  (try simp only [List.cons_append, List.nil_append, List.set_cons_zero, List.set_cons_succ] at E)
  obtain ⟨r203, hr203⟩ : ∃ r, r = joinS false r201 z := ⟨_, rfl⟩
  rw [← hr203] at E hC203 ⊢
  obtain ⟨e203, he203⟩ : ∃ r, r = joinE false r201 z := ⟨_, rfl⟩
  rw [← he203]
  replace hr203 := hid hr203
  replace he203 := hid he203
  go_upto_region 14 with (refine wpl_store4 rfl (.tmp 15) (.tmp 118) rfl _ rfl rfl ((E.out.alloc _).hdr 17 rfl) ?_; intro V7 HV CV; replace E := hid ((E.out.alloc _).chg 17 rfl CV HV); clear CV HV; (try simp only [List.cons_append, List.nil_append, List.set_cons_zero, List.set_cons_succ] at E))
  generalize w12.heap.size = p5 at E ⊢
  obtain ⟨q00, q01, q02, q03⟩ := (E.out.hdr 0 rfl).all
  obtain ⟨q90, q91, q92, q93⟩ := (E.out.hdr 9 rfl).all
  go_wp2_with fail
  clear q00 q01 q02 q03 q90 q91 q92 q93
  refine (joining_First x _ _ _ _ _ _ r202 _ _ _ _ _ _ _ _ (E.out.arr 3 rfl) (E.out.arr 15 rfl) hcx.out hC202.out).mono ?_
  intro e w13 h
  obtain ⟨s204, c204, n204, m204, i204, j204, rfl, hA, hb, hC204⟩ := h.eq rfl rfl
  replace E := hid ((E.out.up hb).addArr hA (fun b _ hq => E.out.res (Ext.refl _) hq))
  replace hC204 := hid hC204
  clear hA hb h
  (try simp only [List.cons_append, List.nil_append, List.set_cons_zero, List.set_cons_succ] at E)
  obtain ⟨r204, hr204⟩ : ∃ r, r = joinS false x r202 := ⟨_, rfl⟩
  rw [← hr204] at E hC204 ⊢
  obtain ⟨e204, he204⟩ : ∃ r, r = joinE false x r202 := ⟨_, rfl⟩
  rw [← he204]
  replace hr204 := hid hr204
  replace he204 := hid he204
  go_upto_region 15 with (refine wpl_store4 rfl (.tmp 17) (.tmp 124) rfl _ rfl rfl ((E.out.alloc _).hdr 19 rfl) ?_; intro V8 HV CV; replace E := hid ((E.out.alloc _).chg 19 rfl CV HV); clear CV HV; (try simp only [List.cons_append, List.nil_append, List.set_cons_zero, List.set_cons_succ] at E))
  generalize w13.heap.size = p6 at E ⊢
  have q1 : e204 = e203 := by rw [he204.out, he203.out]; exact A1.out.1
  have q2 : r204 = r203 := by rw [hr204.out, hr203.out]; exact A1.out.2
  subst q1
  subst q2
  have hne : (e204 != e204) = false := by simp
  obtain ⟨q170, q171, q172, q173⟩ := (E.out.hdr 17 rfl).all
  obtain ⟨q190, q191, q192, q193⟩ := (E.out.hdr 19 rfl).all
  go_wp2_with fail
  clear q170 q171 q172 q173 q190 q191 q192 q193
  refine (ref03_Same r204 r204 _ _ _ _ _ _ _ _ _ _ _ _ _ _ _ (E.out.arr 16 rfl) (E.out.arr 18 rfl)).mono ?_
  rintro e w14 ⟨rfl, hb⟩
  replace E := hid (E.out.up hb)
  clear hb
  rw [show sameB r204 r204 = true from sameB_self _]
  clear hne
  go_upto_region 17 with fail
  go_wp2_with (go_at_call 16; refine (law20_example _).mono ?_; rintro e w9 ⟨rfl, hb9⟩)
  exact hR.out _ _ ⟨rfl, (E.out.up hb9).ext⟩
end Go.Proofs.Ythhffneibcpbdaa
