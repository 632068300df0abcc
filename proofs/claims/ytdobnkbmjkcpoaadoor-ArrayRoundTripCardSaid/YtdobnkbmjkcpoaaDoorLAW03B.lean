/- The laws ArrayOf and ArrayRoundTrip: true. Conditions: the arrays are read; the tables of unicode/utf8 lie as their initialisers lay them. -/
import Derived.Test.YtdobnkbmjkcpoaaDoorLAW03A
import Derived.Test.YtdobnkbmjkcpoaaDoorP03
set_option linter.unusedVariables false
set_option linter.unusedSimpArgs false
namespace Go.Proofs.YtdobnkbmjkcpoaaDoor
open Go.RowKit Go.Sort
attribute [local go_sem ↓] run_max2 run_min2
attribute [local go_sem] eql_ints_nil eql_arrs_nil
set_option maxRecDepth 100000 in
set_option maxHeartbeats 8000000 in
theorem law03_ArrayOf (s : List Int) (so : Option Addr) (sc : Nat) (x : Arr) (sx : Option Addr) (cx : Nat) (nx : Option Addr) (mx : Nat) (ix : Option Addr) (jx : Nat) (S : Nat → Prop) (w : World) (g : IntsAt w S so s) (h : ArrAt w S x sx nx ix) (hT : Tabs w) :
    Calls Tryd.prog 8 #[.slice so s.length sc, .agg #[.int .i64 x.kind, .slice sx x.shape.length cx, .slice nx x.nums.length mx, .slice ix x.items.length jx]] w fun e w' => e = .returned (.bool true) ∧ Below w.heap.size w w' := by
  refine calls_post fun R' hR => ?_
  have h0 := hid h
  have g0 := hid g
  have hsl := g.1
  clear h g
  go_enter Tryd.func8, Tryd.ntmps8
  go_upto_region 1 with (fail)
  generalize hEW : (w).alloc (.cells #[.int .i64 x.kind, .slice sx x.shape.length cx, .slice nx x.nums.length mx, .slice ix x.items.length jx] 26) = W
  have E := hid (env1 w S hEW)
  clear hEW
  replace E := hid ((E.out.arg h0.out).argI g0.out)
  (try simp only [List.cons_append, List.nil_append, List.set_cons_zero, List.set_cons_succ] at E)
  obtain ⟨q00, q01, q02, q03⟩ := (E.out.hdr 0 rfl).all
  go_wp2_with fail
  clear q00 q01 q02 q03
  refine (ref03_Small x _ _ _ _ _ _ _ _ (E.out.arr 1 rfl)).mono ?_
  rintro e w1 ⟨b1, rfl, hb⟩
  replace E := hid (E.out.up hb)
  clear hb
  cases b1 with
  | false =>
    go_wp2_with (go_at_call 12; refine (law03_example _ (Utf8Tabs_below hT E.out.ext)).mono ?_; rintro e w9 ⟨rfl, hb9⟩)
    exact hR.out _ _ ⟨rfl, (E.out.up hb9).ext⟩
  | true =>
  by_cases l20 : 20 < s.length
  case pos =>
    have lb : (20 : Int) < (s.length : Int) := by omega
    go_wp2_with (go_at_call 12; refine (law03_example _ (Utf8Tabs_below hT E.out.ext)).mono ?_; rintro e w9 ⟨rfl, hb9⟩)
    exact hR.out _ _ ⟨rfl, (E.out.up hb9).ext⟩
  have lb : ¬ (20 : Int) < (s.length : Int) := by omega
  go_wp2_with fail
  refine (ref03_Dims s _ _ _ _ (E.out.ints 2 rfl)).mono ?_
  rintro e w2 ⟨rfl, rfl⟩
  by_cases d : dimsE s = 0
  case neg =>
    have db : (dimsE s == 0) = false := beq_eq_false_iff_ne.2 d
    replace d := hid d
    go_upto_region 3 with fail
    clear lb db
    obtain ⟨q00, q01, q02, q03⟩ := (E.out.hdr 0 rfl).all
    go_wp2_with fail
    clear q00 q01 q02 q03
    refine (array_Of s _ _ x _ _ _ _ _ _ _ _ (E.out.arr 1 rfl) (E.out.ints 2 rfl)).mono ?_
    intro e w3 h
    obtain ⟨s101, c101, n101, m101, i101, j101, rfl, hA, hb, hC101⟩ := h.eq rfl rfl
    replace E := hid ((E.out.up hb).addArr hA (fun b _ hq => E.out.res (Ext.refl _) hq))
    replace hC101 := hid hC101
    clear hA hb h
    (try simp only [List.cons_append, List.nil_append, List.set_cons_zero, List.set_cons_succ] at E)
    obtain ⟨r, hr⟩ : ∃ r, r = ofS s x := ⟨_, rfl⟩
    rw [← hr] at E hC101 ⊢
    obtain ⟨e1, he1⟩ : ∃ r, r = ofE s x := ⟨_, rfl⟩
    rw [← he1]
    replace hr := hid hr
    replace he1 := hid he1
    go_upto_region 4 with (refine wpl_store4 rfl (.tmp 5) (.tmp 32) rfl _ rfl rfl ((E.out.alloc _).hdr 4 rfl) ?_; intro V1 HV CV; replace E := hid ((E.out.alloc _).chg 4 rfl CV HV); clear CV HV; (try simp only [List.cons_append, List.nil_append, List.set_cons_zero, List.set_cons_succ] at E))
    generalize w3.heap.size = p1 at E ⊢
    obtain ⟨q00, q01, q02, q03⟩ := (E.out.hdr 0 rfl).all
    go_wp2_with fail
    clear q00 q01 q02 q03
    refine (ref03_Of s _ _ x _ _ _ _ _ _ _ _ (E.out.arr 1 rfl) (E.out.ints 2 rfl)).mono ?_
    intro e w4 h
    obtain ⟨s102, c102, n102, m102, i102, j102, rfl, hA, hb, hC102⟩ := h.eq rfl rfl
    replace E := hid ((E.out.up hb).addArr hA (fun b _ hq => E.out.res (Ext.refl _) hq))
    replace hC102 := hid hC102
    clear hA hb h
    (try simp only [List.cons_append, List.nil_append, List.set_cons_zero, List.set_cons_succ] at E)
    rw [← hr.out] at E hC102 ⊢
    rw [← he1.out]
    go_upto_region 5 with (refine wpl_store4 rfl (.tmp 7) (.tmp 38) rfl _ rfl rfl ((E.out.alloc _).hdr 6 rfl) ?_; intro V2 HV CV; replace E := hid ((E.out.alloc _).chg 6 rfl CV HV); clear CV HV; (try simp only [List.cons_append, List.nil_append, List.set_cons_zero, List.set_cons_succ] at E))
    generalize w4.heap.size = p2 at E ⊢
    have cb9 : (e1 == e1) = true := by simp
    obtain ⟨q40, q41, q42, q43⟩ := (E.out.hdr 4 rfl).all
    obtain ⟨q60, q61, q62, q63⟩ := (E.out.hdr 6 rfl).all
    go_wp2_with fail
    clear q40 q41 q42 q43 q60 q61 q62 q63
    refine (ref03_Same r r _ _ _ _ _ _ _ _ _ _ _ _ _ _ _ (E.out.arr 3 rfl) (E.out.arr 5 rfl)).mono ?_
    rintro e w5 ⟨rfl, hb⟩
    replace E := hid (E.out.up hb)
    clear hb
    rw [show sameB r r = true from sameB_self _]
    go_wp2_with (go_at_call 12; refine (law03_example _ (Utf8Tabs_below hT E.out.ext)).mono ?_; rintro e w9 ⟨rfl, hb9⟩)
    exact hR.out _ _ ⟨rfl, (E.out.up hb9).ext⟩
  have db : (dimsE s == 0) = true := beq_iff_eq.2 d
  replace d := hid d
  go_wp2_with fail
  refine (ref03_Count s _ _ _ _ (E.out.ints 2 rfl)).mono ?_
  rintro e w2 ⟨rfl, rfl⟩
  generalize cntC s = n
  by_cases big : 4000 < n
  case pos =>
    go_wp2_with (go_at_call 12; refine (law03_example _ (Utf8Tabs_below hT E.out.ext)).mono ?_; rintro e w9 ⟨rfl, hb9⟩)
    exact hR.out _ _ ⟨rfl, (E.out.up hb9).ext⟩
  case neg =>
    go_upto_region 3 with fail
    clear lb db big
    obtain ⟨q00, q01, q02, q03⟩ := (E.out.hdr 0 rfl).all
    go_wp2_with fail
    clear q00 q01 q02 q03
    refine (array_Of s _ _ x _ _ _ _ _ _ _ _ (E.out.arr 1 rfl) (E.out.ints 2 rfl)).mono ?_
    intro e w3 h
    obtain ⟨s101, c101, n101, m101, i101, j101, rfl, hA, hb, hC101⟩ := h.eq rfl rfl
    replace E := hid ((E.out.up hb).addArr hA (fun b _ hq => E.out.res (Ext.refl _) hq))
    replace hC101 := hid hC101
    clear hA hb h
    (try simp only [List.cons_append, List.nil_append, List.set_cons_zero, List.set_cons_succ] at E)
    obtain ⟨r, hr⟩ : ∃ r, r = ofS s x := ⟨_, rfl⟩
    rw [← hr] at E hC101 ⊢
    obtain ⟨e1, he1⟩ : ∃ r, r = ofE s x := ⟨_, rfl⟩
    rw [← he1]
    replace hr := hid hr
    replace he1 := hid he1
    go_upto_region 4 with (refine wpl_store4 rfl (.tmp 5) (.tmp 32) rfl _ rfl rfl ((E.out.alloc _).hdr 4 rfl) ?_; intro V1 HV CV; replace E := hid ((E.out.alloc _).chg 4 rfl CV HV); clear CV HV; (try simp only [List.cons_append, List.nil_append, List.set_cons_zero, List.set_cons_succ] at E))
    generalize w3.heap.size = p1 at E ⊢
    obtain ⟨q00, q01, q02, q03⟩ := (E.out.hdr 0 rfl).all
    go_wp2_with fail
    clear q00 q01 q02 q03
    refine (ref03_Of s _ _ x _ _ _ _ _ _ _ _ (E.out.arr 1 rfl) (E.out.ints 2 rfl)).mono ?_
    intro e w4 h
    obtain ⟨s102, c102, n102, m102, i102, j102, rfl, hA, hb, hC102⟩ := h.eq rfl rfl
    replace E := hid ((E.out.up hb).addArr hA (fun b _ hq => E.out.res (Ext.refl _) hq))
    replace hC102 := hid hC102
    clear hA hb h
    (try simp only [List.cons_append, List.nil_append, List.set_cons_zero, List.set_cons_succ] at E)
    rw [← hr.out] at E hC102 ⊢
    rw [← he1.out]
    go_upto_region 5 with (refine wpl_store4 rfl (.tmp 7) (.tmp 38) rfl _ rfl rfl ((E.out.alloc _).hdr 6 rfl) ?_; intro V2 HV CV; replace E := hid ((E.out.alloc _).chg 6 rfl CV HV); clear CV HV; (try simp only [List.cons_append, List.nil_append, List.set_cons_zero, List.set_cons_succ] at E))
    generalize w4.heap.size = p2 at E ⊢
    have cb9 : (e1 == e1) = true := by simp
    obtain ⟨q40, q41, q42, q43⟩ := (E.out.hdr 4 rfl).all
    obtain ⟨q60, q61, q62, q63⟩ := (E.out.hdr 6 rfl).all
    go_wp2_with fail
    clear q40 q41 q42 q43 q60 q61 q62 q63
    refine (ref03_Same r r _ _ _ _ _ _ _ _ _ _ _ _ _ _ _ (E.out.arr 3 rfl) (E.out.arr 5 rfl)).mono ?_
    rintro e w5 ⟨rfl, hb⟩
    replace E := hid (E.out.up hb)
    clear hb
    rw [show sameB r r = true from sameB_self _]
    go_wp2_with (go_at_call 12; refine (law03_example _ (Utf8Tabs_below hT E.out.ext)).mono ?_; rintro e w9 ⟨rfl, hb9⟩)
    exact hR.out _ _ ⟨rfl, (E.out.up hb9).ext⟩
set_option maxRecDepth 100000 in
set_option maxHeartbeats 8000000 in
theorem law03_ArrayRoundTrip (x : Arr) (sx : Option Addr) (cx : Nat) (nx : Option Addr) (mx : Nat) (ix : Option Addr) (jx : Nat) (S : Nat → Prop) (w : World) (h : ArrAt w S x sx nx ix) (hT : Tabs w) :
    Calls Tryd.prog 9 #[.agg #[.int .i64 x.kind, .slice sx x.shape.length cx, .slice nx x.nums.length mx, .slice ix x.items.length jx]] w fun e w' => e = .returned (.bool true) ∧ Below w.heap.size w w' := by
  refine calls_post fun R' hR => ?_
  have h0 := hid h
  have hsl := h.shape.1
  have hnl := h.nums.1
  have hil := h.len
  clear h
  go_enter Tryd.func9, Tryd.ntmps9
  go_upto_region 1 with (fail)
  generalize hEW : (w).alloc (.cells #[.int .i64 x.kind, .slice sx x.shape.length cx, .slice nx x.nums.length mx, .slice ix x.items.length jx] 26) = W
  have E := hid (env1 w S hEW)
  clear hEW
  replace E := hid (E.out.arg h0.out)
  (try simp only [List.cons_append, List.nil_append, List.set_cons_zero, List.set_cons_succ] at E)
  obtain ⟨q00, q01, q02, q03⟩ := (E.out.hdr 0 rfl).all
  go_wp2_with fail
  clear q00 q01 q02 q03
  refine (ref03_Small x _ _ _ _ _ _ _ _ (E.out.arr 1 rfl)).mono ?_
  rintro e w1 ⟨b1, rfl, hb⟩
  replace E := hid (E.out.up hb)
  clear hb
  cases b1 with
  | false =>
    go_wp2_with (go_at_call 12; refine (law03_example _ (Utf8Tabs_below hT E.out.ext)).mono ?_; rintro e w9 ⟨rfl, hb9⟩)
    exact hR.out _ _ ⟨rfl, (E.out.up hb9).ext⟩
  | true =>
  obtain ⟨q00, q01, q02, q03⟩ := (E.out.hdr 0 rfl).all
  go_wp2_with fail
  clear q00 q01 q02 q03
  refine (array_Right x _ _ _ _ _ _ _ _ (E.out.arr 1 rfl)).mono ?_
  rintro e w2 ⟨rfl, hb⟩
  replace E := hid (E.out.up hb)
  clear hb
  by_cases c : rightS x = 0
  case neg =>
    have cb : (rightS x != 0) = true := by simpa using c
    replace c := hid c
    go_wp2_with (go_at_call 12; refine (law03_example _ (Utf8Tabs_below hT E.out.ext)).mono ?_; rintro e w9 ⟨rfl, hb9⟩)
    exact hR.out _ _ ⟨rfl, (E.out.up hb9).ext⟩
  have cb : (rightS x != 0) = false := by simpa using c
  have OS := of_self c
  have oe := hid OS.1
  have os := hid OS.2
  have hat := hid (fun (k : Nat) (hk : k < szA x) => at_right c hk)
  clear OS
  replace c := hid c
  go_upto_region 3 with fail
  clear cb
  obtain ⟨q00, q01, q02, q03⟩ := (E.out.hdr 0 rfl).all
  go_wp2_with fail
  clear q00 q01 q02 q03
  refine (array_Of x.shape _ _ x _ _ _ _ _ _ _ _ (E.out.arr 1 rfl) (E.out.arr 1 rfl).shape).mono ?_
  intro e w3 h
  obtain ⟨s101, c101, n101, m101, i101, j101, rfl, hA, hb, hC101⟩ := h.eq os.out.symm oe.out
  replace E := hid ((E.out.up hb).addArr hA (fun b _ hq => E.out.res (Ext.refl _) hq))
  replace hC101 := hid hC101
  clear hA hb h
  (try simp only [List.cons_append, List.nil_append, List.set_cons_zero, List.set_cons_succ] at E)
  go_upto_region 4 with (refine wpl_store4 rfl (.tmp 3) (.tmp 21) rfl _ rfl rfl ((E.out.alloc _).hdr 3 rfl) ?_; intro V1 HV CV; replace E := hid ((E.out.alloc _).chg 3 rfl CV HV); clear CV HV; (try simp only [List.cons_append, List.nil_append, List.set_cons_zero, List.set_cons_succ] at E))
  generalize w3.heap.size = p1 at E ⊢
  obtain ⟨q00, q01, q02, q03⟩ := (E.out.hdr 0 rfl).all
  obtain ⟨q30, q31, q32, q33⟩ := (E.out.hdr 3 rfl).all
  go_wp2_with fail
  clear q00 q01 q02 q03 q30 q31 q32 q33
  refine (array_Same x x _ _ _ _ _ _ _ _ _ _ _ _ _ _ _ (E.out.arr 1 rfl) (E.out.arr 2 rfl)).mono ?_
  rintro e w4 ⟨rfl, hb⟩
  replace E := hid (E.out.up hb)
  clear hb
  rw [show sameB x x = true from sameB_self _]
  replace E := hid (E.out.sub (M := [.obj w.heap.size (.cells #[.int .i64 x.kind, .slice sx x.shape.length cx, .slice nx x.nums.length mx, .slice ix x.items.length jx] 26 (0, 0)), .arr x sx nx ix]) (List.Sublist.cons_cons _ (List.Sublist.cons_cons _ (List.nil_sublist _))))
  obtain ⟨n, hn⟩ : ∃ n : Nat, n = szN x.kind x.nums.length x.items.length := ⟨_, rfl⟩
  have hnb : n ≤ 17592186044416 := by rw [hn]; unfold szN; split <;> (try split) <;> omega
  have hna : Hid (∀ k : Nat, k < n → rightS (atS x (k : Int)) = 0 ∧ (atS x (k : Int)).kind = x.kind ∧ (atS x (k : Int)).shape = []) := hid (fun k hk => hat.out k (by show k < szA x; unfold szA; omega))
  have hz1 : Hid (Arr.zero = atS x (-1)) := hid (atS_no (Or.inl (by decide))).symm
  have hz2 : Hid (Arr.zero = atS x (n : Int)) := hid (atS_no (Or.inr (by rw [hn]; exact Int.le_refl _))).symm
  replace hn := hid hn
  go_upto_region 7 with fail
  go_loopw [5, 6] (fun v u wr => ∃ i : Nat, i ≤ n ∧ v = .int .i64 i ∧ Env w S wr [.obj w.heap.size (.cells #[.int .i64 x.kind, .slice sx x.shape.length cx, .slice nx x.nums.length mx, .slice ix x.items.length jx] 26 (0, 0)), .arr x sx nx ix]) (fun v _ _ => n - (intOf v).toNat)
  case atStart => exact ⟨0, Nat.zero_le _, rfl, E.out⟩
  case round =>
    clear E
    obtain ⟨i, hi, rfl, E⟩ := hrel
    replace E := hid E
    obtain ⟨q00, q01, q02, q03⟩ := (E.out.hdr 0 rfl).all
    go_wp2_with fail
    clear q00 q01 q02 q03
    refine (size_array_Size x _ _ _ _ _ _ _ _ (E.out.arr 1 rfl)).mono ?_
    rintro e w5 ⟨rfl, hb⟩
    replace E := hid (E.out.up hb)
    clear hb
    rw [← hn.out]
    by_cases hlt : i < n
    case pos =>
      obtain ⟨q1, q2, q3⟩ := hna.out i hlt
      obtain ⟨y, hy⟩ : ∃ y, y = atS x (i : Int) := ⟨_, rfl⟩
      rw [← hy] at q1 q2 q3
      have kb : (y.kind != x.kind) = false := bne_eq_false_iff_eq.2 q2
      have q4 : y.shape.length = 0 := by rw [q3]; rfl
      have lb : ((y.shape.length : Int) != 0) = false := bne_eq_false_iff_eq.2 (by omega)
      replace q1 := hid q1
      replace q2 := hid q2
      replace q3 := hid q3
      replace q4 := hid q4
      replace hy := hid hy
      obtain ⟨q00, q01, q02, q03⟩ := (E.out.hdr 0 rfl).all
      go_wp2_with fail
      clear q00 q01 q02 q03
      refine (array_At x _ _ _ _ _ _ (i : Int) _ _ (E.out.arr 1 rfl)).mono ?_
      intro e w6 h
      obtain ⟨s102, c102, n102, m102, i102, j102, rfl, hA, hb⟩ := h.eq hy.out
      replace E := hid ((E.out.up hb).addArr hA (fun b _ hq => E.out.res (Ext.refl _) hq))
      clear hA hb h
      (try simp only [List.cons_append, List.nil_append, List.set_cons_zero, List.set_cons_succ] at E)
      go_upto_region 10 with (refine wpl_store4 rfl (.tmp 6) (.tmp 39) rfl _ rfl rfl ((E.out.alloc _).hdr 3 rfl) ?_; intro V2 HV CV; replace E := hid ((E.out.alloc _).chg 3 rfl CV HV); clear CV HV; (try simp only [List.cons_append, List.nil_append, List.set_cons_zero, List.set_cons_succ] at E))
      generalize w6.heap.size = p2 at E ⊢
      obtain ⟨q00, q01, q02, q03⟩ := (E.out.hdr 0 rfl).all
      obtain ⟨q30, q31, q32, q33⟩ := (E.out.hdr 3 rfl).all
      go_wp2_with fail
      clear q00 q01 q02 q03 q30 q31 q32 q33
      refine (array_Right y _ _ _ _ _ _ _ _ (E.out.arr 2 rfl)).mono ?_
      rintro e w7 ⟨rfl, hb⟩
      replace E := hid (E.out.up hb)
      clear hb
      rw [q1.out]
      obtain ⟨q00, q01, q02, q03⟩ := (E.out.hdr 0 rfl).all
      obtain ⟨q30, q31, q32, q33⟩ := (E.out.hdr 3 rfl).all
      go_wp2_with fail
      clear q00 q01 q02 q03 q30 q31 q32 q33
      go_roundw
      case rel => exact ⟨i + 1, by omega, by go_num, E.out.sub (List.Sublist.cons_cons _ (List.Sublist.cons_cons _ (List.nil_sublist _)))⟩
      case measure => simp [intOf]; omega
    case neg =>
      obtain rfl : i = n := by omega
      have hTV : Tabs w5 := Utf8Tabs_below hT E.out.ext
      obtain ⟨z, hz⟩ : ∃ z, z = Arr.zero := ⟨_, rfl⟩
      have hs0 : Hid (sameB z .zero = true) := hid (by rw [hz]; exact sameB_self _)
      have hzz1 := hid (hz.trans hz1.out)
      have hzz2 := hid (hz.trans hz2.out)
      replace hz := hid hz
      go_upto_region 12 with fail
      obtain ⟨T, hT1, hT2, hT3⟩ := E.out.tw
      refine wp_region_mono (Sees w5 [(⟨w.heap.size, 0, none⟩, .int .i64 x.kind), (⟨w.heap.size, 1, none⟩, .slice sx x.shape.length cx), (⟨w.heap.size, 2, none⟩, .slice nx x.nums.length mx), (⟨w.heap.size, 3, none⟩, .slice ix x.items.length jx)]) [1, 3, 7, 8, 10, 13] (fun k v u u' => match k with | 1 => RetA u T (z) (.returned v) u' | 3 => v = .bool true | 7 => v = .int .i64 (i : Int) | 8 => RetA u T (z) (.returned v) u' | 10 => v = .bool true | 13 => v = .bool true | _ => False) (fun _ _ h e => h.up e) (Sees.start (all_cons ((E.out.hdr 0 rfl).c0) (all_cons ((E.out.hdr 0 rfl).c1) (all_cons ((E.out.hdr 0 rfl).c2) (all_cons ((E.out.hdr 0 rfl).c3) (all_nil)))))) (by kernel_rfl) (by kernel_rfl) ?_
      repeat (first | (refine m_plain (v := ?_) (by rfl) (by rfl) ?_ ?_; rotate_left; (intro wz hSw; obtain ⟨-, hSc⟩ := hSw; (try simp only [List.forall_mem_cons, List.forall_mem_nil, and_true] at hSc); go_simp; (first | done | with_reducible rfl)); (intro K hK; (try simp only [Act.put, List.setIfInBounds_toArray, List.set_cons_zero, List.set_cons_succ]); refine hK _ _ ?_; clear hK K)) | (refine m_skip (by rfl) (by rfl) ?_; (intro K hK; (try simp only [Act.put, List.setIfInBounds_toArray, List.set_cons_zero, List.set_cons_succ]); refine hK _ _ ?_; clear hK K)))
      refine m_make (by rfl) (by rfl) ?_ ?_
      · intro wz hSw hdep R hRz
        obtain ⟨hSe, hSc⟩ := hSw
        (try simp only [List.forall_mem_cons, List.forall_mem_nil, and_true] at hSc)
        unfold does
        (go_simp; refine Calls.mono (array_At x _ _ _ _ _ _ (-1) _ wz (ArrAt.up (ArrAt.mono (fun b _ h => hT1 b h) _ (E.out.arr 1 rfl)) hSe)) ?_; intro e wq h; obtain ⟨v, rfl, h1⟩ := retA_arm hT2 hSe (h.eq hzz1.out); exact ⟨_, rfl, hRz.out _ _ h1⟩)
      intro v1 u1 x1 hG1 K hK
      have hF1 := hG1.fact
      (try dsimp only at hF1)
      obtain ⟨s1, c1, n1, m1, i1, j1, he, hA1, hb1⟩ := hF1
      injection he with he
      subst he
      (try simp only [Act.put, List.setIfInBounds_toArray, List.set_cons_zero, List.set_cons_succ]); refine hK _ _ ?_; clear hK K
      repeat (first | (refine m_plain (v := ?_) (by rfl) (by rfl) ?_ ?_; rotate_left; (intro wz hSw; obtain ⟨-, hSc⟩ := hSw; (try simp only [List.forall_mem_cons, List.forall_mem_nil, and_true] at hSc); go_simp; (first | done | with_reducible rfl)); (intro K hK; (try simp only [Act.put, List.setIfInBounds_toArray, List.set_cons_zero, List.set_cons_succ]); refine hK _ _ ?_; clear hK K)) | (refine m_skip (by rfl) (by rfl) ?_; (intro K hK; (try simp only [Act.put, List.setIfInBounds_toArray, List.set_cons_zero, List.set_cons_succ]); refine hK _ _ ?_; clear hK K)))
      refine m_make (by rfl) (by rfl) ?_ ?_
      · intro wz hSw hdep R hRz
        obtain ⟨hSe, hSc⟩ := hSw
        (try simp only [List.forall_mem_cons, List.forall_mem_nil, and_true] at hSc)
        unfold does
        (go_simp; refine Calls.mono (array_Same z .zero _ _ _ _ _ _ none 0 none 0 none 0 _ (fun _ => True) wz (hA1.up (hdep 1 _ rfl (depB_sound (f := 4) (by kernel_rfl)))) (zero_at _ _ _ _ _)) ?_; rintro e wq ⟨rfl, hqb⟩; rw [hs0.out]; exact ⟨_, rfl, hRz.out _ _ ⟨hqb, rfl⟩⟩)
      intro v3 u3 x3 hG3 K hK
      have hF3 := hG3.fact
      (try dsimp only at hF3)
      subst hF3
      (try simp only [Act.put, List.setIfInBounds_toArray, List.set_cons_zero, List.set_cons_succ]); refine hK _ _ ?_; clear hK K
      repeat (first | (refine m_plain (v := ?_) (by rfl) (by rfl) ?_ ?_; rotate_left; (intro wz hSw; obtain ⟨-, hSc⟩ := hSw; (try simp only [List.forall_mem_cons, List.forall_mem_nil, and_true] at hSc); go_simp; (first | done | with_reducible rfl)); (intro K hK; (try simp only [Act.put, List.setIfInBounds_toArray, List.set_cons_zero, List.set_cons_succ]); refine hK _ _ ?_; clear hK K)) | (refine m_skip (by rfl) (by rfl) ?_; (intro K hK; (try simp only [Act.put, List.setIfInBounds_toArray, List.set_cons_zero, List.set_cons_succ]); refine hK _ _ ?_; clear hK K)))
      refine m_make (by rfl) (by rfl) ?_ ?_
      · intro wz hSw hdep R hRz
        obtain ⟨hSe, hSc⟩ := hSw
        (try simp only [List.forall_mem_cons, List.forall_mem_nil, and_true] at hSc)
        unfold does
        (go_simp; refine Calls.mono (size_array_Size x _ _ _ _ _ _ _ wz (ArrAt.up (ArrAt.mono (fun b _ h => hT1 b h) _ (E.out.arr 1 rfl)) hSe)) ?_; rintro e wq ⟨rfl, hqb⟩; rw [hn.out.symm]; exact ⟨_, rfl, hRz.out _ _ ⟨hqb, rfl⟩⟩)
      intro v7 u7 x7 hG7 K hK
      have hF7 := hG7.fact
      (try dsimp only at hF7)
      subst hF7
      (try simp only [Act.put, List.setIfInBounds_toArray, List.set_cons_zero, List.set_cons_succ]); refine hK _ _ ?_; clear hK K
      repeat (first | (refine m_plain (v := ?_) (by rfl) (by rfl) ?_ ?_; rotate_left; (intro wz hSw; obtain ⟨-, hSc⟩ := hSw; (try simp only [List.forall_mem_cons, List.forall_mem_nil, and_true] at hSc); go_simp; (first | done | with_reducible rfl)); (intro K hK; (try simp only [Act.put, List.setIfInBounds_toArray, List.set_cons_zero, List.set_cons_succ]); refine hK _ _ ?_; clear hK K)) | (refine m_skip (by rfl) (by rfl) ?_; (intro K hK; (try simp only [Act.put, List.setIfInBounds_toArray, List.set_cons_zero, List.set_cons_succ]); refine hK _ _ ?_; clear hK K)))
      refine m_make (by rfl) (by rfl) ?_ ?_
      · intro wz hSw hdep R hRz
        obtain ⟨hSe, hSc⟩ := hSw
        (try simp only [List.forall_mem_cons, List.forall_mem_nil, and_true] at hSc)
        unfold does
        (go_simp; refine Calls.mono (array_At x _ _ _ _ _ _ (i : Int) _ wz (ArrAt.up (ArrAt.mono (fun b _ h => hT1 b h) _ (E.out.arr 1 rfl)) hSe)) ?_; intro e wq h; obtain ⟨v, rfl, h1⟩ := retA_arm hT2 hSe (h.eq hzz2.out); exact ⟨_, rfl, hRz.out _ _ h1⟩)
      intro v8 u8 x8 hG8 K hK
      have hF8 := hG8.fact
      (try dsimp only at hF8)
      obtain ⟨s8, c8, n8, m8, i8, j8, he, hA8, hb8⟩ := hF8
      injection he with he
      subst he
      (try simp only [Act.put, List.setIfInBounds_toArray, List.set_cons_zero, List.set_cons_succ]); refine hK _ _ ?_; clear hK K
      repeat (first | (refine m_plain (v := ?_) (by rfl) (by rfl) ?_ ?_; rotate_left; (intro wz hSw; obtain ⟨-, hSc⟩ := hSw; (try simp only [List.forall_mem_cons, List.forall_mem_nil, and_true] at hSc); go_simp; (first | done | with_reducible rfl)); (intro K hK; (try simp only [Act.put, List.setIfInBounds_toArray, List.set_cons_zero, List.set_cons_succ]); refine hK _ _ ?_; clear hK K)) | (refine m_skip (by rfl) (by rfl) ?_; (intro K hK; (try simp only [Act.put, List.setIfInBounds_toArray, List.set_cons_zero, List.set_cons_succ]); refine hK _ _ ?_; clear hK K)))
      refine m_make (by rfl) (by rfl) ?_ ?_
      · intro wz hSw hdep R hRz
        obtain ⟨hSe, hSc⟩ := hSw
        (try simp only [List.forall_mem_cons, List.forall_mem_nil, and_true] at hSc)
        unfold does
        (go_simp; refine Calls.mono (array_Same z .zero _ _ _ _ _ _ none 0 none 0 none 0 _ (fun _ => True) wz (hA8.up (hdep 8 _ rfl (depB_sound (f := 4) (by kernel_rfl)))) (zero_at _ _ _ _ _)) ?_; rintro e wq ⟨rfl, hqb⟩; rw [hs0.out]; exact ⟨_, rfl, hRz.out _ _ ⟨hqb, rfl⟩⟩)
      intro v10 u10 x10 hG10 K hK
      have hF10 := hG10.fact
      (try dsimp only at hF10)
      subst hF10
      (try simp only [Act.put, List.setIfInBounds_toArray, List.set_cons_zero, List.set_cons_succ]); refine hK _ _ ?_; clear hK K
      repeat (first | (refine m_plain (v := ?_) (by rfl) (by rfl) ?_ ?_; rotate_left; (intro wz hSw; obtain ⟨-, hSc⟩ := hSw; (try simp only [List.forall_mem_cons, List.forall_mem_nil, and_true] at hSc); go_simp; (first | done | with_reducible rfl)); (intro K hK; (try simp only [Act.put, List.setIfInBounds_toArray, List.set_cons_zero, List.set_cons_succ]); refine hK _ _ ?_; clear hK K)) | (refine m_skip (by rfl) (by rfl) ?_; (intro K hK; (try simp only [Act.put, List.setIfInBounds_toArray, List.set_cons_zero, List.set_cons_succ]); refine hK _ _ ?_; clear hK K)))
      refine m_make (by rfl) (by rfl) ?_ ?_
      · intro wz hSw hdep R hRz
        obtain ⟨hSe, hSc⟩ := hSw
        (try simp only [List.forall_mem_cons, List.forall_mem_nil, and_true] at hSc)
        unfold does
        (go_simp; refine Calls.mono (law03_example wz (Utf8Tabs_below hTV hSe)) ?_; rintro e wq ⟨rfl, hqb⟩; exact ⟨_, rfl, hRz.out _ _ ⟨hqb, rfl⟩⟩)
      intro v13 u13 x13 hG13 K hK
      have hF13 := hG13.fact
      (try dsimp only at hF13)
      subst hF13
      (try simp only [Act.put, List.setIfInBounds_toArray, List.set_cons_zero, List.set_cons_succ]); refine hK _ _ ?_; clear hK K
      repeat (first | (refine m_plain (v := ?_) (by rfl) (by rfl) ?_ ?_; rotate_left; (intro wz hSw; obtain ⟨-, hSc⟩ := hSw; (try simp only [List.forall_mem_cons, List.forall_mem_nil, and_true] at hSc); go_simp; (first | done | with_reducible rfl)); (intro K hK; (try simp only [Act.put, List.setIfInBounds_toArray, List.set_cons_zero, List.set_cons_succ]); refine hK _ _ ?_; clear hK K)) | (refine m_skip (by rfl) (by rfl) ?_; (intro K hK; (try simp only [Act.put, List.setIfInBounds_toArray, List.set_cons_zero, List.set_cons_succ]); refine hK _ _ ?_; clear hK K)))
      refine m_nil ?_
      intro wf hSf hAf
      have ef := hid (E.out.up hSf.1).ext
      clear hSf hAf
      go_wp2_with fail
      exact hR.out _ _ ⟨rfl, ef.out⟩
end Go.Proofs.YtdobnkbmjkcpoaaDoor
