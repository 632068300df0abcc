/- indexing.right, split, within: contracts. Conditions: the arrays are read; a slice's capacity is at least its length. -/
import Derived.Test.YtdpdcjadedcglaaS23
import Derived.Test.YtdpdcjadedcglaaCONC
import Derived.Test.YtdpdcjadedcglaaGK
import Derived.Test.YtdpdcjadedcglaaC17
set_option linter.unusedVariables false
set_option maxRecDepth 20000
set_option linter.unusedSimpArgs false
namespace Go.Proofs.Ytdpdcjadedcglaa
open Go.RowKit Go.Sort
attribute [local go_sem ↓] run_max2 run_min2
attribute [local go_sem] eql_ints_nil eql_arrs_nil
theorem any_take_no {α : Type} {p : α → Bool} {l : List α} (h : ∀ j (hj : j < l.length), p l[j] = false) : l.any p = false := by
  rw [List.any_eq_false]
  intro x hx
  obtain ⟨j, hj, rfl⟩ := List.getElem_of_mem hx
  rw [h j hj]; simp
set_option maxHeartbeats 2000000 in
theorem slices_IndexFuncA_indexing_right_1 (p : Arr → Bool) (l : List Arr) (ia : Option Addr) (ic : Nat) (S : Nat → Prop) (w : World) (h : ItemsAt w S ia 0 l) (hl : l.length ≤ 1759218604441)
    (hf : ∀ (x : Arr) (sx : Option Addr) (cx : Nat) (nx : Option Addr) (mx : Nat) (ix : Option Addr) (jx : Nat) (w : World), ArrAt w S x sx nx ix → Calls Try.prog 69 #[.agg #[.int .i64 x.kind, .slice sx x.shape.length cx, .slice nx x.nums.length mx, .slice ix x.items.length jx]] w fun e w' => e = .returned (.bool (p x)) ∧ Ext w w') :
    Calls Try.prog 89 #[.slice ia l.length ic, .func (.func 69) #[] #[]] w fun e w' => (∃ r : Int, e = .returned (.int .i64 r) ∧ decide (0 ≤ r) = l.any p) ∧ Ext w w' := by
  refine calls_post fun R' hR => ?_
  have hf' := hid hf
  have h0 := hid h
  clear hf h
  go_enter Try.func89, Try.ntmps89
  go_wp2_with fail
  go_loopw [8] (fun i wr => ∃ k : Nat, k ≤ l.length ∧ i = .int .i64 k ∧ Hid (∀ j (hj : j < l.length), j < k → p l[j] = false) ∧ Ext w wr) (fun i _ => l.length - (intOf i).toNat)
  case atStart => exact ⟨0, Nat.zero_le _, rfl, hid (fun j _ hj => by omega), Ext.refl _⟩
  case round =>
    obtain ⟨k, hk, rfl, hb, he⟩ := hrel
    have he := hid he
    by_cases hlt : k < l.length
    · obtain ⟨b, off, sx, cx, nx, mx, ix, jx, hia, hS, hbl, e0, e1, e2, e3, hx⟩ := (h0.out.later he.out).at hlt
      have hN : Hid (p l[k] = false → ∀ j (hj : j < l.length), j < k + 1 → p l[j] = false) := hid fun q j hj hjk => by
        rcases Nat.lt_succ_iff_lt_or_eq.1 hjk with h1 | h1
        · exact hb.out j hj h1
        · subst h1; exact q
      have hY : Hid (p l[k] = true → l.any p = true) := hid fun q => List.any_eq_true.2 ⟨_, List.getElem_mem hlt, q⟩
      subst hia
      generalize l[k] = x at e0 e1 e2 e3 hx hN hY
      have HX := hid hx
      clear hx
      have ki0 : (0 : Int) ≤ (k : Int) := Int.natCast_nonneg _
      have ki1 : (k : Int) < (l.length : Int) := by omega
      go_wp2_with fail
      refine (hf'.out x _ _ _ _ _ _ _ HX.out).mono ?_
      rintro e w2 ⟨rfl, hb2⟩
      have he2 := hid (he.out.trans hb2)
      clear e0 e1 e2 e3 hb2
      cases c1 : p x with
      | true =>
        have hy := hid (hY.out c1)
        replace c1 := hid c1
        go_wp2_with fail
        exact hR.out _ _ ⟨⟨_, rfl, by rw [hy.out]; simp⟩, he2.out⟩
      | false =>
        have hn := hid (hN.out c1)
        replace c1 := hid c1
        go_wp2_with fail
        go_roundw
        case rel => exact ⟨k + 1, by omega, by go_num, hn, he2.out⟩
        case measure => simp [intOf]; omega
    · have hn : Hid (l.any p = false) := hid (any_take_no fun j hj => hb.out j hj (by omega))
      go_wp2_with fail
      exact hR.out _ _ ⟨⟨_, rfl, by rw [hn.out]; rfl⟩, he.out⟩
set_option maxHeartbeats 1000000 in
theorem slices_ContainsFuncA_indexing_right_1 (p : Arr → Bool) (l : List Arr) (ia : Option Addr) (ic : Nat) (S : Nat → Prop) (w : World) (h : ItemsAt w S ia 0 l) (hl : l.length ≤ 1759218604441)
    (hf : ∀ (x : Arr) (sx : Option Addr) (cx : Nat) (nx : Option Addr) (mx : Nat) (ix : Option Addr) (jx : Nat) (w : World), ArrAt w S x sx nx ix → Calls Try.prog 69 #[.agg #[.int .i64 x.kind, .slice sx x.shape.length cx, .slice nx x.nums.length mx, .slice ix x.items.length jx]] w fun e w' => e = .returned (.bool (p x)) ∧ Ext w w') :
    Calls Try.prog 68 #[.slice ia l.length ic, .func (.func 69) #[] #[]] w fun e w' => e = .returned (.bool (l.any p)) ∧ Ext w w' := by
  refine calls_post fun R' hR => ?_
  have hf' := hid hf
  have h0 := hid h
  clear hf h
  go_enter Try.func68, Try.ntmps68
  go_wp2_with fail
  refine (slices_IndexFuncA_indexing_right_1 p l ia ic S w h0.out hl hf'.out).mono ?_
  rintro e w' ⟨⟨r, rfl, hr⟩, hb⟩
  replace hr := hid hr
  go_wp2_with fail
  exact hR.out _ _ ⟨by rw [← hr.out] <;> rfl, hb⟩
def badB (a : Arr) : Bool := rightS a != 0
theorem bad_two {x y : Arr} : [x, y].any badB = false ↔ rightS x = 0 ∧ rightS y = 0 := by simp [badB]
theorem indexing_right_1 (x : Arr) (sx : Option Addr) (cx : Nat) (nx : Option Addr) (mx : Nat) (ix : Option Addr) (jx : Nat) (S : Nat → Prop) (w : World) (h : ArrAt w S x sx nx ix) : Calls Try.prog 69 #[.agg #[.int .i64 x.kind, .slice sx x.shape.length cx, .slice nx x.nums.length mx, .slice ix x.items.length jx]] w fun e w' => e = .returned (.bool (badB x)) ∧ Ext w w' := by
  refine calls_post fun R' hR => ?_
  have h0 := hid h
  clear h
  go_enter Try.func69, Try.ntmps69
  go_wp2_with fail
  generalize hEW : (w).alloc (.cells #[.int .i64 x.kind, .slice sx x.shape.length cx, .slice nx x.nums.length mx, .slice ix x.items.length jx] 27) = W
  have E := hid (env1 w S hEW)
  clear hEW
  replace E := hid (E.out.arg h0.out)
  (try simp only [List.cons_append, List.nil_append, List.set_cons_zero, List.set_cons_succ] at E)
  refine (array_Right x _ _ _ _ _ _ _ _ (E.out.arr 1 rfl)).mono ?_
  rintro e w1 ⟨rfl, hb⟩
  replace E := hid (E.out.up hb)
  clear hb
  go_wp2_with fail
  exact hR.out _ _ ⟨rfl, E.out.ext⟩
theorem indexing_right (l : List Arr) (ia : Option Addr) (ic : Nat) (S : Nat → Prop) (w : World) (h : ItemsAt w S ia 0 l) (hl : l.length ≤ 1759218604441) : Calls Try.prog 37 #[.slice ia l.length ic] w fun e w' => e = .returned (.bool (!l.any badB)) ∧ Ext w w' := by
  refine calls_post fun R' hR => ?_
  have h0 := hid h
  clear h
  go_enter Try.func37, Try.ntmps37
  go_wp2_with fail
  refine (slices_ContainsFuncA_indexing_right_1 badB l ia ic S w h0.out hl (fun x sx cx nx mx ix jx w h => indexing_right_1 x sx cx nx mx ix jx S w h)).mono ?_
  rintro e w' ⟨rfl, hb⟩
  replace hb := hid hb
  go_wp2_with fail
  exact hR.out _ _ ⟨rfl, hb.out⟩
theorem indexing_within_1 (n d : Int) (b : Nat) (w : World) (h : w.cell? ⟨b, 0, none⟩ = some (.int .i64 d)) : Calls Try.prog 70 #[.int .i64 n, .pointer (some ⟨b, 0, none⟩)] w fun e w' => e = .returned (.bool (outB d n)) ∧ w = w' := by
  refine calls_post fun R' hR => ?_
  by_cases c : n < 0
  · have e : Hid (outB d n = true) := hid (by simp [outB, c])
    go_enter Try.func70, Try.ntmps70
    go_wp2_with fail
    exact hR.out _ _ ⟨by rw [e.out] <;> rfl, rfl⟩
  · have e : Hid (outB d n = decide (d ≤ n)) := hid (by simp [outB, c])
    go_enter Try.func70, Try.ntmps70
    go_wp2_with fail
    exact hR.out _ _ ⟨by rw [e.out] <;> rfl, rfl⟩
set_option maxHeartbeats 1000000 in
theorem slices_IndexFunc_within (d : Int) (g : Nat) (s : List Int) (ao : Option Addr) (cap : Nat) (S : Nat → Prop) (w : World) (h : IntsAt w S ao s) (hg : w.cell? ⟨g, 0, none⟩ = some (.int .i64 d)) :
    Calls Try.prog 56 #[.slice ao s.length cap, .func (.func 70) #[] #[.pointer (some ⟨g, 0, none⟩)]] w fun e w' => e = .returned (.int .i64 (idxF s (outB d))) ∧ w = w' := by
  refine calls_post fun R' hR => ?_
  have hl := h.1
  have hg0 := hid hg
  clear hg
  go_enter Try.func56, Try.ntmps56
  go_wp2
  go_loop [8] (fun i => ∃ k : Nat, k ≤ s.length ∧ i = .int .i64 k ∧ Hid (∀ j, j < k → outB d (s.getD j 0) = false)) (fun i => s.length - (intOf i).toNat)
  case atStart => exact ⟨0, Nat.zero_le _, rfl, fun j hj => by omega⟩
  case round =>
    obtain ⟨k, hk, rfl, hb⟩ := hrel
    by_cases hlt : k < s.length
    · obtain ⟨b, off, rfl, hbl, hS, hc⟩ := h.at hlt
      have hI := hid (fun e => idxF_at hlt e hb.out)
      have hN : Hid (outB d (s.getD k 0) = false → ∀ j, j < k + 1 → outB d (s.getD j 0) = false) := fun e j hj => by
        rcases Nat.lt_succ_iff_lt_or_eq.1 hj with h1 | h1
        · exact hb.out j h1
        · rw [h1]; exact e
      generalize s.getD k 0 = v at hc hI hN
      go_wp2_with fail
      refine (indexing_within_1 v d g w hg0.out).mono ?_
      rintro e w' ⟨rfl, rfl⟩
      cases c1 : outB d v with
      | true =>
        have c1' := hid c1
        clear c1
        go_wp2_with fail
        exact hR.out _ _ ⟨by rw [hI.out c1'.out] <;> rfl, rfl⟩
      | false =>
        have c1' := hid c1
        clear c1
        go_wp2_with fail
        go_round
        case rel => exact ⟨k + 1, by omega, by go_num, hN.out c1'.out⟩
        case measure => simp [intOf]; omega
    · have e := idxF_none (s := s) (p := outB d) (fun j hj => hb.out j (by omega))
      have E := hid e; clear e
      go_wp2
      exact hR.out _ _ ⟨by rw [E.out] <;> rfl, rfl⟩
theorem slices_ContainsFunc_within (d : Int) (g : Nat) (s : List Int) (ao : Option Addr) (cap : Nat) (S : Nat → Prop) (w : World) (h : IntsAt w S ao s) (hg : w.cell? ⟨g, 0, none⟩ = some (.int .i64 d)) :
    Calls Try.prog 25 #[.slice ao s.length cap, .func (.func 70) #[] #[.pointer (some ⟨g, 0, none⟩)]] w fun e w' => e = .returned (.bool (s.any (outB d))) ∧ w = w' := by
  refine calls_post fun R' hR => ?_
  go_enter Try.func25, Try.ntmps25
  go_wp2_with fail
  refine (slices_IndexFunc_within d g s ao cap S w h hg).mono ?_
  rintro e w' ⟨rfl, rfl⟩
  go_wp2_with fail
  exact hR.out _ _ ⟨by rw [← idxF_pos] <;> rfl, rfl⟩
theorem indexing_within (s : List Int) (ao : Option Addr) (cap : Nat) (d : Int) (S : Nat → Prop) (w : World) (h : IntsAt w S ao s) :
    Calls Try.prog 38 #[.slice ao s.length cap, .int .i64 d] w fun e w' => e = .returned (.bool (!s.any (outB d))) ∧ Ext w w' := by
  refine calls_post fun R' hR => ?_
  have h0 := hid h
  clear h
  go_enter Try.func38, Try.ntmps38
  go_wp2_with fail
  have hc : Hid ((w.alloc (.cells #[.int .i64 d] 3)).cell? ⟨w.heap.size, 0, none⟩ = some (.int .i64 d)) := hid (by simp [go_sem])
  have hb : Hid (Ext w (w.alloc (.cells #[.int .i64 d] 3))) := hid (ext_alloc _ _)
  generalize w.alloc (.cells #[.int .i64 d] 3) = W at hc hb ⊢
  refine (slices_ContainsFunc_within d _ s ao cap S W (h0.out.later hb.out) hc.out).mono ?_
  rintro e w' ⟨rfl, rfl⟩
  go_wp2_with fail
  exact hR.out _ _ ⟨rfl, hb.out⟩
def RetSplitI (w : World) (S : Nat → Prop) (y : Arr) (e : Ending) (w' : World) : Prop :=
  ∃ so sc, e = .returned (.tuple #[.int .i64 (talN y), .slice so (celL y).length sc]) ∧ IntsAt w' S so (celL y) ∧ Below w.heap.size w w'
set_option maxHeartbeats 4000000 in
theorem indexing_split (y : Arr) (sy : Option Addr) (cy : Nat) (ny : Option Addr) (my : Nat) (iy : Option Addr) (jy : Nat) (S : Nat → Prop) (w : World) (h : ArrAt w S y sy ny iy) (hc : y.shape.length ≤ cy) : Calls Try.prog 36 #[.agg #[.int .i64 y.kind, .slice sy y.shape.length cy, .slice ny y.nums.length my, .slice iy y.items.length jy]] w (RetSplitI w S y) := by
  refine calls_post fun R' hR => ?_
  have h0 := hid h
  have hsl := h.shape.1
  clear h
  obtain ⟨cl, hcl⟩ : ∃ l, l = celL y := ⟨_, rfl⟩
  have hcl2 : cl = y.shape.drop 1 := hcl
  by_cases c : y.shape.length = 0
  · have ht : Hid (cl = []) := hid (by rw [hcl2, List.eq_nil_of_length_eq_zero c]; rfl)
    have h1 : Hid (talN y = 1) := hid (if_pos c)
    have cb : ((y.shape.length : Int) == 0) = true := by simpa using c
    replace c := hid c
    replace hcl := hid hcl
    replace hcl2 := hid hcl2
    go_enter Try.func36, Try.ntmps36
    go_upto_region 1 with (fail)
    generalize hEW : (w).alloc (.cells #[.int .i64 y.kind, .slice sy y.shape.length cy, .slice ny y.nums.length my, .slice iy y.items.length jy] 27) = W
    have E := hid (env1 w S hEW)
    clear hEW
    obtain ⟨q00, q01, q02, q03⟩ := (E.out.hdr 0 rfl).all
    go_wp2_with fail
    refine hR.out _ _ ?_
    exact ⟨none, 0, by rw [← hcl.out, ht.out, h1.out] <;> rfl, by rw [← hcl.out, ht.out]; exact IntsAt.nil _ _ _, E.out.ext⟩
  · have cb : ((y.shape.length : Int) == 0) = false := by simpa using c
    have hln : Hid (cl.length = y.shape.length - 1) := hid (by rw [hcl2]; simp)
    have ht : Hid (talN y = y.shape.getD 0 0) := hid (if_neg c)
    replace hcl := hid hcl
    replace hcl2 := hid hcl2
    go_enter Try.func36, Try.ntmps36
    go_upto_region 1 with (fail)
    generalize hEW : (w).alloc (.cells #[.int .i64 y.kind, .slice sy y.shape.length cy, .slice ny y.nums.length my, .slice iy y.items.length jy] 27) = W
    have E := hid (env1 w S hEW)
    clear hEW
    replace E := hid (E.out.arg h0.out)
    (try simp only [List.cons_append, List.nil_append, List.set_cons_zero, List.set_cons_succ] at E)
    obtain ⟨b1, o1, hs1, hbl1, hS1, hc1⟩ := (E.out.arr 1 rfl).shape.at (k := 0) (by omega)
    have lx : 0 < y.shape.length := by omega
    have hA := hid (E.out.arr 1 rfl).shape
    have hI : IntsAt w S sy y.shape := h0.out.shape
    generalize y.shape.getD 0 0 = d at hc1 ht
    rw [Nat.add_zero] at hc1
    subst hs1
    have s0 : ¬ (y.shape.length : Int) < 1 := by omega
    have s1 : (1 : Int) ≤ (y.shape.length : Int) := by omega
    have s2 : (1 : Int) ≤ (cy : Int) := by omega
    have s3 : (0 : Int) < (y.shape.length : Int) := by omega
    have c0 : ¬ cy = 0 := by omega
    replace hI := hid hI
    obtain ⟨q00, q01, q02, q03⟩ := (E.out.hdr 0 rfl).all
    go_upto_region 3 with (fail)
    by_cases c1 : cy = 1
    · subst c1
      have hq : y.shape.length ≤ 1 := by omega
      have e0 : y.shape.length - 1 = 0 := by omega
      replace c := hid c
      refine wp_region_mono (Sees W [(⟨w.heap.size, 1, none⟩, .slice (some ⟨b1, o1, none⟩) y.shape.length 1), (⟨b1, o1, none⟩, .int .i64 d)]) [] (fun k v u u' => match k with  | _ => False) (fun _ _ h e => h.up e) (Sees.start (all_cons (q01) (all_cons (hc1) (all_nil)))) (by kernel_rfl) (by kernel_rfl) ?_
      repeat (first | (refine m_plain (v := ?_) (by rfl) (by rfl) ?_ ?_; rotate_left; (intro wz hSw; obtain ⟨-, hSc⟩ := hSw; (try simp only [List.forall_mem_cons, List.forall_mem_nil, and_true] at hSc); go_simp; (first | done | with_reducible rfl)); (intro K hK; (try simp only [Act.put, List.setIfInBounds_toArray, List.set_cons_zero, List.set_cons_succ]); refine hK _ _ ?_; clear hK K)) | (refine m_skip (by rfl) (by rfl) ?_; (intro K hK; (try simp only [Act.put, List.setIfInBounds_toArray, List.set_cons_zero, List.set_cons_succ]); refine hK _ _ ?_; clear hK K)))
      refine m_nil ?_
      intro wf hSf hAf
      have ef := hid (E.out.up hSf.1).ext
      clear hSf hAf
      clear q00 q01 q02 q03
      go_wp2_with fail
      refine hR.out _ _ ?_
      exact ⟨some ⟨b1, o1, none⟩, 0, by rw [← hcl.out, hln.out, e0, ht.out] <;> rfl, by rw [← hcl.out, hcl2.out]; exact (hI.out.cut0 hq).later ef.out, ef.out⟩
    · replace c := hid c
      refine wp_region_mono (Sees W [(⟨w.heap.size, 1, none⟩, .slice (some ⟨b1, o1, none⟩) y.shape.length cy), (⟨b1, o1, none⟩, .int .i64 d)]) [] (fun k v u u' => match k with  | _ => False) (fun _ _ h e => h.up e) (Sees.start (all_cons (q01) (all_cons (hc1) (all_nil)))) (by kernel_rfl) (by kernel_rfl) ?_
      repeat (first | (refine m_plain (v := ?_) (by rfl) (by rfl) ?_ ?_; rotate_left; (intro wz hSw; obtain ⟨-, hSc⟩ := hSw; (try simp only [List.forall_mem_cons, List.forall_mem_nil, and_true] at hSc); go_simp; (first | done | with_reducible rfl)); (intro K hK; (try simp only [Act.put, List.setIfInBounds_toArray, List.set_cons_zero, List.set_cons_succ]); refine hK _ _ ?_; clear hK K)) | (refine m_skip (by rfl) (by rfl) ?_; (intro K hK; (try simp only [Act.put, List.setIfInBounds_toArray, List.set_cons_zero, List.set_cons_succ]); refine hK _ _ ?_; clear hK K)))
      refine m_nil ?_
      intro wf hSf hAf
      have ef := hid (E.out.up hSf.1).ext
      clear hSf hAf
      clear q00 q01 q02 q03
      go_wp2_with fail
      refine hR.out _ _ ?_
      exact ⟨_, _, by rw [← hcl.out, hln.out, ht.out] <;> rfl, by rw [← hcl.out, hcl2.out]; exact (hI.out.cut 1).later ef.out, ef.out⟩
end Go.Proofs.Ytdpdcjadedcglaa
