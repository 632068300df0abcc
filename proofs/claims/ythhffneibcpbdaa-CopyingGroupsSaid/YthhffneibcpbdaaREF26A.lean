/- ref23.Tally, ref23.Cell and the small functions of ref26: contracts. Conditions: the arrays are read; a slice's capacity is at least its length. -/
import Derived.Test.YthhffneibcpbdaaS26
import Derived.Deep.CutRange
import Derived.Deep.DeepCutAuto
set_option linter.unusedVariables false
set_option linter.unusedSimpArgs false
namespace Go.Proofs.Ythhffneibcpbdaa
open Go.RowKit Go.Sort
attribute [local go_sem ↓] run_max2 run_min2
attribute [local go_sem] eql_ints_nil eql_arrs_nil
set_option maxHeartbeats 2000000 in
theorem ref23_Tally (y : Arr) (sy : Option Addr) (cy : Nat) (ny : Option Addr) (my : Nat) (iy : Option Addr) (jy : Nat) (S : Nat → Prop) (w : World) (h : ArrAt w S y sy ny iy) : Calls Try.prog 44 #[.agg #[.int .i64 y.kind, .slice sy y.shape.length cy, .slice ny y.nums.length my, .slice iy y.items.length jy]] w fun e w' => e = .returned (.int .i64 (talN y)) ∧ Below w.heap.size w w' := by
  refine calls_post fun R' hR => ?_
  have h0 := hid h
  have hsl := h.shape.1
  clear h
  by_cases c : y.shape.length = 0
  · have ht : Hid (talN y = 1) := hid (if_pos c)
    have cb : ((y.shape.length : Int) == 0) = true := by simpa using c
    replace c := hid c
    go_enter Try.func44, Try.ntmps44
    go_upto_region 1 with (fail)
    generalize hEW : (w).alloc (.cells #[.int .i64 y.kind, .slice sy y.shape.length cy, .slice ny y.nums.length my, .slice iy y.items.length jy] 26) = W
    have E := hid (env1 w S hEW)
    clear hEW
    obtain ⟨q00, q01, q02, q03⟩ := (E.out.hdr 0 rfl).all
    go_wp2_with fail
    exact hR.out _ _ ⟨by rw [ht.out] <;> rfl, E.out.ext⟩
  · have ht : Hid (talN y = y.shape.getD 0 0) := hid (if_neg c)
    have cb : ((y.shape.length : Int) == 0) = false := by simpa using c
    go_enter Try.func44, Try.ntmps44
    go_upto_region 1 with (fail)
    generalize hEW : (w).alloc (.cells #[.int .i64 y.kind, .slice sy y.shape.length cy, .slice ny y.nums.length my, .slice iy y.items.length jy] 26) = W
    have E := hid (env1 w S hEW)
    clear hEW
    replace E := hid (E.out.arg h0.out)
    (try simp only [List.cons_append, List.nil_append, List.set_cons_zero, List.set_cons_succ] at E)
    obtain ⟨b1, o1, hs1, hbl1, hS1, hc1⟩ := (E.out.arr 1 rfl).shape.at (k := 0) (by omega)
    have lx : 0 < y.shape.length := by omega
    generalize y.shape.getD 0 0 = d at hc1 ht
    rw [Nat.add_zero] at hc1
    subst hs1
    replace c := hid c
    obtain ⟨q00, q01, q02, q03⟩ := (E.out.hdr 0 rfl).all
    go_wp2_with fail
    exact hR.out _ _ ⟨by rw [ht.out] <;> rfl, E.out.ext⟩
/-- a slice that reads as the shape of a cell -/
def RetCell (w : World) (S : Nat → Prop) (y : Arr) (e : Ending) (w' : World) : Prop :=
  ∃ so sc, e = .returned (.slice so (celL y).length sc) ∧ IntsAt w' S so (celL y) ∧ Below w.heap.size w w'
set_option maxHeartbeats 2000000 in
theorem ref23_Cell (y : Arr) (sy : Option Addr) (cy : Nat) (ny : Option Addr) (my : Nat) (iy : Option Addr) (jy : Nat) (S : Nat → Prop) (w : World) (h : ArrAt w S y sy ny iy) (hc : y.shape.length ≤ cy) : Calls Try.prog 37 #[.agg #[.int .i64 y.kind, .slice sy y.shape.length cy, .slice ny y.nums.length my, .slice iy y.items.length jy]] w (RetCell w S y) := by
  refine calls_post fun R' hR => ?_
  have h0 := hid h
  have hsl := h.shape.1
  clear h
  obtain ⟨cl, hcl⟩ : ∃ l, l = celL y := ⟨_, rfl⟩
  have hcl2 : cl = y.shape.drop 1 := hcl
  by_cases c : y.shape.length = 0
  · have ht : Hid (cl = []) := hid (by rw [hcl2, List.eq_nil_of_length_eq_zero c]; rfl)
    have cb : ((y.shape.length : Int) == 0) = true := by simpa using c
    replace c := hid c
    replace hcl := hid hcl
    replace hcl2 := hid hcl2
    go_enter Try.func37, Try.ntmps37
    go_upto_region 1 with (fail)
    generalize hEW : (w).alloc (.cells #[.int .i64 y.kind, .slice sy y.shape.length cy, .slice ny y.nums.length my, .slice iy y.items.length jy] 26) = W
    have E := hid (env1 w S hEW)
    clear hEW
    obtain ⟨q00, q01, q02, q03⟩ := (E.out.hdr 0 rfl).all
    go_wp2_with fail
    exact hR.out _ _ ⟨none, 0, by rw [← hcl.out, ht.out]; rfl, by rw [← hcl.out, ht.out]; exact IntsAt.nil _ _ _, E.out.ext⟩
  · have cb : ((y.shape.length : Int) == 0) = false := by simpa using c
    have hln : Hid (cl.length = y.shape.length - 1) := hid (by rw [hcl2]; simp)
    replace hcl := hid hcl
    replace hcl2 := hid hcl2
    have s0 : ¬ (y.shape.length : Int) < 1 := by omega
    have s1 : (1 : Int) ≤ (y.shape.length : Int) := by omega
    have s2 : (1 : Int) ≤ (cy : Int) := by omega
    go_enter Try.func37, Try.ntmps37
    go_upto_region 1 with (fail)
    generalize hEW : (w).alloc (.cells #[.int .i64 y.kind, .slice sy y.shape.length cy, .slice ny y.nums.length my, .slice iy y.items.length jy] 26) = W
    have E := hid (env1 w S hEW)
    clear hEW
    replace E := hid (E.out.arg h0.out)
    (try simp only [List.cons_append, List.nil_append, List.set_cons_zero, List.set_cons_succ] at E)
    obtain ⟨q00, q01, q02, q03⟩ := (E.out.hdr 0 rfl).all
    have c0 : ¬ cy = 0 := by omega
    by_cases c1 : cy = 1
    · subst c1
      have hq : y.shape.length ≤ 1 := by omega
      have e0 : y.shape.length - 1 = 0 := by omega
      replace c := hid c
      go_wp2_with fail
      exact hR.out _ _ ⟨sy, 0, by rw [← hcl.out, hln.out, e0], by rw [← hcl.out, hcl2.out]; exact (h0.out.shape.cut0 hq).later E.out.ext, E.out.ext⟩
    · replace c := hid c
      go_wp2_with fail
      exact hR.out _ _ ⟨_, _, by rw [← hcl.out, hln.out], by rw [← hcl.out, hcl2.out]; exact (h0.out.shape.cut 1).later E.out.ext, E.out.ext⟩
def RetChk (w : World) (S : Nat → Prop) (x y : Arr) (e : Ending) (w' : World) : Prop :=
  ∃ so sl sc, e = .returned (.tuple #[.slice so sl sc, .int .i64 (chkE26 x y)]) ∧ (chkE26 x y = 0 → sl = x.nums.length ∧ IntsAt w' S so x.nums ∧ x.nums.length ≤ sc) ∧ Below w.heap.size w w'
theorem chkE_x {x y : Arr} (h : rightS x ≠ 0) : chkE26 x y = 1 := if_pos (Or.inl h)
theorem chkE_y {x y : Arr} (h : rightS y ≠ 0) : chkE26 x y = 1 := if_pos (Or.inr h)
theorem chkE_k {x y : Arr} (h : rightS x = 0) (g : rightS y = 0) (k : x.kind ≠ 1) : chkE26 x y = 14 := by unfold chkE26; rw [if_neg (by simp [h, g]), if_pos k]
theorem chkE_r {x y : Arr} (h : rightS x = 0) (g : rightS y = 0) (k : x.kind = 1) (r : 1 < x.shape.length) : chkE26 x y = 15 := by unfold chkE26; rw [if_neg (by simp [h, g]), if_neg (by simp [k]), if_pos r]
set_option maxHeartbeats 4000000 in
theorem ref26_checked (x : Arr) (sx : Option Addr) (cx : Nat) (nx : Option Addr) (mx : Nat) (ix : Option Addr) (jx : Nat) (y : Arr) (sy : Option Addr) (cy : Nat) (ny : Option Addr) (my : Nat) (iy : Option Addr) (jy : Nat) (S : Nat → Prop) (w : World) (h : ArrAt w S x sx nx ix) (g : ArrAt w S y sy ny iy) (hc : x.nums.length ≤ mx) :
    Calls Try.prog 54 #[.agg #[.int .i64 x.kind, .slice sx x.shape.length cx, .slice nx x.nums.length mx, .slice ix x.items.length jx], .agg #[.int .i64 y.kind, .slice sy y.shape.length cy, .slice ny y.nums.length my, .slice iy y.items.length jy]] w (RetChk w S x y) := by
  refine calls_post fun R' hR => ?_
  have h0 := hid h
  have g0 := hid g
  have hsx := h.shape.1
  clear h g
  go_enter Try.func54, Try.ntmps54
  go_upto_region 1 with (fail)
  generalize hEW : ((w).alloc (.cells #[.int .i64 x.kind, .slice sx x.shape.length cx, .slice nx x.nums.length mx, .slice ix x.items.length jx] 26)).alloc (.cells #[.int .i64 y.kind, .slice sy y.shape.length cy, .slice ny y.nums.length my, .slice iy y.items.length jy] 26) = W
  have E := hid (env2 w S hEW)
  clear hEW
  replace E := hid ((E.out.arg h0.out).arg g0.out)
  (try simp only [List.cons_append, List.nil_append, List.set_cons_zero, List.set_cons_succ] at E)
  obtain ⟨q00, q01, q02, q03⟩ := (E.out.hdr 0 rfl).all
  go_wp2_with fail
  clear q00 q01 q02 q03
  refine (ref03_Right x _ _ _ _ _ _ _ _ (E.out.arr 2 rfl)).mono ?_
  rintro e w1 ⟨rfl, hb⟩
  replace E := hid (E.out.up hb)
  clear hb
  by_cases c : rightS x = 0
  case neg =>
    have cb : (rightS x != 0) = true := by simpa using c
    have hn := hid (chkE_x (y := y) c)
    replace c := hid c
    go_wp2_with fail
    exact hR.out _ _ ⟨_, _, _, by rw [hn.out] <;> rfl, fun q => absurd q (by rw [hn.out]; decide), E.out.ext⟩
  have cb : (rightS x != 0) = false := by simpa using c
  obtain ⟨q10, q11, q12, q13⟩ := (E.out.hdr 1 rfl).all
  go_wp2_with fail
  clear q10 q11 q12 q13
  refine (ref03_Right y _ _ _ _ _ _ _ _ (E.out.arr 3 rfl)).mono ?_
  rintro e w2 ⟨rfl, hb⟩
  replace E := hid (E.out.up hb)
  clear hb
  by_cases d : rightS y = 0
  case neg =>
    have db : (rightS y != 0) = true := by simpa using d
    have hn := hid (chkE_y (x := x) d)
    replace c := hid c
    replace d := hid d
    go_wp2_with fail
    exact hR.out _ _ ⟨_, _, _, by rw [hn.out] <;> rfl, fun q => absurd q (by rw [hn.out]; decide), E.out.ext⟩
  have db : (rightS y != 0) = false := by simpa using d
  by_cases k : x.kind = 1
  case neg =>
    have kb : (x.kind != 1) = true := by simpa using k
    have hn := hid (chkE_k c d k)
    replace c := hid c
    replace d := hid d
    replace k := hid k
    obtain ⟨q00, q01, q02, q03⟩ := (E.out.hdr 0 rfl).all
    go_wp2_with fail
    exact hR.out _ _ ⟨_, _, _, by rw [hn.out] <;> rfl, fun q => absurd q (by rw [hn.out]; decide), E.out.ext⟩
  have kb : (x.kind != 1) = false := by simpa using k
  by_cases r : 1 < x.shape.length
  case pos =>
    have rb : (1 : Int) < (x.shape.length : Int) := by omega
    have hn := hid (chkE_r c d k r)
    replace c := hid c
    replace d := hid d
    replace k := hid k
    obtain ⟨q00, q01, q02, q03⟩ := (E.out.hdr 0 rfl).all
    go_wp2_with fail
    exact hR.out _ _ ⟨_, _, _, by rw [hn.out] <;> rfl, fun q => absurd q (by rw [hn.out]; decide), E.out.ext⟩
  have rb : ¬ (1 : Int) < (x.shape.length : Int) := by omega
  have hn := hid (chk26_of ⟨c, d, k, by omega⟩)
  replace c := hid c
  replace d := hid d
  replace k := hid k
  obtain ⟨q00, q01, q02, q03⟩ := (E.out.hdr 0 rfl).all
  go_wp2_with fail
  exact hR.out _ _ ⟨_, _, _, by rw [hn.out] <;> rfl, fun q => ⟨rfl, h0.out.nums.later E.out.ext, hc⟩, E.out.ext⟩
def bitB (n : Int) : Bool := decide (n = 0 ∨ n = 1)
/-- bits: how many ones, and whether all are bits -/
def bitsS (l : List Int) : Int × Bool := if l.all bitB then (sumF (fun i => l.getD i 0) l.length, true) else (0, false)
theorem sumF_bits {l : List Int} : ∀ {n : Nat}, (∀ j, j < n → bitB (l.getD j 0) = true) → 0 ≤ sumF (fun i => l.getD i 0) n ∧ sumF (fun i => l.getD i 0) n ≤ n
  | 0, _ => ⟨Int.le_refl _, Int.le_refl _⟩
  | n + 1, h => by
    have h1 := sumF_bits (n := n) (fun j hj => h j (by omega))
    have h2 := h n (by omega)
    simp only [bitB, decide_eq_true_eq] at h2
    simp only [sumF]
    omega
theorem bits_all {l : List Int} (h : ∀ j, j < l.length → bitB (l.getD j 0) = true) : bitsS l = (sumF (fun i => l.getD i 0) l.length, true) := by
  refine if_pos (List.all_eq_true.2 fun e he => ?_)
  obtain ⟨k, hk, rfl⟩ := List.mem_iff_getElem.1 he
  have := h k hk
  simpa [hk] using this
theorem bits_none {l : List Int} {k : Nat} (hk : k < l.length) (h : bitB (l.getD k 0) = false) : bitsS l = (0, false) := by
  refine if_neg fun q => ?_
  have := (List.all_eq_true.1 q) _ (getD_mem hk)
  rw [h] at this; cases this
set_option maxHeartbeats 4000000 in
theorem ref26_bits (l : List Int) (ao : Option Addr) (cap : Nat) (S : Nat → Prop) (w : World) (h : IntsAt w S ao l) :
    Calls Try.prog 60 #[.slice ao l.length cap] w fun e w' => e = .returned (.tuple #[.int .i64 (bitsS l).1, .bool (bitsS l).2]) ∧ w = w' := by
  refine calls_post fun R' hR => ?_
  have hl := h.1
  go_enter Try.func60, Try.ntmps60
  go_wp2
  go_loop [4, 5] (fun s i => ∃ k : Nat, k ≤ l.length ∧ i = .int .i64 k ∧ s = .int .i64 (sumF (fun i => l.getD i 0) k) ∧ Hid (∀ j, j < k → bitB (l.getD j 0) = true)) (fun _ i => l.length - (intOf i).toNat)
  case atStart => exact ⟨0, Nat.zero_le _, rfl, rfl, fun j hj => by omega⟩
  case round =>
    obtain ⟨k, hk, rfl, rfl, hb⟩ := hrel
    by_cases hlt : k < l.length
    · obtain ⟨b, off, rfl, hbl, hS, hc⟩ := h.at hlt
      have hN := hid (fun q => bits_none hlt q)
      have hsb := sumF_bits hb.out
      have hT : Hid (sumF (fun i => l.getD i 0) (k + 1) = sumF (fun i => l.getD i 0) k + l.getD k 0) := rfl
      have hA : Hid (bitB (l.getD k 0) = true → ∀ j, j < k + 1 → bitB (l.getD j 0) = true) := fun q j hj => by
        rcases Nat.lt_succ_iff_lt_or_eq.1 hj with h1 | h1
        · exact hb.out j h1
        · rw [h1]; exact q
      generalize l.getD k 0 = d at hc hN hT hA
      generalize sumF (fun i => l.getD i 0) k = s at hsb hT ⊢
      by_cases c0 : d = 0
      · have e0 : (d != 0) = false := by simp [c0]
        have hA2 := hid (hA.out (by simp [bitB, c0]))
        have c0' := hid c0
        have hd : 0 ≤ d ∧ d ≤ 1 := by omega
        clear c0
        go_wp2
        go_round
        case rel => exact ⟨k + 1, by omega, by go_num, by rw [hT.out], hA2⟩
        case measure => simp [intOf]; omega
      · have e0 : (d != 0) = true := by simp [c0]
        by_cases c1 : d = 1
        · have e1 : (d != 1) = false := by simp [c1]
          have hA2 := hid (hA.out (by simp [bitB, c1]))
          have hd : 0 ≤ d ∧ d ≤ 1 := by omega
          have c1' := hid c1
          clear c1 c0
          go_wp2
          go_round
          case rel => exact ⟨k + 1, by omega, by go_num, by rw [hT.out], hA2⟩
          case measure => simp [intOf]; omega
        · have e1 : (d != 1) = true := by simp [c1]
          have hn := hid (hN.out (by simp [bitB, c0, c1]))
          have c1' := hid c1
          have c0' := hid c0
          clear c1 c0
          go_wp2
          exact hR.out _ _ ⟨by rw [hn.out] <;> rfl, rfl⟩
    · have hke : k = l.length := by omega
      have e := bits_all (l := l) (fun j hj => hb.out j (by omega))
      have E := hid e
      subst hke
      clear e
      go_wp2
      exact hR.out _ _ ⟨by rw [E.out] <;> rfl, rfl⟩
/-- bounded: the array if it is right -/
def bndE (a : Arr) : Int := if rightS a = 0 then 0 else 21
def bndS (a : Arr) : Arr := if rightS a = 0 then a else .zero
set_option maxHeartbeats 4000000 in
theorem ref26_bounded (a : Arr) (sa : Option Addr) (ca : Nat) (na : Option Addr) (ma : Nat) (ia : Option Addr) (ja : Nat) (S : Nat → Prop) (w : World) (h : ArrAt w S a sa na ia) (hc : a.shape.length ≤ ca ∧ a.nums.length ≤ ma ∧ a.items.length ≤ ja) :
    Calls Try.prog 58 #[.agg #[.int .i64 a.kind, .slice sa a.shape.length ca, .slice na a.nums.length ma, .slice ia a.items.length ja]] w (RetAEC w S (bndS a) (bndE a)) := by
  refine calls_post fun R' hR => ?_
  have h0 := hid h
  clear h
  go_enter Try.func58, Try.ntmps58
  go_upto_region 1 with (fail)
  generalize hEW : ((w).alloc (.cells #[.int .i64 a.kind, .slice sa a.shape.length ca, .slice na a.nums.length ma, .slice ia a.items.length ja] 26)).alloc (.cells #[.int .i64 0, .slice none 0 0, .slice none 0 0, .slice none 0 0] 26) = W
  have E := hid (env2 w S hEW)
  clear hEW
  replace E := hid (E.out.arg h0.out)
  (try simp only [List.cons_append, List.nil_append, List.set_cons_zero, List.set_cons_succ] at E)
  obtain ⟨q00, q01, q02, q03⟩ := (E.out.hdr 0 rfl).all
  go_wp2_with fail
  clear q00 q01 q02 q03
  refine (ref03_Right a _ _ _ _ _ _ _ _ (E.out.arr 2 rfl)).mono ?_
  rintro e w1 ⟨rfl, hb⟩
  replace E := hid (E.out.up hb)
  clear hb
  by_cases c : rightS a = 0
  case neg =>
    have cb : (rightS a != 0) = true := by simpa using c
    have hn : Hid (bndE a = 21) := hid (if_neg c)
    have hv : Hid (bndS a = .zero) := hid (if_neg c)
    replace c := hid c
    go_wp2_with (refine wpl_store4 rfl (.tmp 2) (.tmp 7) rfl _ rfl rfl (E.out.hdr 1 rfl) ?_; intro V HV CV; replace E := hid (E.out.chg 1 rfl CV HV))
    exact bodyPost_ret (end_arr2 rfl HV rfl rfl) rfl (hR.out _ _ (RetAEC.zero hv.out hn.out E.out.ext))
  have cb : (rightS a != 0) = false := by simpa using c
  have hn : Hid (bndE a = 0) := hid (if_pos c)
  have hv : Hid (bndS a = a) := hid (if_pos c)
  replace c := hid c
  obtain ⟨q00, q01, q02, q03⟩ := (E.out.hdr 0 rfl).all
  go_wp2_with (refine wpl_store4 rfl (.tmp 2) (.tmp 8) rfl _ rfl rfl (E.out.hdr 1 rfl) ?_; intro V HV CV; replace E := hid (E.out.chg 1 rfl CV HV); clear CV; (try simp only [List.cons_append, List.nil_append, List.set_cons_zero, List.set_cons_succ] at E))
  refine bodyPost_ret (end_arr2 rfl HV rfl rfl) rfl (hR.out _ _ ?_)
  exact RetAEC.at hv.out hn.out (h0.out.later E.out.ext) E.out.ext hc
theorem own_lit26 {w : World} {base : Nat} {d : Int} (hb : base ≤ w.heap.size) : OwnI (w.alloc (.cells #[.int .i64 d] 3)) base (some ⟨w.heap.size, 0, none⟩) 1 [d] :=
  ⟨rfl, Or.inr ⟨w.heap.size, 1, #[.int .i64 d], rfl, hb, made_blk (Ext.refl _), Nat.le_refl _, by decide, rfl, rfl⟩⟩
theorem wpl_buildV {ops : Array Oper} {rest : List Oper} {o : Oper} {a : Act} {Q : Exit → Act → World → Prop} {w : World} (hgd : o.guard = none) (d : Int) (p : Operand) (ho : o.op = .buildSlice 23 1 #[(0, p)]) (hp : a.eval p = .int .i64 d)
    (h : wpList Try.prog ops Q rest (a.put o.dst (.slice (some ⟨w.heap.size, 0, none⟩) 1 1)) (w.alloc (.cells #[.int .i64 d] 3))) : wpList Try.prog ops Q (o :: rest) a w := by
  refine wpList_plain hgd fun K hK => ?_
  have := hK _ _ h
  unfold Oper.wp execOp
  simp only [ho]
  cases p <;> (simp [go_sem] at hp) <;> simp [go_sem, hp] <;> exact this
/-- what shaped returns -/
def RetShp (w : World) (k : Int) (s : List Int) (e : Ending) (w' : World) : Prop :=
  ((dimsE s ≠ 0 ∧ e = .returned (.tuple #[.agg #[.int .i64 0, .slice none 0 0, .slice none 0 0, .slice none 0 0], .int .i64 21])) ∨
    (dimsE s = 0 ∧ ∃ so sc, e = .returned (.tuple #[.agg #[.int .i64 k, .slice so s.length sc, .slice none 0 0, .slice none 0 0], .int .i64 0]) ∧ OwnI w' w.heap.size so sc s)) ∧ Below w.heap.size w w'
set_option maxHeartbeats 4000000 in
theorem ref26_shaped (y : Arr) (sy : Option Addr) (cy : Nat) (ny : Option Addr) (my : Nat) (iy : Option Addr) (jy : Nat) (n : Int) (S : Nat → Prop) (w : World) (h : ArrAt w S y sy ny iy) (hc : y.shape.length ≤ cy) (hl : y.shape.length ≤ 1000) :
    Calls Try.prog 55 #[.agg #[.int .i64 y.kind, .slice sy y.shape.length cy, .slice ny y.nums.length my, .slice iy y.items.length jy], .int .i64 n] w (RetShp w y.kind (n :: celL y)) := by
  refine calls_post fun R' hR => ?_
  have h0 := hid h
  clear h
  obtain ⟨cl, hcl⟩ : ∃ l, l = celL y := ⟨_, rfl⟩
  obtain ⟨s, hs⟩ : ∃ l, l = [n] ++ cl := ⟨_, rfl⟩
  have hs2 : n :: celL y = s := by rw [hs, hcl]; rfl
  rw [hs2] at hR
  have hsl : s.length ≤ 1001 := by rw [hs, hcl]; simp [celL]; omega
  have hcl2 : celL y = cl := hcl.symm
  replace hcl := hid hcl
  replace hcl2 := hid hcl2
  replace hs := hid hs
  replace hs2 := hid hs2
  go_enter Try.func55, Try.ntmps55
  go_upto_region 1 with (fail)
  generalize hEW : ((w).alloc (.cells #[.int .i64 y.kind, .slice sy y.shape.length cy, .slice ny y.nums.length my, .slice iy y.items.length jy] 26)).alloc (.cells #[.int .i64 0, .slice none 0 0, .slice none 0 0, .slice none 0 0] 26) = W
  have E := hid (env2 w S hEW)
  clear hEW
  replace E := hid (E.out.arg h0.out)
  (try simp only [List.cons_append, List.nil_append, List.set_cons_zero, List.set_cons_succ] at E)
  obtain ⟨q00, q01, q02, q03⟩ := (E.out.hdr 0 rfl).all
  go_wp2_with (refine wpl_buildV rfl n (.tmp 7) rfl rfl ?_; replace E := hid (E.out.addRowI (own_lit26 (d := n) (Nat.le_refl _)) (ext_alloc _ _)); generalize World.alloc _ (.cells #[.int .i64 n] 3) = V1 at E ⊢; (try simp only [List.cons_append, List.nil_append, List.set_cons_zero, List.set_cons_succ] at E); clear q00 q01 q02 q03; obtain ⟨q00, q01, q02, q03⟩ := (E.out.hdr 0 rfl).all)
  clear q00 q01 q02 q03
  refine (ref23_Cell y _ _ _ _ _ _ _ _ (E.out.arr 2 rfl) hc).mono ?_
  rintro e w2 ⟨so, sc, rfl, hI, hb⟩
  rw [hcl2.out] at hI ⊢
  replace E := hid ((E.out.up hb).addInts hI (fun _ _ h => h))
  clear hI hb
  (try simp only [List.cons_append, List.nil_append, List.set_cons_zero, List.set_cons_succ] at E)
  go_wp2_with (at_builtin; refine wplE_appI E.out 3 rfl rfl (.tmp 8) (.tmp 10) rfl rfl _ _ _ cl rfl (E.out.ints 4 rfl) (by have q := hs.out; have q2 := congrArg List.length q; rw [List.length_append] at q2; omega) ?_; intro V2 a2 k2 E1; rw [← hs.out] at E1 ⊢; clear E; have E := hid E1; clear E1; (try simp only [List.cons_append, List.nil_append, List.set_cons_zero, List.set_cons_succ] at E))
  refine (ref03_Dims s _ _ _ _ (E.out.rowIr 3 rfl (by omega))).mono ?_
  rintro e w3 ⟨rfl, rfl⟩
  by_cases d : dimsE s = 0
  case neg =>
    have db : (dimsE s != 0) = true := by simpa using d
    have d' := hid d
    clear d
    go_wp2_with (refine wpl_store4 rfl (.tmp 4) (.tmp 15) rfl _ rfl rfl (E.out.hdr 1 rfl) ?_; intro V HV CV; replace E := hid (E.out.chg 1 rfl CV HV); clear CV; (try simp only [List.cons_append, List.nil_append, List.set_cons_zero, List.set_cons_succ] at E))
    exact bodyPost_ret (end_arr2 rfl HV rfl rfl) rfl (hR.out _ _ ⟨Or.inl ⟨d'.out, rfl⟩, E.out.ext⟩)
  have db : (dimsE s != 0) = false := by simpa using d
  replace d := hid d
  obtain ⟨q00, q01, q02, q03⟩ := (E.out.hdr 0 rfl).all
  go_wp2_with (refine wpl_store4 rfl (.tmp 4) (.tmp 19) rfl _ rfl rfl (E.out.hdr 1 rfl) ?_; intro V HV CV; replace E := hid (E.out.chg 1 rfl CV HV); clear CV; (try simp only [List.cons_append, List.nil_append, List.set_cons_zero, List.set_cons_succ] at E))
  exact bodyPost_ret (end_arr2 rfl HV rfl rfl) rfl (hR.out _ _ ⟨Or.inr ⟨d.out, a2, k2, rfl, E.out.rowI 3 rfl⟩, E.out.ext⟩)
theorem idx_lt26 {k m j p : Nat} (h : k < m) (g : j < p) : k * p + j < m * p := by
  have := Nat.mul_le_mul_right p (show k + 1 ≤ m from h)
  rw [Nat.succ_mul] at this
  omega
set_option maxRecDepth 100000 in
set_option maxHeartbeats 8000000 in
theorem ref26_cell (k : Int) (sa : Option Addr) (sl sc : Nat) (na : Option Addr) (nc : Nat) (nums : List Int) (ia : Option Addr) (ic : Nat) (items : List Arr) (y : Arr) (sy : Option Addr) (cy : Nat) (ny : Option Addr) (my : Nat) (iy : Option Addr) (jy : Nat) (i : Nat) (w0 : World) (S : Nat → Prop) (w : World) (M : List Fact)
    (E : Env w0 S w (.rowI na nc nums :: .rowA ia ic items :: M)) (h : ArrAt w (Tst w0 S (.rowI na nc nums :: .rowA ia ic items :: M)) y sy ny iy) (hk : k = y.kind) (F : Flat y) (hs : shapeB y.shape = true) (hc : y.shape.length ≤ cy) (hi : i < talM y) (hz : szA y = talM y * celN y) (hn : nums.length ≤ 900000) (hii : items.length ≤ 900000) :
    Calls Try.prog 57 #[.agg #[.int .i64 k, .slice sa sl sc, .slice na nums.length nc, .slice ia items.length ic], .agg #[.int .i64 y.kind, .slice sy y.shape.length cy, .slice ny y.nums.length my, .slice iy y.items.length jy], .int .i64 i] w fun en w' => ∃ na' nc' ia' ic', en = .returned (.agg #[.int .i64 k, .slice sa sl sc, .slice na' (nums ++ blkL y.nums i (celN y)).length nc', .slice ia' (items ++ blkL y.items i (celN y)).length ic']) ∧ Env w0 S w' (.rowI na' nc' (nums ++ blkL y.nums i (celN y)) :: .rowA ia' ic' (items ++ blkL y.items i (celN y)) :: M) := by
  refine calls_post fun R' hR => ?_
  have hbA : Tst w0 S (.arr y sy ny iy :: .rowI na nc nums :: .rowA ia ic items :: M) = Tst w0 S (.rowI na nc nums :: .rowA ia ic items :: M) := rfl
  replace E := hid (E.addArr h (fun _ _ q => q)).front
  clear h hbA
  have hn6 := celN_le hs
  have hsl : szA y ≤ 65536 := by
    have := cnt_le hs
    have e := cnt_tal hs
    omega
  have hcn := hid (celN_eq hs)
  have hsc := hid (celL_ok hs)
  replace F := hid F
  replace hs := hid hs
  replace hk := hid hk
  go_enter Try.func57, Try.ntmps57
  go_upto_region 1 with (fail)
  generalize hEW : (((w).alloc (.cells #[.int .i64 k, .slice sa sl sc, .slice na nums.length nc, .slice ia items.length ic] 26)).alloc (.cells #[.int .i64 y.kind, .slice sy y.shape.length cy, .slice ny y.nums.length my, .slice iy y.items.length jy] 26)).alloc (.cells #[.int .i64 0, .slice none 0 0, .slice none 0 0, .slice none 0 0] 26) = W
  replace E := hid (envF3 E.out hEW)
  clear hEW
  (try simp only [List.cons_append, List.nil_append, List.set_cons_zero, List.set_cons_succ] at E)
  obtain ⟨q10, q11, q12, q13⟩ := (E.out.hdr 1 rfl).all
  go_wp2_with fail
  clear q10 q11 q12 q13
  refine (ref23_Cell y _ _ _ _ _ _ _ _ (E.out.arr 3 rfl) hc).mono ?_
  rintro e w2 ⟨co, cc, rfl, hI, hb⟩
  replace E := hid (E.out.up hb)
  clear hb
  go_wp2_with fail
  refine (ref03_Count (celL y) _ _ _ _ hI).mono ?_
  rintro e w3 ⟨rfl, rfl⟩
  clear hI
  rw [cntC_eq hsc.out, ← hcn.out]
  replace E := hid (E.out.pick 5 rfl)
  simp only [List.eraseIdx_cons_succ, List.eraseIdx_cons_zero] at E
  replace E := hid (E.out.pick 5 rfl)
  simp only [List.eraseIdx_cons_succ, List.eraseIdx_cons_zero] at E
  obtain ⟨p, hp⟩ : ∃ p, p = celN y := ⟨_, rfl⟩
  rw [← hp] at hR hz hn6 ⊢
  replace hp := hid hp
  go_upto_region 3 with (fail)
  have z1 : nums ++ (blkL y.nums i p).take 0 = nums := by simp
  have z2 : items ++ (blkL y.items i p).take 0 = items := by simp
  replace z1 := hid z1
  replace z2 := hid z2
  go_loopw [8] (fun v wr => ∃ (j : Nat) (na : Option Addr) (nc : Nat) (ia : Option Addr) (ic : Nat), j ≤ p ∧ v = .int .i64 j ∧ Env w0 S wr (.rowI na nc (nums ++ (blkL y.nums i p).take j) :: .rowA ia ic (items ++ (blkL y.items i p).take j) :: .obj w.heap.size (.cells #[.int .i64 k, .slice sa sl sc, .slice na (nums ++ (blkL y.nums i p).take j).length nc, .slice ia (items ++ (blkL y.items i p).take j).length ic] 26 (0, 0)) :: .obj (w.heap.size + 1) (.cells #[.int .i64 y.kind, .slice sy y.shape.length cy, .slice ny y.nums.length my, .slice iy y.items.length jy] 26 (0, 0)) :: .obj (w.heap.size + 1 + 1) (.cells #[.int .i64 0, .slice none 0 0, .slice none 0 0, .slice none 0 0] 26 (0, 0)) :: .arr y sy ny iy :: M)) (fun v _ => p - (intOf v).toNat)
  case atStart => exact ⟨0, na, nc, ia, ic, Nat.zero_le _, rfl, by rw [z1.out, z2.out]; exact E.out⟩
  case round =>
    clear E
    obtain ⟨j, na, nc, ia, ic, hj, rfl, E⟩ := hrel
    replace E := hid E
    by_cases hl2 : j < p
    · have hix := idx_lt26 hi hl2
      rw [← hz] at hix
      obtain ⟨kp, hkp⟩ : ∃ n, n = i * p := ⟨_, rfl⟩
      rw [← hkp] at hix
      have hw1 : IntKind.i64.wrap ((i : Int) * (p : Int)) = (kp : Int) := by rw [← Int.natCast_mul, ← hkp]; exact IntWalk.i64_in _ (by omega)
      have hw2 : IntKind.i64.wrap ((kp : Int) + (j : Int)) = ((kp + j : Nat) : Int) := by rw [Int.natCast_add]; exact IntWalk.i64_in _ (by omega)
      have hN : putN k (nums ++ (blkL y.nums i p).take j) (atS y ((kp + j : Nat) : Int)) = nums ++ (blkL y.nums i p).take (j + 1) := by rw [putN_cell F.out hk.out hix, List.append_assoc, hkp, ← blk_step hl2]
      have hI : putI k (items ++ (blkL y.items i p).take j) (atS y ((kp + j : Nat) : Int)) = items ++ (blkL y.items i p).take (j + 1) := by rw [putI_cell F.out hk.out hix, List.append_assoc, hkp, ← blk_step hl2]
      have hbN : (nums ++ (blkL y.nums i p).take j).length ≤ 1000000 := by rw [List.length_append]; have := take_len_le (blkL y.nums i p) j; omega
      have hbI : (items ++ (blkL y.items i p).take j).length ≤ 1000000 := by rw [List.length_append]; have := take_len_le (blkL y.items i p) j; omega
      obtain ⟨nn, hnn⟩ : ∃ l, l = nums ++ (blkL y.nums i p).take j := ⟨_, rfl⟩
      obtain ⟨ii, hii2⟩ : ∃ l, l = items ++ (blkL y.items i p).take j := ⟨_, rfl⟩
      rw [← hnn, ← hii2] at E
      rw [← hnn] at hN hbN
      rw [← hii2] at hI hbI
      replace hnn := hid hnn
      replace hii2 := hid hii2
      replace hkp := hid hkp
      replace hN := hid hN
      replace hI := hid hI
      replace hbN := hid hbN
      replace hbI := hid hbI
      replace hix := hid hix
      generalize kp + j = t at hN hI hw2 hix
      go_upto_region 5 with (fail)
      obtain ⟨q20, q21, q22, q23⟩ := (E.out.hdr 2 rfl).all
      obtain ⟨q30, q31, q32, q33⟩ := (E.out.hdr 3 rfl).all
      obtain ⟨T, hT1, hT2, hT3⟩ := E.out.tw
      refine wp_region_mono_tail 8 (Sees wr [(⟨w.heap.size, 0, none⟩, .int .i64 k), (⟨w.heap.size, 1, none⟩, .slice sa sl sc), (⟨w.heap.size, 2, none⟩, .slice na nn.length nc), (⟨w.heap.size, 3, none⟩, .slice ia ii.length ic), (⟨(w.heap.size+1), 0, none⟩, .int .i64 y.kind), (⟨(w.heap.size+1), 1, none⟩, .slice sy y.shape.length cy), (⟨(w.heap.size+1), 2, none⟩, .slice ny y.nums.length my), (⟨(w.heap.size+1), 3, none⟩, .slice iy y.items.length jy)]) [7] (fun k v u u' => match k with | 7 => RetA u T (atS y t) (.returned v) u' | _ => False) (fun _ _ h e => h.up e) (Sees.start (all_cons (q20) (all_cons (q21) (all_cons (q22) (all_cons (q23) (all_cons ((E.out.hdr 3 rfl).c0) (all_cons ((E.out.hdr 3 rfl).c1) (all_cons ((E.out.hdr 3 rfl).c2) (all_cons ((E.out.hdr 3 rfl).c3) (all_nil)))))))))) (by kernel_rfl) (by kernel_rfl) ?_
      simp only [List.take_succ_cons, List.take_zero, List.drop_succ_cons, List.drop_zero]
      repeat (first | (refine m_plain (v := ?_) (by rfl) (by rfl) ?_ ?_; rotate_left; (intro wz hSw; obtain ⟨-, hSc⟩ := hSw; (try simp only [List.forall_mem_cons, List.forall_mem_nil, and_true] at hSc); go_simp; (first | done | with_reducible rfl)); (intro K hK; (try simp only [Act.put, List.setIfInBounds_toArray, List.set_cons_zero, List.set_cons_succ]); refine hK _ _ ?_; clear hK K)) | (refine m_skip (by rfl) (by rfl) ?_; (intro K hK; (try simp only [Act.put, List.setIfInBounds_toArray, List.set_cons_zero, List.set_cons_succ]); refine hK _ _ ?_; clear hK K)))
      refine m_make (by rfl) (by rfl) ?_ ?_
      · intro wz hSw hdep R hRz
        obtain ⟨hSe, hSc⟩ := hSw
        (try simp only [List.forall_mem_cons, List.forall_mem_nil, and_true] at hSc)
        unfold does
        (go_simp; refine Calls.mono (ref03_At y _ _ _ _ _ _ (t : Int) _ wz (ArrAt.up (ArrAt.mono (fun b _ h => hT1 b h) _ (E.out.arr 5 rfl)) hSe)) ?_; intro e wq h; obtain ⟨v, rfl, h1⟩ := retA_arm hT2 hSe (h.eq rfl); exact ⟨_, rfl, hRz.out _ _ h1⟩)
      intro v7 u7 x7 hG7 K hK
      have hF7 := hG7.fact
      (try dsimp only at hF7)
      obtain ⟨s7, c7, n7, m7, i7, j7, he, hA7, hb7⟩ := hF7
      injection he with he
      subst he
      (try simp only [Act.put, List.setIfInBounds_toArray, List.set_cons_zero, List.set_cons_succ]); refine hK _ _ ?_; clear hK K
      repeat (first | (refine m_plain (v := ?_) (by rfl) (by rfl) ?_ ?_; rotate_left; (intro wz hSw; obtain ⟨-, hSc⟩ := hSw; (try simp only [List.forall_mem_cons, List.forall_mem_nil, and_true] at hSc); go_simp; (first | done | with_reducible rfl)); (intro K hK; (try simp only [Act.put, List.setIfInBounds_toArray, List.set_cons_zero, List.set_cons_succ]); refine hK _ _ ?_; clear hK K)) | (refine m_skip (by rfl) (by rfl) ?_; (intro K hK; (try simp only [Act.put, List.setIfInBounds_toArray, List.set_cons_zero, List.set_cons_succ]); refine hK _ _ ?_; clear hK K)))
      refine m_nil ?_
      intro wf hSf hAf
      have hAt := hid (ArrAt.mono (fun b _ q => hT3 b q) _ (hA7.up (hAf 7 _ rfl)))
      replace E := hid (E.out.up hSf.1)
      clear hSf hAf hG7 hA7 hb7 hT1 hT2 hT3 hw1 hw2
      clear q20 q21 q22 q23 q30 q31 q32 q33
      have hl := at_len y (t : Int)
      go_wp2_with fail
      refine (ref03_Put k sa sl sc _ _ _ _ _ _ (atS y (t : Int)) _ _ _ _ _ _ w0 S wf _ E.out hAt.out (by have := hbN.out; omega) (by have := hbI.out; omega)).mono ?_
      rintro e w9 ⟨na2, nc2, ia2, ic2, rfl, E1⟩
      generalize hn2 : putN k nn (atS y (t : Int)) = nn2 at E1 ⊢
      generalize hi2 : putI k ii (atS y (t : Int)) = ii2 at E1 ⊢
      replace hn2 := hid (hn2.symm.trans hN.out)
      replace hi2 := hid (hi2.symm.trans hI.out)
      clear E
      have E := hid E1
      clear E1
      go_wp2_with (refine wpl_store4 rfl (.tmp 3) (.tmp 25) rfl _ rfl rfl (E.out.hdr 2 rfl) ?_; intro V2 HV CV; replace E := hid (E.out.chg 2 rfl CV HV); (try simp only [List.cons_append, List.nil_append, List.set_cons_zero, List.set_cons_succ] at E))
      go_roundw
      case rel => exact ⟨j + 1, na2, nc2, ia2, ic2, by omega, by go_num, by rw [← hn2.out, ← hi2.out]; exact E.out⟩
      case measure => simp [intOf]; omega
    · obtain rfl : j = p := by omega
      rw [blk_all, blk_all] at E
      obtain ⟨nn, hnn⟩ : ∃ l, l = nums ++ blkL y.nums i j := ⟨_, rfl⟩
      obtain ⟨ii, hii2⟩ : ∃ l, l = items ++ blkL y.items i j := ⟨_, rfl⟩
      rw [← hnn, ← hii2] at E hR
      replace hnn := hid hnn
      replace hii2 := hid hii2
      obtain ⟨q20, q21, q22, q23⟩ := (E.out.hdr 2 rfl).all
      go_wp2_with (refine wpl_store4 rfl (.tmp 6) (.tmp 26) rfl _ rfl rfl (E.out.hdr 4 rfl) ?_; intro V2 HV CV; replace E := hid (E.out.chg 4 rfl CV HV); (try simp only [List.cons_append, List.nil_append, List.set_cons_zero, List.set_cons_succ] at E))
      refine bodyPost_ret (end_arr rfl HV rfl) rfl (hR.out _ _ ⟨na, nc, ia, ic, rfl, ?_⟩)
      exact E.out.sub ((((((List.Sublist.refl _).cons _).cons _).cons _).cons _).cons_cons _ |>.cons_cons _)
end Go.Proofs.Ythhffneibcpbdaa
