/- reshaping.Dims, its reference, and the small functions of the statements on cells: contracts. Conditions: the arrays are read. -/
import Derived.Test.YtmclggonmekanaaREF19
import Derived.Test.YtmclggonmekanaaROT
import Derived.Test.YtmclggonmekanaaR03
import Derived.Test.YtmclggonmekanaaSAME
set_option linter.unusedVariables false
set_option linter.unusedSimpArgs false
namespace Go.Proofs.Ytmclggonmekanaa
open Go.RowKit Go.Sort
attribute [local go_sem ↓] run_max2 run_min2
attribute [local go_sem] eql_ints_nil eql_arrs_nil
/-- a list of numbers and an error number -/
def RetIE (w : World) (l : List Int) (n : Int) (e : Ending) (w' : World) : Prop := ∃ ao cap, e = .returned (.tuple #[.slice ao l.length cap, .int .i64 n]) ∧ OwnI w' w.heap.size ao cap l ∧ Ext w w'
theorem RetIE.mk {w w' : World} {l l' : List Int} {n m : Int} {ao : Option Addr} {cap k : Nat} (E : l = l') (E2 : n = m) (ek : k = l'.length) (h : OwnI w' w.heap.size ao cap l') (hb : Ext w w') : RetIE w l n (.returned (.tuple #[.slice ao k cap, .int .i64 m])) w' := by
  subst E; subst E2; subst ek; exact ⟨ao, cap, rfl, h, hb⟩
def ndE (x : Arr) : Int := if rightS x ≠ 0 then 1 else if x.kind ≠ 1 then 14 else if 1 < x.shape.length then 15 else if x.nums.any negB = true then 17 else if shapeB x.nums = false then 21 else 0
def ndL (x : Arr) : List Int := if ndE x = 0 then x.nums else []
theorem ndE1 {x : Arr} (h : rightS x ≠ 0) : ndE x = 1 := if_pos h
theorem ndE14 {x : Arr} (h : rightS x = 0) (k : x.kind ≠ 1) : ndE x = 14 := by unfold ndE; rw [if_neg (by simp [h]), if_pos k]
theorem ndE15 {x : Arr} (h : rightS x = 0) (k : x.kind = 1) (r : 1 < x.shape.length) : ndE x = 15 := by unfold ndE; rw [if_neg (by simp [h]), if_neg (by simp [k]), if_pos r]
theorem ndE17 {x : Arr} (h : rightS x = 0) (k : x.kind = 1) (r : ¬ 1 < x.shape.length) (n : x.nums.any negB = true) : ndE x = 17 := by unfold ndE; rw [if_neg (by simp [h]), if_neg (by simp [k]), if_neg r, if_pos n]
theorem ndE21 {x : Arr} (h : rightS x = 0) (k : x.kind = 1) (r : ¬ 1 < x.shape.length) (n : x.nums.any negB = false) (s : shapeB x.nums = false) : ndE x = 21 := by unfold ndE; rw [if_neg (by simp [h]), if_neg (by simp [k]), if_neg r, if_neg (by simp [n]), if_pos s]
theorem ndE0 {x : Arr} (h : rightS x = 0) (k : x.kind = 1) (r : ¬ 1 < x.shape.length) (n : x.nums.any negB = false) (s : shapeB x.nums = true) : ndE x = 0 := by unfold ndE; rw [if_neg (by simp [h]), if_neg (by simp [k]), if_neg r, if_neg (by simp [n]), if_neg (by simp [s])]
theorem ndL_no {x : Arr} (h : ndE x ≠ 0) : ndL x = [] := if_neg h
theorem ndL_yes {x : Arr} (h : ndE x = 0) : ndL x = x.nums := if_pos h
theorem ndE_zero {x : Arr} (h : ndE x = 0) : rightS x = 0 ∧ x.kind = 1 ∧ ¬ 1 < x.shape.length ∧ shapeB x.nums = true := by
  by_cases a : rightS x = 0
  · by_cases b : x.kind = 1
    · by_cases c : 1 < x.shape.length
      · rw [ndE15 a b c] at h; omega
      · cases d : x.nums.any negB with
        | true => rw [ndE17 a b c d] at h; omega
        | false =>
          cases e : shapeB x.nums with
          | false => rw [ndE21 a b c d e] at h; omega
          | true => exact ⟨a, b, c, rfl⟩
    · rw [ndE14 a b] at h; omega
  · rw [ndE1 a] at h; omega
set_option maxHeartbeats 1000000 in
theorem reshaping_Dims_1 (d : Int) (w : World) : Calls Try.prog 70 #[.int .i64 d] w fun e w' => e = .returned (.bool (negB d)) ∧ w = w' := by
  refine calls_post fun R' hR => ?_
  go_enter Try.func70, Try.ntmps70
  go_wp2
  exact hR.out _ _ ⟨rfl, rfl⟩
set_option maxHeartbeats 2000000 in
theorem reshaping_Dims (x : Arr) (sx : Option Addr) (cx : Nat) (nx : Option Addr) (mx : Nat) (ix : Option Addr) (jx : Nat) (S : Nat → Prop) (w : World) (h : ArrAt w S x sx nx ix) : Calls Try.prog 38 #[.agg #[.int .i64 x.kind, .slice sx x.shape.length cx, .slice nx x.nums.length mx, .slice ix x.items.length jx]] w (RetIE w (ndL x) (ndE x)) := by
  refine calls_post fun R' hR => ?_
  have h0 := hid h
  have xnl := h.nums.1
  have xsl := h.shape.1
  clear h
  go_enter Try.func38, Try.ntmps38
  go_wp2_with fail
  generalize hEW : (w).alloc (.cells #[.int .i64 x.kind, .slice sx x.shape.length cx, .slice nx x.nums.length mx, .slice ix x.items.length jx] 46) = W
  obtain ⟨hxW, heW, zW⟩ := boxes1 w hEW
  clear hEW
  refine (array_Right x _ _ _ _ _ _ _ W (h0.out.up heW)).mono ?_
  rintro e w1 ⟨rfl, hb1⟩
  have e1 := hid (heW.trans hb1)
  have H1 := hxW.up hb1
  have A1 := hid (h0.out.up e1.out)
  have x0 := H1.c0
  have x1 := H1.c1
  have x2 := H1.c2
  clear hb1 heW hxW
  by_cases a : rightS x = 0
  case neg =>
    have ab : (rightS x != 0) = true := by simp [a]
    have E := hid (ndE1 a)
    have E2 := hid (ndL_no (x := x) (by rw [E.out]; omega))
    replace a := hid a
    go_wp2_with fail
    exact hR.out _ _ (RetIE.mk E2.out E.out rfl (OwnI.nil _ _) e1.out)
  have ab : (rightS x != 0) = false := by simp [a]
  by_cases b : x.kind = 1
  case neg =>
    have bb : (x.kind != 1) = true := by simp [b]
    have E := hid (ndE14 a b)
    have E2 := hid (ndL_no (x := x) (by rw [E.out]; omega))
    replace a := hid a
    replace b := hid b
    go_wp2_with fail
    exact hR.out _ _ (RetIE.mk E2.out E.out rfl (OwnI.nil _ _) e1.out)
  have bb : (x.kind != 1) = false := by simp [b]
  by_cases c : 1 < x.shape.length
  case pos =>
    have E := hid (ndE15 a b c)
    have E2 := hid (ndL_no (x := x) (by rw [E.out]; omega))
    replace a := hid a
    replace b := hid b
    go_wp2_with fail
    exact hR.out _ _ (RetIE.mk E2.out E.out rfl (OwnI.nil _ _) e1.out)
  cases d : x.nums.any negB with
  | true =>
    have E := hid (ndE17 a b c d)
    have E2 := hid (ndL_no (x := x) (by rw [E.out]; omega))
    replace a := hid a
    replace b := hid b
    replace d := hid d
    go_wp2_with (go_at_call 69; refine (slices_ContainsFunc_reshaping_Dims_1 negB x.nums _ _ _ w1 A1.out.nums (fun n => reshaping_Dims_1 n w1)).mono ?_; rintro e w' ⟨rfl, rfl⟩; rw [d.out])
    exact hR.out _ _ (RetIE.mk E2.out E.out rfl (OwnI.nil _ _) e1.out)
  | false =>
  cases s : shapeB x.nums with
  | false =>
    have E := hid (ndE21 a b c d s)
    have E2 := hid (ndL_no (x := x) (by rw [E.out]; omega))
    replace a := hid a
    replace b := hid b
    replace d := hid d
    replace s := hid s
    go_wp2_with (first
      | (go_at_call 69; refine (slices_ContainsFunc_reshaping_Dims_1 negB x.nums _ _ _ w1 A1.out.nums (fun n => reshaping_Dims_1 n w1)).mono ?_; rintro e w' ⟨rfl, rfl⟩; rw [d.out])
      | (go_at_call 71; refine (shape_Right x.nums _ _ _ w1 A1.out.nums).mono ?_; rintro e w' ⟨rfl, rfl⟩; rw [s.out]))
    exact hR.out _ _ (RetIE.mk E2.out E.out rfl (OwnI.nil _ _) e1.out)
  | true =>
    have E := hid (ndE0 a b c d s)
    have E2 := hid (ndL_yes (x := x) E.out)
    replace a := hid a
    replace b := hid b
    replace d := hid d
    replace s := hid s
    go_wp2_with (first
      | (go_at_call 69; refine (slices_ContainsFunc_reshaping_Dims_1 negB x.nums _ _ _ w1 A1.out.nums (fun n => reshaping_Dims_1 n w1)).mono ?_; rintro e w' ⟨rfl, rfl⟩; rw [d.out])
      | (go_at_call 71; refine (shape_Right x.nums _ _ _ w1 A1.out.nums).mono ?_; rintro e w' ⟨rfl, rfl⟩; rw [s.out])
      | (go_at_call 72; refine (slices_Clone x.nums _ _ _ w1 A1.out.nums).mono ?_; rintro e w2 ⟨ta, tc, rfl, hq, hqb⟩))
    exact hR.out _ _ (RetIE.mk E2.out E.out rfl (hq.base (Below.size e1.out)) (e1.out.trans hqb))
theorem wpl_appE {ops : Array Oper} {rest : List Oper} {o : Oper} {a : Act} {Q : Exit → Act → World → Prop} {w : World} (hgd : o.guard = none) (s x : Operand) (ho : o.op = .call { callee := .builtin .append, args := #[s, x], argTypes := #[43, 43] })
    (base : Nat) (ao : Option Addr) (hs : a.eval s = .slice ao 0 0) (hown : OwnI w base ao 0 []) (S : Nat → Prop) (so : Option Addr) (sc : Nat) (ys : List Int) (hx : a.eval x = .slice so ys.length sc) (hys : IntsAt w S so ys) (hbase : base ≤ w.heap.size)
    (h : ∀ ao' cap' w', OwnI w' base ao' cap' ys → Ext w w' → wpList Try.prog ops Q rest (a.put o.dst (.slice ao' ys.length cap')) w') : wpList Try.prog ops Q (o :: rest) a w := by
  refine wpList_plain hgd fun K hK => ?_
  exact wp_of_does (R := fun v w' => wpList Try.prog ops Q rest (a.put o.dst v) w') (fun v w' hr => hK _ _ hr) (does_appE s x ho base ao hs hown S so sc ys hx hys hbase h)
theorem wpl_build0 {ops : Array Oper} {rest : List Oper} {o : Oper} {a : Act} {Q : Exit → Act → World → Prop} {w : World} (hgd : o.guard = none) (ho : o.op = .buildSlice 43 0 #[])
    (h : wpList Try.prog ops Q rest (a.put o.dst (.slice (some ⟨w.heap.size, 0, none⟩) 0 0)) (w.alloc (.cells #[] 3))) : wpList Try.prog ops Q (o :: rest) a w := by
  refine wpList_plain hgd fun K hK => ?_
  have := hK _ _ h
  unfold Oper.wp execOp
  simp only [ho]
  simp [go_sem]
  exact this
set_option maxHeartbeats 2000000 in
theorem ref18_Dims (x : Arr) (sx : Option Addr) (cx : Nat) (nx : Option Addr) (mx : Nat) (ix : Option Addr) (jx : Nat) (S : Nat → Prop) (w : World) (h : ArrAt w S x sx nx ix) : Calls Try.prog 39 #[.agg #[.int .i64 x.kind, .slice sx x.shape.length cx, .slice nx x.nums.length mx, .slice ix x.items.length jx]] w (RetIE w (ndL x) (ndE x)) := by
  refine calls_post fun R' hR => ?_
  have h0 := hid h
  have xnl := h.nums.1
  have xsl := h.shape.1
  clear h
  go_enter Try.func39, Try.ntmps39
  go_wp2_with fail
  generalize hEW : (w).alloc (.cells #[.int .i64 x.kind, .slice sx x.shape.length cx, .slice nx x.nums.length mx, .slice ix x.items.length jx] 46) = W
  obtain ⟨hxW, heW, zW⟩ := boxes1 w hEW
  clear hEW
  refine (ref03_Right x _ _ _ _ _ _ _ W (h0.out.up heW)).mono ?_
  rintro e w1 ⟨rfl, hb1⟩
  have e1 := hid (heW.trans hb1)
  have H1 := hxW.up hb1
  have A1 := hid (h0.out.up e1.out)
  have x0 := H1.c0
  have x1 := H1.c1
  have x2 := H1.c2
  clear hb1 heW hxW
  by_cases a : rightS x = 0
  case neg =>
    have ab : (rightS x != 0) = true := by simp [a]
    have E := hid (ndE1 a)
    have E2 := hid (ndL_no (x := x) (by rw [E.out]; omega))
    replace a := hid a
    go_wp2_with fail
    exact hR.out _ _ (RetIE.mk E2.out E.out rfl (OwnI.nil _ _) e1.out)
  have ab : (rightS x != 0) = false := by simp [a]
  by_cases b : x.kind = 1
  case neg =>
    have bb : (x.kind != 1) = true := by simp [b]
    have E := hid (ndE14 a b)
    have E2 := hid (ndL_no (x := x) (by rw [E.out]; omega))
    replace a := hid a
    replace b := hid b
    go_wp2_with fail
    exact hR.out _ _ (RetIE.mk E2.out E.out rfl (OwnI.nil _ _) e1.out)
  have bb : (x.kind != 1) = false := by simp [b]
  by_cases c : 1 < x.shape.length
  case pos =>
    have E := hid (ndE15 a b c)
    have E2 := hid (ndL_no (x := x) (by rw [E.out]; omega))
    replace a := hid a
    replace b := hid b
    go_wp2_with fail
    exact hR.out _ _ (RetIE.mk E2.out E.out rfl (OwnI.nil _ _) e1.out)
  have A := hid a
  have B := hid b
  have zW := Below.size e1.out
  clear a b
  go_wp2_with fail
  go_loop [4] (fun i => ∃ k : Nat, k ≤ x.nums.length ∧ i = .int .i64 k ∧ Hid ((x.nums.take k).any negB = false)) (fun i => x.nums.length - (intOf i).toNat)
  case atStart => exact ⟨0, Nat.zero_le _, rfl, by simp [Hid]⟩
  case round =>
    obtain ⟨k, hk, rfl, hany⟩ := hrel
    by_cases hlt : k < x.nums.length
    · obtain ⟨b, off, rfl, hbl, hS, hc⟩ := A1.out.nums.at hlt
      have hst := hid (any_take_succ (p := negB) hlt hany.out)
      have hbad := hid (any_of_at (p := negB) hlt)
      generalize x.nums.getD k 0 = d at hc hst hbad
      by_cases c1 : d < 0
      · have E := hid (ndE17 A.out B.out c (hbad.out (by simpa [negB] using c1)))
        have E2 := hid (ndL_no (x := x) (by rw [E.out]; omega))
        go_wp2_with fail
        exact hR.out _ _ (RetIE.mk E2.out E.out rfl (OwnI.nil _ _) e1.out)
      · have hst' := hid (hst.out (by simpa [negB] using c1))
        go_wp2_with fail
        go_round
        case rel => exact ⟨k + 1, by omega, by go_num, hst'.out⟩
        case measure => simp [intOf]; omega
    · have hany' := hany.out
      rw [show k = x.nums.length from by omega, List.take_length] at hany'
      cases s : shapeB x.nums with
      | false =>
        have E := hid (ndE21 A.out B.out c hany' s)
        have E2 := hid (ndL_no (x := x) (by rw [E.out]; omega))
        replace s := hid s
        clear hany hany'
        go_wp2_with (go_at_call 73; refine (ref02_Right x.nums _ _ _ w1 A1.out.nums).mono ?_; rintro e w' ⟨rfl, rfl⟩; rw [s.out])
        exact hR.out _ _ (RetIE.mk E2.out E.out rfl (OwnI.nil _ _) e1.out)
      | true =>
        have E := hid (ndE0 A.out B.out c hany' s)
        have E2 := hid (ndL_yes (x := x) E.out)
        replace s := hid s
        clear hany hany'
        have hoe := hid (own_empty (w := w1) (wf := w1.alloc (.cells #[] 3)) zW (Ext.refl _))
        have ea := hid (ext_alloc w1 (.cells #[] 3))
        have x2' := (H1.up ea.out).c2
        go_wp2_with (first
          | (go_at_call 73; refine (ref02_Right x.nums _ _ _ w1 A1.out.nums).mono ?_; rintro e w' ⟨rfl, rfl⟩; rw [s.out])
          | (refine wpl_build0 rfl rfl ?_)
          | (at_builtin; (refine wpl_appE rfl (.tmp 32) (.tmp 34) rfl w.heap.size (some ⟨w1.heap.size, 0, none⟩) rfl hoe.out _ nx mx x.nums rfl (A1.out.up ea.out).nums (Nat.le_trans zW (Below.size ea.out)) ?_; intro ta tc w3 hq hqb)))
        exact hR.out _ _ (RetIE.mk E2.out E.out rfl hq (e1.out.trans (ea.out.trans hqb)))
def SomeI (w : World) (e : Ending) (w' : World) : Prop := ∃ r : Int, e = .returned (.int .i64 r) ∧ Ext w w'
def SomeB' (w : World) (e : Ending) (w' : World) : Prop := ∃ r : Bool, e = .returned (.bool r) ∧ Ext w w'
set_option maxHeartbeats 4000000 in
theorem law04_count (a : Arr) : ∀ (sa : Option Addr) (ca : Nat) (na : Option Addr) (ma : Nat) (ia : Option Addr) (ja : Nat) (S : Nat → Prop) (w : World), ArrAt w S a sa na ia → Calls Try.prog 67 #[.agg #[.int .i64 a.kind, .slice sa a.shape.length ca, .slice na a.nums.length ma, .slice ia a.items.length ja]] w (SomeI w) := by
  induction a using Arr.ind with
  | h a IH =>
    intro sa ca na ma ia ja S w h
    have IH := hid IH
    refine calls_post fun R' hR => ?_
    have hnl := h.nums.1
    have hil := h.len
    have h0 := hid h
    clear h
    go_enter Try.func67, Try.ntmps67
    go_wp2_with fail
    generalize hEW : (w).alloc (.cells #[.int .i64 a.kind, .slice sa a.shape.length ca, .slice na a.nums.length ma, .slice ia a.items.length ja] 46) = W
    obtain ⟨haW, heW, zW⟩ := boxes1 w hEW
    clear hEW
    go_loopw [3, 4] (fun s i wr => ∃ (k : Nat) (n : Int), k ≤ a.items.length ∧ i = .int .i64 k ∧ s = .int .i64 n ∧ Ext W wr) (fun _ i _ => a.items.length - (intOf i).toNat)
    case atStart => exact ⟨0, _, Nat.zero_le _, rfl, rfl, Ext.refl _⟩
    case round =>
      obtain ⟨k, n, hk, rfl, rfl, hX⟩ := hrel
      have hX := hid hX
      have q3 := (haW.up hX.out).c3
      by_cases hlt : k < a.items.length
      · obtain ⟨b, off, sx, cx, nx, mx, ix, jx, hia, hS, hbl, e0, e1, e2, e3, hx⟩ := (h0.out.up (heW.trans hX.out)).items.at hlt
        have hmem := hid (List.getElem_mem hlt)
        subst hia
        generalize a.items[k] = x at e0 e1 e2 e3 hx hmem
        have HX := hid hx
        clear hx
        go_wp2_with fail
        refine (IH.out x hmem.out _ cx _ mx _ jx S wr HX.out).mono ?_
        rintro e w2 ⟨r, rfl, hb2⟩
        have e2' := hid (hX.out.trans hb2)
        clear e0 e1 e2 e3 q3 hb2
        go_wp2_with fail
        go_roundw
        case rel => exact ⟨k + 1, _, by omega, by go_num, rfl, e2'.out⟩
        case measure => simp [intOf]; omega
      · have eW := hid (heW.trans hX.out)
        go_wp2_with fail
        exact hR.out _ _ ⟨_, rfl, eW.out⟩
set_option maxHeartbeats 1000000 in
theorem law04_Few (a : Arr) (sa : Option Addr) (ca : Nat) (na : Option Addr) (ma : Nat) (ia : Option Addr) (ja : Nat) (n : Int) (S : Nat → Prop) (w : World) (h : ArrAt w S a sa na ia) : Calls Try.prog 36 #[.agg #[.int .i64 a.kind, .slice sa a.shape.length ca, .slice na a.nums.length ma, .slice ia a.items.length ja], .int .i64 n] w (SomeB' w) := by
  refine calls_post fun R' hR => ?_
  have h0 := hid h
  have hsl := h.shape.1
  clear h
  go_enter Try.func36, Try.ntmps36
  go_upto_region 1 with (fail)
  generalize hEW : (w).alloc (.cells #[.int .i64 a.kind, .slice sa a.shape.length ca, .slice na a.nums.length ma, .slice ia a.items.length ja] 46) = W
  obtain ⟨haW, heW, zW⟩ := boxes1 w hEW
  clear hEW
  by_cases c : a.shape.length ≤ 20
  · have c' : (a.shape.length : Int) ≤ 20 := by omega
    obtain ⟨a0, a1, a2, a3⟩ := haW.all
    go_wp2_with fail
    refine (law04_count a _ _ _ _ _ _ _ W (h0.out.up heW)).mono ?_
    rintro e w1 ⟨r, rfl, hb1⟩
    have e1 := hid (heW.trans hb1)
    clear hb1 a0 a1 a2 a3
    go_wp2_with fail
    exact hR.out _ _ ⟨_, rfl, e1.out⟩
  · have c' : ¬ (a.shape.length : Int) ≤ 20 := by omega
    obtain ⟨a0, a1, a2, a3⟩ := haW.all
    go_wp2_with fail
    exact hR.out _ _ ⟨_, rfl, heW⟩
end Go.Proofs.Ytmclggonmekanaa
