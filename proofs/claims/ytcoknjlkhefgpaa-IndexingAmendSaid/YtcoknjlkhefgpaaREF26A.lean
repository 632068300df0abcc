/- ref23.Tally, ref23.Cell and the small functions of ref26: contracts. Conditions: the arrays are read; a slice's capacity is at least its length. -/
import Derived.Test.YtcoknjlkhefgpaaS26
import Derived.Deep.CutRange
import Derived.Deep.DeepCutAuto
set_option linter.unusedVariables false
set_option linter.unusedSimpArgs false
namespace Go.Proofs.Ytcoknjlkhefgpaa
open Go.RowKit Go.Sort
attribute [local go_sem ↓] run_max2 run_min2
attribute [local go_sem] eql_ints_nil eql_arrs_nil
set_option maxHeartbeats 2000000 in
theorem ref23_Tally (y : Arr) (sy : Option Addr) (cy : Nat) (ny : Option Addr) (my : Nat) (iy : Option Addr) (jy : Nat) (S : Nat → Prop) (w : World) (h : ArrAt w S y sy ny iy) : Calls Try.prog 45 #[.agg #[.int .i64 y.kind, .slice sy y.shape.length cy, .slice ny y.nums.length my, .slice iy y.items.length jy]] w fun e w' => e = .returned (.int .i64 (talN y)) ∧ Below w.heap.size w w' := by
  refine calls_post fun R' hR => ?_
  have h0 := hid h
  have hsl := h.shape.1
  clear h
  by_cases c : y.shape.length = 0
  · have ht : Hid (talN y = 1) := hid (if_pos c)
    have cb : ((y.shape.length : Int) == 0) = true := by simpa using c
    replace c := hid c
    go_enter Try.func45, Try.ntmps45
    go_upto_region 1 with (fail)
    generalize hEW : (w).alloc (.cells #[.int .i64 y.kind, .slice sy y.shape.length cy, .slice ny y.nums.length my, .slice iy y.items.length jy] 26) = W
    have E := hid (env1 w S hEW)
    clear hEW
    obtain ⟨q00, q01, q02, q03⟩ := (E.out.hdr 0 rfl).all
    go_wp2_with fail
    exact hR.out _ _ ⟨by rw [ht.out] <;> rfl, E.out.ext⟩
  · have ht : Hid (talN y = y.shape.getD 0 0) := hid (if_neg c)
    have cb : ((y.shape.length : Int) == 0) = false := by simpa using c
    go_enter Try.func45, Try.ntmps45
    go_upto_region 1 with (fail)
    generalize hEW : (w).alloc (.cells #[.int .i64 y.kind, .slice sy y.shape.length cy, .slice ny y.nums.length my, .slice iy y.items.length jy] 26) = W
    have E := hid (env1 w S hEW)
    clear hEW
    replace E := hid (E.out.arg h0.out)
    (try simp only [List.cons_append, List.nil_append, List.set_cons_zero, List.set_cons_succ] at E)
    obtain ⟨b1, o1, hs1, hbl1, hS1, hc1⟩ := (E.out.arr 1 rfl).shape.at (k := 0) (by omega)
    have lx : 0 < y.shape.length := by omega
    generalize y.shape.getD 0 0 = d at hc1 ht
    rw [Nat.add_zero] at hc1
    subst hs1
    replace c := hid c
    obtain ⟨q00, q01, q02, q03⟩ := (E.out.hdr 0 rfl).all
    go_wp2_with fail
    exact hR.out _ _ ⟨by rw [ht.out] <;> rfl, E.out.ext⟩
/-- a slice that reads as the shape of a cell -/
def RetCell (w : World) (S : Nat → Prop) (y : Arr) (e : Ending) (w' : World) : Prop :=
  ∃ so sc, e = .returned (.slice so (celL y).length sc) ∧ IntsAt w' S so (celL y) ∧ Below w.heap.size w w'
set_option maxHeartbeats 2000000 in
theorem ref23_Cell (y : Arr) (sy : Option Addr) (cy : Nat) (ny : Option Addr) (my : Nat) (iy : Option Addr) (jy : Nat) (S : Nat → Prop) (w : World) (h : ArrAt w S y sy ny iy) (hc : y.shape.length ≤ cy) : Calls Try.prog 27 #[.agg #[.int .i64 y.kind, .slice sy y.shape.length cy, .slice ny y.nums.length my, .slice iy y.items.length jy]] w (RetCell w S y) := by
  refine calls_post fun R' hR => ?_
  have h0 := hid h
  have hsl := h.shape.1
  clear h
  obtain ⟨cl, hcl⟩ : ∃ l, l = celL y := ⟨_, rfl⟩
  have hcl2 : cl = y.shape.drop 1 := hcl
  by_cases c : y.shape.length = 0
  · have ht : Hid (cl = []) := hid (by rw [hcl2, List.eq_nil_of_length_eq_zero c]; rfl)
    have cb : ((y.shape.length : Int) == 0) = true := by simpa using c
    replace c := hid c
    replace hcl := hid hcl
    replace hcl2 := hid hcl2
    go_enter Try.func27, Try.ntmps27
    go_upto_region 1 with (fail)
    generalize hEW : (w).alloc (.cells #[.int .i64 y.kind, .slice sy y.shape.length cy, .slice ny y.nums.length my, .slice iy y.items.length jy] 26) = W
    have E := hid (env1 w S hEW)
    clear hEW
    obtain ⟨q00, q01, q02, q03⟩ := (E.out.hdr 0 rfl).all
    go_wp2_with fail
    exact hR.out _ _ ⟨none, 0, by rw [← hcl.out, ht.out]; rfl, by rw [← hcl.out, ht.out]; exact IntsAt.nil _ _ _, E.out.ext⟩
  · have cb : ((y.shape.length : Int) == 0) = false := by simpa using c
    have hln : Hid (cl.length = y.shape.length - 1) := hid (by rw [hcl2]; simp)
    replace hcl := hid hcl
    replace hcl2 := hid hcl2
    have s0 : ¬ (y.shape.length : Int) < 1 := by omega
    have s1 : (1 : Int) ≤ (y.shape.length : Int) := by omega
    have s2 : (1 : Int) ≤ (cy : Int) := by omega
    go_enter Try.func27, Try.ntmps27
    go_upto_region 1 with (fail)
    generalize hEW : (w).alloc (.cells #[.int .i64 y.kind, .slice sy y.shape.length cy, .slice ny y.nums.length my, .slice iy y.items.length jy] 26) = W
    have E := hid (env1 w S hEW)
    clear hEW
    replace E := hid (E.out.arg h0.out)
    (try simp only [List.cons_append, List.nil_append, List.set_cons_zero, List.set_cons_succ] at E)
    obtain ⟨q00, q01, q02, q03⟩ := (E.out.hdr 0 rfl).all
    have c0 : ¬ cy = 0 := by omega
    by_cases c1 : cy = 1
    · subst c1
      have hq : y.shape.length ≤ 1 := by omega
      have e0 : y.shape.length - 1 = 0 := by omega
      replace c := hid c
      go_wp2_with fail
      exact hR.out _ _ ⟨sy, 0, by rw [← hcl.out, hln.out, e0], by rw [← hcl.out, hcl2.out]; exact (h0.out.shape.cut0 hq).later E.out.ext, E.out.ext⟩
    · replace c := hid c
      go_wp2_with fail
      exact hR.out _ _ ⟨_, _, by rw [← hcl.out, hln.out], by rw [← hcl.out, hcl2.out]; exact (h0.out.shape.cut 1).later E.out.ext, E.out.ext⟩
def RetChk (w : World) (S : Nat → Prop) (x y : Arr) (e : Ending) (w' : World) : Prop :=
  ∃ so sl sc, e = .returned (.tuple #[.slice so sl sc, .int .i64 (chkE26 x y)]) ∧ (chkE26 x y = 0 → sl = x.nums.length ∧ IntsAt w' S so x.nums ∧ x.nums.length ≤ sc) ∧ Below w.heap.size w w'
theorem chkE_x {x y : Arr} (h : rightS x ≠ 0) : chkE26 x y = 1 := if_pos (Or.inl h)
theorem chkE_y {x y : Arr} (h : rightS y ≠ 0) : chkE26 x y = 1 := if_pos (Or.inr h)
theorem chkE_k {x y : Arr} (h : rightS x = 0) (g : rightS y = 0) (k : x.kind ≠ 1) : chkE26 x y = 14 := by unfold chkE26; rw [if_neg (by simp [h, g]), if_pos k]
theorem chkE_r {x y : Arr} (h : rightS x = 0) (g : rightS y = 0) (k : x.kind = 1) (r : 1 < x.shape.length) : chkE26 x y = 15 := by unfold chkE26; rw [if_neg (by simp [h, g]), if_neg (by simp [k]), if_pos r]
def bitB (n : Int) : Bool := decide (n = 0 ∨ n = 1)
/-- bits: how many ones, and whether all are bits -/
def bitsS (l : List Int) : Int × Bool := if l.all bitB then (sumF (fun i => l.getD i 0) l.length, true) else (0, false)
theorem sumF_bits {l : List Int} : ∀ {n : Nat}, (∀ j, j < n → bitB (l.getD j 0) = true) → 0 ≤ sumF (fun i => l.getD i 0) n ∧ sumF (fun i => l.getD i 0) n ≤ n
  | 0, _ => ⟨Int.le_refl _, Int.le_refl _⟩
  | n + 1, h => by
    have h1 := sumF_bits (n := n) (fun j hj => h j (by omega))
    have h2 := h n (by omega)
    simp only [bitB, decide_eq_true_eq] at h2
    simp only [sumF]
    omega
theorem bits_all {l : List Int} (h : ∀ j, j < l.length → bitB (l.getD j 0) = true) : bitsS l = (sumF (fun i => l.getD i 0) l.length, true) := by
  refine if_pos (List.all_eq_true.2 fun e he => ?_)
  obtain ⟨k, hk, rfl⟩ := List.mem_iff_getElem.1 he
  have := h k hk
  simpa [hk] using this
theorem bits_none {l : List Int} {k : Nat} (hk : k < l.length) (h : bitB (l.getD k 0) = false) : bitsS l = (0, false) := by
  refine if_neg fun q => ?_
  have := (List.all_eq_true.1 q) _ (getD_mem hk)
  rw [h] at this; cases this
/-- bounded: the array if it is right -/
def bndE (a : Arr) : Int := if rightS a = 0 then 0 else 21
def bndS (a : Arr) : Arr := if rightS a = 0 then a else .zero
theorem own_lit26 {w : World} {base : Nat} {d : Int} (hb : base ≤ w.heap.size) : OwnI (w.alloc (.cells #[.int .i64 d] 3)) base (some ⟨w.heap.size, 0, none⟩) 1 [d] :=
  ⟨rfl, Or.inr ⟨w.heap.size, 1, #[.int .i64 d], rfl, hb, made_blk (Ext.refl _), Nat.le_refl _, by decide, rfl, rfl⟩⟩
theorem wpl_buildV {ops : Array Oper} {rest : List Oper} {o : Oper} {a : Act} {Q : Exit → Act → World → Prop} {w : World} (hgd : o.guard = none) (d : Int) (p : Operand) (ho : o.op = .buildSlice 23 1 #[(0, p)]) (hp : a.eval p = .int .i64 d)
    (h : wpList Try.prog ops Q rest (a.put o.dst (.slice (some ⟨w.heap.size, 0, none⟩) 1 1)) (w.alloc (.cells #[.int .i64 d] 3))) : wpList Try.prog ops Q (o :: rest) a w := by
  refine wpList_plain hgd fun K hK => ?_
  have := hK _ _ h
  unfold Oper.wp execOp
  simp only [ho]
  cases p <;> (simp [go_sem] at hp) <;> simp [go_sem, hp] <;> exact this
/-- what shaped returns -/
def RetShp (w : World) (k : Int) (s : List Int) (e : Ending) (w' : World) : Prop :=
  ((dimsE s ≠ 0 ∧ e = .returned (.tuple #[.agg #[.int .i64 0, .slice none 0 0, .slice none 0 0, .slice none 0 0], .int .i64 21])) ∨
    (dimsE s = 0 ∧ ∃ so sc, e = .returned (.tuple #[.agg #[.int .i64 k, .slice so s.length sc, .slice none 0 0, .slice none 0 0], .int .i64 0]) ∧ OwnI w' w.heap.size so sc s)) ∧ Below w.heap.size w w'
end Go.Proofs.Ytcoknjlkhefgpaa
