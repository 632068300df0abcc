/- joining.Last, joining.First and the arrays of the law: contracts. Conditions: the arrays are read; a slice's capacity is at least its length. -/
import Derived.Test.YtdpdcjadedcglaaJOIN
import Derived.Test.YtdpdcjadedcglaaC17
import Derived.Test.YtdpdcjadedcglaaRETC
set_option linter.unusedVariables false
set_option maxRecDepth 20000
set_option linter.unusedSimpArgs false
namespace Go.Proofs.Ytdpdcjadedcglaa
open Go.RowKit Go.Sort
attribute [local go_sem ↓] run_max2 run_min2
attribute [local go_sem] eql_ints_nil eql_arrs_nil
set_option maxHeartbeats 2000000 in
theorem J_joining_First (x : Arr) (sx : Option Addr) (cx : Nat) (nx : Option Addr) (mx : Nat) (ix : Option Addr) (jx : Nat) (y : Arr) (sy : Option Addr) (cy : Nat) (ny : Option Addr) (my : Nat) (iy : Option Addr) (jy : Nat) (S : Nat → Prop) (w : World) (h : ArrAt w S x sx nx ix) (g : ArrAt w S y sy ny iy) (hcx : x.shape.length ≤ cx ∧ x.nums.length ≤ mx ∧ x.items.length ≤ jx) (hcy : y.shape.length ≤ cy ∧ y.nums.length ≤ my ∧ y.items.length ≤ jy) :
    Calls Try.prog 19 #[.agg #[.int .i64 x.kind, .slice sx x.shape.length cx, .slice nx x.nums.length mx, .slice ix x.items.length jx], .agg #[.int .i64 y.kind, .slice sy y.shape.length cy, .slice ny y.nums.length my, .slice iy y.items.length jy]] w (RetJ w S (joinS false x y) (joinE false x y)) := by
  refine calls_post fun R' hR => ?_
  have h0 := hid h
  have g0 := hid g
  replace hcx := hid hcx
  replace hcy := hid hcy
  clear h g
  go_enter Try.func19, Try.ntmps19
  go_upto_region 1 with (fail)
  generalize hEW : (((w).alloc (.cells #[.int .i64 x.kind, .slice sx x.shape.length cx, .slice nx x.nums.length mx, .slice ix x.items.length jx] 27)).alloc (.cells #[.int .i64 y.kind, .slice sy y.shape.length cy, .slice ny y.nums.length my, .slice iy y.items.length jy] 27)).alloc (.cells #[.int .i64 0, .slice none 0 0, .slice none 0 0, .slice none 0 0] 27) = W
  have E := hid (env3 w S hEW)
  clear hEW
  replace E := hid ((E.out.arg h0.out).arg g0.out)
  (try simp only [List.cons_append, List.nil_append, List.set_cons_zero, List.set_cons_succ] at E)
  obtain ⟨q00, q01, q02, q03⟩ := (E.out.hdr 0 rfl).all
  obtain ⟨q10, q11, q12, q13⟩ := (E.out.hdr 1 rfl).all
  go_wp2_with fail
  refine (joining_join false x _ _ _ _ _ _ y _ _ _ _ _ _ _ W (E.out.arr 3 rfl) (E.out.arr 4 rfl) hcx.out hcy.out).mono ?_
  clear q00 q01 q02 q03 q10 q11 q12 q13
  intro e w1 hr
  obtain ⟨s1, c1, n1, m1, i1, j1, rfl, ⟨g1, g2, g3, g4⟩, hb, hc⟩ := hr
  have E0 := E
  replace E := hid (((((E.out.up hb).addItems g4 (fun b _ hq => E.out.res (Ext.refl _) hq)).addIntsF g1 (fun b hb => E0.out.blt b (by simpa [blks_append, blks, Fact.blk] using hb)) E0.out.size).addIntsF g2 (fun b hb => E0.out.blt b (by simpa [blks_append, blks, Fact.blk] using hb)) E0.out.size))
  replace hc := hid hc
  clear g1 g2 g4 hb E0
  (try simp only [List.cons_append, List.nil_append, List.set_cons_zero, List.set_cons_succ] at E)
  go_wp2_with (refine wpl_store4 rfl (.tmp 4) (.tmp 9) rfl _ rfl rfl (E.out.hdr 2 rfl) ?_; intro V HV CV; replace E := hid (E.out.chg 2 rfl CV HV))
  exact bodyPost_ret (end_arr2 rfl HV rfl rfl) rfl (hR.out _ _ ⟨s1, c1, n1, m1, i1, j1, rfl, ⟨(E.out.intsF 6 rfl).mono fun b _ h => h.2, (E.out.intsF 7 rfl).mono fun b _ h => h.2, g3, (E.out.items 5 rfl).mono fun b _ h => h.1⟩, E.out.ext, hc.out⟩)
theorem joining_First (x : Arr) (sx : Option Addr) (cx : Nat) (nx : Option Addr) (mx : Nat) (ix : Option Addr) (jx : Nat) (y : Arr) (sy : Option Addr) (cy : Nat) (ny : Option Addr) (my : Nat) (iy : Option Addr) (jy : Nat) (S : Nat → Prop) (w : World) (h : ArrAt w S x sx nx ix) (g : ArrAt w S y sy ny iy) (hcx : x.shape.length ≤ cx ∧ x.nums.length ≤ mx ∧ x.items.length ≤ jx) (hcy : y.shape.length ≤ cy ∧ y.nums.length ≤ my ∧ y.items.length ≤ jy) :
    Calls Try.prog 19 #[.agg #[.int .i64 x.kind, .slice sx x.shape.length cx, .slice nx x.nums.length mx, .slice ix x.items.length jx], .agg #[.int .i64 y.kind, .slice sy y.shape.length cy, .slice ny y.nums.length my, .slice iy y.items.length jy]] w (RetAEC w (fun b => S b ∨ w.heap.size ≤ b) (joinS false x y) (joinE false x y)) :=
  (J_joining_First x _ _ _ _ _ _ y _ _ _ _ _ _ S w h g hcx hcy).mono fun _ _ h => h.to
theorem N_joining_First (x : Arr) (sx : Option Addr) (cx : Nat) (nx : Option Addr) (mx : Nat) (ix : Option Addr) (jx : Nat) (y : Arr) (sy : Option Addr) (cy : Nat) (ny : Option Addr) (my : Nat) (iy : Option Addr) (jy : Nat) (S : Nat → Prop) (w : World) (h : ArrAt w S x sx nx ix) (g : ArrAt w S y sy ny iy) (hcx : x.shape.length ≤ cx ∧ x.nums.length ≤ mx ∧ x.items.length ≤ jx) (hcy : y.shape.length ≤ cy ∧ y.nums.length ≤ my ∧ y.items.length ≤ jy) (hi : (joinS false x y).items = []) :
    Calls Try.prog 19 #[.agg #[.int .i64 x.kind, .slice sx x.shape.length cx, .slice nx x.nums.length mx, .slice ix x.items.length jx], .agg #[.int .i64 y.kind, .slice sy y.shape.length cy, .slice ny y.nums.length my, .slice iy y.items.length jy]] w (RetAE w (fun b => w.heap.size ≤ b) (joinS false x y) (joinE false x y)) :=
  (J_joining_First x _ _ _ _ _ _ y _ _ _ _ _ _ S w h g hcx hcy).mono fun _ _ h => (h.new hi).to
end Go.Proofs.Ytdpdcjadedcglaa
