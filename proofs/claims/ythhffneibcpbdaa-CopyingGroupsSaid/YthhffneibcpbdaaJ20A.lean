/- joining.Last, joining.First and the arrays of the law: contracts. Conditions: the arrays are read; a slice's capacity is at least its length. -/
import Derived.Test.YthhffneibcpbdaaJOIN
import Derived.Test.YthhffneibcpbdaaC17
set_option linter.unusedVariables false
set_option linter.unusedSimpArgs false
namespace Go.Proofs.Ythhffneibcpbdaa
open Go.RowKit Go.Sort
attribute [local go_sem ↓] run_max2 run_min2
attribute [local go_sem] eql_ints_nil eql_arrs_nil
/-- an array as a result; a slice's capacity is at least its length -/
def RetAC (w : World) (S : Nat → Prop) (a : Arr) (e : Ending) (w' : World) : Prop :=
  ∃ sa sc na nc ia ic, e = .returned (.agg #[.int .i64 a.kind, .slice sa a.shape.length sc, .slice na a.nums.length nc, .slice ia a.items.length ic]) ∧ ArrAt w' S a sa na ia ∧ Below w.heap.size w w' ∧ a.shape.length ≤ sc ∧ a.nums.length ≤ nc ∧ a.items.length ≤ ic
theorem RetAC.to {w w' : World} {S : Nat → Prop} {a : Arr} {e : Ending} (h : RetAC w S a e w') : RetA w S a e w' := by
  obtain ⟨sa, sc, na, nc, ia, ic, h1, h2, h3, _⟩ := h
  exact ⟨sa, sc, na, nc, ia, ic, h1, h2, h3⟩
theorem RetAC.eq {w w' : World} {S : Nat → Prop} {a b : Arr} {e : Ending} (h : RetAC w S a e w') (E : b = a) : RetAC w S b e w' := E ▸ h
theorem retAC_arm {W wz wq : World} {T : Nat → Prop} {r : Arr} {e : Ending} (hT2 : ∀ b, W.heap.size ≤ b → T b) (hSe : Ext W wz) (h : RetAC wz (fun b => T b ∨ wz.heap.size ≤ b) r e wq) : ∃ v, e = .returned v ∧ Ext wz wq ∧ RetAC wz T r (.returned v) wq := by
  obtain ⟨sa, sc, na, nc, ia, ic, rfl, h2, h3, h4⟩ := h
  exact ⟨_, rfl, h3, sa, sc, na, nc, ia, ic, rfl, ArrAt.mono (fun b _ hb => hb.elim id fun q => hT2 b (Nat.le_trans (Below.size hSe) q)) _ h2, h3, h4⟩
theorem retAEC_arm {W wz wq : World} {T : Nat → Prop} {r : Arr} {n : Int} {e : Ending} (hT2 : ∀ b, W.heap.size ≤ b → T b) (hSe : Ext W wz) (h : RetAEC wz (fun b => T b ∨ wz.heap.size ≤ b) r n e wq) : ∃ v, e = .returned v ∧ Ext wz wq ∧ RetAEC wz T r n (.returned v) wq := by
  obtain ⟨sa, sc, na, nc, ia, ic, rfl, h2, h3, h4⟩ := h
  exact ⟨_, rfl, h3, sa, sc, na, nc, ia, ic, rfl, ArrAt.mono (fun b _ hb => hb.elim id fun q => hT2 b (Nat.le_trans (Below.size hSe) q)) _ h2, h3, h4⟩
set_option maxHeartbeats 2000000 in
theorem J_joining_Last (x : Arr) (sx : Option Addr) (cx : Nat) (nx : Option Addr) (mx : Nat) (ix : Option Addr) (jx : Nat) (y : Arr) (sy : Option Addr) (cy : Nat) (ny : Option Addr) (my : Nat) (iy : Option Addr) (jy : Nat) (S : Nat → Prop) (w : World) (h : ArrAt w S x sx nx ix) (g : ArrAt w S y sy ny iy) (hcx : x.shape.length ≤ cx ∧ x.nums.length ≤ mx ∧ x.items.length ≤ jx) (hcy : y.shape.length ≤ cy ∧ y.nums.length ≤ my ∧ y.items.length ≤ jy) :
    Calls Try.prog 17 #[.agg #[.int .i64 x.kind, .slice sx x.shape.length cx, .slice nx x.nums.length mx, .slice ix x.items.length jx], .agg #[.int .i64 y.kind, .slice sy y.shape.length cy, .slice ny y.nums.length my, .slice iy y.items.length jy]] w (RetJ w S (joinS true x y) (joinE true x y)) := by
  refine calls_post fun R' hR => ?_
  have h0 := hid h
  have g0 := hid g
  replace hcx := hid hcx
  replace hcy := hid hcy
  clear h g
  go_enter Try.func17, Try.ntmps17
  go_upto_region 1 with (fail)
  generalize hEW : (((w).alloc (.cells #[.int .i64 x.kind, .slice sx x.shape.length cx, .slice nx x.nums.length mx, .slice ix x.items.length jx] 26)).alloc (.cells #[.int .i64 y.kind, .slice sy y.shape.length cy, .slice ny y.nums.length my, .slice iy y.items.length jy] 26)).alloc (.cells #[.int .i64 0, .slice none 0 0, .slice none 0 0, .slice none 0 0] 26) = W
  have E := hid (env3 w S hEW)
  clear hEW
  replace E := hid ((E.out.arg h0.out).arg g0.out)
  (try simp only [List.cons_append, List.nil_append, List.set_cons_zero, List.set_cons_succ] at E)
  obtain ⟨q00, q01, q02, q03⟩ := (E.out.hdr 0 rfl).all
  obtain ⟨q10, q11, q12, q13⟩ := (E.out.hdr 1 rfl).all
  go_wp2_with fail
  refine (joining_join true x _ _ _ _ _ _ y _ _ _ _ _ _ _ W (E.out.arr 3 rfl) (E.out.arr 4 rfl) hcx.out hcy.out).mono ?_
  clear q00 q01 q02 q03 q10 q11 q12 q13
  intro e w1 hr
  obtain ⟨s1, c1, n1, m1, i1, j1, rfl, ⟨g1, g2, g3, g4⟩, hb, hc⟩ := hr
  have E0 := E
  replace E := hid (((((E.out.up hb).addItems g4 (fun b _ hq => E.out.res (Ext.refl _) hq)).addIntsF g1 (fun b hb => E0.out.blt b (by simpa [blks_append, blks, Fact.blk] using hb)) E0.out.size).addIntsF g2 (fun b hb => E0.out.blt b (by simpa [blks_append, blks, Fact.blk] using hb)) E0.out.size))
  replace hc := hid hc
  clear g1 g2 g4 hb E0
  (try simp only [List.cons_append, List.nil_append, List.set_cons_zero, List.set_cons_succ] at E)
  go_wp2_with (refine wpl_store4 rfl (.tmp 4) (.tmp 9) rfl _ rfl rfl (E.out.hdr 2 rfl) ?_; intro V HV CV; replace E := hid (E.out.chg 2 rfl CV HV))
  exact bodyPost_ret (end_arr2 rfl HV rfl rfl) rfl (hR.out _ _ ⟨s1, c1, n1, m1, i1, j1, rfl, ⟨(E.out.intsF 6 rfl).mono fun b _ h => h.2, (E.out.intsF 7 rfl).mono fun b _ h => h.2, g3, (E.out.items 5 rfl).mono fun b _ h => h.1⟩, E.out.ext, hc.out⟩)
theorem joining_Last (x : Arr) (sx : Option Addr) (cx : Nat) (nx : Option Addr) (mx : Nat) (ix : Option Addr) (jx : Nat) (y : Arr) (sy : Option Addr) (cy : Nat) (ny : Option Addr) (my : Nat) (iy : Option Addr) (jy : Nat) (S : Nat → Prop) (w : World) (h : ArrAt w S x sx nx ix) (g : ArrAt w S y sy ny iy) (hcx : x.shape.length ≤ cx ∧ x.nums.length ≤ mx ∧ x.items.length ≤ jx) (hcy : y.shape.length ≤ cy ∧ y.nums.length ≤ my ∧ y.items.length ≤ jy) :
    Calls Try.prog 17 #[.agg #[.int .i64 x.kind, .slice sx x.shape.length cx, .slice nx x.nums.length mx, .slice ix x.items.length jx], .agg #[.int .i64 y.kind, .slice sy y.shape.length cy, .slice ny y.nums.length my, .slice iy y.items.length jy]] w (RetAEC w (fun b => S b ∨ w.heap.size ≤ b) (joinS true x y) (joinE true x y)) :=
  (J_joining_Last x _ _ _ _ _ _ y _ _ _ _ _ _ S w h g hcx hcy).mono fun _ _ h => h.to
theorem N_joining_Last (x : Arr) (sx : Option Addr) (cx : Nat) (nx : Option Addr) (mx : Nat) (ix : Option Addr) (jx : Nat) (y : Arr) (sy : Option Addr) (cy : Nat) (ny : Option Addr) (my : Nat) (iy : Option Addr) (jy : Nat) (S : Nat → Prop) (w : World) (h : ArrAt w S x sx nx ix) (g : ArrAt w S y sy ny iy) (hcx : x.shape.length ≤ cx ∧ x.nums.length ≤ mx ∧ x.items.length ≤ jx) (hcy : y.shape.length ≤ cy ∧ y.nums.length ≤ my ∧ y.items.length ≤ jy) (hi : (joinS true x y).items = []) :
    Calls Try.prog 17 #[.agg #[.int .i64 x.kind, .slice sx x.shape.length cx, .slice nx x.nums.length mx, .slice ix x.items.length jx], .agg #[.int .i64 y.kind, .slice sy y.shape.length cy, .slice ny y.nums.length my, .slice iy y.items.length jy]] w (RetAE w (fun b => w.heap.size ≤ b) (joinS true x y) (joinE true x y)) :=
  (J_joining_Last x _ _ _ _ _ _ y _ _ _ _ _ _ S w h g hcx hcy).mono fun _ _ h => (h.new hi).to
set_option maxHeartbeats 2000000 in
theorem J_joining_First (x : Arr) (sx : Option Addr) (cx : Nat) (nx : Option Addr) (mx : Nat) (ix : Option Addr) (jx : Nat) (y : Arr) (sy : Option Addr) (cy : Nat) (ny : Option Addr) (my : Nat) (iy : Option Addr) (jy : Nat) (S : Nat → Prop) (w : World) (h : ArrAt w S x sx nx ix) (g : ArrAt w S y sy ny iy) (hcx : x.shape.length ≤ cx ∧ x.nums.length ≤ mx ∧ x.items.length ≤ jx) (hcy : y.shape.length ≤ cy ∧ y.nums.length ≤ my ∧ y.items.length ≤ jy) :
    Calls Try.prog 20 #[.agg #[.int .i64 x.kind, .slice sx x.shape.length cx, .slice nx x.nums.length mx, .slice ix x.items.length jx], .agg #[.int .i64 y.kind, .slice sy y.shape.length cy, .slice ny y.nums.length my, .slice iy y.items.length jy]] w (RetJ w S (joinS false x y) (joinE false x y)) := by
  refine calls_post fun R' hR => ?_
  have h0 := hid h
  have g0 := hid g
  replace hcx := hid hcx
  replace hcy := hid hcy
  clear h g
  go_enter Try.func20, Try.ntmps20
  go_upto_region 1 with (fail)
  generalize hEW : (((w).alloc (.cells #[.int .i64 x.kind, .slice sx x.shape.length cx, .slice nx x.nums.length mx, .slice ix x.items.length jx] 26)).alloc (.cells #[.int .i64 y.kind, .slice sy y.shape.length cy, .slice ny y.nums.length my, .slice iy y.items.length jy] 26)).alloc (.cells #[.int .i64 0, .slice none 0 0, .slice none 0 0, .slice none 0 0] 26) = W
  have E := hid (env3 w S hEW)
  clear hEW
  replace E := hid ((E.out.arg h0.out).arg g0.out)
  (try simp only [List.cons_append, List.nil_append, List.set_cons_zero, List.set_cons_succ] at E)
  obtain ⟨q00, q01, q02, q03⟩ := (E.out.hdr 0 rfl).all
  obtain ⟨q10, q11, q12, q13⟩ := (E.out.hdr 1 rfl).all
  go_wp2_with fail
  refine (joining_join false x _ _ _ _ _ _ y _ _ _ _ _ _ _ W (E.out.arr 3 rfl) (E.out.arr 4 rfl) hcx.out hcy.out).mono ?_
  clear q00 q01 q02 q03 q10 q11 q12 q13
  intro e w1 hr
  obtain ⟨s1, c1, n1, m1, i1, j1, rfl, ⟨g1, g2, g3, g4⟩, hb, hc⟩ := hr
  have E0 := E
  replace E := hid (((((E.out.up hb).addItems g4 (fun b _ hq => E.out.res (Ext.refl _) hq)).addIntsF g1 (fun b hb => E0.out.blt b (by simpa [blks_append, blks, Fact.blk] using hb)) E0.out.size).addIntsF g2 (fun b hb => E0.out.blt b (by simpa [blks_append, blks, Fact.blk] using hb)) E0.out.size))
  replace hc := hid hc
  clear g1 g2 g4 hb E0
  (try simp only [List.cons_append, List.nil_append, List.set_cons_zero, List.set_cons_succ] at E)
  go_wp2_with (refine wpl_store4 rfl (.tmp 4) (.tmp 9) rfl _ rfl rfl (E.out.hdr 2 rfl) ?_; intro V HV CV; replace E := hid (E.out.chg 2 rfl CV HV))
  exact bodyPost_ret (end_arr2 rfl HV rfl rfl) rfl (hR.out _ _ ⟨s1, c1, n1, m1, i1, j1, rfl, ⟨(E.out.intsF 6 rfl).mono fun b _ h => h.2, (E.out.intsF 7 rfl).mono fun b _ h => h.2, g3, (E.out.items 5 rfl).mono fun b _ h => h.1⟩, E.out.ext, hc.out⟩)
theorem joining_First (x : Arr) (sx : Option Addr) (cx : Nat) (nx : Option Addr) (mx : Nat) (ix : Option Addr) (jx : Nat) (y : Arr) (sy : Option Addr) (cy : Nat) (ny : Option Addr) (my : Nat) (iy : Option Addr) (jy : Nat) (S : Nat → Prop) (w : World) (h : ArrAt w S x sx nx ix) (g : ArrAt w S y sy ny iy) (hcx : x.shape.length ≤ cx ∧ x.nums.length ≤ mx ∧ x.items.length ≤ jx) (hcy : y.shape.length ≤ cy ∧ y.nums.length ≤ my ∧ y.items.length ≤ jy) :
    Calls Try.prog 20 #[.agg #[.int .i64 x.kind, .slice sx x.shape.length cx, .slice nx x.nums.length mx, .slice ix x.items.length jx], .agg #[.int .i64 y.kind, .slice sy y.shape.length cy, .slice ny y.nums.length my, .slice iy y.items.length jy]] w (RetAEC w (fun b => S b ∨ w.heap.size ≤ b) (joinS false x y) (joinE false x y)) :=
  (J_joining_First x _ _ _ _ _ _ y _ _ _ _ _ _ S w h g hcx hcy).mono fun _ _ h => h.to
theorem N_joining_First (x : Arr) (sx : Option Addr) (cx : Nat) (nx : Option Addr) (mx : Nat) (ix : Option Addr) (jx : Nat) (y : Arr) (sy : Option Addr) (cy : Nat) (ny : Option Addr) (my : Nat) (iy : Option Addr) (jy : Nat) (S : Nat → Prop) (w : World) (h : ArrAt w S x sx nx ix) (g : ArrAt w S y sy ny iy) (hcx : x.shape.length ≤ cx ∧ x.nums.length ≤ mx ∧ x.items.length ≤ jx) (hcy : y.shape.length ≤ cy ∧ y.nums.length ≤ my ∧ y.items.length ≤ jy) (hi : (joinS false x y).items = []) :
    Calls Try.prog 20 #[.agg #[.int .i64 x.kind, .slice sx x.shape.length cx, .slice nx x.nums.length mx, .slice ix x.items.length jx], .agg #[.int .i64 y.kind, .slice sy y.shape.length cy, .slice ny y.nums.length my, .slice iy y.items.length jy]] w (RetAE w (fun b => w.heap.size ≤ b) (joinS false x y) (joinE false x y)) :=
  (J_joining_First x _ _ _ _ _ _ y _ _ _ _ _ _ S w h g hcx hcy).mono fun _ _ h => (h.new hi).to
set_option maxHeartbeats 2000000 in
theorem law20_ints (s l : List Int) (so : Option Addr) (sc : Nat) (lo : Option Addr) (lc : Nat) (S : Nat → Prop) (w : World) (h : IntsAt w S so s) (g : IntsAt w S lo l) (hs : s.length ≤ sc) (hl : l.length ≤ lc) : Calls Try.prog 25 #[.slice so s.length sc, .slice lo l.length lc] w (RetAC w (fun b => S b ∨ w.heap.size ≤ b) (.mk 1 s l [])) := by
  refine calls_post fun R' hR => ?_
  have h0 := hid h
  have g0 := hid g
  replace hs := hid hs
  replace hl := hid hl
  clear h g
  go_enter Try.func25, Try.ntmps25
  go_upto_region 1 with (fail)
  generalize hEW : (w).alloc (.cells #[.int .i64 0, .slice none 0 0, .slice none 0 0, .slice none 0 0] 26) = W
  have E := hid (env1 w S hEW)
  clear hEW
  replace E := hid ((E.out.argI h0.out).argI g0.out)
  (try simp only [List.cons_append, List.nil_append, List.set_cons_zero, List.set_cons_succ] at E)
  go_wp2_with (refine wpl_store4 rfl (.tmp 4) (.tmp 7) rfl _ rfl rfl (E.out.hdr 0 rfl) ?_; intro V HV CV; replace E := hid (E.out.chg 0 rfl CV HV))
  exact bodyPost_ret (end_arr rfl HV rfl) rfl (hR.out _ _ ⟨so, sc, lo, lc, none, 0, rfl, ArrAt.mono (fun b _ h => h.1) _ (vec_at (E.out.ints 1 rfl) (E.out.ints 2 rfl)), E.out.ext, hs.out, hl.out, Nat.zero_le _⟩)
end Go.Proofs.Ythhffneibcpbdaa
