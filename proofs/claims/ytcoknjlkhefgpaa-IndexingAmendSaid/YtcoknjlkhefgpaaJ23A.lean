/- Small functions of the law of indexing: contracts. Conditions: the arrays are read; a slice's capacity is at least its length. -/
import Derived.Test.YtcoknjlkhefgpaaRETC
import Derived.Test.YtcoknjlkhefgpaaC17
import Derived.Test.YtcoknjlkhefgpaaPAIR
set_option linter.unusedVariables false
set_option linter.unusedSimpArgs false
namespace Go.Proofs.Ytcoknjlkhefgpaa
open Go.RowKit Go.Sort
attribute [local go_sem ↓] run_max2 run_min2
attribute [local go_sem] eql_ints_nil eql_arrs_nil
theorem pair_items {w : World} {T : Nat → Prop} {a b : Arr} {sa na ia sb nb ib : Option Addr} {sc nc ic sd nd id : Nat} (hT : T w.heap.size) (ha : ArrAt w T a sa na ia) (hb : ArrAt w T b sb nb ib) :
    ItemsAt (w.alloc (.cells #[.int .i64 a.kind, .slice sa a.shape.length sc, .slice na a.nums.length nc, .slice ia a.items.length ic, .int .i64 b.kind, .slice sb b.shape.length sd, .slice nb b.nums.length nd, .slice ib b.items.length id] 26)) T (some ⟨w.heap.size, 0, none⟩) 0 [a, b] :=
  items_two hT (heap_alloc_new _ _) (ha.up (ext_alloc _ _)) (hb.up (ext_alloc _ _))
set_option maxHeartbeats 2000000 in
theorem law23_intsI (s l : List Int) (so : Option Addr) (sc : Nat) (lo : Option Addr) (lc : Nat) (S : Nat → Prop) (w : World) (h : IntsAt w S so s) (g : IntsAt w S lo l) (hs : s.length ≤ sc) (hl : l.length ≤ lc) : Calls Try.prog 23 #[.slice so s.length sc, .slice lo l.length lc] w (RetI w (fun b => S b ∨ w.heap.size ≤ b) (.mk 1 s l [])) := by
  refine calls_post fun R' hR => ?_
  have h0 := hid h
  have g0 := hid g
  replace hs := hid hs
  replace hl := hid hl
  clear h g
  go_enter Try.func23, Try.ntmps23
  go_upto_region 1 with (fail)
  generalize hEW : (w).alloc (.cells #[.int .i64 0, .slice none 0 0, .slice none 0 0, .slice none 0 0] 26) = W
  have E := hid (env1 w S hEW)
  clear hEW
  replace E := hid ((E.out.argI h0.out).argI g0.out)
  (try simp only [List.cons_append, List.nil_append, List.set_cons_zero, List.set_cons_succ] at E)
  go_wp2_with (refine wpl_store4 rfl (.tmp 4) (.tmp 7) rfl _ rfl rfl (E.out.hdr 0 rfl) ?_; intro V HV CV; replace E := hid (E.out.chg 0 rfl CV HV))
  exact bodyPost_ret (end_arr rfl HV rfl) rfl (hR.out _ _ ⟨so, sc, lo, lc, rfl, ArrAt.mono (fun b _ h => h.1) _ (vec_at (E.out.ints 1 rfl) (E.out.ints 2 rfl)), E.out.ext, hs.out, hl.out⟩)
theorem law23_ints (s l : List Int) (so : Option Addr) (sc : Nat) (lo : Option Addr) (lc : Nat) (S : Nat → Prop) (w : World) (h : IntsAt w S so s) (g : IntsAt w S lo l) (hs : s.length ≤ sc) (hl : l.length ≤ lc) : Calls Try.prog 23 #[.slice so s.length sc, .slice lo l.length lc] w (RetAC w (fun b => S b ∨ w.heap.size ≤ b) (.mk 1 s l [])) :=
  (law23_intsI s l so sc lo lc S w h g hs hl).mono fun _ _ ⟨sa, sc, na, nc, h1, h2, h3, h4, h5⟩ => ⟨sa, sc, na, nc, none, 0, h1, h2, h3, h4, h5, Nat.zero_le _⟩
set_option maxHeartbeats 2000000 in
theorem law23_boxes (l : List Arr) (lo : Option Addr) (lc : Nat) (S : Nat → Prop) (w : World) (h : ItemsAt w S lo 0 l) (hl : l.length ≤ lc) (hl6 : l.length ≤ 1000000) : Calls Try.prog 22 #[.slice lo l.length lc] w (RetAC w (fun b => S b ∨ w.heap.size ≤ b) (.mk 3 [(l.length : Int)] [] l)) := by
  refine calls_post fun R' hR => ?_
  have h0 := hid h
  replace hl := hid hl
  clear h
  go_enter Try.func22, Try.ntmps22
  go_upto_region 1 with (fail)
  generalize hEW : (w).alloc (.cells #[.int .i64 0, .slice none 0 0, .slice none 0 0, .slice none 0 0] 26) = W
  have E := hid (env1 w S hEW)
  clear hEW
  replace E := hid (E.out.argL h0.out)
  (try simp only [List.cons_append, List.nil_append, List.set_cons_zero, List.set_cons_succ] at E)
  go_wp2_with (refine wpl_store4 rfl (.tmp 2) (.tmp 7) rfl _ rfl rfl ((E.out.lit [(l.length : Int)] (show (1 : Nat) ≤ 17592186044416 by decide)).hdr 0 rfl) ?_; intro V HV CV; replace E := hid ((E.out.lit [(l.length : Int)] (show (1 : Nat) ≤ 17592186044416 by decide)).chg 0 rfl CV HV); clear CV; (try simp only [List.cons_append, List.nil_append, List.set_cons_zero, List.set_cons_succ] at E))
  exact bodyPost_ret (end_arr rfl HV rfl) rfl (hR.out _ _ ⟨_, _, none, 0, lo, lc, rfl, ArrAt.mono (fun b _ h => h.1) (.mk 3 [(l.length : Int)] [] l) (ArrAt.iff.2 ⟨E.out.ints 2 rfl, IntsAt.nil _ _ none, by show l.length ≤ _; omega, E.out.items 1 rfl⟩), E.out.ext, Nat.le_refl _, Nat.zero_le _, hl.out⟩)
set_option maxHeartbeats 2000000 in
theorem law23_small (x : Arr) (sx : Option Addr) (cx : Nat) (nx : Option Addr) (mx : Nat) (ix : Option Addr) (jx : Nat) (y : Arr) (sy : Option Addr) (cy : Nat) (ny : Option Addr) (my : Nat) (iy : Option Addr) (jy : Nat) (S : Nat → Prop) (w : World) (h : ArrAt w S x sx nx ix) (g : ArrAt w S y sy ny iy) : Calls Try.prog 8 #[.agg #[.int .i64 x.kind, .slice sx x.shape.length cx, .slice nx x.nums.length mx, .slice ix x.items.length jx], .agg #[.int .i64 y.kind, .slice sy y.shape.length cy, .slice ny y.nums.length my, .slice iy y.items.length jy]] w fun e w' => ∃ r : Bool, e = .returned (.bool r) ∧ Below w.heap.size w w' := by
  refine calls_post fun R' hR => ?_
  have h0 := hid h
  have g0 := hid g
  clear h g
  go_enter Try.func8, Try.ntmps8
  go_upto_region 1 with (fail)
  generalize hEW : ((w).alloc (.cells #[.int .i64 x.kind, .slice sx x.shape.length cx, .slice nx x.nums.length mx, .slice ix x.items.length jx] 26)).alloc (.cells #[.int .i64 y.kind, .slice sy y.shape.length cy, .slice ny y.nums.length my, .slice iy y.items.length jy] 26) = W
  have E := hid (env2 w S hEW)
  clear hEW
  replace E := hid ((E.out.arg h0.out).arg g0.out)
  (try simp only [List.cons_append, List.nil_append, List.set_cons_zero, List.set_cons_succ] at E)
  obtain ⟨q00, q01, q02, q03⟩ := (E.out.hdr 0 rfl).all
  obtain ⟨q10, q11, q12, q13⟩ := (E.out.hdr 1 rfl).all
  go_wp2_with fail
  clear q00 q01 q02 q03 q10 q11 q12 q13
  refine (ref03_Small x _ _ _ _ _ _ _ _ (E.out.arr 2 rfl)).mono ?_
  rintro e w1 ⟨b1, rfl, hb⟩
  replace E := hid (E.out.up hb)
  clear hb
  cases b1 with
  | false =>
    go_wp2_with fail
    exact hR.out _ _ ⟨false, rfl, E.out.ext⟩
  | true =>
    obtain ⟨q10, q11, q12, q13⟩ := (E.out.hdr 1 rfl).all
    go_wp2_with fail
    clear q10 q11 q12 q13
    refine (ref03_Small y _ _ _ _ _ _ _ _ (E.out.arr 3 rfl)).mono ?_
    rintro e w2 ⟨b2, rfl, hb⟩
    replace E := hid (E.out.up hb)
    clear hb
    go_wp2_with fail
    exact hR.out _ _ ⟨b2, rfl, E.out.ext⟩
end Go.Proofs.Ytcoknjlkhefgpaa
