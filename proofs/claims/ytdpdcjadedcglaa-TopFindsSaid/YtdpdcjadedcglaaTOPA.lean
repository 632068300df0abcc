/- Small functions of the theorems across layers: contracts. Conditions: the arrays are read; a slice's capacity is at least its length. -/
import Derived.Test.YtdpdcjadedcglaaRETC
import Derived.Test.YtdpdcjadedcglaaA17
import Derived.Test.YtdpdcjadedcglaaPAIR
import Derived.Test.YtdpdcjadedcglaaS26
set_option linter.unusedVariables false
set_option maxRecDepth 20000
set_option linter.unusedSimpArgs false
namespace Go.Proofs.Ytdpdcjadedcglaa
open Go.RowKit Go.Sort
attribute [local go_sem ↓] run_max2 run_min2
attribute [local go_sem] eql_ints_nil eql_arrs_nil
/-- a number as an array -/
def scaA (n : Int) : Arr := .mk 1 [] [n] []
theorem scaA_right {n : Int} (h : elemB 1 n = true) : rightS (scaA n) = 0 := by
  refine right_iff.2 ⟨by kernel_rfl, fun k hk => ?_, (fun x hx => by cases hx), by show ((1 : Nat) : Int) + ((0 : Nat) : Int) + sumW [] ≤ 262144; simp [sumW]⟩
  have hk : k ∈ [n] := hk
  rw [List.mem_singleton.1 hk]
  exact h
def vecA (l : List Int) : Arr := .mk 1 [(l.length : Int)] l []
theorem RetI.to {w : World} {S : Nat → Prop} {a : Arr} {e : Ending} {w' : World} (hi : a.items = []) (h : RetI w S a e w') : RetAC w S a e w' := by
  obtain ⟨sa, sc, na, nc, h1, h2, h3, h4, h5⟩ := h
  exact ⟨sa, sc, na, nc, none, 0, h1, h2, h3, h4, h5, by rw [hi]; exact Nat.le_refl _⟩
set_option maxHeartbeats 2000000 in
theorem top_vector (l : List Int) (lo : Option Addr) (lc : Nat) (S : Nat → Prop) (w : World) (h : IntsAt w S lo l) (hl : l.length ≤ lc) : Calls Try.prog 10 #[.slice lo l.length lc] w (RetI w (fun b => S b ∨ w.heap.size ≤ b) (vecA l)) := by
  refine calls_post fun R' hR => ?_
  have h0 := hid h
  replace hl := hid hl
  clear h
  go_enter Try.func10, Try.ntmps10
  go_upto_region 1 with (fail)
  generalize hEW : (w).alloc (.cells #[.int .i64 0, .slice none 0 0, .slice none 0 0, .slice none 0 0] 27) = W
  have E := hid (env1 w S hEW)
  clear hEW
  replace E := hid (E.out.argI h0.out)
  (try simp only [List.cons_append, List.nil_append, List.set_cons_zero, List.set_cons_succ] at E)
  go_wp2_with (refine wpl_store4 rfl (.tmp 2) (.tmp 7) rfl _ rfl rfl ((E.out.lit [(l.length : Int)] (show (1 : Nat) ≤ 17592186044416 by decide)).hdr 0 rfl) ?_; intro V HV CV; replace E := hid ((E.out.lit [(l.length : Int)] (show (1 : Nat) ≤ 17592186044416 by decide)).chg 0 rfl CV HV); clear CV; (try simp only [List.cons_append, List.nil_append, List.set_cons_zero, List.set_cons_succ] at E))
  exact bodyPost_ret (end_arr rfl HV rfl) rfl (hR.out _ _ ⟨_, 1, lo, lc, rfl, ArrAt.mono (fun b _ h => h.1) (vecA l) (ArrAt.iff.2 ⟨E.out.ints 2 rfl, E.out.ints 1 rfl, by simp [vecA, Arr.items], by simp only [vecA, Arr.items, ItemsAt]⟩), E.out.ext, Nat.le_refl _, hl.out⟩)
set_option maxHeartbeats 2000000 in
theorem top_tally (y : Arr) (sy : Option Addr) (cy : Nat) (ny : Option Addr) (my : Nat) (iy : Option Addr) (jy : Nat) (S : Nat → Prop) (w : World) (h : ArrAt w S y sy ny iy) : Calls Try.prog 7 #[.agg #[.int .i64 y.kind, .slice sy y.shape.length cy, .slice ny y.nums.length my, .slice iy y.items.length jy]] w fun e w' => e = .returned (.int .i64 (talN y)) ∧ Below w.heap.size w w' := by
  refine calls_post fun R' hR => ?_
  have h0 := hid h
  clear h
  by_cases c : y.shape.length = 0
  · have cb : ((y.shape.length : Int) == 0) = true := by simpa using c
    have hv : Hid (talN y = 1) := hid (if_pos c)
    replace c := hid c
    go_enter Try.func7, Try.ntmps7
    go_upto_region 1 with (fail)
    generalize hEW : (w).alloc (.cells #[.int .i64 y.kind, .slice sy y.shape.length cy, .slice ny y.nums.length my, .slice iy y.items.length jy] 27) = W
    have E := hid (env1 w S hEW)
    clear hEW
    obtain ⟨q00, q01, q02, q03⟩ := (E.out.hdr 0 rfl).all
    go_wp2_with fail
    exact hR.out _ _ ⟨by rw [hv.out] <;> rfl, E.out.ext⟩
  · have cb : ((y.shape.length : Int) == 0) = false := by simpa using c
    have hv : Hid (talN y = y.shape.getD 0 0) := hid (if_neg c)
    have c1 : 0 < y.shape.length := by omega
    have c2 : (0 : Int) < (y.shape.length : Int) := by omega
    replace c := hid c
    go_enter Try.func7, Try.ntmps7
    go_upto_region 1 with (fail)
    generalize hEW : (w).alloc (.cells #[.int .i64 y.kind, .slice sy y.shape.length cy, .slice ny y.nums.length my, .slice iy y.items.length jy] 27) = W
    have E := hid (env1 w S hEW)
    clear hEW
    replace E := hid (E.out.arg h0.out)
    (try simp only [List.cons_append, List.nil_append, List.set_cons_zero, List.set_cons_succ] at E)
    obtain ⟨b1, o1, hs1, _, _, hc1⟩ := (E.out.arr 1 rfl).shape.at (k := 0) c1
    rw [Nat.add_zero] at hc1
    generalize y.shape.getD 0 0 = d at hc1 hv
    subst hs1
    obtain ⟨q00, q01, q02, q03⟩ := (E.out.hdr 0 rfl).all
    go_wp2_with fail
    exact hR.out _ _ ⟨by rw [hv.out] <;> rfl, E.out.ext⟩
set_option maxHeartbeats 2000000 in
theorem top_few (y : Arr) (sy : Option Addr) (cy : Nat) (ny : Option Addr) (my : Nat) (iy : Option Addr) (jy : Nat) (m : Int) (S : Nat → Prop) (w : World) (h : ArrAt w S y sy ny iy) : Calls Try.prog 6 #[.agg #[.int .i64 y.kind, .slice sy y.shape.length cy, .slice ny y.nums.length my, .slice iy y.items.length jy], .int .i64 m] w fun e w' => ∃ r : Bool, e = .returned (.bool r) ∧ (r = true → rightS y = 0 ∧ wtS y ≤ m) ∧ Below w.heap.size w w' := by
  refine calls_post fun R' hR => ?_
  have h0 := hid h
  clear h
  go_enter Try.func6, Try.ntmps6
  go_upto_region 1 with (fail)
  generalize hEW : (w).alloc (.cells #[.int .i64 y.kind, .slice sy y.shape.length cy, .slice ny y.nums.length my, .slice iy y.items.length jy] 27) = W
  have E := hid (env1 w S hEW)
  clear hEW
  replace E := hid (E.out.arg h0.out)
  (try simp only [List.cons_append, List.nil_append, List.set_cons_zero, List.set_cons_succ] at E)
  obtain ⟨q00, q01, q02, q03⟩ := (E.out.hdr 0 rfl).all
  go_wp2_with fail
  clear q00 q01 q02 q03
  refine (ref03_Weight y _ _ _ _ _ _ _ _ (E.out.arr 1 rfl)).mono ?_
  rintro e w1 ⟨rfl, hb⟩
  replace E := hid (E.out.up hb)
  clear hb
  obtain ⟨wt, hwt⟩ : ∃ t, t = wtS y := ⟨_, rfl⟩
  rw [← hwt] at hR ⊢
  replace hwt := hid hwt
  by_cases c : wt ≤ m
  case neg =>
    have hq : Hid ¬ (wt ≤ m) := hid c
    go_wp2_with fail
    exact hR.out _ _ ⟨false, rfl, (fun q => by cases q), E.out.ext⟩
  have hq := hid c
  obtain ⟨q00, q01, q02, q03⟩ := (E.out.hdr 0 rfl).all
  go_wp2_with fail
  clear q00 q01 q02 q03
  refine (ref03_Right y _ _ _ _ _ _ _ _ (E.out.arr 1 rfl)).mono ?_
  rintro e w2 ⟨rfl, hb⟩
  replace E := hid (E.out.up hb)
  clear hb
  by_cases d : rightS y = 0
  case neg =>
    have db : (rightS y == 0) = false := by simpa using d
    replace d := hid d
    replace c := hid c
    go_wp2_with fail
    exact hR.out _ _ ⟨false, rfl, (fun q => by cases q), E.out.ext⟩
  have db : (rightS y == 0) = true := by simpa using d
  have hd := hid d
  replace d := hid d
  replace c := hid c
  go_wp2_with fail
  exact hR.out _ _ ⟨true, rfl, (fun _ => ⟨hd.out, hq.out⟩), E.out.ext⟩
end Go.Proofs.Ytdpdcjadedcglaa
