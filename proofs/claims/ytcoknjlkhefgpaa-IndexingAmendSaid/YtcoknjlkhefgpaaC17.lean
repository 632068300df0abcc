/- The functions of package structure and of its reference: contracts. Conditions: the arrays are read. -/
import Derived.Test.YtcoknjlkhefgpaaA17
set_option linter.unusedVariables false
set_option linter.unusedSimpArgs false
namespace Go.Proofs.Ytcoknjlkhefgpaa
open Go.RowKit Go.Sort
attribute [local go_sem ↓] run_max2 run_min2
attribute [local go_sem] eql_ints_nil eql_arrs_nil
set_option maxHeartbeats 4000000 in
theorem ref03_Few (y : Arr) : ∀ (sy : Option Addr) (cy : Nat) (ny : Option Addr) (my : Nat) (iy : Option Addr) (jy : Nat) (m : Int) (S : Nat → Prop) (w : World), 0 ≤ m → m ≤ 3000 → ArrAt w S y sy ny iy → Calls Try.prog 48 #[.agg #[.int .i64 y.kind, .slice sy y.shape.length cy, .slice ny y.nums.length my, .slice iy y.items.length jy], .int .i64 m] w fun e w' => ∃ r : Int, e = .returned (.int .i64 r) ∧ r ≤ 3000 ∧ -70368744177664 ≤ r ∧ Ext w w' := by
  induction y using Arr.ind with
  | h y IH =>
    intro sy cy ny my iy jy m S w h1 h2 h
    have IH := hid IH
    refine calls_post fun R' hR => ?_
    have hsl := h.shape.1
    have hnl := h.nums.1
    have hil := h.len
    have h0 := hid h
    clear h
    go_enter Try.func48, Try.ntmps48
    go_upto_region 1 with (fail)
    generalize hEW : (w).alloc (.cells #[.int .i64 y.kind, .slice sy y.shape.length cy, .slice ny y.nums.length my, .slice iy y.items.length jy] 26) = W
    have E := hid (env1 w S hEW)
    clear hEW
    replace E := hid (E.out.arg h0.out)
    (try simp only [List.cons_append, List.nil_append, List.set_cons_zero, List.set_cons_succ] at E)
    obtain ⟨q00, q01, q02, q03⟩ := (E.out.hdr 0 rfl).all
    go_wp2_with fail
    clear q00 q01 q02 q03
    obtain ⟨m1, hm1⟩ : ∃ m1 : Int, m1 = m - 1 - (y.shape.length : Int) - (y.nums.length : Int) - (y.items.length : Int) := ⟨_, rfl⟩
    go_loopw [1, 5] (fun s i wr => ∃ (k : Nat) (n : Int), k ≤ y.items.length ∧ i = .int .i64 k ∧ s = .int .i64 n ∧ n ≤ 3000 ∧ -70368744177664 ≤ n ∧ Env w S wr [.obj w.heap.size (.cells #[.int .i64 y.kind, .slice sy y.shape.length cy, .slice ny y.nums.length my, .slice iy y.items.length jy] 26 (0, 0)), .arr y sy ny iy]) (fun _ i _ => y.items.length - (intOf i).toNat)
    case atStart => exact ⟨0, _, Nat.zero_le _, rfl, rfl, by omega, by omega, E.out⟩
    case round =>
      clear E
      obtain ⟨k, n, hk, rfl, rfl, n1, n2, E⟩ := hrel
      replace E := hid E
      obtain ⟨q00, q01, q02, q03⟩ := (E.out.hdr 0 rfl).all
      by_cases hlt : k < y.items.length
      · by_cases hn : 0 ≤ n
        · obtain ⟨b, off, sx, cx, nx, mx, ix, jx, hia, hS, hbl, e0, e1, e2, e3, hx⟩ := (E.out.arr 1 rfl).items.at hlt
          have hmem := hid (List.getElem_mem hlt)
          subst hia
          generalize y.items[k] = x at e0 e1 e2 e3 hx hmem
          have HX := hid hx
          clear hx
          go_wp2_with fail
          refine (IH.out x hmem.out _ cx _ mx _ jx n _ wr hn n1 HX.out).mono ?_
          rintro e w2 ⟨r, rfl, r1, r2, hb2⟩
          replace E := hid (E.out.up hb2)
          clear e0 e1 e2 e3 hb2
          clear q00 q01 q02 q03
          go_wp2_with fail
          go_roundw
          case rel => exact ⟨k + 1, _, by omega, by go_num, rfl, by omega, by omega, E.out⟩
          case measure => simp [intOf]; omega
        · go_wp2_with fail
          exact hR.out _ _ ⟨_, rfl, by omega, by omega, E.out.ext⟩
      · go_wp2_with fail
        exact hR.out _ _ ⟨_, rfl, by omega, by omega, E.out.ext⟩
set_option maxHeartbeats 4000000 in
theorem ref03_Small (y : Arr) (sy : Option Addr) (cy : Nat) (ny : Option Addr) (my : Nat) (iy : Option Addr) (jy : Nat) (S : Nat → Prop) (w : World) (h : ArrAt w S y sy ny iy) : Calls Try.prog 18 #[.agg #[.int .i64 y.kind, .slice sy y.shape.length cy, .slice ny y.nums.length my, .slice iy y.items.length jy]] w fun e w' => ∃ r : Bool, e = .returned (.bool r) ∧ Below w.heap.size w w' := by
  refine calls_post fun R' hR => ?_
  have h0 := hid h
  clear h
  go_enter Try.func18, Try.ntmps18
  go_wp2_with fail
  generalize hEW : (w).alloc (.cells #[.int .i64 y.kind, .slice sy y.shape.length cy, .slice ny y.nums.length my, .slice iy y.items.length jy] 26) = W
  have E := hid (env1 w S hEW)
  clear hEW
  refine (ref03_Few y _ _ _ _ _ _ 3000 S W (by omega) (by omega) (h0.out.later E.out.ext)).mono ?_
  rintro e w1 ⟨r, rfl, _, _, hb⟩
  replace E := hid (E.out.up hb)
  go_wp2_with fail
  exact hR.out _ _ ⟨_, rfl, E.out.ext⟩
end Go.Proofs.Ytcoknjlkhefgpaa
