/- indexing.lists: contract. Conditions: the array is read; an Int array has no items. -/
import Derived.Test.YtcoknjlkhefgpaaI23A
import Derived.Test.YtcoknjlkhefgpaaP23D
import Derived.Test.YtcoknjlkhefgpaaA17
set_option linter.unusedVariables false
set_option linter.unusedSimpArgs false
namespace Go.Proofs.Ytcoknjlkhefgpaa
open Go.RowKit Go.Sort
attribute [local go_sem ↓] run_max2 run_min2
attribute [local go_sem] eql_ints_nil eql_arrs_nil
def knB (a : Arr) : Bool := a.kind != 1
def lisS (x : Arr) : List Arr := if x.kind = 1 then x.nums.map (fun n => validS (numA n)) else x.items
def lisE (x : Arr) : Int := if x.kind = 2 ∨ (lisS x).any knB = true then 14 else if 1 < x.shape.length then 15 else 0
theorem lisE_2 {x : Arr} (h : x.kind = 2) : lisE x = 14 := if_pos (Or.inl h)
theorem lisE_k {x : Arr} (h : (lisS x).any knB = true) : lisE x = 14 := if_pos (Or.inr h)
theorem lisE_r {x : Arr} (h : x.kind ≠ 2) (g : (lisS x).any knB = false) (r : 1 < x.shape.length) : lisE x = 15 := by
  unfold lisE; rw [if_neg (by simp [h, g]), if_pos r]
theorem lisE_0 {x : Arr} (h : x.kind ≠ 2) (g : (lisS x).any knB = false) (r : ¬ 1 < x.shape.length) : lisE x = 0 := by
  unfold lisE; rw [if_neg (by simp [h, g]), if_neg r]
/-- the lists, or an error -/
def RetLis (w : World) (S : Nat → Prop) (x : Arr) (e : Ending) (w' : World) : Prop :=
  ((lisE x ≠ 0 ∧ e = .returned (.tuple #[.slice none 0 0, .int .i64 (lisE x)])) ∨ (lisE x = 0 ∧ ∃ lo lc, e = .returned (.tuple #[.slice lo (lisS x).length lc, .int .i64 0]) ∧ ItemsAt w' S lo 0 (lisS x))) ∧ Below w.heap.size w w'
theorem indexing_lists_1 (x : Arr) (sx : Option Addr) (cx : Nat) (nx : Option Addr) (mx : Nat) (ix : Option Addr) (jx : Nat) (w : World) : Calls Try.prog 73 #[.agg #[.int .i64 x.kind, .slice sx x.shape.length cx, .slice nx x.nums.length mx, .slice ix x.items.length jx]] w fun e w' => e = .returned (.bool (knB x)) ∧ Ext w w' := by
  refine calls_post fun R' hR => ?_
  obtain ⟨S, hS⟩ : ∃ S : Nat → Prop, S = fun _ => False := ⟨_, rfl⟩
  obtain ⟨r, hr⟩ : ∃ r, r = knB x := ⟨_, rfl⟩
  have hr2 : (x.kind != 1) = r := by rw [hr]; rfl
  rw [← hr] at hR
  replace hr := hid hr
  go_enter Try.func73, Try.ntmps73
  go_upto_region 1 with (fail)
  generalize hEW : (w).alloc (.cells #[.int .i64 x.kind, .slice sx x.shape.length cx, .slice nx x.nums.length mx, .slice ix x.items.length jx] 26) = W
  have E := hid (env1 w S hEW)
  clear hEW
  obtain ⟨q00, q01, q02, q03⟩ := (E.out.hdr 0 rfl).all
  go_wp2_with fail
  exact hR.out _ _ ⟨rfl, E.out.ext⟩
set_option maxHeartbeats 8000000 in
theorem indexing_lists (x : Arr) (sx : Option Addr) (cx : Nat) (nx : Option Addr) (mx : Nat) (ix : Option Addr) (jx : Nat) (S : Nat → Prop) (w : World) (h : ArrAt w S x sx nx ix) (hI1 : x.kind = 1 → ix = none ∧ jx = 0 ∧ x.items = []) (hn6 : x.nums.length ≤ 100000) (hi6 : x.items.length ≤ 100000) :
    Calls Try.prog 50 #[.agg #[.int .i64 x.kind, .slice sx x.shape.length cx, .slice nx x.nums.length mx, .slice ix x.items.length jx]] w (RetLis w (fun b => S b ∨ w.heap.size ≤ b) x) := by
  refine calls_post fun R' hR => ?_
  have h0 := hid h
  have hxs := h.shape.1
  clear h
  by_cases k : x.kind = 1
  case pos =>
    obtain ⟨rfl, rfl, hx0⟩ := hI1 k
    have kb : (x.kind == 1) = true := by simp [k]
    have hl : lisS x = x.nums.map (fun n => validS (numA n)) := if_pos k
    have hil : Hid (x.items.length = 0) := hid (by rw [hx0]; rfl)
    replace k := hid k
    replace hx0 := hid hx0
    replace hl := hid hl
    clear hI1
    go_enter Try.func50, Try.ntmps50
    go_upto_region 1 with (fail)
    generalize hEW : (w).alloc (.cells #[.int .i64 x.kind, .slice sx x.shape.length cx, .slice nx x.nums.length mx, .slice none x.items.length 0] 26) = W
    have E := hid (env1 w S hEW)
    clear hEW
    replace E := hid ((E.out.arg h0.out).row0A)
    (try simp only [List.cons_append, List.nil_append, List.set_cons_zero, List.set_cons_succ] at E)
    obtain ⟨q00, q01, q02, q03⟩ := (E.out.hdr 0 rfl).all
    rw [hil.out] at q03
    go_upto_region 4 with (fail)
    clear q00 q01 q02 q03
    go_loopw [4, 6, 15] (fun lv nv v wr => ∃ (j : Nat) (la : Option Addr) (lc : Nat) (cur : List Arr), j ≤ x.nums.length ∧ v = .int .i64 j ∧ lv = .slice la cur.length lc ∧ Hid (cur = (x.nums.take j).map (fun n => validS (numA n))) ∧ cur.length ≤ 100000 ∧ Env w S wr [.obj w.heap.size (.cells #[.int .i64 x.kind, .slice sx x.shape.length cx, .slice nx x.nums.length mx, .slice none x.items.length 0] 26 (0, 0)), .arr x sx nx none, .rowA la lc cur]) (fun _ _ v _ => x.nums.length - (intOf v).toNat)
    case atStart => exact ⟨0, none, 0, [], Nat.zero_le _, rfl, rfl, hid rfl, by simp, E.out⟩
    case round =>
      clear E
      obtain ⟨j, la, lc, cur, hj, rfl, rfl, hcur, hcl, E⟩ := hrel
      replace E := hid E
      by_cases hlt : j < x.nums.length
      case pos =>
        obtain ⟨b1, o1, hnx, hbl1, hS1, hc1⟩ := (E.out.arr 1 rfl).nums.at hlt
        have hst : Hid (cur ++ [validS (numA (x.nums.getD j 0))] = (x.nums.take (j + 1)).map (fun n => validS (numA n))) := hid (by rw [take_succ_getD hlt, List.map_append, hcur.out]; rfl)
        have hcl2 : cur.length + 1 ≤ 100000 := by
          have := congrArg List.length hcur.out
          rw [List.length_map, List.length_take] at this
          omega
        generalize x.nums.getD j 0 = v at hc1 hst
        obtain ⟨r, hr⟩ : ∃ r, r = validS (numA v) := ⟨_, rfl⟩
        rw [← hr] at hst
        replace hr := hid hr
        subst hnx
        go_wp2_with fail
        refine (array_Scalar v _).mono ?_
        intro e w3 h
        obtain ⟨s101, c101, n101, m101, i101, j101, rfl, hA, hb⟩ := h.eq hr.out
        replace E := hid ((E.out.up hb).addArr hA (fun b _ hq => E.out.fresh (Ext.refl _) hq))
        clear hA hb h
        (try simp only [List.cons_append, List.nil_append, List.set_cons_zero, List.set_cons_succ] at E)
        have hln : (cur ++ [r]).length ≤ 100000 := by rw [List.length_append]; simp only [List.length_cons, List.length_nil]; omega
        obtain ⟨nn, hnn⟩ : ∃ l, l = cur ++ [r] := ⟨_, rfl⟩
        rw [← hnn] at hst hln
        replace hnn := hid hnn
        go_wp2_with (at_builtin; replace E := hid (E.out.box 3 rfl c101 m101 j101); (try simp only [List.cons_append, List.nil_append, List.set_cons_zero, List.set_cons_succ] at E); refine wplE_appA E.out 2 rfl rfl (.tmp 19) (.tmp 22) rfl rfl _ _ 1 [r] rfl (E.out.items 4 rfl) (fun b _ hb => hb) (by simp only [List.length_cons, List.length_nil]; omega) ?_; intro V4 a3 k3 E1; rw [← hnn.out] at E1 ⊢; clear E; have E := hid E1; clear E1; (try simp only [List.cons_append, List.nil_append, List.set_cons_zero, List.set_cons_succ] at E))
        go_roundw
        case rel => exact ⟨j + 1, a3, k3, nn, by omega, by go_num, rfl, hst, hln, E.out.sub (by simp)⟩
        case measure => simp [intOf]; omega
      case neg =>
        obtain rfl : j = x.nums.length := by omega
        have hl2 : cur = lisS x := by rw [hcur.out, List.take_length, hl.out]
        have hll : cur.length ≤ 1759218604441 := by omega
        have jn : ¬ (x.nums.length : Int) < (x.nums.length : Int) := by omega
        replace E := hid (E.out.doneA 2 rfl)
        (try simp only [List.cons_append, List.nil_append, List.set_cons_zero, List.set_cons_succ] at E)
        have hI := E.out.items 2 rfl
        clear hl hcur
        obtain ⟨l, hlc⟩ : ∃ l, l = cur := ⟨_, rfl⟩
        rw [← hlc] at hI hl2 hll ⊢
        replace hlc := hid hlc
        have hl := hid hl2
        clear hl2
        replace E := hid (E.out.addItems (l := l) hI (fun _ _ h => h))
        clear hI
        (try simp only [List.cons_append, List.nil_append, List.set_cons_zero, List.set_cons_succ] at E)
        by_cases k2 : x.kind = 2
        case pos =>
          have kb2 : (x.kind == 2) = true := by simp [k2]
          have hn := hid (lisE_2 k2)
          replace k2 := hid k2
          obtain ⟨q00, q01, q02, q03⟩ := (E.out.hdr 0 rfl).all
          go_wp2_with fail
          exact hR.out _ _ ⟨Or.inl ⟨by rw [hn.out]; decide, by rw [hn.out] <;> rfl⟩, E.out.ext⟩
        have kb2 : (x.kind == 2) = false := by simp [k2]
        have hk := lisE_k (x := x)
        have hr := fun g => lisE_r (x := x) k2 g
        have h0' := fun g => lisE_0 (x := x) k2 g
        rw [← hl.out] at hk hr h0'
        replace hk := hid hk
        replace hr := hid hr
        replace h0' := hid h0'
        replace k2 := hid k2
        obtain ⟨q00, q01, q02, q03⟩ := (E.out.hdr 0 rfl).all
        go_wp2_with fail
        clear q00 q01 q02 q03
        refine (slices_ContainsFuncA_indexing_lists_1 knB l _ _ _ _ (E.out.items 3 rfl) hll (fun x sx cx nx mx ix jx w _ => indexing_lists_1 x sx cx nx mx ix jx w)).mono ?_
        rintro e w5 ⟨rfl, hb⟩
        replace E := hid (E.out.up hb)
        clear hb
        cases hA : l.any knB with
        | true =>
          have hn := hid (hk.out hA)
          replace hA := hid hA
          go_wp2_with fail
          exact hR.out _ _ ⟨Or.inl ⟨by rw [hn.out]; decide, by rw [hn.out] <;> rfl⟩, E.out.ext⟩
        | false =>
          by_cases r : 1 < x.shape.length
          case pos =>
            have rb : (1 : Int) < (x.shape.length : Int) := by omega
            have hn := hid (hr.out hA r)
            replace hA := hid hA
            obtain ⟨q00, q01, q02, q03⟩ := (E.out.hdr 0 rfl).all
            go_wp2_with fail
            exact hR.out _ _ ⟨Or.inl ⟨by rw [hn.out]; decide, by rw [hn.out] <;> rfl⟩, E.out.ext⟩
          case neg =>
            have rb : ¬ (1 : Int) < (x.shape.length : Int) := by omega
            have hn := hid (h0'.out hA r)
            replace hA := hid hA
            obtain ⟨q00, q01, q02, q03⟩ := (E.out.hdr 0 rfl).all
            go_wp2_with fail
            exact hR.out _ _ ⟨Or.inr ⟨hn.out, la, lc, by rw [← hl.out] <;> rfl, by rw [← hl.out]; exact (E.out.items 3 rfl).mono fun b _ h => h.1⟩, E.out.ext⟩
  case neg =>
    have kb : (x.kind == 1) = false := by simp [k]
    have hl1 : lisS x = x.items := if_neg k
    replace k := hid k
    clear hI1
    go_enter Try.func50, Try.ntmps50
    go_upto_region 1 with (fail)
    generalize hEW : (w).alloc (.cells #[.int .i64 x.kind, .slice sx x.shape.length cx, .slice nx x.nums.length mx, .slice ix x.items.length jx] 26) = W
    have E := hid (env1 w S hEW)
    clear hEW
    replace E := hid (E.out.arg h0.out)
    (try simp only [List.cons_append, List.nil_append, List.set_cons_zero, List.set_cons_succ] at E)
    obtain ⟨l, hl⟩ : ∃ l, l = lisS x := ⟨_, rfl⟩
    have hl2 : x.items = l := by rw [hl, hl1]
    replace hl := hid hl
    have hI := (E.out.arr 1 rfl).items
    rw [hl2] at hI
    have hll : l.length ≤ 1759218604441 := by rw [← hl2]; omega
    have hq : Hid (x.items.length = l.length) := hid (by rw [hl2])
    replace hl2 := hid hl2
    replace hl1 := hid hl1
    obtain ⟨q00, q01, q02, q03⟩ := (E.out.hdr 0 rfl).all
    rw [hq.out] at q03
    go_upto_region 8 with (fail)
    clear q00 q01 q02 q03
    replace E := hid (E.out.addItems (l := l) hI (fun _ _ h => h))
    clear hI
    (try simp only [List.cons_append, List.nil_append, List.set_cons_zero, List.set_cons_succ] at E)
    by_cases k2 : x.kind = 2
    case pos =>
      have kb2 : (x.kind == 2) = true := by simp [k2]
      have hn := hid (lisE_2 k2)
      replace k2 := hid k2
      obtain ⟨q00, q01, q02, q03⟩ := (E.out.hdr 0 rfl).all
      go_wp2_with fail
      exact hR.out _ _ ⟨Or.inl ⟨by rw [hn.out]; decide, by rw [hn.out] <;> rfl⟩, E.out.ext⟩
    have kb2 : (x.kind == 2) = false := by simp [k2]
    have hk := lisE_k (x := x)
    have hr := fun g => lisE_r (x := x) k2 g
    have h0' := fun g => lisE_0 (x := x) k2 g
    rw [← hl.out] at hk hr h0'
    replace hk := hid hk
    replace hr := hid hr
    replace h0' := hid h0'
    replace k2 := hid k2
    obtain ⟨q00, q01, q02, q03⟩ := (E.out.hdr 0 rfl).all
    go_wp2_with fail
    clear q00 q01 q02 q03
    refine (slices_ContainsFuncA_indexing_lists_1 knB l _ _ _ _ (E.out.items 2 rfl) hll (fun x sx cx nx mx ix jx w _ => indexing_lists_1 x sx cx nx mx ix jx w)).mono ?_
    rintro e w5 ⟨rfl, hb⟩
    replace E := hid (E.out.up hb)
    clear hb
    cases hA : l.any knB with
    | true =>
      have hn := hid (hk.out hA)
      replace hA := hid hA
      go_wp2_with fail
      exact hR.out _ _ ⟨Or.inl ⟨by rw [hn.out]; decide, by rw [hn.out] <;> rfl⟩, E.out.ext⟩
    | false =>
      by_cases r : 1 < x.shape.length
      case pos =>
        have rb : (1 : Int) < (x.shape.length : Int) := by omega
        have hn := hid (hr.out hA r)
        replace hA := hid hA
        obtain ⟨q00, q01, q02, q03⟩ := (E.out.hdr 0 rfl).all
        go_wp2_with fail
        exact hR.out _ _ ⟨Or.inl ⟨by rw [hn.out]; decide, by rw [hn.out] <;> rfl⟩, E.out.ext⟩
      case neg =>
        have rb : ¬ (1 : Int) < (x.shape.length : Int) := by omega
        have hn := hid (h0'.out hA r)
        replace hA := hid hA
        obtain ⟨q00, q01, q02, q03⟩ := (E.out.hdr 0 rfl).all
        go_wp2_with fail
        exact hR.out _ _ ⟨Or.inr ⟨hn.out, ix, jx, by rw [← hl.out] <;> rfl, by rw [← hl.out]; exact (E.out.items 2 rfl).mono fun b _ h => h.1⟩, E.out.ext⟩
end Go.Proofs.Ytcoknjlkhefgpaa
