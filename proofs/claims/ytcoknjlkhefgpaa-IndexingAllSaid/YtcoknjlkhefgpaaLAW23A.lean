/- law23.upto: contract. Conditions: the number is small. -/
import Derived.Test.YtcoknjlkhefgpaaJ23A
import Derived.Test.YtcoknjlkhefgpaaNEWF
set_option linter.unusedVariables false
set_option linter.unusedSimpArgs false
namespace Go.Proofs.Ytcoknjlkhefgpaa
open Go.RowKit Go.Sort
attribute [local go_sem ↓] run_max2 run_min2
attribute [local go_sem] eql_ints_nil eql_arrs_nil
set_option maxHeartbeats 2000000 in
theorem law23_intsX (so : Option Addr) (sl sc : Nat) (lo : Option Addr) (ll lc : Nat) (w : World) : Calls Try.prog 23 #[.slice so sl sc, .slice lo ll lc] w fun e w' => e = .returned (.agg #[.int .i64 1, .slice so sl sc, .slice lo ll lc, .slice none 0 0]) ∧ Ext w w' := by
  refine calls_post fun R' hR => ?_
  obtain ⟨S, hS⟩ : ∃ S : Nat → Prop, S = fun _ => False := ⟨_, rfl⟩
  go_enter Try.func23, Try.ntmps23
  go_upto_region 1 with (fail)
  generalize hEW : (w).alloc (.cells #[.int .i64 0, .slice none 0 0, .slice none 0 0, .slice none 0 0] 26) = W
  have E := hid (env1 w S hEW)
  clear hEW
  (try simp only [List.cons_append, List.nil_append, List.set_cons_zero, List.set_cons_succ] at E)
  go_wp2_with (refine wpl_store4 rfl (.tmp 4) (.tmp 7) rfl _ rfl rfl (E.out.hdr 0 rfl) ?_; intro V HV CV; replace E := hid (E.out.chg 0 rfl CV HV))
  exact bodyPost_ret (end_arr rfl HV rfl) rfl (hR.out _ _ ⟨rfl, E.out.ext⟩)
set_option maxHeartbeats 4000000 in
theorem law23_upto (n : Nat) (hn : n ≤ 100000) (w : World) : Calls Try.prog 20 #[.int .i64 (n : Int)] w (RetI w (fun b => w.heap.size ≤ b) (.mk 1 [(n : Int)] (rngL n) [])) := by
  refine calls_post fun R' hR => ?_
  obtain ⟨S, hS⟩ : ∃ S : Nat → Prop, S = fun b => w.heap.size ≤ b := ⟨_, rfl⟩
  go_enter Try.func20, Try.ntmps20
  go_upto_region 1 with (fail)
  generalize hEW : (w).alloc (.cells #[.int .i64 0, .slice none 0 0, .slice none 0 0, .slice none 0 0] 26) = W
  have E := hid (env1 w S hEW)
  clear hEW
  go_wp2_with fail
  replace E := hid (E.out.lit [(n : Int)] (show (1 : Nat) ≤ 17592186044416 by decide))
  (try simp only [List.cons_append, List.nil_append, List.set_cons_zero, List.set_cons_succ] at E)
  refine (law23_intsX _ _ _ _ _ _ _).mono ?_
  rintro e w1 ⟨rfl, hb⟩
  replace E := hid (E.out.up hb)
  clear hb
  generalize W.heap.size = g at E ⊢
  go_upto_region 2 with (refine wpl_store4 rfl (.tmp 3) (.tmp 7) rfl _ rfl rfl ((E.out.alloc _).hdr 2 rfl) ?_; intro V1 HV CV; replace E := hid ((E.out.alloc _).chg 2 rfl CV HV); clear CV HV; (try simp only [List.cons_append, List.nil_append, List.set_cons_zero, List.set_cons_succ] at E))
  generalize w1.heap.size = pa at E ⊢
  replace E := hid E.out.row0I
  (try simp only [List.cons_append, List.nil_append, List.set_cons_zero, List.set_cons_succ] at E)
  go_upto_region 3 with (fail)
  go_loopw [4] (fun v wr => ∃ (j : Nat) (na : Option Addr) (nc : Nat), j ≤ n ∧ v = .int .i64 j ∧ Env w S wr [.obj w.heap.size (.cells #[.int .i64 0, .slice none 0 0, .slice none 0 0, .slice none 0 0] 26 (0, 0)), .ints [(n : Int)] (some ⟨g, 0, none⟩), .obj pa (.cells #[.int .i64 1, .slice (some ⟨g, 0, none⟩) 1 1, .slice na (rngL j).length nc, .slice none 0 0] 26 (0, 0)), .rowI na nc (rngL j)]) (fun v _ => n - (intOf v).toNat)
  case atStart => exact ⟨0, none, 0, Nat.zero_le _, rfl, E.out⟩
  case round =>
    clear E
    obtain ⟨j, na, nc, hj, rfl, E⟩ := hrel
    replace E := hid E
    by_cases hlt : j < n
    case pos =>
      have hst := hid (rngL_succ j)
      have hln := rngL_len j
      obtain ⟨cur, hcur⟩ : ∃ c, c = rngL j := ⟨_, rfl⟩
      rw [← hcur] at E hst hln
      replace hcur := hid hcur
      replace hln := hid hln
      obtain ⟨q20, q21, q22, q23⟩ := (E.out.hdr 2 rfl).all
      go_wp2_with (first
        | (at_builtin; replace E := hid (E.out.lit [(j : Int)] (show (1 : Nat) ≤ 17592186044416 by decide)); (try simp only [List.cons_append, List.nil_append, List.set_cons_zero, List.set_cons_succ] at E); refine wplE_addN E.out 2 3 rfl rfl (by decide) rfl rfl rfl (.tmp 14) (.tmp 16) (.tmp 3) (.tmp 18) (.tmp 17) rfl rfl rfl _ _ 1 [(j : Int)] rfl rfl (E.out.ints 4 rfl) (by simp only [List.length_cons, List.length_nil]; have := hln.out; omega) (fun _ => rfl) (fun _ _ => rfl) (fun _ _ => rfl) ?_; intro V na' nc' E'; rw [← hst.out] at E'; clear E; have E := hid E'; clear E'; (try simp only [List.cons_append, List.nil_append, List.set_cons_zero, List.set_cons_succ] at E)))
      go_roundw
      case rel => exact ⟨j + 1, na', nc', by omega, by go_num, E.out.sub (by simp)⟩
      case measure => simp [intOf]; omega
    case neg =>
      obtain rfl : n = j := by omega
      have hln := rngL_len n
      obtain ⟨cur, hcur⟩ : ∃ c, c = rngL n := ⟨_, rfl⟩
      rw [← hcur] at E hln hR
      replace hcur := hid hcur
      replace hln := hid hln
      obtain ⟨q20, q21, q22, q23⟩ := (E.out.hdr 2 rfl).all
      go_wp2_with (refine wpl_store4 rfl (.tmp 2) (.tmp 19) rfl _ rfl rfl (E.out.hdr 0 rfl) ?_; intro V4 HV CV; replace E := hid (E.out.chg 0 rfl CV HV); (try simp only [List.cons_append, List.nil_append, List.set_cons_zero, List.set_cons_succ] at E))
      have c2 := OwnI.cap (E.out.rowI 3 rfl)
      replace E := hid (E.out.doneIF 3 rfl (by have := hln.out; omega))
      (try simp only [List.cons_append, List.nil_append, List.set_cons_zero, List.set_cons_succ] at E)
      refine bodyPost_ret (end_arr rfl HV rfl) rfl (hR.out _ _ ⟨_, _, na, nc, rfl, ArrAt.iff.2 ⟨(E.out.ints 1 rfl).mono fun b _ h => ?_, (E.out.intsF 3 rfl).mono fun b _ h => h.2, by simp [Arr.items], by simp only [Arr.items, ItemsAt]⟩, E.out.ext, Nat.le_refl _, c2⟩)
      subst hS
      exact h.1.elim id id
end Go.Proofs.Ytcoknjlkhefgpaa
