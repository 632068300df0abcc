/- budget.Cost and its reference. Condition: the array is read. -/
import Derived.Test.YtmclggonmekanaaR03
import Derived.Test.YtmclggonmekanaaVIS
import Derived.Test.YtmclggonmekanaaBud
set_option linter.unusedVariables false
set_option linter.unusedSimpArgs false
namespace Go.Proofs.Ytmclggonmekanaa
open Go.RowKit Go.Sort
attribute [local go_sem ↓] run_max2 run_min2
attribute [local go_sem] eql_ints_nil eql_arrs_nil
def costS (a : Arr) : Int := if rightS a = 0 then wtS a else 0
set_option maxHeartbeats 1000000 in
theorem budget_Cost (a : Arr) (sa : Option Addr) (sc : Nat) (na : Option Addr) (nc : Nat) (ia : Option Addr) (ic : Nat) (S : Nat → Prop) (w : World) (h : ArrAt w S a sa na ia) :
    Calls Try.prog 25 #[.agg #[.int .i64 a.kind, .slice sa a.shape.length sc, .slice na a.nums.length nc, .slice ia a.items.length ic]] w fun e w' => e = .returned (.int .i64 (costS a)) ∧ Below w.heap.size w w' := by
  refine calls_post fun R' hR => ?_
  have h0 := hid (h.alloc (.cells #[.int .i64 a.kind, .slice sa a.shape.length sc, .slice na a.nums.length nc, .slice ia a.items.length ic] 46))
  clear h
  have E : Hid (costS a = if rightS a = 0 then wtS a else 0) := rfl
  by_cases c : rightS a = 0
  · have cb : (rightS a != 0) = false := by simp [c]
    rw [if_pos c] at E
    replace c := hid c
    go_enter Try.func25, Try.ntmps25
    go_wp2_with (first | (go_at_call 52; refine (array_Right a _ _ _ _ _ _ _ _ h0.out).mono ?_; rintro e w1 ⟨rfl, hb1⟩; have c0 : ∀ i, w1.cell? ⟨w.heap.size, i, none⟩ = (#[Value.int .i64 a.kind, .slice sa a.shape.length sc, .slice na a.nums.length nc, .slice ia a.items.length ic])[i]? := fun i => box_cell hb1 i; have d0 := c0 0; have d1 := c0 1; have d2 := c0 2; have d3 := c0 3; simp at d0 d1 d2 d3; clear c0) | (go_at_call 53; refine (array_Weight a _ _ _ _ _ _ _ _ (h0.out.later hb1)).mono ?_; rintro e w2 ⟨rfl, hb2⟩))
    exact hR.out _ _ ⟨by rw [E.out] <;> rfl, (below_alloc hb1).trans (hb2.mono (below_alloc hb1).size)⟩
  · have cb : (rightS a != 0) = true := by simp [c]
    rw [if_neg c] at E
    replace c := hid c
    go_enter Try.func25, Try.ntmps25
    go_wp2_with (go_at_call 52; refine (array_Right a _ _ _ _ _ _ _ _ h0.out).mono ?_; rintro e w1 ⟨rfl, hb1⟩)
    exact hR.out _ _ ⟨by rw [E.out] <;> rfl, below_alloc hb1⟩
set_option maxHeartbeats 1000000 in
theorem ref38_Cost (a : Arr) (sa : Option Addr) (sc : Nat) (na : Option Addr) (nc : Nat) (ia : Option Addr) (ic : Nat) (S : Nat → Prop) (w : World) (h : ArrAt w S a sa na ia) :
    Calls Try.prog 26 #[.agg #[.int .i64 a.kind, .slice sa a.shape.length sc, .slice na a.nums.length nc, .slice ia a.items.length ic]] w fun e w' => e = .returned (.int .i64 (costS a)) ∧ Below w.heap.size w w' := by
  refine calls_post fun R' hR => ?_
  have h0 := hid (h.alloc (.cells #[.int .i64 a.kind, .slice sa a.shape.length sc, .slice na a.nums.length nc, .slice ia a.items.length ic] 46))
  clear h
  have E : Hid (costS a = if rightS a = 0 then wtS a else 0) := rfl
  by_cases c : rightS a = 0
  · have cb : (rightS a != 0) = false := by simp [c]
    rw [if_pos c] at E
    replace c := hid c
    go_enter Try.func26, Try.ntmps26
    go_wp2_with (first | (go_at_call 32; refine (ref03_Right a _ _ _ _ _ _ _ _ h0.out).mono ?_; rintro e w1 ⟨rfl, hb1⟩; have c0 : ∀ i, w1.cell? ⟨w.heap.size, i, none⟩ = (#[Value.int .i64 a.kind, .slice sa a.shape.length sc, .slice na a.nums.length nc, .slice ia a.items.length ic])[i]? := fun i => box_cell hb1 i; have d0 := c0 0; have d1 := c0 1; have d2 := c0 2; have d3 := c0 3; simp at d0 d1 d2 d3; clear c0) | (go_at_call 54; refine (ref03_Weight a _ _ _ _ _ _ _ _ (h0.out.later hb1)).mono ?_; rintro e w2 ⟨rfl, hb2⟩))
    exact hR.out _ _ ⟨by rw [E.out] <;> rfl, (below_alloc hb1).trans (hb2.mono (below_alloc hb1).size)⟩
  · have cb : (rightS a != 0) = true := by simp [c]
    rw [if_neg c] at E
    replace c := hid c
    go_enter Try.func26, Try.ntmps26
    go_wp2_with (go_at_call 32; refine (ref03_Right a _ _ _ _ _ _ _ _ h0.out).mono ?_; rintro e w1 ⟨rfl, hb1⟩)
    exact hR.out _ _ ⟨by rw [E.out] <;> rfl, below_alloc hb1⟩
set_option maxHeartbeats 1000000 in
theorem law_costs (a : Arr) (sa : Option Addr) (sc : Nat) (na : Option Addr) (nc : Nat) (ia : Option Addr) (ic : Nat) (S : Nat → Prop) (w : World) (h : ArrAt w S a sa na ia) :
    Calls Try.prog 6 #[.agg #[.int .i64 a.kind, .slice sa a.shape.length sc, .slice na a.nums.length nc, .slice ia a.items.length ic]] w fun e w' => e = .returned (.bool true) ∧ Below w.heap.size w w' := by
  refine calls_post fun R' hR => ?_
  have h0 := hid (h.alloc (.cells #[.int .i64 a.kind, .slice sa a.shape.length sc, .slice na a.nums.length nc, .slice ia a.items.length ic] 46))
  clear h
  go_enter Try.func6, Try.ntmps6
  go_wp2_with fail
  have hB := below_alloc (Below.refl (w.alloc (.cells #[.int .i64 a.kind, .slice sa a.shape.length sc, .slice na a.nums.length nc, .slice ia a.items.length ic] 46)).heap.size (w.alloc (.cells #[.int .i64 a.kind, .slice sa a.shape.length sc, .slice na a.nums.length nc, .slice ia a.items.length ic] 46)))
  have c0 : (w.alloc (.cells #[.int .i64 a.kind, .slice sa a.shape.length sc, .slice na a.nums.length nc, .slice ia a.items.length ic] 46)).cell? ⟨w.heap.size, 0, none⟩ = some (.int .i64 a.kind) := box_cell (Below.refl _ _) 0
  have c1 : (w.alloc (.cells #[.int .i64 a.kind, .slice sa a.shape.length sc, .slice na a.nums.length nc, .slice ia a.items.length ic] 46)).cell? ⟨w.heap.size, 1, none⟩ = some (.slice sa a.shape.length sc) := box_cell (Below.refl _ _) 1
  have c2 : (w.alloc (.cells #[.int .i64 a.kind, .slice sa a.shape.length sc, .slice na a.nums.length nc, .slice ia a.items.length ic] 46)).cell? ⟨w.heap.size, 2, none⟩ = some (.slice na a.nums.length nc) := box_cell (Below.refl _ _) 2
  have c3 : (w.alloc (.cells #[.int .i64 a.kind, .slice sa a.shape.length sc, .slice na a.nums.length nc, .slice ia a.items.length ic] 46)).cell? ⟨w.heap.size, 3, none⟩ = some (.slice ia a.items.length ic) := box_cell (Below.refl _ _) 3
  generalize w.alloc (.cells #[.int .i64 a.kind, .slice sa a.shape.length sc, .slice na a.nums.length nc, .slice ia a.items.length ic] 46) = wc at h0 hB c0 c1 c2 c3 ⊢
  have k0 := fun d os => cell_regrown c0 d os
  have k1 := fun d os => cell_regrown c1 d os
  have k2 := fun d os => cell_regrown c2 d os
  have k3 := fun d os => cell_regrown c3 d os
  have cS := fun d os => Calls.regrown_of (budget_Cost a sa sc na nc ia ic S _ (h0.out.later (below_regrown wc d os)))
  have cC := fun d os => Calls.regrown_of (ref38_Cost a sa sc na nc ia ic S _ (h0.out.later (below_regrown wc d os)))
  have cK := fun d os => Calls.regrown_of (knows_any (grow (redrawn wc d) os))
  have CS := hid cS
  have CC := hid cC
  have CK := hid cK
  clear cS cC cK
  generalize costS a = c at CS CC ⊢
  have eb : (c == c) = true := by simp
  refine wp_region_quiet_below (by kernel_rfl) (by kernel_rfl) ?_
  repeat (quiet_step (first | exact CS.out _ _ | exact CC.out _ _ | exact CK.out _ _))
  refine wpQuiet_nil ?_
  intro _ hw'
  obtain ⟨⟨dq, osq⟩, hw''⟩ := hw'
  subst hw''
  have hb_wq := below_regrown wc dq osq
  generalize grow (redrawn wc dq) osq = wq at hb_wq ⊢
  go_wp2_with fail
  exact hR.out _ _ ⟨rfl, hB.trans (hb_wq.mono hB.size)⟩
end Go.Proofs.Ytmclggonmekanaa
