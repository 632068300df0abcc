/- The reference's comparisons of lists and of arrays. Condition: they are read. -/
import Derived.Test.YtkbbdlibamcilaaR03
set_option linter.unusedVariables false
set_option linter.unusedSimpArgs false
namespace Go.Proofs.Ytkbbdlibamcilaa
open Go.RowKit Go.Sort
attribute [local go_sem ↓] run_max2 run_min2
attribute [local go_sem] eql_ints_nil eql_arrs_nil
def eqI (s t : List Int) : Bool := decide (s = t)
noncomputable def sameB (a b : Arr) : Bool := @decide (a = b) (Classical.propDecidable _)
theorem eqI_len {s t : List Int} (h : s.length ≠ t.length) : eqI s t = false := by simp only [eqI, decide_eq_false_iff_not]; intro e; exact h (by rw [e])
theorem eqI_at {s t : List Int} {k : Nat} (h : s.getD k 0 ≠ t.getD k 0) : eqI s t = false := by simp only [eqI, decide_eq_false_iff_not]; intro e; exact h (by rw [e])
theorem eqI_all {s t : List Int} (hl : s.length = t.length) (h : ∀ j, j < s.length → s.getD j 0 = t.getD j 0) : eqI s t = true := by
  simp only [eqI, decide_eq_true_eq]
  refine List.ext_getElem hl fun j h1 h2 => ?_
  have := h j h1
  simpa [h1, h2] using this
theorem eqI_true {s t : List Int} (h : eqI s t = true) : s = t := by simpa [eqI] using h
theorem sameB_true {a b : Arr} (h : sameB a b = true) : a = b := @of_decide_eq_true _ (Classical.propDecidable _) h
theorem sameB_self (a : Arr) : sameB a a = true := by unfold sameB; exact @decide_eq_true _ (Classical.propDecidable _) rfl
theorem sameB_not {a b : Arr} (h : a ≠ b) : sameB a b = false := by unfold sameB; exact @decide_eq_false _ (Classical.propDecidable _) h
theorem sameB_kind {a b : Arr} (h : a.kind ≠ b.kind) : sameB a b = false := sameB_not fun e => h (by rw [e])
theorem sameB_shape {a b : Arr} (h : eqI a.shape b.shape = false) : sameB a b = false := sameB_not fun e => by rw [e] at h; simp [eqI] at h
theorem sameB_nums {a b : Arr} (h : eqI a.nums b.nums = false) : sameB a b = false := sameB_not fun e => by rw [e] at h; simp [eqI] at h
theorem sameB_len {a b : Arr} (h : a.items.length ≠ b.items.length) : sameB a b = false := sameB_not fun e => h (by rw [e])
theorem sameB_at {a b : Arr} {j : Nat} (h1 : j < a.items.length) (h2 : j < b.items.length) (h : sameB a.items[j] b.items[j] = false) : sameB a b = false := sameB_not fun e => by subst e; rw [sameB_self] at h; cases h
theorem sameB_all {a b : Arr} (h0 : a.kind = b.kind) (h1 : eqI a.shape b.shape = true) (h2 : eqI a.nums b.nums = true) (hl : a.items.length = b.items.length) (h : ∀ j (h1 : j < a.items.length) (h2 : j < b.items.length), sameB a.items[j] b.items[j] = true) : sameB a b = true := by
  have : a = b := by
    rw [← Arr.eta a, ← Arr.eta b, h0, eqI_true h1, eqI_true h2, List.ext_getElem hl fun j h1 h2 => sameB_true (h j h1 h2)]
  rw [this]; exact sameB_self b
set_option maxHeartbeats 1000000 in
theorem ref03_Shapes (s t : List Int) (ao : Option Addr) (cap : Nat) (bo : Option Addr) (bcap : Nat) (S T : Nat → Prop) (w : World) (h : IntsAt w S ao s) (g : IntsAt w T bo t) :
    Calls Try.prog 14 #[.slice ao s.length cap, .slice bo t.length bcap] w fun e w' => e = .returned (.bool (eqI s t)) ∧ ∃ n, w' = w.drewN n := by
  refine calls_post fun R' hR => ?_
  have hl := h.1
  have gl := g.1
  by_cases c : s.length = t.length
  · have cb : ((s.length : Int) != (t.length : Int)) = false := by simp [c]
    go_enter Try.func14, Try.ntmps14
    go_wp2_with fail
    have c' := hid c
    clear c
    go_loopw [5] (fun i wr => ∃ k : Nat, k ≤ s.length ∧ i = .int .i64 k ∧ Hid (∀ j, j < k → s.getD j 0 = t.getD j 0) ∧ ∃ n, wr = w.drewN n) (fun i _ => s.length - (intOf i).toNat)
    case atStart => exact ⟨0, Nat.zero_le _, rfl, fun j hj => by omega, 0, rfl⟩
    case round =>
      obtain ⟨k, hk, rfl, hb, n, rfl⟩ := hrel
      by_cases hlt : k < s.length
      · have hlt2 : k < t.length := by have := c'.out; omega
        obtain ⟨b, off, rfl, hbl, hS, hc⟩ := h.at hlt
        obtain ⟨b', off', rfl, hbl', hS', hc'⟩ := g.at hlt2
        have hI := hid (eqI_at (s := s) (t := t) (k := k))
        have hN : Hid (s.getD k 0 = t.getD k 0 → ∀ j, j < k + 1 → s.getD j 0 = t.getD j 0) := fun e j hj => by
          rcases Nat.lt_succ_iff_lt_or_eq.1 hj with h1 | h1
          · exact hb.out j h1
          · rw [h1]; exact e
        generalize s.getD k 0 = d at hc hI hN
        generalize t.getD k 0 = d' at hc' hI hN
        by_cases c1 : d = d'
        · have e1 : (d != d') = false := by simp [c1]
          have c1' := hid c1
          clear c1
          go_wp2_with fail
          go_quiet (fail)
          go_wp2_with fail
          go_roundw
          case rel => exact ⟨k + 1, by omega, by go_num, hN.out c1'.out, n + nq, by first | rfl | exact World.drewN_drewN _ _ _⟩
          case measure => simp [intOf]; omega
        · have e1 : (d != d') = true := by simp [c1]
          have c1' := hid (hI.out c1)
          clear c1 hI
          go_wp2_with fail
          go_quiet (fail)
          go_wp2_with fail
          exact hR.out _ _ ⟨by rw [c1'.out] <;> rfl, n + nq, by first | rfl | exact World.drewN_drewN _ _ _⟩
      · have E := hid (eqI_all c'.out (fun j hj => hb.out j (by omega)))
        go_wp2_with fail
        exact hR.out _ _ ⟨by rw [E.out] <;> rfl, n, rfl⟩
  · have cb : ((s.length : Int) != (t.length : Int)) = true := by simp; omega
    have E := hid (eqI_len c)
    go_enter Try.func14, Try.ntmps14
    go_wp2_with fail
    exact hR.out _ _ ⟨by rw [E.out] <;> rfl, 0, rfl⟩
def SmRel (w1 : World) (a b : Arr) (i : Value) (wr : World) : Prop :=
  ∃ k : Nat, k ≤ a.items.length ∧ i = .int .i64 k ∧ Below w1.heap.size w1 wr ∧ ∀ j (_ : j < k) (h1 : j < a.items.length) (h2 : j < b.items.length), sameB a.items[j] b.items[j] = true
set_option maxHeartbeats 4000000 in
theorem ref03_Same (a : Arr) : ∀ (b : Arr) (sa : Option Addr) (sc : Nat) (na : Option Addr) (nc : Nat) (ia : Option Addr) (ic : Nat) (ta : Option Addr) (tc : Nat) (ma : Option Addr) (mc : Nat) (ja : Option Addr) (jc : Nat) (S T : Nat → Prop) (w : World), ArrAt w S a sa na ia → ArrAt w T b ta ma ja →
    Calls Try.prog 13 #[.agg #[.int .i64 a.kind, .slice sa a.shape.length sc, .slice na a.nums.length nc, .slice ia a.items.length ic], .agg #[.int .i64 b.kind, .slice ta b.shape.length tc, .slice ma b.nums.length mc, .slice ja b.items.length jc]] w fun e w' => e = .returned (.bool (sameB a b)) ∧ Below w.heap.size w w' := by
  induction a using Arr.ind with
  | h a IH =>
    intro b sa sc na nc ia ic ta tc ma mc ja jc S T w h g
    have IH := hid IH
    refine calls_post fun R' hR => ?_
    have h0 : Hid (ArrAt ((w.alloc (.cells #[.int .i64 a.kind, .slice sa a.shape.length sc, .slice na a.nums.length nc, .slice ia a.items.length ic] 26)).alloc (.cells #[.int .i64 b.kind, .slice ta b.shape.length tc, .slice ma b.nums.length mc, .slice ja b.items.length jc] 26)) S a sa na ia) := hid ((h.alloc (.cells #[.int .i64 a.kind, .slice sa a.shape.length sc, .slice na a.nums.length nc, .slice ia a.items.length ic] 26)).alloc (.cells #[.int .i64 b.kind, .slice ta b.shape.length tc, .slice ma b.nums.length mc, .slice ja b.items.length jc] 26))
    have g0 : Hid (ArrAt ((w.alloc (.cells #[.int .i64 a.kind, .slice sa a.shape.length sc, .slice na a.nums.length nc, .slice ia a.items.length ic] 26)).alloc (.cells #[.int .i64 b.kind, .slice ta b.shape.length tc, .slice ma b.nums.length mc, .slice ja b.items.length jc] 26)) T b ta ma ja) := hid ((g.alloc (.cells #[.int .i64 a.kind, .slice sa a.shape.length sc, .slice na a.nums.length nc, .slice ia a.items.length ic] 26)).alloc (.cells #[.int .i64 b.kind, .slice ta b.shape.length tc, .slice ma b.nums.length mc, .slice ja b.items.length jc] 26))
    have hil := h.len
    have gil := g.len
    clear h g
    by_cases c0 : a.kind = b.kind
    case neg =>
      have cb : (a.kind != b.kind) = true := by simp; omega
      have E := hid (sameB_kind c0)
      replace c0 := hid c0
      go_enter Try.func13, Try.ntmps13
      go_wp2_with fail
      exact hR.out _ _ ⟨by rw [E.out] <;> rfl, by repeat' (first | with_reducible exact Below.refl _ _ | with_reducible refine Below.setCell ?_ ?_ _ | with_reducible refine Below.alloc ?_ ?_ _ | with_reducible refine Below.drew ?_ | with_reducible refine below_drewN ?_ _ | omega | (simp; done) | (simp; omega))⟩
    case pos =>
    have cb : (a.kind != b.kind) = false := by simp [c0]
    replace c0 := hid c0
    cases X1 : eqI a.shape b.shape with
    | false =>
      have E := hid (sameB_shape X1)
      replace X1 := hid X1
      go_enter Try.func13, Try.ntmps13
      go_wp2_with (first | (go_at_call_of 14 (Value.slice sa a.shape.length sc); refine (ref03_Shapes a.shape b.shape _ _ _ _ _ _ _ h0.out.shape g0.out.shape).mono ?_; rintro e w' ⟨rfl, n1, rfl⟩; rw [X1.out]) | (go_at_call_of 14 (Value.slice na a.nums.length nc); refine (ref03_Shapes a.nums b.nums _ _ _ _ _ _ _ (h0.out.drewN n1).nums (g0.out.drewN n1).nums).mono ?_; rintro e w' ⟨rfl, n2, rfl⟩; rw [X2.out]))
      exact hR.out _ _ ⟨by rw [E.out] <;> rfl, below_drewN (below_alloc (below_alloc (Below.refl _ _))) n1⟩
    | true =>
    cases X2 : eqI a.nums b.nums with
    | false =>
      have E := hid (sameB_nums X2)
      replace X1 := hid X1
      replace X2 := hid X2
      go_enter Try.func13, Try.ntmps13
      go_wp2_with (first | (go_at_call_of 14 (Value.slice sa a.shape.length sc); refine (ref03_Shapes a.shape b.shape _ _ _ _ _ _ _ h0.out.shape g0.out.shape).mono ?_; rintro e w' ⟨rfl, n1, rfl⟩; rw [X1.out]) | (go_at_call_of 14 (Value.slice na a.nums.length nc); refine (ref03_Shapes a.nums b.nums _ _ _ _ _ _ _ (h0.out.drewN n1).nums (g0.out.drewN n1).nums).mono ?_; rintro e w' ⟨rfl, n2, rfl⟩; rw [X2.out]))
      exact hR.out _ _ ⟨by rw [E.out] <;> rfl, below_drewN (below_alloc (below_alloc (Below.refl _ _))) (n1 + n2)⟩
    | true =>
    replace X1 := hid X1
    replace X2 := hid X2
    by_cases c3 : a.items.length = b.items.length
    case neg =>
      have cc : ((a.items.length : Int) != (b.items.length : Int)) = true := by simp; omega
      have E := hid (sameB_len c3)
      go_enter Try.func13, Try.ntmps13
      go_wp2_with (first | (go_at_call_of 14 (Value.slice sa a.shape.length sc); refine (ref03_Shapes a.shape b.shape _ _ _ _ _ _ _ h0.out.shape g0.out.shape).mono ?_; rintro e w' ⟨rfl, n1, rfl⟩; rw [X1.out]) | (go_at_call_of 14 (Value.slice na a.nums.length nc); refine (ref03_Shapes a.nums b.nums _ _ _ _ _ _ _ (h0.out.drewN n1).nums (g0.out.drewN n1).nums).mono ?_; rintro e w' ⟨rfl, n2, rfl⟩; rw [X2.out]))
      exact hR.out _ _ ⟨by rw [E.out] <;> rfl, below_drewN (below_alloc (below_alloc (Below.refl _ _))) (n1 + n2)⟩
    case pos =>
    have cc : ((a.items.length : Int) != (b.items.length : Int)) = false := by simp [c3]
    replace c3 := hid c3
    have HI := hid h0.out.items
    have GI := hid g0.out.items
    have p3 : ((w.alloc (.cells #[.int .i64 a.kind, .slice sa a.shape.length sc, .slice na a.nums.length nc, .slice ia a.items.length ic] 26)).alloc (.cells #[.int .i64 b.kind, .slice ta b.shape.length tc, .slice ma b.nums.length mc, .slice ja b.items.length jc] 26)).cell? ⟨w.heap.size, 3, none⟩ = some (.slice ia a.items.length ic) := by simp
    have q3 : ((w.alloc (.cells #[.int .i64 a.kind, .slice sa a.shape.length sc, .slice na a.nums.length nc, .slice ia a.items.length ic] 26)).alloc (.cells #[.int .i64 b.kind, .slice ta b.shape.length tc, .slice ma b.nums.length mc, .slice ja b.items.length jc] 26)).cell? ⟨w.heap.size + 1, 3, none⟩ = some (.slice ja b.items.length jc) := by simp
    have hwl : w.heap.size + 1 < ((w.alloc (.cells #[.int .i64 a.kind, .slice sa a.shape.length sc, .slice na a.nums.length nc, .slice ia a.items.length ic] 26)).alloc (.cells #[.int .i64 b.kind, .slice ta b.shape.length tc, .slice ma b.nums.length mc, .slice ja b.items.length jc] 26)).heap.size := by simp
    have hB := hid (below_alloc (below_alloc (Below.refl ((w.alloc (.cells #[.int .i64 a.kind, .slice sa a.shape.length sc, .slice na a.nums.length nc, .slice ia a.items.length ic] 26)).alloc (.cells #[.int .i64 b.kind, .slice ta b.shape.length tc, .slice ma b.nums.length mc, .slice ja b.items.length jc] 26)).heap.size ((w.alloc (.cells #[.int .i64 a.kind, .slice sa a.shape.length sc, .slice na a.nums.length nc, .slice ia a.items.length ic] 26)).alloc (.cells #[.int .i64 b.kind, .slice ta b.shape.length tc, .slice ma b.nums.length mc, .slice ja b.items.length jc] 26)))))
    go_enter Try.func13, Try.ntmps13
    go_wp2_with (first | (go_at_call_of 14 (Value.slice sa a.shape.length sc); refine (ref03_Shapes a.shape b.shape _ _ _ _ _ _ _ h0.out.shape g0.out.shape).mono ?_; rintro e w' ⟨rfl, n1, rfl⟩; rw [X1.out]) | (go_at_call_of 14 (Value.slice na a.nums.length nc); refine (ref03_Shapes a.nums b.nums _ _ _ _ _ _ _ (h0.out.drewN n1).nums (g0.out.drewN n1).nums).mono ?_; rintro e w' ⟨rfl, n2, rfl⟩; rw [X2.out]))
    have hW := hid (show Below ((w.alloc (.cells #[.int .i64 a.kind, .slice sa a.shape.length sc, .slice na a.nums.length nc, .slice ia a.items.length ic] 26)).alloc (.cells #[.int .i64 b.kind, .slice ta b.shape.length tc, .slice ma b.nums.length mc, .slice ja b.items.length jc] 26)).heap.size ((w.alloc (.cells #[.int .i64 a.kind, .slice sa a.shape.length sc, .slice na a.nums.length nc, .slice ia a.items.length ic] 26)).alloc (.cells #[.int .i64 b.kind, .slice ta b.shape.length tc, .slice ma b.nums.length mc, .slice ja b.items.length jc] 26)) (((w.alloc (.cells #[.int .i64 a.kind, .slice sa a.shape.length sc, .slice na a.nums.length nc, .slice ia a.items.length ic] 26)).alloc (.cells #[.int .i64 b.kind, .slice ta b.shape.length tc, .slice ma b.nums.length mc, .slice ja b.items.length jc] 26)).drewN (n1 + n2)) from below_drewN (Below.refl _ _) (n1 + n2))
    clear h0 g0
    generalize ((w.alloc (.cells #[.int .i64 a.kind, .slice sa a.shape.length sc, .slice na a.nums.length nc, .slice ia a.items.length ic] 26)).alloc (.cells #[.int .i64 b.kind, .slice ta b.shape.length tc, .slice ma b.nums.length mc, .slice ja b.items.length jc] 26)) = W at HI GI p3 q3 hwl hB hW ⊢
    go_loopw [5] (fun i wr => SmRel W a b i wr) (fun i _ => a.items.length - (intOf i).toNat)
    case atStart => exact ⟨0, Nat.zero_le _, rfl, hW.out, fun j hj => by omega⟩
    case round =>
      obtain ⟨k, hk, rfl, hb, hall⟩ := hrel
      have hall := hid hall
      have d3 : wr.cell? ⟨w.heap.size, 3, none⟩ = some (.slice ia a.items.length ic) := (hb.cell (p := ⟨w.heap.size, 3, none⟩) (show w.heap.size < _ by omega)).trans p3
      have f3 : wr.cell? ⟨w.heap.size + 1, 3, none⟩ = some (.slice ja b.items.length jc) := (hb.cell (p := ⟨w.heap.size + 1, 3, none⟩) hwl).trans q3
      have hB2 := hid (hB.out.trans (hb.mono hB.out.size))
      clear p3 q3
      by_cases hlt : k < a.items.length
      · have hlt2 : k < b.items.length := by have := c3.out; omega
        obtain ⟨br, off, sa', sc', na', nc', ia', ic', rfl, hS, hbl, e0, e1, e2, e3, hx⟩ := (HI.out.later hb).at hlt
        obtain ⟨br', off', ta', tc', ma', mc', ja', jc', rfl, hS', hbl', r0, r1, r2, r3, hy⟩ := (GI.out.later hb).at hlt2
        have hmem := hid (List.getElem_mem hlt)
        have hF := hid (sameB_at hlt hlt2)
        have hN : Hid (sameB a.items[k] b.items[k] = true → ∀ j (_ : j < k + 1) (h1 : j < a.items.length) (h2 : j < b.items.length), sameB a.items[j] b.items[j] = true) := fun e j hj h1 h2 => by
          rcases Nat.lt_succ_iff_lt_or_eq.1 hj with h3 | h3
          · exact hall.out j h3 h1 h2
          · subst h3; exact e
        generalize a.items[k] = x at e0 e1 e2 e3 hx hmem hF hN
        generalize b.items[k] = y at r0 r1 r2 r3 hy hF hN
        have k0 := fun d os => cell_regrown e0 d os
        have k1 := fun d os => cell_regrown e1 d os
        have k2 := fun d os => cell_regrown e2 d os
        have k3 := fun d os => cell_regrown e3 d os
        have k4 := fun d os => cell_regrown r0 d os
        have k5 := fun d os => cell_regrown r1 d os
        have k6 := fun d os => cell_regrown r2 d os
        have k7 := fun d os => cell_regrown r3 d os
        have k8 := fun d os => cell_regrown d3 d os
        have k9 := fun d os => cell_regrown f3 d os
        have cS := fun d os => Calls.regrown_of (IH.out x hmem.out y sa' sc' na' nc' ia' ic' ta' tc' ma' mc' ja' jc' S T _ (hx.later (below_regrown wr d os)) (hy.later (below_regrown wr d os)))
        have CS := hid cS
        clear cS hx hy
        cases hs : sameB x y with
        | false =>
          rw [hs] at CS
          have E := hid (hF.out hs)
          replace hs := hid hs
          go_wp2_with fail
          refine wp_region_quiet_below (by kernel_rfl) (by kernel_rfl) ?_
          repeat (quiet_step (exact CS.out _ _))
          refine wpQuiet_nil ?_
          intro _ hw'
          obtain ⟨⟨dq, osq⟩, hw''⟩ := hw'
          subst hw''
          have hb_wq := below_regrown wr dq osq
          generalize grow (redrawn wr dq) osq = wq at hb_wq ⊢
          have hB3 := hid (hB2.out.trans (hb_wq.mono hB2.out.size))
          go_wp2_with fail
          exact hR.out _ _ ⟨by rw [E.out] <;> rfl, hB3.out⟩
        | true =>
          rw [hs] at CS
          have hN2 := hid (hN.out hs)
          replace hs := hid hs
          go_wp2_with fail
          refine wp_region_quiet_below (by kernel_rfl) (by kernel_rfl) ?_
          repeat (quiet_step (exact CS.out _ _))
          refine wpQuiet_nil ?_
          intro _ hw'
          obtain ⟨⟨dq, osq⟩, hw''⟩ := hw'
          subst hw''
          have hb_wq := below_regrown wr dq osq
          generalize grow (redrawn wr dq) osq = wq at hb_wq ⊢
          have hB3 := hid (hb.trans (hb_wq.mono hb.size))
          clear k0 k1 k2 k3 k4 k5 k6 k7 k8 k9 e0 e1 e2 e3 r0 r1 r2 r3 d3 f3 CS
          go_wp2_with fail
          go_roundw
          case rel => exact ⟨k + 1, by omega, by go_num, hB3.out, hN2.out⟩
          case measure => simp [intOf]; omega
      · have E := hid (sameB_all c0.out X1.out X2.out c3.out fun j h1 h2 => hall.out j (by omega) h1 h2)
        go_wp2_with fail
        exact hR.out _ _ ⟨by rw [E.out] <;> rfl, hB2.out⟩
end Go.Proofs.Ytkbbdlibamcilaa
