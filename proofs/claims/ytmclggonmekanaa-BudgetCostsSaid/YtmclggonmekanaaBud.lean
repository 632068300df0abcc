/- What the meter of package budget and its reference do: contracts of their functions. Conditions: counts within the limits that the meter itself keeps. -/
import Derived.Test.YtmclggonmekanaaRows
import Derived.Test.YtmclggonmekanaaBase
set_option linter.unusedVariables false
set_option linter.unusedSimpArgs false
namespace Go.Proofs.Ytmclggonmekanaa
open Go.RowKit
attribute [local go_sem ↓] run_max2 run_min2
set_option maxHeartbeats 1000000 in
theorem least_any (a b : Int) (w : World) :
    Calls Try.prog 51 #[.int .i64 a, .int .i64 b] w fun e w' => e = .returned (.int .i64 (min a b)) ∧ w = w' := by
  by_cases h : b < a
  · have hm : min a b = b := by omega
    have H : Hid _ := hm
    clear hm
    go_enter Try.func51, Try.ntmps51
    go_wp2
    go_ret
    exact ⟨by rw [H.out]; rfl, rfl⟩
  · have hm : min a b = a := by omega
    have H : Hid _ := hm
    clear hm
    go_enter Try.func51, Try.ntmps51
    go_wp2
    go_ret
    exact ⟨by rw [H.out]; rfl, rfl⟩
def satS (c n : Int) : Int := min (c + min (max n 0) 4611686018427387903) 4611686018427387903
theorem satS_bd (c n : Int) (h : 0 ≤ c) : 0 ≤ satS c n ∧ satS c n ≤ 4611686018427387903 := by unfold satS; omega
set_option maxHeartbeats 1000000 in
theorem grown_any (c n : Int) (w : World) (h0 : 0 ≤ c) (h1 : c ≤ 4611686018427387903) :
    Calls Try.prog 50 #[.int .i64 c, .int .i64 n] w fun e w' => e = .returned (.int .i64 (satS c n)) ∧ w = w' := by
  go_enter Try.func50, Try.ntmps50
  go_wp2_with fail
  refine (least_any _ _ _).mono ?_
  rintro e w' ⟨rfl, rfl⟩
  have h2 : 0 ≤ min (max n 0) 4611686018427387903 := by omega
  have h3 : min (max n 0) 4611686018427387903 ≤ 4611686018427387903 := by omega
  go_wp2_with fail
  refine (least_any _ _ _).mono ?_
  rintro e w' ⟨rfl, rfl⟩
  go_wp2_with fail
  go_ret
  exact ⟨rfl, rfl⟩
/-- the meter's block -/
def Met (w : World) (m : Nat) (S C K st ce ca : Int) : Prop :=
  w.heap[m]? = some (.cells #[.int .i64 S, .int .i64 C, .int .i64 K, .int .i64 st, .int .i64 ce, .int .i64 ca] 63 (0, 0))
theorem Met.cell {w : World} {m : Nat} {S C K st ce ca : Int} (h : Met w m S C K st ce ca) :
    w.cell? ⟨m, 0, none⟩ = some (.int .i64 S) ∧ w.cell? ⟨m, 1, none⟩ = some (.int .i64 C) ∧ w.cell? ⟨m, 2, none⟩ = some (.int .i64 K) ∧
    w.cell? ⟨m, 3, none⟩ = some (.int .i64 st) ∧ w.cell? ⟨m, 4, none⟩ = some (.int .i64 ce) ∧ w.cell? ⟨m, 5, none⟩ = some (.int .i64 ca) ∧
    (∀ o, w.frozen? ⟨m, o, none⟩ = false) := by
  unfold Met at h
  simp [World.cell?, World.frozen?, h]
theorem Met.set3 {w : World} {m : Nat} {S C K st ce ca x : Int} (h : Met w m S C K st ce ca) : Met (w.setCell ⟨m, 3, none⟩ (.int .i64 x)) m S C K x ce ca := by
  unfold Met at h ⊢
  simp [World.setCell, Array.getElem?_modify, h]
theorem Met.set4 {w : World} {m : Nat} {S C K st ce ca x : Int} (h : Met w m S C K st ce ca) : Met (w.setCell ⟨m, 4, none⟩ (.int .i64 x)) m S C K st x ca := by
  unfold Met at h ⊢
  simp [World.setCell, Array.getElem?_modify, h]
theorem Met.set5 {w : World} {m : Nat} {S C K st ce ca x : Int} (h : Met w m S C K st ce ca) : Met (w.setCell ⟨m, 5, none⟩ (.int .i64 x)) m S C K st ce x := by
  unfold Met at h ⊢
  simp [World.setCell, Array.getElem?_modify, h]
theorem Met.drewN {w : World} {m : Nat} {S C K st ce ca : Int} (h : Met w m S C K st ce ca) (n : Nat) : Met (w.drewN n) m S C K st ce ca := h
theorem Met.lt {w : World} {m : Nat} {S C K st ce ca : Int} (h : Met w m S C K st ce ca) : m < w.heap.size := lt_of_block h
theorem Met.below {w w' : World} {m B : Nat} {S C K st ce ca : Int} (h : Met w m S C K st ce ca) (hb : Below B w w') (hm : m < B) : Met w' m S C K st ce ca := (hb.block m hm).trans h
def stepE (S st n : Int) : Int := if max S 0 < satS st n then 23 else 0
def holdE (C ce n : Int) : Int := if max C 0 < satS ce n then 24 else 0
def enterE (K ca : Int) : Int := if min (max K 0) 200 ≤ ca then 22 else 0
def enterN (K ca : Int) : Int := if min (max K 0) 200 ≤ ca then ca else ca + 1
set_option maxHeartbeats 1000000 in
theorem step_any (m : Nat) (S C K st ce ca n : Int) (w : World) (hm : Met w m S C K st ce ca) (h0 : 0 ≤ st) (h1 : st ≤ 4611686018427387903) :
    Calls Try.prog 22 #[.pointer (some ⟨m, 0, none⟩), .int .i64 n] w fun e w' =>
      e = .returned (.int .i64 (stepE S st n)) ∧ Met w' m S C K (satS st n) ce ca ∧ w.grownBy w' (some m) := by
  have hM := hid hm
  obtain ⟨c0, c1, c2, c3, c4, c5, hf⟩ := hm.cell
  have f3 := hf 3
  clear hf hm
  refine calls_post fun R' hR => ?_
  go_enter Try.func22, Try.ntmps22
  go_wp2_with (go_at_call 50; refine (grown_any _ _ _ h0 h1).mono ?_; rintro e w' ⟨rfl, rfl⟩)
  go_quiet (fail)
  go_wp2_with fail
  · have h : max S 0 < satS st n := by assumption
    exact hR.out _ _ ⟨by rw [stepE, if_pos h]; rfl, hM.out.set3.drewN _, grownBy_drewN (grownBy_setCell _ _ _ _) _⟩
  · have h : satS st n ≤ max S 0 := by assumption
    exact hR.out _ _ ⟨by rw [stepE, if_neg (by omega)]; rfl, hM.out.set3.drewN _, grownBy_drewN (grownBy_setCell _ _ _ _) _⟩
set_option maxHeartbeats 1000000 in
theorem hold_any (m : Nat) (S C K st ce ca n : Int) (w : World) (hm : Met w m S C K st ce ca) (h0 : 0 ≤ ce) (h1 : ce ≤ 4611686018427387903) :
    Calls Try.prog 23 #[.pointer (some ⟨m, 0, none⟩), .int .i64 n] w fun e w' =>
      e = .returned (.int .i64 (holdE C ce n)) ∧ Met w' m S C K st (satS ce n) ca ∧ w.grownBy w' (some m) := by
  have hM := hid hm
  obtain ⟨c0, c1, c2, c3, c4, c5, hf⟩ := hm.cell
  have f3 := hf 4
  clear hf hm
  refine calls_post fun R' hR => ?_
  go_enter Try.func23, Try.ntmps23
  go_wp2_with (go_at_call 50; refine (grown_any _ _ _ h0 h1).mono ?_; rintro e w' ⟨rfl, rfl⟩)
  go_quiet (fail)
  go_wp2_with fail
  · have h : max C 0 < satS ce n := by assumption
    exact hR.out _ _ ⟨by rw [holdE, if_pos h]; rfl, hM.out.set4.drewN _, grownBy_drewN (grownBy_setCell _ _ _ _) _⟩
  · have h : satS ce n ≤ max C 0 := by assumption
    exact hR.out _ _ ⟨by rw [holdE, if_neg (by omega)]; rfl, hM.out.set4.drewN _, grownBy_drewN (grownBy_setCell _ _ _ _) _⟩
set_option maxHeartbeats 1000000 in
theorem enter_any (m : Nat) (S C K st ce ca : Int) (w : World) (hm : Met w m S C K st ce ca) (h0 : 0 ≤ ca) (h1 : ca ≤ 200) :
    Calls Try.prog 24 #[.pointer (some ⟨m, 0, none⟩)] w fun e w' =>
      e = .returned (.int .i64 (enterE K ca)) ∧ Met w' m S C K st ce (enterN K ca) ∧ w.grownBy w' (some m) := by
  have hM := hid hm
  obtain ⟨c0, c1, c2, c3, c4, c5, hf⟩ := hm.cell
  have f3 := hf 5
  clear hf hm
  refine calls_post fun R' hR => ?_
  go_enter Try.func24, Try.ntmps24
  go_wp2_with fail
  go_quiet ((go_at_call 51; exact Calls.quiet_of_same ((least_any _ _ _).mono fun _ _ h => ⟨h.1, h.2.symm⟩)))
  go_wp2_with fail
  · have h : min (max K 0) 200 ≤ ca := by assumption
    refine hR.out _ _ ⟨by rw [enterE, if_pos h]; rfl, ?_, grownBy_drewN (World.grownBy.refl _ _) _⟩
    rw [enterN, if_pos h]
    exact hM.out.drewN _
  · have h : ca < min (max K 0) 200 := by assumption
    refine hR.out _ _ ⟨by rw [enterE, if_neg (by omega)]; rfl, ?_, ?_⟩
    · rw [enterN, if_neg (by omega)]
      exact (hM.out.drewN _).set5
    · exact grownBy_drewN (grownBy_setCell _ _ _ _) _
set_option maxHeartbeats 1000000 in
theorem leave_any (m : Nat) (S C K st ce ca : Int) (w : World) (hm : Met w m S C K st ce ca) (h0 : 0 ≤ ca) (h1 : ca ≤ 200) :
    Calls Try.prog 21 #[.pointer (some ⟨m, 0, none⟩)] w fun e w' =>
      e = .returned (.tuple #[]) ∧ Met w' m S C K st ce (max (ca - 1) 0) ∧ w.grownBy w' (some m) := by
  have hM := hid hm
  obtain ⟨c0, c1, c2, c3, c4, c5, hf⟩ := hm.cell
  have f3 := hf 5
  clear hf hm
  refine calls_post fun R' hR => ?_
  go_enter Try.func21, Try.ntmps21
  go_wp2_with fail
  all_goals go_end0
  · have h : 0 < ca := by assumption
    refine hR.out _ _ ⟨rfl, ?_, grownBy_setCell _ _ _ _⟩
    rw [show max (ca - 1) 0 = ca - 1 from by omega]
    exact hM.out.set5
  · have h : ca ≤ 0 := by assumption
    refine hR.out _ _ ⟨rfl, ?_, World.grownBy.refl _ _⟩
    rw [show max (ca - 1) 0 = ca from by omega]
    exact hM.out
set_option maxHeartbeats 1000000 in
theorem steps_any (m : Nat) (S C K st ce ca : Int) (w : World) (hm : Met w m S C K st ce ca) :
    Calls Try.prog 19 #[.pointer (some ⟨m, 0, none⟩)] w fun e w' => e = .returned (.int .i64 st) ∧ w = w' := by
  obtain ⟨c0, c1, c2, c3, c4, c5, hf⟩ := hm.cell
  clear hf hm
  refine calls_post fun R' hR => ?_
  go_enter Try.func19, Try.ntmps19
  go_wp2_with fail
  exact hR.out _ _ ⟨rfl, rfl⟩
set_option maxHeartbeats 1000000 in
theorem cells_any (m : Nat) (S C K st ce ca : Int) (w : World) (hm : Met w m S C K st ce ca) :
    Calls Try.prog 20 #[.pointer (some ⟨m, 0, none⟩)] w fun e w' => e = .returned (.int .i64 ce) ∧ w = w' := by
  obtain ⟨c0, c1, c2, c3, c4, c5, hf⟩ := hm.cell
  clear hf hm
  refine calls_post fun R' hR => ?_
  go_enter Try.func20, Try.ntmps20
  go_wp2_with fail
  exact hR.out _ _ ⟨rfl, rfl⟩
set_option maxHeartbeats 1000000 in
theorem new_any (S C K : Int) (w : World) :
    Calls Try.prog 16 #[.agg #[.int .i64 S, .int .i64 C, .int .i64 K]] w fun e w' => ∃ m, e = .returned (.pointer (some ⟨m, 0, none⟩)) ∧ Met w' m S C K 0 0 0 ∧ w.heap.size ≤ m ∧ Below w.heap.size w w' := by
  refine calls_post fun R' hR => ?_
  go_enter Try.func16, Try.ntmps16
  go_wp2_with fail
  refine hR.out _ _ ⟨w.heap.size + 1, rfl, ?_, by omega, ((Below.refl _ _).alloc (Nat.le_refl _) _).alloc (by simp) _⟩
  have h := heap_alloc_new (w.alloc (.cells #[.int .i64 S, .int .i64 C, .int .i64 K] 23)) (.cells #[.int .i64 S, .int .i64 C, .int .i64 K, .int .i64 0, .int .i64 0, .int .i64 0] 63)
  rwa [show (w.alloc (.cells #[.int .i64 S, .int .i64 C, .int .i64 K] 23)).heap.size = w.heap.size + 1 from by simp] at h
def opE (j n S C K st ce ca : Int) : Int :=
  if j = 0 then stepE S st n else if j = 1 then holdE C ce n else if j = 2 then enterE K ca else 0
def opSt (j n st : Int) : Int := if j = 0 then satS st n else st
def opCe (j n ce : Int) : Int := if j = 1 then satS ce n else ce
def opCa (j K ca : Int) : Int := if j = 2 then enterN K ca else if j = 3 then max (ca - 1) 0 else ca
theorem kind4 (k : Int) (_h : 0 ≤ k) : (k % 4 = 0 ∨ k % 4 = 1 ∨ k % 4 = 2 ∨ k % 4 = 3) := by omega
theorem Met.alloc {w : World} {m : Nat} {S C K st ce ca : Int} (h : Met w m S C K st ce ca) (o : Obj) : Met (w.alloc o) m S C K st ce ca :=
  (Below.heap_alloc w o m h.lt).trans h
theorem opSt0 {j n st : Int} (h : j = 0) : opSt j n st = satS st n := by simp [opSt, h]
theorem opSt1 {j n st : Int} (h : j ≠ 0) : opSt j n st = st := by simp [opSt, h]
theorem opCe0 {j n ce : Int} (h : j = 1) : opCe j n ce = satS ce n := by simp [opCe, h]
theorem opCe1 {j n ce : Int} (h : j ≠ 1) : opCe j n ce = ce := by simp [opCe, h]
theorem opCa1 {j K ca : Int} (h : j ≠ 2) (h' : j ≠ 3) : opCa j K ca = ca := by simp [opCa, h, h']
set_option maxHeartbeats 1000000 in
theorem run_any (m : Nat) (k n S C K st ce ca : Int) (w : World) (hm : Met w m S C K st ce ca) (h0 : 0 ≤ st) (h1 : st ≤ 4611686018427387903)
    (h2 : 0 ≤ ce) (h3 : ce ≤ 4611686018427387903) (h4 : 0 ≤ ca) (h5 : ca ≤ 200) (hk : 0 ≤ k) (hk' : k < 256) :
    Calls Try.prog 17 #[.pointer (some ⟨m, 0, none⟩), .agg #[.int .u8 k, .int .i64 n]] w fun e w' =>
      e = .returned (.int .i64 (opE (k % 4) n S C K st ce ca)) ∧ Met w' m S C K (opSt (k % 4) n st) (opCe (k % 4) n ce) (opCa (k % 4) K ca) ∧ w.grownBy w' (some m) := by
  have hM := hid (hm.alloc (.cells #[.int .u8 k, .int .i64 n] 33))
  clear hm
  refine calls_post fun R' hR => ?_
  rcases kind4 k hk with h | h | h | h
  · have e0 : (k % 4 == 0) = true := by simp [h]
    have H := hid h; clear h
    go_enter Try.func17, Try.ntmps17
    go_wp2_with (go_at_call 22; refine (step_any _ _ _ _ _ _ _ _ _ hM.out h0 h1).mono ?_; rintro e w' ⟨rfl, hm', hg'⟩)
    refine hR.out _ _ ⟨?_, ?_, ?_⟩
    · rw [opE, if_pos H.out]; rfl
    · rw [opSt0 H.out, opCe1 (by have := H.out; omega), opCa1 (by have := H.out; omega) (by have := H.out; omega)]; assumption
    · exact grownBy_alloc' _ (by assumption)
  · have e0 : (k % 4 == 0) = false := by simp [h]
    have e1 : (k % 4 == 1) = true := by simp [h]
    have H := hid h; clear h
    go_enter Try.func17, Try.ntmps17
    go_wp2_with (go_at_call 23; refine (hold_any _ _ _ _ _ _ _ _ _ hM.out h2 h3).mono ?_; rintro e w' ⟨rfl, hm', hg'⟩)
    refine hR.out _ _ ⟨?_, ?_, ?_⟩
    · rw [opE, if_neg (by have := H.out; omega), if_pos H.out]; rfl
    · rw [opSt1 (by have := H.out; omega), opCe0 H.out, opCa1 (by have := H.out; omega) (by have := H.out; omega)]; assumption
    · exact grownBy_alloc' _ (by assumption)
  · have e0 : (k % 4 == 0) = false := by simp [h]
    have e1 : (k % 4 == 1) = false := by simp [h]
    have e2 : (k % 4 == 2) = true := by simp [h]
    have H := hid h; clear h
    go_enter Try.func17, Try.ntmps17
    go_wp2_with (go_at_call 24; refine (enter_any _ _ _ _ _ _ _ _ hM.out h4 h5).mono ?_; rintro e w' ⟨rfl, hm', hg'⟩)
    refine hR.out _ _ ⟨?_, ?_, ?_⟩
    · rw [opE, if_neg (by have := H.out; omega), if_neg (by have := H.out; omega), if_pos H.out]; rfl
    · rw [opSt1 (by have := H.out; omega), opCe1 (by have := H.out; omega), opCa, if_pos H.out]; assumption
    · exact grownBy_alloc' _ (by assumption)
  · have e0 : (k % 4 == 0) = false := by simp [h]
    have e1 : (k % 4 == 1) = false := by simp [h]
    have e2 : (k % 4 == 2) = false := by simp [h]
    have H := hid h; clear h
    go_enter Try.func17, Try.ntmps17
    go_wp2_with (go_at_call 21; refine (leave_any _ _ _ _ _ _ _ _ hM.out h4 h5).mono ?_; rintro e w' ⟨rfl, hm', hg'⟩)
    refine hR.out _ _ ⟨?_, ?_, ?_⟩
    · rw [opE, if_neg (by have := H.out; omega), if_neg (by have := H.out; omega), if_neg (by have := H.out; omega)]; rfl
    · rw [opSt1 (by have := H.out; omega), opCe1 (by have := H.out; omega), opCa, if_neg (by have := H.out; omega), if_pos H.out]; assumption
    · exact grownBy_alloc' _ (by assumption)

set_option maxHeartbeats 1000000 in
theorem more_any (c n : Int) (w : World) (h0 : 0 ≤ c) (h1 : c ≤ 4611686018427387903) :
    Calls Try.prog 80 #[.int .i64 c, .int .i64 n] w fun e w' => e = .returned (.int .i64 (satS c n)) ∧ w = w' := by
  refine calls_post fun R' hR => ?_
  have hs : Hid (satS c n = min (c + min (max n 0) 4611686018427387903) 4611686018427387903) := rfl
  by_cases a : n ≤ 0
  · go_enter Try.func80, Try.ntmps80
    go_wp2
    exact hR.out _ _ ⟨by rw [hs.out, show min (c + min (max n 0) 4611686018427387903) 4611686018427387903 = c from by omega]; rfl, rfl⟩
  · by_cases b : 4611686018427387903 - c < n
    · go_enter Try.func80, Try.ntmps80
      go_wp2
      exact hR.out _ _ ⟨by rw [hs.out, show min (c + min (max n 0) 4611686018427387903) 4611686018427387903 = 4611686018427387903 from by omega], rfl⟩
    · go_enter Try.func80, Try.ntmps80
      go_wp2
      exact hR.out _ _ ⟨by rw [hs.out, show min (c + min (max n 0) 4611686018427387903) 4611686018427387903 = c + n from by omega], rfl⟩
set_option maxHeartbeats 1000000 in
theorem rstep_any (S C K st ce ca n : Int) (w : World) (h0 : 0 ≤ st) (h1 : st ≤ 4611686018427387903) :
    Calls Try.prog 46 #[.agg #[.int .i64 S, .int .i64 C, .int .i64 K, .int .i64 st, .int .i64 ce, .int .i64 ca], .int .i64 n] w fun e w' =>
      e = .returned (.tuple #[.agg #[.int .i64 S, .int .i64 C, .int .i64 K, .int .i64 (satS st n), .int .i64 ce, .int .i64 ca], .int .i64 (stepE S st n)]) ∧ Below w.heap.size w w' := by
  refine calls_post fun R' hR => ?_
  go_enter Try.func46, Try.ntmps46
  go_wp2_with (go_at_call 80; refine (more_any _ _ _ h0 h1).mono ?_; rintro e w' ⟨rfl, rfl⟩)
  · have h : max S 0 < satS st n := by assumption
    have e1 : stepE S st n = 23 := if_pos h
    exact bodyPost_ret (v := .tuple #[.agg #[.int .i64 S, .int .i64 C, .int .i64 K, .int .i64 (satS st n), .int .i64 ce, .int .i64 ca], .int .i64 23]) (by simp [results, Try.results46, go_sem]) rfl
      (hR.out _ _ ⟨by rw [e1], ((Below.refl _ _).alloc (Nat.le_refl _) _).alloc (by simp) _⟩)
  · have h : satS st n ≤ max S 0 := by assumption
    have e1 : stepE S st n = 0 := if_neg (by omega)
    exact bodyPost_ret (v := .tuple #[.agg #[.int .i64 S, .int .i64 C, .int .i64 K, .int .i64 (satS st n), .int .i64 ce, .int .i64 ca], .int .i64 0]) (by simp [results, Try.results46, go_sem]) rfl
      (hR.out _ _ ⟨by rw [e1], ((Below.refl _ _).alloc (Nat.le_refl _) _).alloc (by simp) _⟩)
set_option maxHeartbeats 1000000 in
theorem rhold_any (S C K st ce ca n : Int) (w : World) (h0 : 0 ≤ ce) (h1 : ce ≤ 4611686018427387903) :
    Calls Try.prog 47 #[.agg #[.int .i64 S, .int .i64 C, .int .i64 K, .int .i64 st, .int .i64 ce, .int .i64 ca], .int .i64 n] w fun e w' =>
      e = .returned (.tuple #[.agg #[.int .i64 S, .int .i64 C, .int .i64 K, .int .i64 st, .int .i64 (satS ce n), .int .i64 ca], .int .i64 (holdE C ce n)]) ∧ Below w.heap.size w w' := by
  refine calls_post fun R' hR => ?_
  go_enter Try.func47, Try.ntmps47
  go_wp2_with (go_at_call 80; refine (more_any _ _ _ h0 h1).mono ?_; rintro e w' ⟨rfl, rfl⟩)
  · have h : max C 0 < satS ce n := by assumption
    have e1 : holdE C ce n = 24 := if_pos h
    exact bodyPost_ret (v := .tuple #[.agg #[.int .i64 S, .int .i64 C, .int .i64 K, .int .i64 st, .int .i64 (satS ce n), .int .i64 ca], .int .i64 24]) (by simp [results, Try.results47, go_sem]) rfl
      (hR.out _ _ ⟨by rw [e1], ((Below.refl _ _).alloc (Nat.le_refl _) _).alloc (by simp) _⟩)
  · have h : satS ce n ≤ max C 0 := by assumption
    have e1 : holdE C ce n = 0 := if_neg (by omega)
    exact bodyPost_ret (v := .tuple #[.agg #[.int .i64 S, .int .i64 C, .int .i64 K, .int .i64 st, .int .i64 (satS ce n), .int .i64 ca], .int .i64 0]) (by simp [results, Try.results47, go_sem]) rfl
      (hR.out _ _ ⟨by rw [e1], ((Below.refl _ _).alloc (Nat.le_refl _) _).alloc (by simp) _⟩)
set_option maxHeartbeats 1000000 in
theorem renter_any (S C K st ce ca : Int) (w : World) (_h0 : 0 ≤ ca) (_h1 : ca ≤ 200) :
    Calls Try.prog 48 #[.agg #[.int .i64 S, .int .i64 C, .int .i64 K, .int .i64 st, .int .i64 ce, .int .i64 ca]] w fun e w' =>
      e = .returned (.tuple #[.agg #[.int .i64 S, .int .i64 C, .int .i64 K, .int .i64 st, .int .i64 ce, .int .i64 (enterN K ca)], .int .i64 (enterE K ca)]) ∧ Below w.heap.size w w' := by
  refine calls_post fun R' hR => ?_
  by_cases a : max K 0 ≤ ca
  · have e1 : enterE K ca = 22 := if_pos (by omega)
    have e2 : enterN K ca = ca := if_pos (by omega)
    have E1 := hid e1; have E2 := hid e2; clear e1 e2
    go_enter Try.func48, Try.ntmps48
    go_wp2
    exact bodyPost_ret (v := .tuple #[.agg #[.int .i64 S, .int .i64 C, .int .i64 K, .int .i64 st, .int .i64 ce, .int .i64 ca], .int .i64 22]) (by simp [results, Try.results48, go_sem]) rfl
      (hR.out _ _ ⟨by rw [E1.out, E2.out], ((Below.refl _ _).alloc (Nat.le_refl _) _).alloc (by simp) _⟩)
  · by_cases b : 200 ≤ ca
    · have e1 : enterE K ca = 22 := if_pos (by omega)
      have e2 : enterN K ca = ca := if_pos (by omega)
      have E1 := hid e1; have E2 := hid e2; clear e1 e2
      go_enter Try.func48, Try.ntmps48
      go_wp2
      exact bodyPost_ret (v := .tuple #[.agg #[.int .i64 S, .int .i64 C, .int .i64 K, .int .i64 st, .int .i64 ce, .int .i64 ca], .int .i64 22]) (by simp [results, Try.results48, go_sem]) rfl
        (hR.out _ _ ⟨by rw [E1.out, E2.out], ((Below.refl _ _).alloc (Nat.le_refl _) _).alloc (by simp) _⟩)
    · have e1 : enterE K ca = 0 := if_neg (by omega)
      have e2 : enterN K ca = ca + 1 := if_neg (by omega)
      have E1 := hid e1; have E2 := hid e2; clear e1 e2
      go_enter Try.func48, Try.ntmps48
      go_wp2
      exact bodyPost_ret (v := .tuple #[.agg #[.int .i64 S, .int .i64 C, .int .i64 K, .int .i64 st, .int .i64 ce, .int .i64 (ca + 1)], .int .i64 0]) (by simp [results, Try.results48, go_sem]) rfl
        (hR.out _ _ ⟨by rw [E1.out, E2.out], ((Below.refl _ _).alloc (Nat.le_refl _) _).alloc (by simp) _⟩)
set_option maxHeartbeats 1000000 in
theorem rleave_any (S C K st ce ca : Int) (w : World) (_h0 : 0 ≤ ca) (_h1 : ca ≤ 200) :
    Calls Try.prog 49 #[.agg #[.int .i64 S, .int .i64 C, .int .i64 K, .int .i64 st, .int .i64 ce, .int .i64 ca]] w fun e w' =>
      e = .returned (.agg #[.int .i64 S, .int .i64 C, .int .i64 K, .int .i64 st, .int .i64 ce, .int .i64 (max (ca - 1) 0)]) ∧ Below w.heap.size w w' := by
  refine calls_post fun R' hR => ?_
  go_enter Try.func49, Try.ntmps49
  go_wp2
  exact bodyPost_ret (v := .agg #[.int .i64 S, .int .i64 C, .int .i64 K, .int .i64 st, .int .i64 ce, .int .i64 (max (ca - 1) 0)]) (by simp [results, Try.results49, go_sem]) rfl
    (hR.out _ _ ⟨rfl, ((Below.refl _ _).alloc (Nat.le_refl _) _).alloc (by simp) _⟩)

set_option maxHeartbeats 1000000 in
theorem plain_any (k n S C K st ce ca : Int) (w : World) (h0 : 0 ≤ st) (h1 : st ≤ 4611686018427387903)
    (h2 : 0 ≤ ce) (h3 : ce ≤ 4611686018427387903) (h4 : 0 ≤ ca) (h5 : ca ≤ 200) (hk : 0 ≤ k) (hk' : k < 256) :
    Calls Try.prog 18 #[.agg #[.int .i64 S, .int .i64 C, .int .i64 K, .int .i64 st, .int .i64 ce, .int .i64 ca], .agg #[.int .u8 k, .int .i64 n]] w fun e w' =>
      e = .returned (.tuple #[.agg #[.int .i64 S, .int .i64 C, .int .i64 K, .int .i64 (opSt (k % 4) n st), .int .i64 (opCe (k % 4) n ce), .int .i64 (opCa (k % 4) K ca)], .int .i64 (opE (k % 4) n S C K st ce ca)]) ∧ Below w.heap.size w w' := by
  refine calls_post fun R' hR => ?_
  rcases kind4 k hk with h | h | h | h
  · have e0 : (k % 4 == 0) = true := by simp [h]
    have H := hid h; clear h
    go_enter Try.func18, Try.ntmps18
    go_wp2_with (go_at_call 46; refine (rstep_any _ _ _ _ _ _ _ _ h0 h1).mono ?_; rintro e w' ⟨rfl, hb⟩; obtain ⟨hc, hf⟩ := bcell hb)
    have hsz := hb.size
    simp at hsz
    refine bodyPost_ret (v := .tuple #[.agg #[.int .i64 S, .int .i64 C, .int .i64 K, .int .i64 (satS st n), .int .i64 ce, .int .i64 ca], .int .i64 (stepE S st n)]) (by simp [results, Try.results18, go_sem, hc]) rfl
      (hR.out _ _ ⟨?_, ?_⟩)
    · rw [opSt0 H.out, opCe1 (by have := H.out; omega), opCa1 (by have := H.out; omega) (by have := H.out; omega), opE, if_pos H.out]
    · repeat' (first | with_reducible exact Below.refl _ _ | with_reducible refine Below.setCell ?_ ?_ _ | with_reducible refine Below.alloc ?_ ?_ _ | with_reducible refine Below.trans ?_ (Below.mono hb ?_) | omega | (simp; done) | (simp; omega))
  · have e0 : (k % 4 == 0) = false := by simp [h]
    have e1 : (k % 4 == 1) = true := by simp [h]
    have H := hid h; clear h
    go_enter Try.func18, Try.ntmps18
    go_wp2_with (go_at_call 47; refine (rhold_any _ _ _ _ _ _ _ _ h2 h3).mono ?_; rintro e w' ⟨rfl, hb⟩; obtain ⟨hc, hf⟩ := bcell hb)
    have hsz := hb.size
    simp at hsz
    refine bodyPost_ret (v := .tuple #[.agg #[.int .i64 S, .int .i64 C, .int .i64 K, .int .i64 st, .int .i64 (satS ce n), .int .i64 ca], .int .i64 (holdE C ce n)]) (by simp [results, Try.results18, go_sem, hc]) rfl
      (hR.out _ _ ⟨?_, ?_⟩)
    · rw [opSt1 (by have := H.out; omega), opCe0 H.out, opCa1 (by have := H.out; omega) (by have := H.out; omega), opE, if_neg (by have := H.out; omega), if_pos H.out]
    · repeat' (first | with_reducible exact Below.refl _ _ | with_reducible refine Below.setCell ?_ ?_ _ | with_reducible refine Below.alloc ?_ ?_ _ | with_reducible refine Below.trans ?_ (Below.mono hb ?_) | omega | (simp; done) | (simp; omega))
  · have e0 : (k % 4 == 0) = false := by simp [h]
    have e1 : (k % 4 == 1) = false := by simp [h]
    have e2 : (k % 4 == 2) = true := by simp [h]
    have H := hid h; clear h
    go_enter Try.func18, Try.ntmps18
    go_wp2_with (go_at_call 48; refine (renter_any _ _ _ _ _ _ _ h4 h5).mono ?_; rintro e w' ⟨rfl, hb⟩; obtain ⟨hc, hf⟩ := bcell hb)
    have hsz := hb.size
    simp at hsz
    refine bodyPost_ret (v := .tuple #[.agg #[.int .i64 S, .int .i64 C, .int .i64 K, .int .i64 st, .int .i64 ce, .int .i64 (enterN K ca)], .int .i64 (enterE K ca)]) (by simp [results, Try.results18, go_sem, hc]) rfl
      (hR.out _ _ ⟨?_, ?_⟩)
    · rw [opSt1 (by have := H.out; omega), opCe1 (by have := H.out; omega), opCa, if_pos H.out, opE, if_neg (by have := H.out; omega), if_neg (by have := H.out; omega), if_pos H.out]
    · repeat' (first | with_reducible exact Below.refl _ _ | with_reducible refine Below.setCell ?_ ?_ _ | with_reducible refine Below.alloc ?_ ?_ _ | with_reducible refine Below.trans ?_ (Below.mono hb ?_) | omega | (simp; done) | (simp; omega))
  · have e0 : (k % 4 == 0) = false := by simp [h]
    have e1 : (k % 4 == 1) = false := by simp [h]
    have e2 : (k % 4 == 2) = false := by simp [h]
    have H := hid h; clear h
    go_enter Try.func18, Try.ntmps18
    go_wp2_with (go_at_call 49; refine (rleave_any _ _ _ _ _ _ _ h4 h5).mono ?_; rintro e w' ⟨rfl, hb⟩; obtain ⟨hc, hf⟩ := bcell hb)
    have hsz := hb.size
    simp at hsz
    refine bodyPost_ret (v := .tuple #[.agg #[.int .i64 S, .int .i64 C, .int .i64 K, .int .i64 st, .int .i64 ce, .int .i64 (max (ca - 1) 0)], .int .i64 0]) (by simp [results, Try.results18, go_sem, hc]) rfl
      (hR.out _ _ ⟨?_, ?_⟩)
    · rw [opSt1 (by have := H.out; omega), opCe1 (by have := H.out; omega), opCa, if_neg (by have := H.out; omega), if_pos H.out, opE, if_neg (by have := H.out; omega), if_neg (by have := H.out; omega), if_neg (by have := H.out; omega)]
    · repeat' (first | with_reducible exact Below.refl _ _ | with_reducible refine Below.setCell ?_ ?_ _ | with_reducible refine Below.alloc ?_ ?_ _ | with_reducible refine Below.trans ?_ (Below.mono hb ?_) | omega | (simp; done) | (simp; omega))

theorem satS_01 : satS 0 1 = 1 := by decide
theorem satS_11 : satS 1 1 = 2 := by decide
theorem satS_21 : satS 2 1 = 3 := by decide
theorem satS_02 : satS 0 2 = 2 := by decide
theorem stepE_1 : stepE 2 0 1 = 0 := by decide
theorem stepE_2 : stepE 2 1 1 = 0 := by decide
theorem stepE_3 : stepE 2 2 1 = 23 := by decide
theorem holdE_1 : holdE 1 0 2 = 24 := by decide
theorem enterE_1 : enterE 1 0 = 0 := by decide
theorem enterE_2 : enterE 1 1 = 22 := by decide
theorem enterN_1 : enterN 1 0 = 1 := by decide
theorem enterN_2 : enterN 1 1 = 1 := by decide
set_option maxHeartbeats 1000000 in
theorem knows_any (w : World) :
    Calls Try.prog 15 #[] w fun e w' => e = .returned (.bool true) ∧ Below w.heap.size w w' := by
  refine calls_post fun R' hR => ?_
  go_enter Try.func15, Try.ntmps15
  go_wp2_with fail
  refine (new_any _ _ _ _).mono ?_
  rintro e w1 ⟨m, rfl, hm1, hs1, hb1⟩
  go_wp2_with fail
  refine (step_any m _ _ _ _ _ _ _ _ hm1 (by omega) (by omega)).mono ?_
  rintro e w2 ⟨rfl, hm2, hg2⟩
  rw [satS_01] at hm2
  rw [stepE_1]
  go_wp2_with fail
  refine (step_any m _ _ _ _ _ _ _ _ hm2 (by omega) (by omega)).mono ?_
  rintro e w3 ⟨rfl, hm3, hg3⟩
  rw [satS_11] at hm3
  rw [stepE_2]
  go_wp2_with fail
  refine (step_any m _ _ _ _ _ _ _ _ hm3 (by omega) (by omega)).mono ?_
  rintro e w4 ⟨rfl, hm4, hg4⟩
  rw [satS_21] at hm4
  rw [stepE_3]
  go_wp2_with fail
  refine (hold_any m _ _ _ _ _ _ _ _ hm4 (by omega) (by omega)).mono ?_
  rintro e w5 ⟨rfl, hm5, hg5⟩
  rw [satS_02] at hm5
  rw [holdE_1]
  go_wp2_with fail
  refine (enter_any m _ _ _ _ _ _ _ hm5 (by omega) (by omega)).mono ?_
  rintro e w6 ⟨rfl, hm6, hg6⟩
  rw [enterN_1] at hm6
  rw [enterE_1]
  go_wp2_with fail
  refine (enter_any m _ _ _ _ _ _ _ hm6 (by omega) (by omega)).mono ?_
  rintro e w7 ⟨rfl, hm7, hg7⟩
  rw [enterN_2] at hm7
  rw [enterE_2]
  go_wp2_with fail
  refine (steps_any m _ _ _ _ _ _ _ hm7).mono ?_
  rintro e w8 ⟨rfl, rfl⟩
  go_wp2_with fail
  refine (cells_any m _ _ _ _ _ _ _ hm7).mono ?_
  rintro e w8 ⟨rfl, rfl⟩
  go_wp2_with fail
  refine hR.out _ _ ⟨rfl, ?_⟩
  exact bgrown (bgrown (bgrown (bgrown (bgrown (bgrown hb1 hg2 hs1) hg3 hs1) hg4 hs1) hg5 hs1) hg6 hs1) hg7 hs1
set_option maxHeartbeats 1000000 in
theorem leave_nil (w : World) : Calls Try.prog 21 #[.pointer none] w fun e w' => e = .returned (.tuple #[]) ∧ w = w' := by
  refine calls_post fun R' hR => ?_
  go_enter Try.func21, Try.ntmps21
  go_wp2_with fail
  go_end0
  exact hR.out _ _ ⟨rfl, rfl⟩
set_option maxHeartbeats 1000000 in
theorem none_any (n : Int) (w : World) :
    Calls Try.prog 5 #[.int .i64 n] w fun e w' => e = .returned (.bool true) ∧ Below w.heap.size w w' := by
  refine calls_post fun R' hR => ?_
  go_enter Try.func5, Try.ntmps5
  go_wp2_with (first | (go_at_call 15; refine (knows_any _).mono ?_; rintro e w' ⟨rfl, hb⟩) | (go_at_call 21; refine (leave_nil _).mono ?_; rintro e w' ⟨rfl, rfl⟩) | go_in)
  exact hR.out _ _ ⟨rfl, hb⟩
end Go.Proofs.Ytmclggonmekanaa
