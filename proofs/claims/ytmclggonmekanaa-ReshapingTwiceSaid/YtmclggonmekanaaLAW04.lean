/- The functions of arraylanglaw04 that build small arrays or compare lists: contracts. Conditions: the lists are read. -/
import Derived.Test.YtmclggonmekanaaDIMS
import Derived.Test.YtmclggonmekanaaSAME
set_option linter.unusedVariables false
set_option linter.unusedSimpArgs false
namespace Go.Proofs.Ytmclggonmekanaa
open Go.RowKit Go.Sort
attribute [local go_sem ↓] run_max2 run_min2
def vec4 (l : List Int) : Arr := .mk 1 [(l.length : Int)] l []
def mat4 (n m : Int) (l : List Int) : Arr := .mk 1 [n, m] l []
def num4 (m : Int) : Arr := .mk 1 [] [m] []
theorem ints_nil (w : World) (S : Nat → Prop) : IntsAt w S none [] := by
  refine ⟨?_, ?_⟩ <;> simp
theorem eqI_at' {s t : List Int} {k : Nat} (hk : k < s.length) (h : s.getD k 0 ≠ t.getD k 0) : eqI s t = false := by
  by_cases c : s.length = t.length
  · first | exact eqI_at (s := s) (t := t) (k := k) h | exact eqI_at (s := s) (t := t) (k := k) hk h
  · exact eqI_len c
theorem eqI_cut {s t : List Int} (hl : t.length ≤ s.length) (h : ∀ j, j < t.length → s.getD j 0 = t.getD j 0) : eqI s t = decide ((s.length : Int) = (t.length : Int)) := by
  by_cases c : s.length = t.length
  · rw [eqI_all c (fun j hj => h j (by omega))]; simp [c]
  · rw [eqI_len c]; simp; omega
theorem eqI_cut' {s t : List Int} (hl : s.length ≤ t.length) (h : ∀ j, j < s.length → s.getD j 0 = t.getD j 0) : eqI s t = decide ((s.length : Int) = (t.length : Int)) := by
  by_cases c : s.length = t.length
  · rw [eqI_all c (fun j hj => h j (by omega))]; simp [c]
  · rw [eqI_len c]; simp; omega
set_option maxHeartbeats 1000000 in
theorem law04_Vec (l : List Int) (lo : Option Addr) (lc : Nat) (S : Nat → Prop) (w : World) (h : IntsAt w S lo l) : Calls Try.prog 44 #[.slice lo l.length lc] w (RetA w (fun b => S b ∨ w.heap.size ≤ b) (vec4 l)) := by
  refine calls_post fun R' hR => ?_
  have hl := h.1
  have h0 := hid h
  clear h
  go_enter Try.func44, Try.ntmps44
  go_wp2_with (refine wpl_store4 rfl (.tmp 2) (.tmp 7) rfl w.heap.size rfl rfl ((hdr_new w _ _ _ _).up (ext_alloc _ _)) ?_; intro V HV C)
  have e1 := (ext_alloc w (.cells #[.int .i64 0, .slice none 0 0, .slice none 0 0, .slice none 0 0] 46)).trans (ext_alloc _ (.cells #[.int .i64 (l.length : Int)] 3))
  have r1 := C.row (heap_alloc_new (w.alloc (.cells #[.int .i64 0, .slice none 0 0, .slice none 0 0, .slice none 0 0] 46)) (.cells #[.int .i64 (l.length : Int)] 3)) (by simp)
  refine bodyPost_ret (end_arr rfl HV rfl) rfl (hR.out _ _ ?_)
  refine RetA.of (k := 1) (s := [(l.length : Int)]) (n := l) (l := []) rfl ?_ ?_ (Nat.zero_le _) (by simp only [ItemsAt]) (C.below e1 (Nat.le_refl _))
  · have := row_ints (ys := [(l.length : Int)]) r1 (by simp) (S := fun b => S b ∨ w.heap.size ≤ b) (Or.inr (by simp))
    simpa using this
  · exact (C.ints ((IntsAt.mono (T := fun b => S b ∧ b < w.heap.size) h0.out (fun b hb hs => ⟨hs, hb⟩)).up e1) (fun q hq => by omega)).mono fun b _ hb => Or.inl hb.1
set_option maxHeartbeats 1000000 in
theorem law04_Mat (n m : Int) (l : List Int) (lo : Option Addr) (lc : Nat) (S : Nat → Prop) (w : World) (h : IntsAt w S lo l) : Calls Try.prog 68 #[.int .i64 n, .int .i64 m, .slice lo l.length lc] w (RetA w (fun b => S b ∨ w.heap.size ≤ b) (mat4 n m l)) := by
  refine calls_post fun R' hR => ?_
  have hl := h.1
  have h0 := hid h
  clear h
  go_enter Try.func68, Try.ntmps68
  go_wp2_with (refine wpl_store4 rfl (.tmp 6) (.tmp 11) rfl w.heap.size rfl rfl ((hdr_new w _ _ _ _).up (ext_alloc _ _)) ?_; intro V HV C)
  have e1 := (ext_alloc w (.cells #[.int .i64 0, .slice none 0 0, .slice none 0 0, .slice none 0 0] 46)).trans (ext_alloc _ (.cells #[.int .i64 n, .int .i64 m] 3))
  have r1 := C.row (heap_alloc_new (w.alloc (.cells #[.int .i64 0, .slice none 0 0, .slice none 0 0, .slice none 0 0] 46)) (.cells #[.int .i64 n, .int .i64 m] 3)) (by simp)
  refine bodyPost_ret (end_arr rfl HV rfl) rfl (hR.out _ _ ?_)
  refine RetA.of (k := 1) (s := [n, m]) (n := l) (l := []) rfl ?_ ?_ (Nat.zero_le _) (by simp only [ItemsAt]) (C.below e1 (Nat.le_refl _))
  · have := row_ints (ys := [n, m]) r1 (by simp) (S := fun b => S b ∨ w.heap.size ≤ b) (Or.inr (by simp))
    simpa using this
  · exact (C.ints ((IntsAt.mono (T := fun b => S b ∧ b < w.heap.size) h0.out (fun b hb hs => ⟨hs, hb⟩)).up e1) (fun q hq => by omega)).mono fun b _ hb => Or.inl hb.1
set_option maxHeartbeats 1000000 in
theorem law04_Num (m : Int) (w : World) : Calls Try.prog 45 #[.int .i64 m] w (RetA w (fun b => w.heap.size ≤ b) (num4 m)) := by
  refine calls_post fun R' hR => ?_
  go_enter Try.func45, Try.ntmps45
  go_wp2_with (refine wpl_store4 rfl (.tmp 2) (.tmp 5) rfl w.heap.size rfl rfl ((hdr_new w _ _ _ _).up (ext_alloc _ _)) ?_; intro V HV C)
  have e1 := (ext_alloc w (.cells #[.int .i64 0, .slice none 0 0, .slice none 0 0, .slice none 0 0] 46)).trans (ext_alloc _ (.cells #[.int .i64 m] 3))
  have r1 := C.row (heap_alloc_new (w.alloc (.cells #[.int .i64 0, .slice none 0 0, .slice none 0 0, .slice none 0 0] 46)) (.cells #[.int .i64 m] 3)) (by simp)
  refine bodyPost_ret (end_arr rfl HV rfl) rfl (hR.out _ _ ?_)
  refine RetA.of (k := 1) (s := []) (n := [m]) (l := []) rfl (ints_nil _ _) ?_ (Nat.zero_le _) (by simp only [ItemsAt]) (C.below e1 (Nat.le_refl _))
  have := row_ints (ys := [m]) r1 (by simp) (S := fun b => w.heap.size ≤ b) (by simp)
  simpa using this
set_option maxHeartbeats 2000000 in
theorem law04_Ints (s t : List Int) (ao : Option Addr) (cap : Nat) (bo : Option Addr) (bcap : Nat) (S T : Nat → Prop) (w : World) (h : IntsAt w S ao s) (g : IntsAt w T bo t) :
    Calls Try.prog 40 #[.slice ao s.length cap, .slice bo t.length bcap] w fun e w' => e = .returned (.bool (eqI s t)) ∧ ∃ n, w' = w.drewN n := by
  refine calls_post fun R' hR => ?_
  have hl := h.1
  have gl := g.1
  go_enter Try.func40, Try.ntmps40
  go_wp2_with fail
  go_loopw [5] (fun i wr => ∃ k : Nat, k ≤ s.length ∧ k ≤ t.length ∧ i = .int .i64 k ∧ Hid (∀ j, j < k → s.getD j 0 = t.getD j 0) ∧ ∃ n, wr = w.drewN n) (fun i _ => s.length - (intOf i).toNat)
  case atStart => exact ⟨0, Nat.zero_le _, Nat.zero_le _, rfl, fun j hj => by omega, 0, rfl⟩
  case round =>
    obtain ⟨k, hk, hk2, rfl, hb, n, rfl⟩ := hrel
    by_cases hlt : k < s.length
    · by_cases hlt2 : k < t.length
      · obtain ⟨b, off, rfl, hbl, hS, hc⟩ := h.at hlt
        obtain ⟨b', off', rfl, hbl', hS', hc'⟩ := g.at hlt2
        have hI := hid (eqI_at' (s := s) (t := t) (k := k) hlt)
        have hN : Hid (s.getD k 0 = t.getD k 0 → ∀ j, j < k + 1 → s.getD j 0 = t.getD j 0) := fun e j hj => by
          rcases Nat.lt_succ_iff_lt_or_eq.1 hj with h1 | h1
          · exact hb.out j h1
          · rw [h1]; exact e
        generalize s.getD k 0 = d at hc hI hN
        generalize t.getD k 0 = d' at hc' hI hN
        by_cases c1 : d = d'
        · have e1 : (d != d') = false := by simp [c1]
          have c1' := hid c1
          clear c1
          go_wp2_with fail
          go_quiet (fail)
          go_wp2_with fail
          go_roundw
          case rel => exact ⟨k + 1, by omega, by omega, by go_num, hN.out c1'.out, n + nq, by first | rfl | exact World.drewN_drewN _ _ _⟩
          case measure => simp [intOf]; omega
        · have e1 : (d != d') = true := by simp [c1]
          have c1' := hid (hI.out c1)
          clear c1 hI
          go_wp2_with fail
          go_quiet (fail)
          go_wp2_with fail
          exact hR.out _ _ ⟨by rw [c1'.out] <;> rfl, n + nq, by first | rfl | exact World.drewN_drewN _ _ _⟩
      · have E := hid (eqI_cut (s := s) (t := t) (by omega) fun j hj => hb.out j (by omega))
        go_wp2_with fail
        exact hR.out _ _ ⟨by rw [E.out] <;> first | rfl | simp, n, rfl⟩
    · have E := hid (eqI_cut' (s := s) (t := t) (by omega) fun j hj => hb.out j (by omega))
      go_wp2_with fail
      exact hR.out _ _ ⟨by rw [E.out] <;> first | rfl | simp, n, rfl⟩
end Go.Proofs.Ytmclggonmekanaa
