/- The functions of the statements about package rotating: contracts. Conditions: the arrays are read. -/
import Derived.Test.YtmclggonmekanaaREF22
import Derived.Test.YtmclggonmekanaaSAME
set_option linter.unusedVariables false
set_option linter.unusedSimpArgs false
namespace Go.Proofs.Ytmclggonmekanaa
open Go.RowKit Go.Sort
attribute [local go_sem ↓] run_max2 run_min2
attribute [local go_sem] eql_ints_nil eql_arrs_nil
/-- some number between 1 and most -/
def SomeUpto (most : Int) (w : World) (e : Ending) (w' : World) : Prop := ∃ r : Int, e = .returned (.int .i64 r) ∧ 1 ≤ r ∧ r ≤ most ∧ Ext w w'
def SomeB (w : World) (e : Ending) (w' : World) : Prop := ∃ r : Bool, e = .returned (.bool r) ∧ Ext w w'
def vecA (l : List Int) : Arr := .mk 1 [(l.length : Int)] l []
def matA (n m : Int) (l : List Int) : Arr := .mk 1 [n, m] l []
set_option maxHeartbeats 4000000 in
theorem law22_weigh (a : Arr) : ∀ (sa : Option Addr) (ca : Nat) (na : Option Addr) (ma : Nat) (ia : Option Addr) (ja : Nat) (S : Nat → Prop) (w : World) (most : Int), 0 < most → most ≤ 3000 → ArrAt w S a sa na ia →
    Calls Try.prog 55 #[.agg #[.int .i64 a.kind, .slice sa a.shape.length ca, .slice na a.nums.length ma, .slice ia a.items.length ja], .int .i64 most] w (SomeUpto most w) := by
  induction a using Arr.ind with
  | h a IH =>
    intro sa ca na ma ia ja S w most h1 h2 h
    have IH := hid IH
    refine calls_post fun R' hR => ?_
    have hsl := h.shape.1
    have hnl := h.nums.1
    have hil := h.len
    have h0 := hid h
    clear h
    go_enter Try.func55, Try.ntmps55
    go_wp2_with fail
    generalize hEW : (w).alloc (.cells #[.int .i64 a.kind, .slice sa a.shape.length ca, .slice na a.nums.length ma, .slice ia a.items.length ja] 46) = W
    obtain ⟨haW, heW, zW⟩ := boxes1 w hEW
    clear hEW
    obtain ⟨a0, a1, a2, a3⟩ := haW.all
    go_wp2_with fail
    go_loopw [5, 6] (fun s i wr => ∃ (k : Nat) (n : Int), k ≤ a.items.length ∧ i = .int .i64 k ∧ s = .int .i64 n ∧ 1 ≤ n ∧ n ≤ 70368744177664 ∧ Ext W wr) (fun _ i _ => a.items.length - (intOf i).toNat)
    case atStart => exact ⟨0, _, Nat.zero_le _, rfl, rfl, by omega, by omega, Ext.refl _⟩
    case round =>
      obtain ⟨k, n, hk, rfl, rfl, n1, n2, hX⟩ := hrel
      have hX := hid hX
      have q3 := (haW.up hX.out).c3
      clear a0 a1 a2 a3
      by_cases hlt : k < a.items.length
      · by_cases hn : n < most
        · obtain ⟨b, off, sx, cx, nx, mx, ix, jx, hia, hS, hbl, e0, e1, e2, e3, hx⟩ := (h0.out.up (heW.trans hX.out)).items.at hlt
          have hmem := hid (List.getElem_mem hlt)
          subst hia
          generalize a.items[k] = x at e0 e1 e2 e3 hx hmem
          have HX := hid hx
          clear hx
          go_wp2_with fail
          refine (IH.out x hmem.out _ cx _ mx _ jx S wr (most - n) (by omega) (by omega) HX.out).mono ?_
          rintro e w2 ⟨r, rfl, r1, r2, hb2⟩
          have e2' := hid (hX.out.trans hb2)
          clear e0 e1 e2 e3 q3 hb2
          go_wp2_with fail
          go_roundw
          case rel => exact ⟨k + 1, _, by omega, by go_num, rfl, by omega, by omega, e2'.out⟩
          case measure => simp [intOf]; omega
        · have eW := hid (heW.trans hX.out)
          go_wp2_with fail
          exact hR.out _ _ ⟨_, rfl, by omega, by omega, eW.out⟩
      · have eW := hid (heW.trans hX.out)
        go_wp2_with fail
        exact hR.out _ _ ⟨_, rfl, by omega, by omega, eW.out⟩
set_option maxHeartbeats 1000000 in
theorem law22_small (a : Arr) (sa : Option Addr) (ca : Nat) (na : Option Addr) (ma : Nat) (ia : Option Addr) (ja : Nat) (S : Nat → Prop) (w : World) (h : ArrAt w S a sa na ia) : Calls Try.prog 27 #[.agg #[.int .i64 a.kind, .slice sa a.shape.length ca, .slice na a.nums.length ma, .slice ia a.items.length ja]] w (SomeB w) := by
  refine calls_post fun R' hR => ?_
  go_enter Try.func27, Try.ntmps27
  go_wp2_with fail
  generalize hEW : (w).alloc (.cells #[.int .i64 a.kind, .slice sa a.shape.length ca, .slice na a.nums.length ma, .slice ia a.items.length ja] 46) = W
  obtain ⟨haW, heW, zW⟩ := boxes1 w hEW
  clear hEW
  refine (law22_weigh a _ _ _ _ _ _ S W 3000 (by omega) (by omega) (h.up heW)).mono ?_
  rintro e w1 ⟨r, rfl, _, _, hb⟩
  have e1 := hid (heW.trans hb)
  clear hb heW haW
  go_wp2_with fail
  exact hR.out _ _ ⟨_, rfl, e1.out⟩
set_option maxHeartbeats 1000000 in
theorem law22_ints (l : List Int) (lo : Option Addr) (lc : Nat) (S : Nat → Prop) (w : World) (h : IntsAt w S lo l) : Calls Try.prog 35 #[.slice lo l.length lc] w (RetA w (fun b => S b ∨ w.heap.size ≤ b) (vecA l)) := by
  refine calls_post fun R' hR => ?_
  have hl := h.1
  have h0 := hid h
  clear h
  go_enter Try.func35, Try.ntmps35
  go_wp2_with (refine wpl_store4 rfl (.tmp 2) (.tmp 7) rfl w.heap.size rfl rfl ((hdr_new w _ _ _ _).up (ext_alloc _ _)) ?_; intro V HV C)
  have e1 := (ext_alloc w (.cells #[.int .i64 0, .slice none 0 0, .slice none 0 0, .slice none 0 0] 46)).trans (ext_alloc _ (.cells #[.int .i64 (l.length : Int)] 3))
  have r1 := C.row (heap_alloc_new (w.alloc (.cells #[.int .i64 0, .slice none 0 0, .slice none 0 0, .slice none 0 0] 46)) (.cells #[.int .i64 (l.length : Int)] 3)) (by simp)
  refine bodyPost_ret (end_arr rfl HV rfl) rfl (hR.out _ _ ?_)
  refine RetA.of (k := 1) (s := [(l.length : Int)]) (n := l) (l := []) rfl ?_ ?_ (Nat.zero_le _) (by simp only [ItemsAt]) (C.below e1 (Nat.le_refl _))
  · have := row_ints (ys := [(l.length : Int)]) r1 (by simp) (S := fun b => S b ∨ w.heap.size ≤ b) (Or.inr (by simp))
    simpa using this
  · exact (C.ints ((IntsAt.mono (T := fun b => S b ∧ b < w.heap.size) h0.out (fun b hb hs => ⟨hs, hb⟩)).up e1) (fun q hq => by omega)).mono fun b _ hb => Or.inl hb.1
set_option maxHeartbeats 1000000 in
theorem law22_matrix (n m : Int) (l : List Int) (lo : Option Addr) (lc : Nat) (S : Nat → Prop) (w : World) (h : IntsAt w S lo l) : Calls Try.prog 56 #[.int .i64 n, .int .i64 m, .slice lo l.length lc] w (RetA w (fun b => S b ∨ w.heap.size ≤ b) (matA n m l)) := by
  refine calls_post fun R' hR => ?_
  have hl := h.1
  have h0 := hid h
  clear h
  go_enter Try.func56, Try.ntmps56
  go_wp2_with (refine wpl_store4 rfl (.tmp 6) (.tmp 11) rfl w.heap.size rfl rfl ((hdr_new w _ _ _ _).up (ext_alloc _ _)) ?_; intro V HV C)
  have e1 := (ext_alloc w (.cells #[.int .i64 0, .slice none 0 0, .slice none 0 0, .slice none 0 0] 46)).trans (ext_alloc _ (.cells #[.int .i64 n, .int .i64 m] 3))
  have r1 := C.row (heap_alloc_new (w.alloc (.cells #[.int .i64 0, .slice none 0 0, .slice none 0 0, .slice none 0 0] 46)) (.cells #[.int .i64 n, .int .i64 m] 3)) (by simp)
  refine bodyPost_ret (end_arr rfl HV rfl) rfl (hR.out _ _ ?_)
  refine RetA.of (k := 1) (s := [n, m]) (n := l) (l := []) rfl ?_ ?_ (Nat.zero_le _) (by simp only [ItemsAt]) (C.below e1 (Nat.le_refl _))
  · have := row_ints (ys := [n, m]) r1 (by simp) (S := fun b => S b ∨ w.heap.size ≤ b) (Or.inr (by simp))
    simpa using this
  · exact (C.ints ((IntsAt.mono (T := fun b => S b ∧ b < w.heap.size) h0.out (fun b hb hs => ⟨hs, hb⟩)).up e1) (fun q hq => by omega)).mono fun b _ hb => Or.inl hb.1
set_option maxRecDepth 100000 in
set_option maxHeartbeats 8000000 in
theorem law22_lives (w : World) : Calls Try.prog 28 #[] w fun e w' => e = .returned (.bool true) ∧ Ext w w' := by
  refine calls_post fun R' hR => ?_
  obtain ⟨a1, ha1⟩ : ∃ a, a = vecA [-1] := ⟨_, rfl⟩
  obtain ⟨a2, ha2⟩ : ∃ a, a = vecA [1, 2, 3] := ⟨_, rfl⟩
  obtain ⟨r1, hr1⟩ : ∃ a, a = rotS a1 a2 := ⟨_, rfl⟩
  obtain ⟨a3, ha3⟩ : ∃ a, a = vecA [1, 1] := ⟨_, rfl⟩
  obtain ⟨a4, ha4⟩ : ∃ a, a = matA 2 3 [1, 2, 3, 4, 5, 6] := ⟨_, rfl⟩
  obtain ⟨r2, hr2⟩ : ∃ a, a = rotS a3 a4 := ⟨_, rfl⟩
  obtain ⟨a5, ha5⟩ : ∃ a, a = vecA [1] := ⟨_, rfl⟩
  obtain ⟨a6, ha6⟩ : ∃ a, a = Arr.mk 1 [] [5] [] := ⟨_, rfl⟩
  obtain ⟨r3, hr3⟩ : ∃ a, a = rotS a5 a6 := ⟨_, rfl⟩
  obtain ⟨a7, ha7⟩ : ∃ a, a = matA 2 2 [1, 2, 3, 4] := ⟨_, rfl⟩
  obtain ⟨r4, hr4⟩ : ∃ a, a = revS a7 := ⟨_, rfl⟩
  obtain ⟨a8, ha8⟩ : ∃ a, a = matA 2 2 [3, 4, 1, 2] := ⟨_, rfl⟩
  obtain ⟨a9, ha9⟩ : ∃ a, a = vecA [3, 1, 2] := ⟨_, rfl⟩
  obtain ⟨a10, ha10⟩ : ∃ a, a = matA 2 3 [5, 6, 4, 2, 3, 1] := ⟨_, rfl⟩
  have z1 : rotE a1 a2 = 0 := by rw [ha1, ha2]; kernel_rfl
  have z2 : rotE a3 a4 = 0 := by rw [ha3, ha4]; kernel_rfl
  have z3 : rotE a5 a6 = 16 := by rw [ha5, ha6]; kernel_rfl
  have y1 : r1 = a9 := by rw [hr1, ha1, ha2, ha9]; kernel_rfl
  have y2 : r2 = a10 := by rw [hr2, ha3, ha4, ha10]; kernel_rfl
  have y4 : r4 = a8 := by rw [hr4, ha7, ha8]; kernel_rfl
  replace ha1 := hid ha1
  replace ha2 := hid ha2
  replace ha3 := hid ha3
  replace ha4 := hid ha4
  replace ha5 := hid ha5
  replace ha6 := hid ha6
  replace ha7 := hid ha7
  replace ha8 := hid ha8
  replace ha9 := hid ha9
  replace ha10 := hid ha10
  replace hr1 := hid hr1
  replace hr2 := hid hr2
  replace hr3 := hid hr3
  replace hr4 := hid hr4
  replace z1 := hid z1
  replace z2 := hid z2
  replace z3 := hid z3
  replace y1 := hid y1
  replace y2 := hid y2
  replace y4 := hid y4
  go_enter Try.func28, Try.ntmps28
  go_upto_region 1 with (fail)
  refine wp_region_seq_tail 9 (Sees w []) [0, 1, 2, 3, 4, 8] (fun k v u u' => match k with | 0 => v = .slice (some ⟨u.heap.size, 0, none⟩) 1 1 ∧ u' = u.alloc (.cells (([-1] : List Int).map (Value.int .i64)).toArray 3) | 1 => RetA u (fun b => w.heap.size ≤ b) a1 (.returned v) u' | 2 => v = .slice (some ⟨u.heap.size, 0, none⟩) 3 3 ∧ u' = u.alloc (.cells (([1, 2, 3] : List Int).map (Value.int .i64)).toArray 3) | 3 => RetA u (fun b => w.heap.size ≤ b) a2 (.returned v) u' | 4 => RetAE u (fun b => u.heap.size ≤ b) r1 0 (.returned v) u' | 8 => v = .pointer (some ⟨u.heap.size, 0, none⟩) ∧ u' = u.alloc (.cells #[.int .i64 0, .slice none 0 0, .slice none 0 0, .slice none 0 0] 46) | _ => False) (fun _ _ h e => h.up e) (Sees.start (all_nil)) ?_
  simp only [List.take_succ_cons, List.take_zero, List.drop_succ_cons, List.drop_zero]
  repeat (first | (refine m_plain (v := ?_) (by rfl) (by rfl) ?_ ?_; rotate_left; (intro wz hSw; obtain ⟨-, hSc⟩ := hSw; (try simp only [List.forall_mem_cons, List.forall_mem_nil, and_true] at hSc); go_simp; (first | done | with_reducible rfl)); (intro K hK; (try simp only [Act.put, List.setIfInBounds_toArray, List.set_cons_zero, List.set_cons_succ]); refine hK _ _ ?_; clear hK K)) | (refine m_skip (by rfl) (by rfl) ?_; (intro K hK; (try simp only [Act.put, List.setIfInBounds_toArray, List.set_cons_zero, List.set_cons_succ]); refine hK _ _ ?_; clear hK K)))
  refine m_make (by rfl) (by rfl) ?_ ?_
  · intro wz hSw hdep R hRz
    obtain ⟨hSe, hSc⟩ := hSw
    (try simp only [List.forall_mem_cons, List.forall_mem_nil, and_true] at hSc)
    unfold does
    (go_simp; exact hRz.out _ _ ⟨ext_alloc _ _, rfl, rfl⟩)
  intro v0 u0 x0 hG0 K hK
  have hF0 := hG0.fact
  (try dsimp only at hF0)
  obtain ⟨rfl, rfl⟩ := hF0
  (try simp only [Act.put, List.setIfInBounds_toArray, List.set_cons_zero, List.set_cons_succ]); refine hK _ _ ?_; clear hK K
  repeat (first | (refine m_plain (v := ?_) (by rfl) (by rfl) ?_ ?_; rotate_left; (intro wz hSw; obtain ⟨-, hSc⟩ := hSw; (try simp only [List.forall_mem_cons, List.forall_mem_nil, and_true] at hSc); go_simp; (first | done | with_reducible rfl)); (intro K hK; (try simp only [Act.put, List.setIfInBounds_toArray, List.set_cons_zero, List.set_cons_succ]); refine hK _ _ ?_; clear hK K)) | (refine m_skip (by rfl) (by rfl) ?_; (intro K hK; (try simp only [Act.put, List.setIfInBounds_toArray, List.set_cons_zero, List.set_cons_succ]); refine hK _ _ ?_; clear hK K)))
  refine m_make (by rfl) (by rfl) ?_ ?_
  · intro wz hSw hdep R hRz
    obtain ⟨hSe, hSc⟩ := hSw
    (try simp only [List.forall_mem_cons, List.forall_mem_nil, and_true] at hSc)
    unfold does
    (go_simp; refine Calls.mono (law22_ints [-1] _ _ _ wz (lit_at (hdep 0 _ rfl trivial) (by decide))) ?_; intro e wq h; rw [← ha1.out] at h; obtain ⟨ta, tc, tn, tnc, ti, tic, rfl, hq, hqb⟩ := h; exact ⟨_, rfl, hRz.out _ _ ⟨hqb, ta, tc, tn, tnc, ti, tic, rfl, ArrAt.mono (fun b _ hb => by have := Below.size hSe; have := Below.size hG0.s.1; rcases hb with hb | hb <;> omega) _ hq, hqb⟩⟩)
  intro v1 u1 x1 hG1 K hK
  have hF1 := hG1.fact
  (try dsimp only at hF1)
  obtain ⟨s1, c1, n1, m1, i1, j1, he, hA1, hb1⟩ := hF1
  injection he with he
  subst he
  (try simp only [Act.put, List.setIfInBounds_toArray, List.set_cons_zero, List.set_cons_succ]); refine hK _ _ ?_; clear hK K
  repeat (first | (refine m_plain (v := ?_) (by rfl) (by rfl) ?_ ?_; rotate_left; (intro wz hSw; obtain ⟨-, hSc⟩ := hSw; (try simp only [List.forall_mem_cons, List.forall_mem_nil, and_true] at hSc); go_simp; (first | done | with_reducible rfl)); (intro K hK; (try simp only [Act.put, List.setIfInBounds_toArray, List.set_cons_zero, List.set_cons_succ]); refine hK _ _ ?_; clear hK K)) | (refine m_skip (by rfl) (by rfl) ?_; (intro K hK; (try simp only [Act.put, List.setIfInBounds_toArray, List.set_cons_zero, List.set_cons_succ]); refine hK _ _ ?_; clear hK K)))
  refine m_make (by rfl) (by rfl) ?_ ?_
  · intro wz hSw hdep R hRz
    obtain ⟨hSe, hSc⟩ := hSw
    (try simp only [List.forall_mem_cons, List.forall_mem_nil, and_true] at hSc)
    unfold does
    (go_simp; exact hRz.out _ _ ⟨ext_alloc _ _, rfl, rfl⟩)
  intro v2 u2 x2 hG2 K hK
  have hF2 := hG2.fact
  (try dsimp only at hF2)
  obtain ⟨rfl, rfl⟩ := hF2
  (try simp only [Act.put, List.setIfInBounds_toArray, List.set_cons_zero, List.set_cons_succ]); refine hK _ _ ?_; clear hK K
  repeat (first | (refine m_plain (v := ?_) (by rfl) (by rfl) ?_ ?_; rotate_left; (intro wz hSw; obtain ⟨-, hSc⟩ := hSw; (try simp only [List.forall_mem_cons, List.forall_mem_nil, and_true] at hSc); go_simp; (first | done | with_reducible rfl)); (intro K hK; (try simp only [Act.put, List.setIfInBounds_toArray, List.set_cons_zero, List.set_cons_succ]); refine hK _ _ ?_; clear hK K)) | (refine m_skip (by rfl) (by rfl) ?_; (intro K hK; (try simp only [Act.put, List.setIfInBounds_toArray, List.set_cons_zero, List.set_cons_succ]); refine hK _ _ ?_; clear hK K)))
  refine m_make (by rfl) (by rfl) ?_ ?_
  · intro wz hSw hdep R hRz
    obtain ⟨hSe, hSc⟩ := hSw
    (try simp only [List.forall_mem_cons, List.forall_mem_nil, and_true] at hSc)
    unfold does
    (go_simp; refine Calls.mono (law22_ints [1, 2, 3] _ _ _ wz (lit_at (hdep 2 _ rfl trivial) (by decide))) ?_; intro e wq h; rw [← ha2.out] at h; obtain ⟨ta, tc, tn, tnc, ti, tic, rfl, hq, hqb⟩ := h; exact ⟨_, rfl, hRz.out _ _ ⟨hqb, ta, tc, tn, tnc, ti, tic, rfl, ArrAt.mono (fun b _ hb => by have := Below.size hSe; have := Below.size hG2.s.1; rcases hb with hb | hb <;> omega) _ hq, hqb⟩⟩)
  intro v3 u3 x3 hG3 K hK
  have hF3 := hG3.fact
  (try dsimp only at hF3)
  obtain ⟨s3, c3, n3, m3, i3, j3, he, hA3, hb3⟩ := hF3
  injection he with he
  subst he
  (try simp only [Act.put, List.setIfInBounds_toArray, List.set_cons_zero, List.set_cons_succ]); refine hK _ _ ?_; clear hK K
  repeat (first | (refine m_plain (v := ?_) (by rfl) (by rfl) ?_ ?_; rotate_left; (intro wz hSw; obtain ⟨-, hSc⟩ := hSw; (try simp only [List.forall_mem_cons, List.forall_mem_nil, and_true] at hSc); go_simp; (first | done | with_reducible rfl)); (intro K hK; (try simp only [Act.put, List.setIfInBounds_toArray, List.set_cons_zero, List.set_cons_succ]); refine hK _ _ ?_; clear hK K)) | (refine m_skip (by rfl) (by rfl) ?_; (intro K hK; (try simp only [Act.put, List.setIfInBounds_toArray, List.set_cons_zero, List.set_cons_succ]); refine hK _ _ ?_; clear hK K)))
  refine m_make (by rfl) (by rfl) ?_ ?_
  · intro wz hSw hdep R hRz
    obtain ⟨hSe, hSc⟩ := hSw
    (try simp only [List.forall_mem_cons, List.forall_mem_nil, and_true] at hSc)
    unfold does
    (go_simp; refine Calls.mono (rotating_Rotate a1 _ _ _ _ _ _ a2 _ _ _ _ _ _ _ _ wz (hA1.up (hdep 1 _ rfl trivial)) (hA3.up (hdep 3 _ rfl trivial))) ?_; intro e wq h; rw [← hr1.out, z1.out] at h; obtain ⟨ta, tc, tn, tnc, ti, tic, rfl, hq, hqb⟩ := h; exact ⟨_, rfl, hRz.out _ _ ⟨hqb, ta, tc, tn, tnc, ti, tic, rfl, hq, hqb⟩⟩)
  intro v4 u4 x4 hG4 K hK
  have hF4 := hG4.fact
  (try dsimp only at hF4)
  obtain ⟨s4, c4, n4, m4, i4, j4, he, hA4, hb4⟩ := hF4
  injection he with he
  subst he
  (try simp only [Act.put, List.setIfInBounds_toArray, List.set_cons_zero, List.set_cons_succ]); refine hK _ _ ?_; clear hK K
  repeat (first | (refine m_plain (v := ?_) (by rfl) (by rfl) ?_ ?_; rotate_left; (intro wz hSw; obtain ⟨-, hSc⟩ := hSw; (try simp only [List.forall_mem_cons, List.forall_mem_nil, and_true] at hSc); go_simp; (first | done | with_reducible rfl)); (intro K hK; (try simp only [Act.put, List.setIfInBounds_toArray, List.set_cons_zero, List.set_cons_succ]); refine hK _ _ ?_; clear hK K)) | (refine m_skip (by rfl) (by rfl) ?_; (intro K hK; (try simp only [Act.put, List.setIfInBounds_toArray, List.set_cons_zero, List.set_cons_succ]); refine hK _ _ ?_; clear hK K)))
  refine m_make (by rfl) (by rfl) ?_ ?_
  · intro wz hSw hdep R hRz
    obtain ⟨hSe, hSc⟩ := hSw
    (try simp only [List.forall_mem_cons, List.forall_mem_nil, and_true] at hSc)
    unfold does
    (go_simp; exact hRz.out _ _ ⟨ext_alloc _ _, rfl, rfl⟩)
  intro v8 u8 x8 hG8 K hK
  have hF8 := hG8.fact
  (try dsimp only at hF8)
  obtain ⟨rfl, rfl⟩ := hF8
  (try simp only [Act.put, List.setIfInBounds_toArray, List.set_cons_zero, List.set_cons_succ]); refine hK _ _ ?_; clear hK K
  repeat (first | (refine m_plain (v := ?_) (by rfl) (by rfl) ?_ ?_; rotate_left; (intro wz hSw; obtain ⟨-, hSc⟩ := hSw; (try simp only [List.forall_mem_cons, List.forall_mem_nil, and_true] at hSc); go_simp; (first | done | with_reducible rfl)); (intro K hK; (try simp only [Act.put, List.setIfInBounds_toArray, List.set_cons_zero, List.set_cons_succ]); refine hK _ _ ?_; clear hK K)) | (refine m_skip (by rfl) (by rfl) ?_; (intro K hK; (try simp only [Act.put, List.setIfInBounds_toArray, List.set_cons_zero, List.set_cons_succ]); refine hK _ _ ?_; clear hK K)))
  refine m_nil ?_
  intro wf hSf hAf
  have o8 := hG8.order 4 _ rfl
  refine wpl_var (by rfl) (.tmp 1) (.tmp 13) (by rfl) u8.heap.size (by rfl) (by rfl) (made_blk (hAf 8 _ rfl : Ext (u8.alloc _) wf)) ((ArrAt.mono (T := fun b => u4.heap.size ≤ b ∧ b < x4.heap.size) (fun b hb hh => ⟨hh, hb⟩) _ hA4).up (hAf 4 _ rfl)) (fun q hq => ord_out o8 hq.1 hq.2) hSf.1 (Below.size hG8.s.1) ?_
  intro V1 hV1 eV1
  clear hG0 hG1 hG2 hG3 hG4 hG8 hSf hAf hA1 hA3 hA4 hb1 hb3 hb4 o8
  generalize u8.heap.size = p1 at *
  go_upto_region 2 with (fail)
  refine wp_region_seq_tail 9 (Sees V1 []) [0, 1, 2, 3, 4, 8] (fun k v u u' => match k with | 0 => v = .slice (some ⟨u.heap.size, 0, none⟩) 2 2 ∧ u' = u.alloc (.cells (([1, 1] : List Int).map (Value.int .i64)).toArray 3) | 1 => RetA u (fun b => V1.heap.size ≤ b) a3 (.returned v) u' | 2 => v = .slice (some ⟨u.heap.size, 0, none⟩) 6 6 ∧ u' = u.alloc (.cells (([1, 2, 3, 4, 5, 6] : List Int).map (Value.int .i64)).toArray 3) | 3 => RetA u (fun b => V1.heap.size ≤ b) a4 (.returned v) u' | 4 => RetAE u (fun b => u.heap.size ≤ b) r2 0 (.returned v) u' | 8 => v = .pointer (some ⟨u.heap.size, 0, none⟩) ∧ u' = u.alloc (.cells #[.int .i64 0, .slice none 0 0, .slice none 0 0, .slice none 0 0] 46) | _ => False) (fun _ _ h e => h.up e) (Sees.start (all_nil)) ?_
  simp only [List.take_succ_cons, List.take_zero, List.drop_succ_cons, List.drop_zero]
  repeat (first | (refine m_plain (v := ?_) (by rfl) (by rfl) ?_ ?_; rotate_left; (intro wz hSw; obtain ⟨-, hSc⟩ := hSw; (try simp only [List.forall_mem_cons, List.forall_mem_nil, and_true] at hSc); go_simp; (first | done | with_reducible rfl)); (intro K hK; (try simp only [Act.put, List.setIfInBounds_toArray, List.set_cons_zero, List.set_cons_succ]); refine hK _ _ ?_; clear hK K)) | (refine m_skip (by rfl) (by rfl) ?_; (intro K hK; (try simp only [Act.put, List.setIfInBounds_toArray, List.set_cons_zero, List.set_cons_succ]); refine hK _ _ ?_; clear hK K)))
  refine m_make (by rfl) (by rfl) ?_ ?_
  · intro wz hSw hdep R hRz
    obtain ⟨hSe, hSc⟩ := hSw
    (try simp only [List.forall_mem_cons, List.forall_mem_nil, and_true] at hSc)
    unfold does
    (go_simp; exact hRz.out _ _ ⟨ext_alloc _ _, rfl, rfl⟩)
  intro v0 u0 x0 hG0 K hK
  have hF0 := hG0.fact
  (try dsimp only at hF0)
  obtain ⟨rfl, rfl⟩ := hF0
  (try simp only [Act.put, List.setIfInBounds_toArray, List.set_cons_zero, List.set_cons_succ]); refine hK _ _ ?_; clear hK K
  repeat (first | (refine m_plain (v := ?_) (by rfl) (by rfl) ?_ ?_; rotate_left; (intro wz hSw; obtain ⟨-, hSc⟩ := hSw; (try simp only [List.forall_mem_cons, List.forall_mem_nil, and_true] at hSc); go_simp; (first | done | with_reducible rfl)); (intro K hK; (try simp only [Act.put, List.setIfInBounds_toArray, List.set_cons_zero, List.set_cons_succ]); refine hK _ _ ?_; clear hK K)) | (refine m_skip (by rfl) (by rfl) ?_; (intro K hK; (try simp only [Act.put, List.setIfInBounds_toArray, List.set_cons_zero, List.set_cons_succ]); refine hK _ _ ?_; clear hK K)))
  refine m_make (by rfl) (by rfl) ?_ ?_
  · intro wz hSw hdep R hRz
    obtain ⟨hSe, hSc⟩ := hSw
    (try simp only [List.forall_mem_cons, List.forall_mem_nil, and_true] at hSc)
    unfold does
    (go_simp; refine Calls.mono (law22_ints [1, 1] _ _ _ wz (lit_at (hdep 0 _ rfl trivial) (by decide))) ?_; intro e wq h; rw [← ha3.out] at h; obtain ⟨ta, tc, tn, tnc, ti, tic, rfl, hq, hqb⟩ := h; exact ⟨_, rfl, hRz.out _ _ ⟨hqb, ta, tc, tn, tnc, ti, tic, rfl, ArrAt.mono (fun b _ hb => by have := Below.size hSe; have := Below.size hG0.s.1; rcases hb with hb | hb <;> omega) _ hq, hqb⟩⟩)
  intro v1 u1 x1 hG1 K hK
  have hF1 := hG1.fact
  (try dsimp only at hF1)
  obtain ⟨s1, c1, n1, m1, i1, j1, he, hA1, hb1⟩ := hF1
  injection he with he
  subst he
  (try simp only [Act.put, List.setIfInBounds_toArray, List.set_cons_zero, List.set_cons_succ]); refine hK _ _ ?_; clear hK K
  repeat (first | (refine m_plain (v := ?_) (by rfl) (by rfl) ?_ ?_; rotate_left; (intro wz hSw; obtain ⟨-, hSc⟩ := hSw; (try simp only [List.forall_mem_cons, List.forall_mem_nil, and_true] at hSc); go_simp; (first | done | with_reducible rfl)); (intro K hK; (try simp only [Act.put, List.setIfInBounds_toArray, List.set_cons_zero, List.set_cons_succ]); refine hK _ _ ?_; clear hK K)) | (refine m_skip (by rfl) (by rfl) ?_; (intro K hK; (try simp only [Act.put, List.setIfInBounds_toArray, List.set_cons_zero, List.set_cons_succ]); refine hK _ _ ?_; clear hK K)))
  refine m_make (by rfl) (by rfl) ?_ ?_
  · intro wz hSw hdep R hRz
    obtain ⟨hSe, hSc⟩ := hSw
    (try simp only [List.forall_mem_cons, List.forall_mem_nil, and_true] at hSc)
    unfold does
    (go_simp; exact hRz.out _ _ ⟨ext_alloc _ _, rfl, rfl⟩)
  intro v2 u2 x2 hG2 K hK
  have hF2 := hG2.fact
  (try dsimp only at hF2)
  obtain ⟨rfl, rfl⟩ := hF2
  (try simp only [Act.put, List.setIfInBounds_toArray, List.set_cons_zero, List.set_cons_succ]); refine hK _ _ ?_; clear hK K
  repeat (first | (refine m_plain (v := ?_) (by rfl) (by rfl) ?_ ?_; rotate_left; (intro wz hSw; obtain ⟨-, hSc⟩ := hSw; (try simp only [List.forall_mem_cons, List.forall_mem_nil, and_true] at hSc); go_simp; (first | done | with_reducible rfl)); (intro K hK; (try simp only [Act.put, List.setIfInBounds_toArray, List.set_cons_zero, List.set_cons_succ]); refine hK _ _ ?_; clear hK K)) | (refine m_skip (by rfl) (by rfl) ?_; (intro K hK; (try simp only [Act.put, List.setIfInBounds_toArray, List.set_cons_zero, List.set_cons_succ]); refine hK _ _ ?_; clear hK K)))
  refine m_make (by rfl) (by rfl) ?_ ?_
  · intro wz hSw hdep R hRz
    obtain ⟨hSe, hSc⟩ := hSw
    (try simp only [List.forall_mem_cons, List.forall_mem_nil, and_true] at hSc)
    unfold does
    (go_simp; refine Calls.mono (law22_matrix 2 3 [1, 2, 3, 4, 5, 6] _ _ _ wz (lit_at (hdep 2 _ rfl trivial) (by decide))) ?_; intro e wq h; rw [← ha4.out] at h; obtain ⟨ta, tc, tn, tnc, ti, tic, rfl, hq, hqb⟩ := h; exact ⟨_, rfl, hRz.out _ _ ⟨hqb, ta, tc, tn, tnc, ti, tic, rfl, ArrAt.mono (fun b _ hb => by have := Below.size hSe; have := Below.size hG2.s.1; rcases hb with hb | hb <;> omega) _ hq, hqb⟩⟩)
  intro v3 u3 x3 hG3 K hK
  have hF3 := hG3.fact
  (try dsimp only at hF3)
  obtain ⟨s3, c3, n3, m3, i3, j3, he, hA3, hb3⟩ := hF3
  injection he with he
  subst he
  (try simp only [Act.put, List.setIfInBounds_toArray, List.set_cons_zero, List.set_cons_succ]); refine hK _ _ ?_; clear hK K
  repeat (first | (refine m_plain (v := ?_) (by rfl) (by rfl) ?_ ?_; rotate_left; (intro wz hSw; obtain ⟨-, hSc⟩ := hSw; (try simp only [List.forall_mem_cons, List.forall_mem_nil, and_true] at hSc); go_simp; (first | done | with_reducible rfl)); (intro K hK; (try simp only [Act.put, List.setIfInBounds_toArray, List.set_cons_zero, List.set_cons_succ]); refine hK _ _ ?_; clear hK K)) | (refine m_skip (by rfl) (by rfl) ?_; (intro K hK; (try simp only [Act.put, List.setIfInBounds_toArray, List.set_cons_zero, List.set_cons_succ]); refine hK _ _ ?_; clear hK K)))
  refine m_make (by rfl) (by rfl) ?_ ?_
  · intro wz hSw hdep R hRz
    obtain ⟨hSe, hSc⟩ := hSw
    (try simp only [List.forall_mem_cons, List.forall_mem_nil, and_true] at hSc)
    unfold does
    (go_simp; refine Calls.mono (rotating_Rotate a3 _ _ _ _ _ _ a4 _ _ _ _ _ _ _ _ wz (hA1.up (hdep 1 _ rfl trivial)) (hA3.up (hdep 3 _ rfl trivial))) ?_; intro e wq h; rw [← hr2.out, z2.out] at h; obtain ⟨ta, tc, tn, tnc, ti, tic, rfl, hq, hqb⟩ := h; exact ⟨_, rfl, hRz.out _ _ ⟨hqb, ta, tc, tn, tnc, ti, tic, rfl, hq, hqb⟩⟩)
  intro v4 u4 x4 hG4 K hK
  have hF4 := hG4.fact
  (try dsimp only at hF4)
  obtain ⟨s4, c4, n4, m4, i4, j4, he, hA4, hb4⟩ := hF4
  injection he with he
  subst he
  (try simp only [Act.put, List.setIfInBounds_toArray, List.set_cons_zero, List.set_cons_succ]); refine hK _ _ ?_; clear hK K
  repeat (first | (refine m_plain (v := ?_) (by rfl) (by rfl) ?_ ?_; rotate_left; (intro wz hSw; obtain ⟨-, hSc⟩ := hSw; (try simp only [List.forall_mem_cons, List.forall_mem_nil, and_true] at hSc); go_simp; (first | done | with_reducible rfl)); (intro K hK; (try simp only [Act.put, List.setIfInBounds_toArray, List.set_cons_zero, List.set_cons_succ]); refine hK _ _ ?_; clear hK K)) | (refine m_skip (by rfl) (by rfl) ?_; (intro K hK; (try simp only [Act.put, List.setIfInBounds_toArray, List.set_cons_zero, List.set_cons_succ]); refine hK _ _ ?_; clear hK K)))
  refine m_make (by rfl) (by rfl) ?_ ?_
  · intro wz hSw hdep R hRz
    obtain ⟨hSe, hSc⟩ := hSw
    (try simp only [List.forall_mem_cons, List.forall_mem_nil, and_true] at hSc)
    unfold does
    (go_simp; exact hRz.out _ _ ⟨ext_alloc _ _, rfl, rfl⟩)
  intro v8 u8 x8 hG8 K hK
  have hF8 := hG8.fact
  (try dsimp only at hF8)
  obtain ⟨rfl, rfl⟩ := hF8
  (try simp only [Act.put, List.setIfInBounds_toArray, List.set_cons_zero, List.set_cons_succ]); refine hK _ _ ?_; clear hK K
  repeat (first | (refine m_plain (v := ?_) (by rfl) (by rfl) ?_ ?_; rotate_left; (intro wz hSw; obtain ⟨-, hSc⟩ := hSw; (try simp only [List.forall_mem_cons, List.forall_mem_nil, and_true] at hSc); go_simp; (first | done | with_reducible rfl)); (intro K hK; (try simp only [Act.put, List.setIfInBounds_toArray, List.set_cons_zero, List.set_cons_succ]); refine hK _ _ ?_; clear hK K)) | (refine m_skip (by rfl) (by rfl) ?_; (intro K hK; (try simp only [Act.put, List.setIfInBounds_toArray, List.set_cons_zero, List.set_cons_succ]); refine hK _ _ ?_; clear hK K)))
  refine m_nil ?_
  intro wf hSf hAf
  have o8 := hG8.order 4 _ rfl
  refine wpl_var (by rfl) (.tmp 3) (.tmp 21) (by rfl) u8.heap.size (by rfl) (by rfl) (made_blk (hAf 8 _ rfl : Ext (u8.alloc _) wf)) ((ArrAt.mono (T := fun b => u4.heap.size ≤ b ∧ b < x4.heap.size) (fun b hb hh => ⟨hh, hb⟩) _ hA4).up (hAf 4 _ rfl)) (fun q hq => ord_out o8 hq.1 hq.2) hSf.1 (Below.size hG8.s.1) ?_
  intro V2 hV2 eV2
  clear hG0 hG1 hG2 hG3 hG4 hG8 hSf hAf hA1 hA3 hA4 hb1 hb3 hb4 o8
  generalize u8.heap.size = p2 at *
  go_upto_region 3 with (fail)
  refine wp_region_seq_tail 9 (Sees V2 []) [0, 1, 2, 4, 8] (fun k v u u' => match k with | 0 => v = .slice (some ⟨u.heap.size, 0, none⟩) 1 1 ∧ u' = u.alloc (.cells (([1] : List Int).map (Value.int .i64)).toArray 3) | 1 => RetA u (fun b => V2.heap.size ≤ b) a5 (.returned v) u' | 2 => v = .slice (some ⟨u.heap.size, 0, none⟩) 1 1 ∧ u' = u.alloc (.cells (([5] : List Int).map (Value.int .i64)).toArray 3) | 4 => RetAE u (fun b => u.heap.size ≤ b) r3 16 (.returned v) u' | 8 => v = .pointer (some ⟨u.heap.size, 0, none⟩) ∧ u' = u.alloc (.cells #[.int .i64 0, .slice none 0 0, .slice none 0 0, .slice none 0 0] 46) | _ => False) (fun _ _ h e => h.up e) (Sees.start (all_nil)) ?_
  simp only [List.take_succ_cons, List.take_zero, List.drop_succ_cons, List.drop_zero]
  repeat (first | (refine m_plain (v := ?_) (by rfl) (by rfl) ?_ ?_; rotate_left; (intro wz hSw; obtain ⟨-, hSc⟩ := hSw; (try simp only [List.forall_mem_cons, List.forall_mem_nil, and_true] at hSc); go_simp; (first | done | with_reducible rfl)); (intro K hK; (try simp only [Act.put, List.setIfInBounds_toArray, List.set_cons_zero, List.set_cons_succ]); refine hK _ _ ?_; clear hK K)) | (refine m_skip (by rfl) (by rfl) ?_; (intro K hK; (try simp only [Act.put, List.setIfInBounds_toArray, List.set_cons_zero, List.set_cons_succ]); refine hK _ _ ?_; clear hK K)))
  refine m_make (by rfl) (by rfl) ?_ ?_
  · intro wz hSw hdep R hRz
    obtain ⟨hSe, hSc⟩ := hSw
    (try simp only [List.forall_mem_cons, List.forall_mem_nil, and_true] at hSc)
    unfold does
    (go_simp; exact hRz.out _ _ ⟨ext_alloc _ _, rfl, rfl⟩)
  intro v0 u0 x0 hG0 K hK
  have hF0 := hG0.fact
  (try dsimp only at hF0)
  obtain ⟨rfl, rfl⟩ := hF0
  (try simp only [Act.put, List.setIfInBounds_toArray, List.set_cons_zero, List.set_cons_succ]); refine hK _ _ ?_; clear hK K
  repeat (first | (refine m_plain (v := ?_) (by rfl) (by rfl) ?_ ?_; rotate_left; (intro wz hSw; obtain ⟨-, hSc⟩ := hSw; (try simp only [List.forall_mem_cons, List.forall_mem_nil, and_true] at hSc); go_simp; (first | done | with_reducible rfl)); (intro K hK; (try simp only [Act.put, List.setIfInBounds_toArray, List.set_cons_zero, List.set_cons_succ]); refine hK _ _ ?_; clear hK K)) | (refine m_skip (by rfl) (by rfl) ?_; (intro K hK; (try simp only [Act.put, List.setIfInBounds_toArray, List.set_cons_zero, List.set_cons_succ]); refine hK _ _ ?_; clear hK K)))
  refine m_make (by rfl) (by rfl) ?_ ?_
  · intro wz hSw hdep R hRz
    obtain ⟨hSe, hSc⟩ := hSw
    (try simp only [List.forall_mem_cons, List.forall_mem_nil, and_true] at hSc)
    unfold does
    (go_simp; refine Calls.mono (law22_ints [1] _ _ _ wz (lit_at (hdep 0 _ rfl trivial) (by decide))) ?_; intro e wq h; rw [← ha5.out] at h; obtain ⟨ta, tc, tn, tnc, ti, tic, rfl, hq, hqb⟩ := h; exact ⟨_, rfl, hRz.out _ _ ⟨hqb, ta, tc, tn, tnc, ti, tic, rfl, ArrAt.mono (fun b _ hb => by have := Below.size hSe; have := Below.size hG0.s.1; rcases hb with hb | hb <;> omega) _ hq, hqb⟩⟩)
  intro v1 u1 x1 hG1 K hK
  have hF1 := hG1.fact
  (try dsimp only at hF1)
  obtain ⟨s1, c1, n1, m1, i1, j1, he, hA1, hb1⟩ := hF1
  injection he with he
  subst he
  (try simp only [Act.put, List.setIfInBounds_toArray, List.set_cons_zero, List.set_cons_succ]); refine hK _ _ ?_; clear hK K
  repeat (first | (refine m_plain (v := ?_) (by rfl) (by rfl) ?_ ?_; rotate_left; (intro wz hSw; obtain ⟨-, hSc⟩ := hSw; (try simp only [List.forall_mem_cons, List.forall_mem_nil, and_true] at hSc); go_simp; (first | done | with_reducible rfl)); (intro K hK; (try simp only [Act.put, List.setIfInBounds_toArray, List.set_cons_zero, List.set_cons_succ]); refine hK _ _ ?_; clear hK K)) | (refine m_skip (by rfl) (by rfl) ?_; (intro K hK; (try simp only [Act.put, List.setIfInBounds_toArray, List.set_cons_zero, List.set_cons_succ]); refine hK _ _ ?_; clear hK K)))
  refine m_make (by rfl) (by rfl) ?_ ?_
  · intro wz hSw hdep R hRz
    obtain ⟨hSe, hSc⟩ := hSw
    (try simp only [List.forall_mem_cons, List.forall_mem_nil, and_true] at hSc)
    unfold does
    (go_simp; exact hRz.out _ _ ⟨ext_alloc _ _, rfl, rfl⟩)
  intro v2 u2 x2 hG2 K hK
  have hF2 := hG2.fact
  (try dsimp only at hF2)
  obtain ⟨rfl, rfl⟩ := hF2
  (try simp only [Act.put, List.setIfInBounds_toArray, List.set_cons_zero, List.set_cons_succ]); refine hK _ _ ?_; clear hK K
  repeat (first | (refine m_plain (v := ?_) (by rfl) (by rfl) ?_ ?_; rotate_left; (intro wz hSw; obtain ⟨-, hSc⟩ := hSw; (try simp only [List.forall_mem_cons, List.forall_mem_nil, and_true] at hSc); go_simp; (first | done | with_reducible rfl)); (intro K hK; (try simp only [Act.put, List.setIfInBounds_toArray, List.set_cons_zero, List.set_cons_succ]); refine hK _ _ ?_; clear hK K)) | (refine m_skip (by rfl) (by rfl) ?_; (intro K hK; (try simp only [Act.put, List.setIfInBounds_toArray, List.set_cons_zero, List.set_cons_succ]); refine hK _ _ ?_; clear hK K)))
  refine m_make (by rfl) (by rfl) ?_ ?_
  · intro wz hSw hdep R hRz
    obtain ⟨hSe, hSc⟩ := hSw
    (try simp only [List.forall_mem_cons, List.forall_mem_nil, and_true] at hSc)
    unfold does
    (go_simp; refine Calls.mono (rotating_Rotate a5 _ _ _ _ _ _ (Arr.mk 1 [] [5] []) none 0 (some ⟨u2.heap.size, 0, none⟩) 1 none 0 _ _ wz (hA1.up (hdep 1 _ rfl trivial)) (ArrAt.iff.2 ⟨IntsAt.nil _ _ _, lit_at (l := [5]) (hdep 2 _ rfl trivial) (by decide), by simp [Arr.items], by simp [Arr.items, ItemsAt]⟩)) ?_; intro e wq h; rw [← ha6.out, ← hr3.out, z3.out] at h; obtain ⟨ta, tc, tn, tnc, ti, tic, rfl, hq, hqb⟩ := h; exact ⟨_, rfl, hRz.out _ _ ⟨hqb, ta, tc, tn, tnc, ti, tic, rfl, hq, hqb⟩⟩)
  intro v4 u4 x4 hG4 K hK
  have hF4 := hG4.fact
  (try dsimp only at hF4)
  obtain ⟨s4, c4, n4, m4, i4, j4, he, hA4, hb4⟩ := hF4
  injection he with he
  subst he
  (try simp only [Act.put, List.setIfInBounds_toArray, List.set_cons_zero, List.set_cons_succ]); refine hK _ _ ?_; clear hK K
  repeat (first | (refine m_plain (v := ?_) (by rfl) (by rfl) ?_ ?_; rotate_left; (intro wz hSw; obtain ⟨-, hSc⟩ := hSw; (try simp only [List.forall_mem_cons, List.forall_mem_nil, and_true] at hSc); go_simp; (first | done | with_reducible rfl)); (intro K hK; (try simp only [Act.put, List.setIfInBounds_toArray, List.set_cons_zero, List.set_cons_succ]); refine hK _ _ ?_; clear hK K)) | (refine m_skip (by rfl) (by rfl) ?_; (intro K hK; (try simp only [Act.put, List.setIfInBounds_toArray, List.set_cons_zero, List.set_cons_succ]); refine hK _ _ ?_; clear hK K)))
  refine m_make (by rfl) (by rfl) ?_ ?_
  · intro wz hSw hdep R hRz
    obtain ⟨hSe, hSc⟩ := hSw
    (try simp only [List.forall_mem_cons, List.forall_mem_nil, and_true] at hSc)
    unfold does
    (go_simp; exact hRz.out _ _ ⟨ext_alloc _ _, rfl, rfl⟩)
  intro v8 u8 x8 hG8 K hK
  have hF8 := hG8.fact
  (try dsimp only at hF8)
  obtain ⟨rfl, rfl⟩ := hF8
  (try simp only [Act.put, List.setIfInBounds_toArray, List.set_cons_zero, List.set_cons_succ]); refine hK _ _ ?_; clear hK K
  repeat (first | (refine m_plain (v := ?_) (by rfl) (by rfl) ?_ ?_; rotate_left; (intro wz hSw; obtain ⟨-, hSc⟩ := hSw; (try simp only [List.forall_mem_cons, List.forall_mem_nil, and_true] at hSc); go_simp; (first | done | with_reducible rfl)); (intro K hK; (try simp only [Act.put, List.setIfInBounds_toArray, List.set_cons_zero, List.set_cons_succ]); refine hK _ _ ?_; clear hK K)) | (refine m_skip (by rfl) (by rfl) ?_; (intro K hK; (try simp only [Act.put, List.setIfInBounds_toArray, List.set_cons_zero, List.set_cons_succ]); refine hK _ _ ?_; clear hK K)))
  refine m_nil ?_
  intro wf hSf hAf
  have o8 := hG8.order 4 _ rfl
  refine wpl_var (by rfl) (.tmp 5) (.tmp 29) (by rfl) u8.heap.size (by rfl) (by rfl) (made_blk (hAf 8 _ rfl : Ext (u8.alloc _) wf)) ((ArrAt.mono (T := fun b => u4.heap.size ≤ b ∧ b < x4.heap.size) (fun b hb hh => ⟨hh, hb⟩) _ hA4).up (hAf 4 _ rfl)) (fun q hq => ord_out o8 hq.1 hq.2) hSf.1 (Below.size hG8.s.1) ?_
  intro V3 hV3 eV3
  clear hG0 hG1 hG2 hG4 hG8 hSf hAf hA1 hA4 hb1 hb4 o8 hV3
  generalize u8.heap.size = p3 at *
  obtain ⟨sp, cp, np, mp, ip, jp, Hp, Ap⟩ := (hV1.up eV2).up eV3
  obtain ⟨sq, cq, nq, mq, iq, jq, Hq, Aq⟩ := hV2.up eV3
  have s5 : Hid (sameB r4 a8 = true) := hid (by rw [y4.out]; exact sameB_self _)
  have s14 : Hid (sameB r1 a9 = true) := hid (by rw [y1.out]; exact sameB_self _)
  have s24 : Hid (sameB r2 a10 = true) := hid (by rw [y2.out]; exact sameB_self _)
  clear hV1 hV2
  go_upto_region 4 with (fail)
  refine wp_region_mono (Sees V3 [(⟨p1, 0, none⟩, .int .i64 r1.kind), (⟨p1, 1, none⟩, .slice sp r1.shape.length cp), (⟨p1, 2, none⟩, .slice np r1.nums.length mp), (⟨p1, 3, none⟩, .slice ip r1.items.length jp), (⟨p2, 0, none⟩, .int .i64 r2.kind), (⟨p2, 1, none⟩, .slice sq r2.shape.length cq), (⟨p2, 2, none⟩, .slice nq r2.nums.length mq), (⟨p2, 3, none⟩, .slice iq r2.items.length jq)]) [0, 1, 2, 3, 4, 5, 12, 13, 14, 22, 23, 24] (fun k v u u' => match k with | 0 => v = .slice (some ⟨u.heap.size, 0, none⟩) 4 4 ∧ u' = u.alloc (.cells (([1, 2, 3, 4] : List Int).map (Value.int .i64)).toArray 3) | 1 => RetA u (fun b => V3.heap.size ≤ b) a7 (.returned v) u' | 2 => RetA u (fun b => u.heap.size ≤ b) r4 (.returned v) u' | 3 => v = .slice (some ⟨u.heap.size, 0, none⟩) 4 4 ∧ u' = u.alloc (.cells (([3, 4, 1, 2] : List Int).map (Value.int .i64)).toArray 3) | 4 => RetA u (fun b => V3.heap.size ≤ b) a8 (.returned v) u' | 5 => v = .bool true | 12 => v = .slice (some ⟨u.heap.size, 0, none⟩) 3 3 ∧ u' = u.alloc (.cells (([3, 1, 2] : List Int).map (Value.int .i64)).toArray 3) | 13 => RetA u (fun b => V3.heap.size ≤ b) a9 (.returned v) u' | 14 => v = .bool true | 22 => v = .slice (some ⟨u.heap.size, 0, none⟩) 6 6 ∧ u' = u.alloc (.cells (([5, 6, 4, 2, 3, 1] : List Int).map (Value.int .i64)).toArray 3) | 23 => RetA u (fun b => V3.heap.size ≤ b) a10 (.returned v) u' | 24 => v = .bool true | _ => False) (fun _ _ h e => h.up e) (Sees.start (all_cons (Hp.c0) (all_cons (Hp.c1) (all_cons (Hp.c2) (all_cons (Hp.c3) (all_cons (Hq.c0) (all_cons (Hq.c1) (all_cons (Hq.c2) (all_cons (Hq.c3) (all_nil)))))))))) (by kernel_rfl) (by kernel_rfl) ?_
  repeat (first | (refine m_plain (v := ?_) (by rfl) (by rfl) ?_ ?_; rotate_left; (intro wz hSw; obtain ⟨-, hSc⟩ := hSw; (try simp only [List.forall_mem_cons, List.forall_mem_nil, and_true] at hSc); go_simp; (first | done | with_reducible rfl)); (intro K hK; (try simp only [Act.put, List.setIfInBounds_toArray, List.set_cons_zero, List.set_cons_succ]); refine hK _ _ ?_; clear hK K)) | (refine m_skip (by rfl) (by rfl) ?_; (intro K hK; (try simp only [Act.put, List.setIfInBounds_toArray, List.set_cons_zero, List.set_cons_succ]); refine hK _ _ ?_; clear hK K)))
  refine m_make (by rfl) (by rfl) ?_ ?_
  · intro wz hSw hdep R hRz
    obtain ⟨hSe, hSc⟩ := hSw
    (try simp only [List.forall_mem_cons, List.forall_mem_nil, and_true] at hSc)
    unfold does
    (go_simp; exact hRz.out _ _ ⟨ext_alloc _ _, rfl, rfl⟩)
  intro v0 u0 x0 hG0 K hK
  have hF0 := hG0.fact
  (try dsimp only at hF0)
  obtain ⟨rfl, rfl⟩ := hF0
  (try simp only [Act.put, List.setIfInBounds_toArray, List.set_cons_zero, List.set_cons_succ]); refine hK _ _ ?_; clear hK K
  repeat (first | (refine m_plain (v := ?_) (by rfl) (by rfl) ?_ ?_; rotate_left; (intro wz hSw; obtain ⟨-, hSc⟩ := hSw; (try simp only [List.forall_mem_cons, List.forall_mem_nil, and_true] at hSc); go_simp; (first | done | with_reducible rfl)); (intro K hK; (try simp only [Act.put, List.setIfInBounds_toArray, List.set_cons_zero, List.set_cons_succ]); refine hK _ _ ?_; clear hK K)) | (refine m_skip (by rfl) (by rfl) ?_; (intro K hK; (try simp only [Act.put, List.setIfInBounds_toArray, List.set_cons_zero, List.set_cons_succ]); refine hK _ _ ?_; clear hK K)))
  refine m_make (by rfl) (by rfl) ?_ ?_
  · intro wz hSw hdep R hRz
    obtain ⟨hSe, hSc⟩ := hSw
    (try simp only [List.forall_mem_cons, List.forall_mem_nil, and_true] at hSc)
    unfold does
    (go_simp; refine Calls.mono (law22_matrix 2 2 [1, 2, 3, 4] _ _ _ wz (lit_at (hdep 0 _ rfl (depB_sound (f := 60) (by kernel_rfl))) (by decide))) ?_; intro e wq h; rw [← ha7.out] at h; obtain ⟨ta, tc, tn, tnc, ti, tic, rfl, hq, hqb⟩ := h; exact ⟨_, rfl, hRz.out _ _ ⟨hqb, ta, tc, tn, tnc, ti, tic, rfl, ArrAt.mono (fun b _ hb => by have := Below.size hSe; have := Below.size hG0.s.1; rcases hb with hb | hb <;> omega) _ hq, hqb⟩⟩)
  intro v1 u1 x1 hG1 K hK
  have hF1 := hG1.fact
  (try dsimp only at hF1)
  obtain ⟨s1, c1, n1, m1, i1, j1, he, hA1, hb1⟩ := hF1
  injection he with he
  subst he
  (try simp only [Act.put, List.setIfInBounds_toArray, List.set_cons_zero, List.set_cons_succ]); refine hK _ _ ?_; clear hK K
  repeat (first | (refine m_plain (v := ?_) (by rfl) (by rfl) ?_ ?_; rotate_left; (intro wz hSw; obtain ⟨-, hSc⟩ := hSw; (try simp only [List.forall_mem_cons, List.forall_mem_nil, and_true] at hSc); go_simp; (first | done | with_reducible rfl)); (intro K hK; (try simp only [Act.put, List.setIfInBounds_toArray, List.set_cons_zero, List.set_cons_succ]); refine hK _ _ ?_; clear hK K)) | (refine m_skip (by rfl) (by rfl) ?_; (intro K hK; (try simp only [Act.put, List.setIfInBounds_toArray, List.set_cons_zero, List.set_cons_succ]); refine hK _ _ ?_; clear hK K)))
  refine m_make (by rfl) (by rfl) ?_ ?_
  · intro wz hSw hdep R hRz
    obtain ⟨hSe, hSc⟩ := hSw
    (try simp only [List.forall_mem_cons, List.forall_mem_nil, and_true] at hSc)
    unfold does
    (go_simp; refine Calls.mono (rotating_Reverse a7 _ _ _ _ _ _ _ wz (hA1.up (hdep 1 _ rfl (depB_sound (f := 60) (by kernel_rfl))))) ?_; intro e wq h; rw [← hr4.out] at h; obtain ⟨ta, tc, tn, tnc, ti, tic, rfl, hq, hqb⟩ := h; exact ⟨_, rfl, hRz.out _ _ ⟨hqb, ta, tc, tn, tnc, ti, tic, rfl, hq, hqb⟩⟩)
  intro v2 u2 x2 hG2 K hK
  have hF2 := hG2.fact
  (try dsimp only at hF2)
  obtain ⟨s2, c2, n2, m2, i2, j2, he, hA2, hb2⟩ := hF2
  injection he with he
  subst he
  (try simp only [Act.put, List.setIfInBounds_toArray, List.set_cons_zero, List.set_cons_succ]); refine hK _ _ ?_; clear hK K
  repeat (first | (refine m_plain (v := ?_) (by rfl) (by rfl) ?_ ?_; rotate_left; (intro wz hSw; obtain ⟨-, hSc⟩ := hSw; (try simp only [List.forall_mem_cons, List.forall_mem_nil, and_true] at hSc); go_simp; (first | done | with_reducible rfl)); (intro K hK; (try simp only [Act.put, List.setIfInBounds_toArray, List.set_cons_zero, List.set_cons_succ]); refine hK _ _ ?_; clear hK K)) | (refine m_skip (by rfl) (by rfl) ?_; (intro K hK; (try simp only [Act.put, List.setIfInBounds_toArray, List.set_cons_zero, List.set_cons_succ]); refine hK _ _ ?_; clear hK K)))
  refine m_make (by rfl) (by rfl) ?_ ?_
  · intro wz hSw hdep R hRz
    obtain ⟨hSe, hSc⟩ := hSw
    (try simp only [List.forall_mem_cons, List.forall_mem_nil, and_true] at hSc)
    unfold does
    (go_simp; exact hRz.out _ _ ⟨ext_alloc _ _, rfl, rfl⟩)
  intro v3 u3 x3 hG3 K hK
  have hF3 := hG3.fact
  (try dsimp only at hF3)
  obtain ⟨rfl, rfl⟩ := hF3
  (try simp only [Act.put, List.setIfInBounds_toArray, List.set_cons_zero, List.set_cons_succ]); refine hK _ _ ?_; clear hK K
  repeat (first | (refine m_plain (v := ?_) (by rfl) (by rfl) ?_ ?_; rotate_left; (intro wz hSw; obtain ⟨-, hSc⟩ := hSw; (try simp only [List.forall_mem_cons, List.forall_mem_nil, and_true] at hSc); go_simp; (first | done | with_reducible rfl)); (intro K hK; (try simp only [Act.put, List.setIfInBounds_toArray, List.set_cons_zero, List.set_cons_succ]); refine hK _ _ ?_; clear hK K)) | (refine m_skip (by rfl) (by rfl) ?_; (intro K hK; (try simp only [Act.put, List.setIfInBounds_toArray, List.set_cons_zero, List.set_cons_succ]); refine hK _ _ ?_; clear hK K)))
  refine m_make (by rfl) (by rfl) ?_ ?_
  · intro wz hSw hdep R hRz
    obtain ⟨hSe, hSc⟩ := hSw
    (try simp only [List.forall_mem_cons, List.forall_mem_nil, and_true] at hSc)
    unfold does
    (go_simp; refine Calls.mono (law22_matrix 2 2 [3, 4, 1, 2] _ _ _ wz (lit_at (hdep 3 _ rfl (depB_sound (f := 60) (by kernel_rfl))) (by decide))) ?_; intro e wq h; rw [← ha8.out] at h; obtain ⟨ta, tc, tn, tnc, ti, tic, rfl, hq, hqb⟩ := h; exact ⟨_, rfl, hRz.out _ _ ⟨hqb, ta, tc, tn, tnc, ti, tic, rfl, ArrAt.mono (fun b _ hb => by have := Below.size hSe; have := Below.size hG3.s.1; rcases hb with hb | hb <;> omega) _ hq, hqb⟩⟩)
  intro v4 u4 x4 hG4 K hK
  have hF4 := hG4.fact
  (try dsimp only at hF4)
  obtain ⟨s4, c4, n4, m4, i4, j4, he, hA4, hb4⟩ := hF4
  injection he with he
  subst he
  (try simp only [Act.put, List.setIfInBounds_toArray, List.set_cons_zero, List.set_cons_succ]); refine hK _ _ ?_; clear hK K
  repeat (first | (refine m_plain (v := ?_) (by rfl) (by rfl) ?_ ?_; rotate_left; (intro wz hSw; obtain ⟨-, hSc⟩ := hSw; (try simp only [List.forall_mem_cons, List.forall_mem_nil, and_true] at hSc); go_simp; (first | done | with_reducible rfl)); (intro K hK; (try simp only [Act.put, List.setIfInBounds_toArray, List.set_cons_zero, List.set_cons_succ]); refine hK _ _ ?_; clear hK K)) | (refine m_skip (by rfl) (by rfl) ?_; (intro K hK; (try simp only [Act.put, List.setIfInBounds_toArray, List.set_cons_zero, List.set_cons_succ]); refine hK _ _ ?_; clear hK K)))
  refine m_make (by rfl) (by rfl) ?_ ?_
  · intro wz hSw hdep R hRz
    obtain ⟨hSe, hSc⟩ := hSw
    (try simp only [List.forall_mem_cons, List.forall_mem_nil, and_true] at hSc)
    unfold does
    (go_simp; refine Calls.mono (ref03_Same r4 a8 _ _ _ _ _ _ _ _ _ _ _ _ _ _ wz (hA2.up (hdep 2 _ rfl (depB_sound (f := 60) (by kernel_rfl)))) (hA4.up (hdep 4 _ rfl (depB_sound (f := 60) (by kernel_rfl))))) ?_; rintro e wq ⟨rfl, hqb⟩; rw [s5.out]; exact ⟨_, rfl, hRz.out _ _ ⟨hqb, rfl⟩⟩)
  intro v5 u5 x5 hG5 K hK
  have hF5 := hG5.fact
  (try dsimp only at hF5)
  subst hF5
  (try simp only [Act.put, List.setIfInBounds_toArray, List.set_cons_zero, List.set_cons_succ]); refine hK _ _ ?_; clear hK K
  repeat (first | (refine m_plain (v := ?_) (by rfl) (by rfl) ?_ ?_; rotate_left; (intro wz hSw; obtain ⟨-, hSc⟩ := hSw; (try simp only [List.forall_mem_cons, List.forall_mem_nil, and_true] at hSc); go_simp; (first | done | with_reducible rfl)); (intro K hK; (try simp only [Act.put, List.setIfInBounds_toArray, List.set_cons_zero, List.set_cons_succ]); refine hK _ _ ?_; clear hK K)) | (refine m_skip (by rfl) (by rfl) ?_; (intro K hK; (try simp only [Act.put, List.setIfInBounds_toArray, List.set_cons_zero, List.set_cons_succ]); refine hK _ _ ?_; clear hK K)))
  refine m_make (by rfl) (by rfl) ?_ ?_
  · intro wz hSw hdep R hRz
    obtain ⟨hSe, hSc⟩ := hSw
    (try simp only [List.forall_mem_cons, List.forall_mem_nil, and_true] at hSc)
    unfold does
    (go_simp; exact hRz.out _ _ ⟨ext_alloc _ _, rfl, rfl⟩)
  intro v12 u12 x12 hG12 K hK
  have hF12 := hG12.fact
  (try dsimp only at hF12)
  obtain ⟨rfl, rfl⟩ := hF12
  (try simp only [Act.put, List.setIfInBounds_toArray, List.set_cons_zero, List.set_cons_succ]); refine hK _ _ ?_; clear hK K
  repeat (first | (refine m_plain (v := ?_) (by rfl) (by rfl) ?_ ?_; rotate_left; (intro wz hSw; obtain ⟨-, hSc⟩ := hSw; (try simp only [List.forall_mem_cons, List.forall_mem_nil, and_true] at hSc); go_simp; (first | done | with_reducible rfl)); (intro K hK; (try simp only [Act.put, List.setIfInBounds_toArray, List.set_cons_zero, List.set_cons_succ]); refine hK _ _ ?_; clear hK K)) | (refine m_skip (by rfl) (by rfl) ?_; (intro K hK; (try simp only [Act.put, List.setIfInBounds_toArray, List.set_cons_zero, List.set_cons_succ]); refine hK _ _ ?_; clear hK K)))
  refine m_make (by rfl) (by rfl) ?_ ?_
  · intro wz hSw hdep R hRz
    obtain ⟨hSe, hSc⟩ := hSw
    (try simp only [List.forall_mem_cons, List.forall_mem_nil, and_true] at hSc)
    unfold does
    (go_simp; refine Calls.mono (law22_ints [3, 1, 2] _ _ _ wz (lit_at (hdep 12 _ rfl (depB_sound (f := 60) (by kernel_rfl))) (by decide))) ?_; intro e wq h; rw [← ha9.out] at h; obtain ⟨ta, tc, tn, tnc, ti, tic, rfl, hq, hqb⟩ := h; exact ⟨_, rfl, hRz.out _ _ ⟨hqb, ta, tc, tn, tnc, ti, tic, rfl, ArrAt.mono (fun b _ hb => by have := Below.size hSe; have := Below.size hG12.s.1; rcases hb with hb | hb <;> omega) _ hq, hqb⟩⟩)
  intro v13 u13 x13 hG13 K hK
  have hF13 := hG13.fact
  (try dsimp only at hF13)
  obtain ⟨s13, c13, n13, m13, i13, j13, he, hA13, hb13⟩ := hF13
  injection he with he
  subst he
  (try simp only [Act.put, List.setIfInBounds_toArray, List.set_cons_zero, List.set_cons_succ]); refine hK _ _ ?_; clear hK K
  repeat (first | (refine m_plain (v := ?_) (by rfl) (by rfl) ?_ ?_; rotate_left; (intro wz hSw; obtain ⟨-, hSc⟩ := hSw; (try simp only [List.forall_mem_cons, List.forall_mem_nil, and_true] at hSc); go_simp; (first | done | with_reducible rfl)); (intro K hK; (try simp only [Act.put, List.setIfInBounds_toArray, List.set_cons_zero, List.set_cons_succ]); refine hK _ _ ?_; clear hK K)) | (refine m_skip (by rfl) (by rfl) ?_; (intro K hK; (try simp only [Act.put, List.setIfInBounds_toArray, List.set_cons_zero, List.set_cons_succ]); refine hK _ _ ?_; clear hK K)))
  refine m_make (by rfl) (by rfl) ?_ ?_
  · intro wz hSw hdep R hRz
    obtain ⟨hSe, hSc⟩ := hSw
    (try simp only [List.forall_mem_cons, List.forall_mem_nil, and_true] at hSc)
    unfold does
    (go_simp; refine Calls.mono (ref03_Same r1 a9 _ _ _ _ _ _ _ _ _ _ _ _ _ _ wz (Ap.up hSe) (hA13.up (hdep 13 _ rfl (depB_sound (f := 60) (by kernel_rfl))))) ?_; rintro e wq ⟨rfl, hqb⟩; rw [s14.out]; exact ⟨_, rfl, hRz.out _ _ ⟨hqb, rfl⟩⟩)
  intro v14 u14 x14 hG14 K hK
  have hF14 := hG14.fact
  (try dsimp only at hF14)
  subst hF14
  (try simp only [Act.put, List.setIfInBounds_toArray, List.set_cons_zero, List.set_cons_succ]); refine hK _ _ ?_; clear hK K
  repeat (first | (refine m_plain (v := ?_) (by rfl) (by rfl) ?_ ?_; rotate_left; (intro wz hSw; obtain ⟨-, hSc⟩ := hSw; (try simp only [List.forall_mem_cons, List.forall_mem_nil, and_true] at hSc); go_simp; (first | done | with_reducible rfl)); (intro K hK; (try simp only [Act.put, List.setIfInBounds_toArray, List.set_cons_zero, List.set_cons_succ]); refine hK _ _ ?_; clear hK K)) | (refine m_skip (by rfl) (by rfl) ?_; (intro K hK; (try simp only [Act.put, List.setIfInBounds_toArray, List.set_cons_zero, List.set_cons_succ]); refine hK _ _ ?_; clear hK K)))
  refine m_make (by rfl) (by rfl) ?_ ?_
  · intro wz hSw hdep R hRz
    obtain ⟨hSe, hSc⟩ := hSw
    (try simp only [List.forall_mem_cons, List.forall_mem_nil, and_true] at hSc)
    unfold does
    (go_simp; exact hRz.out _ _ ⟨ext_alloc _ _, rfl, rfl⟩)
  intro v22 u22 x22 hG22 K hK
  have hF22 := hG22.fact
  (try dsimp only at hF22)
  obtain ⟨rfl, rfl⟩ := hF22
  (try simp only [Act.put, List.setIfInBounds_toArray, List.set_cons_zero, List.set_cons_succ]); refine hK _ _ ?_; clear hK K
  repeat (first | (refine m_plain (v := ?_) (by rfl) (by rfl) ?_ ?_; rotate_left; (intro wz hSw; obtain ⟨-, hSc⟩ := hSw; (try simp only [List.forall_mem_cons, List.forall_mem_nil, and_true] at hSc); go_simp; (first | done | with_reducible rfl)); (intro K hK; (try simp only [Act.put, List.setIfInBounds_toArray, List.set_cons_zero, List.set_cons_succ]); refine hK _ _ ?_; clear hK K)) | (refine m_skip (by rfl) (by rfl) ?_; (intro K hK; (try simp only [Act.put, List.setIfInBounds_toArray, List.set_cons_zero, List.set_cons_succ]); refine hK _ _ ?_; clear hK K)))
  refine m_make (by rfl) (by rfl) ?_ ?_
  · intro wz hSw hdep R hRz
    obtain ⟨hSe, hSc⟩ := hSw
    (try simp only [List.forall_mem_cons, List.forall_mem_nil, and_true] at hSc)
    unfold does
    (go_simp; refine Calls.mono (law22_matrix 2 3 [5, 6, 4, 2, 3, 1] _ _ _ wz (lit_at (hdep 22 _ rfl (depB_sound (f := 60) (by kernel_rfl))) (by decide))) ?_; intro e wq h; rw [← ha10.out] at h; obtain ⟨ta, tc, tn, tnc, ti, tic, rfl, hq, hqb⟩ := h; exact ⟨_, rfl, hRz.out _ _ ⟨hqb, ta, tc, tn, tnc, ti, tic, rfl, ArrAt.mono (fun b _ hb => by have := Below.size hSe; have := Below.size hG22.s.1; rcases hb with hb | hb <;> omega) _ hq, hqb⟩⟩)
  intro v23 u23 x23 hG23 K hK
  have hF23 := hG23.fact
  (try dsimp only at hF23)
  obtain ⟨s23, c23, n23, m23, i23, j23, he, hA23, hb23⟩ := hF23
  injection he with he
  subst he
  (try simp only [Act.put, List.setIfInBounds_toArray, List.set_cons_zero, List.set_cons_succ]); refine hK _ _ ?_; clear hK K
  repeat (first | (refine m_plain (v := ?_) (by rfl) (by rfl) ?_ ?_; rotate_left; (intro wz hSw; obtain ⟨-, hSc⟩ := hSw; (try simp only [List.forall_mem_cons, List.forall_mem_nil, and_true] at hSc); go_simp; (first | done | with_reducible rfl)); (intro K hK; (try simp only [Act.put, List.setIfInBounds_toArray, List.set_cons_zero, List.set_cons_succ]); refine hK _ _ ?_; clear hK K)) | (refine m_skip (by rfl) (by rfl) ?_; (intro K hK; (try simp only [Act.put, List.setIfInBounds_toArray, List.set_cons_zero, List.set_cons_succ]); refine hK _ _ ?_; clear hK K)))
  refine m_make (by rfl) (by rfl) ?_ ?_
  · intro wz hSw hdep R hRz
    obtain ⟨hSe, hSc⟩ := hSw
    (try simp only [List.forall_mem_cons, List.forall_mem_nil, and_true] at hSc)
    unfold does
    (go_simp; refine Calls.mono (ref03_Same r2 a10 _ _ _ _ _ _ _ _ _ _ _ _ _ _ wz (Aq.up hSe) (hA23.up (hdep 23 _ rfl (depB_sound (f := 60) (by kernel_rfl))))) ?_; rintro e wq ⟨rfl, hqb⟩; rw [s24.out]; exact ⟨_, rfl, hRz.out _ _ ⟨hqb, rfl⟩⟩)
  intro v24 u24 x24 hG24 K hK
  have hF24 := hG24.fact
  (try dsimp only at hF24)
  subst hF24
  (try simp only [Act.put, List.setIfInBounds_toArray, List.set_cons_zero, List.set_cons_succ]); refine hK _ _ ?_; clear hK K
  repeat (first | (refine m_plain (v := ?_) (by rfl) (by rfl) ?_ ?_; rotate_left; (intro wz hSw; obtain ⟨-, hSc⟩ := hSw; (try simp only [List.forall_mem_cons, List.forall_mem_nil, and_true] at hSc); go_simp; (first | done | with_reducible rfl)); (intro K hK; (try simp only [Act.put, List.setIfInBounds_toArray, List.set_cons_zero, List.set_cons_succ]); refine hK _ _ ?_; clear hK K)) | (refine m_skip (by rfl) (by rfl) ?_; (intro K hK; (try simp only [Act.put, List.setIfInBounds_toArray, List.set_cons_zero, List.set_cons_succ]); refine hK _ _ ?_; clear hK K)))
  refine m_nil ?_
  intro wf hSf hAf
  have ef := hid ((eV1.trans eV2).trans (eV3.trans hSf.1))
  clear hSf hAf
  go_wp2_with fail
  exact hR.out _ _ ⟨rfl, ef.out⟩
end Go.Proofs.Ytmclggonmekanaa
