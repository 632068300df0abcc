/- The reference of package shape: contracts. Condition: the lists are read. -/
import Derived.Test.YtmclggonmekanaaIdxS
import Derived.Test.YtmclggonmekanaaOwn2
set_option linter.unusedVariables false
set_option linter.unusedSimpArgs false
namespace Go.Proofs.Ytmclggonmekanaa
open Go.RowKit Go.Sort
attribute [local go_sem ↓] run_max2 run_min2
attribute [local go_sem] eql_ints_nil eql_arrs_nil
set_option maxHeartbeats 1000000 in
theorem ref02_Right (s : List Int) (ao : Option Addr) (cap : Nat) (S : Nat → Prop) (w : World) (h : IntsAt w S ao s) :
    Calls Try.prog 73 #[.slice ao s.length cap] w fun e w' => e = .returned (.bool (shapeB s)) ∧ w = w' := by
  refine calls_post fun R' hR => ?_
  have hl := h.1
  by_cases h8 : 8 < s.length
  · have E := hid (shapeB_len h8)
    go_enter Try.func73, Try.ntmps73
    go_wp2_with fail
    exact hR.out _ _ ⟨by rw [E.out] <;> rfl, rfl⟩
  · go_enter Try.func73, Try.ntmps73
    go_wp2_with fail
    go_loop [3, 4] (fun p i => ∃ k : Nat, k ≤ s.length ∧ i = .int .i64 k ∧ p = .int .i64 (prodNZ (s.take k)) ∧ 1 ≤ prodNZ (s.take k) ∧ prodNZ (s.take k) ≤ 65536 ∧ Hid (∀ d ∈ s.take k, 0 ≤ d)) (fun _ i => s.length - (intOf i).toNat)
    case atStart => exact ⟨0, Nat.zero_le _, rfl, rfl, by simp [prodNZ], by simp [prodNZ], fun d hd => by simp at hd⟩
    case round =>
      obtain ⟨k, hk, rfl, rfl, hp1, hp2, hnn⟩ := hrel
      by_cases hlt : k < s.length
      · obtain ⟨b, off, rfl, hbl, hS, hc⟩ := h.at hlt
        have hsN := hid (shapeB_neg hlt)
        have hsB := hid (shapeB_big hlt)
        have hsO := hid (shapeB_over hlt)
        have hT := hid (prodNZ_take_succ hlt)
        have hNN := hid (nn_take_succ hlt hnn.out)
        generalize s.getD k 0 = d at hc hsN hsB hsO hT hNN
        generalize prodNZ (s.take k) = p at hp1 hp2 hsO hT ⊢
        by_cases c1 : d < 0
        · go_wp2
          exact hR.out _ _ ⟨by rw [hsN.out c1] <;> rfl, rfl⟩
        by_cases c2 : 65536 < d
        · go_wp2
          exact hR.out _ _ ⟨by rw [hsB.out c2] <;> rfl, rfl⟩
        by_cases c3 : 0 < d
        · rw [if_neg (by omega)] at hT
          replace hsO := hid (hsO.out (by omega))
          have hm1 : 1 ≤ p * d := by
            have := Int.mul_le_mul hp1 (show 1 ≤ d by omega) (by omega) (by omega)
            omega
          have hm2 : p * d ≤ 4294967296 := by
            have := Int.mul_le_mul hp2 (show d ≤ 65536 by omega) (by omega) (by omega)
            omega
          by_cases c4 : 65536 < p * d
          · go_wp2
            exact hR.out _ _ ⟨by rw [hsO.out c4] <;> rfl, rfl⟩
          · go_wp2
            go_round
            case rel => exact ⟨k + 1, by omega, by go_num, by rw [hT.out], by rw [hT.out]; omega, by rw [hT.out]; omega, hNN.out (by omega)⟩
            case measure => simp [intOf]; omega
        · rw [if_pos (by omega)] at hT
          have : ¬ 65536 < p := by omega
          go_wp2
          go_round
          case rel => exact ⟨k + 1, by omega, by go_num, by rw [hT.out], by rw [hT.out]; omega, by rw [hT.out]; omega, hNN.out (by omega)⟩
          case measure => simp [intOf]; omega
      · have hke : k = s.length := by omega
        have e : shapeB s = true := by
          rw [shapeB_iff]
          have h1 := hnn.out
          rw [hke, List.take_length] at h1 hp2
          exact ⟨by omega, h1, hp2⟩
        have E := hid e; clear e hke
        go_wp2
        exact hR.out _ _ ⟨by rw [E.out] <;> rfl, rfl⟩
theorem prodNZ_mid_le {s : List Int} (h : ∀ d ∈ s, 0 ≤ d) (i j : Nat) : prodNZ ((s.drop i).take j) ≤ prodNZ s :=
  Int.le_trans (prodNZ_take_le (fun d hd => h d (List.mem_of_mem_drop hd)) j) (prodNZ_drop_le h i)
/-- the list's part from i to n -/
def part (s : List Int) (i n : Nat) : List Int := (s.drop i).take (n - i)
theorem part_getD {s : List Int} {i n k : Nat} (h1 : i + k < n) : (part s i n).getD k 0 = s.getD (i + k) 0 := by
  unfold part
  simp only [List.getD_eq_getElem?_getD]
  rw [List.getElem?_take_of_lt (by omega), List.getElem?_drop]
theorem part_len {s : List Int} {i n : Nat} (h : n ≤ s.length) : (part s i n).length = n - i := by simp [part]; omega
set_option maxHeartbeats 1000000 in
theorem ref02_Product (s : List Int) (i n : Nat) (hin : i ≤ n) (hn : n ≤ s.length) (hs : shapeB s = true) (ao : Option Addr) (cap : Nat) (S : Nat → Prop) (w : World) (h : IntsAt w S ao s) :
    Calls Try.prog 88 #[.slice ao s.length cap, .int .i64 (i : Nat), .int .i64 (n : Nat)] w fun e w' => e = .returned (.int .i64 (cnt (part s i n))) ∧ w = w' := by
  refine calls_post fun R' hR => ?_
  have hl := h.1
  have hs' := hid (shapeB_iff.1 hs)
  clear hs
  have hpl := hid (part_len (s := s) (i := i) hn)
  have hnn : Hid (∀ d ∈ part s i n, 0 ≤ d) := fun d hd => hs'.out.2.1 d (List.mem_of_mem_drop (List.mem_of_mem_take hd))
  go_enter Try.func88, Try.ntmps88
  go_wp2_with fail
  go_loop [7, 8] (fun p j => ∃ k : Nat, k ≤ n - i ∧ j = .int .i64 ((i + k : Nat) : Int) ∧ p = .int .i64 (prodNZ ((part s i n).take k)) ∧ 1 ≤ prodNZ ((part s i n).take k) ∧ prodNZ ((part s i n).take k) ≤ 65536 ∧ Hid (∀ m, m < k → (part s i n).getD m 0 ≠ 0)) (fun _ j => n - (intOf j).toNat)
  case atStart => exact ⟨0, Nat.zero_le _, by simp, rfl, by simp [prodNZ], by simp [prodNZ], fun m hm => by omega⟩
  case round =>
    obtain ⟨k, hk, rfl, rfl, hp1, hp2, hnz⟩ := hrel
    by_cases hlt : k < n - i
    · obtain ⟨b, off, rfl, hbl, hS, hc⟩ := h.at (k := i + k) (by omega)
      have hlt' : i + k < n := by omega
      have hg := hid (part_getD (s := s) (i := i) (n := n) (k := k) hlt')
      have hT := hid (prodNZ_take_succ (l := part s i n) (k := k) (by rw [hpl.out]; exact hlt))
      rw [hg.out] at hT
      have hZ : Hid (s.getD (i + k) 0 = 0 → cnt (part s i n) = 0) := fun e => cnt_zero (by rw [← e, ← hg.out]; exact getD_mem (by rw [hpl.out]; exact hlt))
      have hN : Hid (s.getD (i + k) 0 ≠ 0 → ∀ m, m < k + 1 → (part s i n).getD m 0 ≠ 0) := fun e m hm => by
        rcases Nat.lt_succ_iff_lt_or_eq.1 hm with h1 | h1
        · exact hnz.out m h1
        · rw [h1, hg.out]; exact e
      have hB : prodNZ ((part s i n).take (k + 1)) ≤ 65536 := Int.le_trans (prodNZ_take_le hnn.out _) (Int.le_trans (prodNZ_mid_le hs'.out.2.1 _ _) hs'.out.2.2)
      have hB1 : 1 ≤ prodNZ ((part s i n).take (k + 1)) := prodNZ_pos fun d hd => hnn.out d (List.mem_of_mem_take hd)
      have hil : i + k ≤ 17592186044416 := by omega
      have hik : (i + k : Nat) < s.length := by omega
      generalize hj : i + k = j at hc hT hZ hN hlt' hil hik ⊢
      replace hj := hid hj
      generalize s.getD j 0 = d at hc hT hZ hN
      by_cases c1 : d = 0
      · have e1 : (d == 0) = true := by simp [c1]
        have c1' := hid c1
        clear c1
        go_wp2_with fail
        exact hR.out _ _ ⟨by rw [hZ.out c1'.out] <;> rfl, rfl⟩
      · rw [if_neg c1] at hT
        rw [hT.out] at hB hB1
        have e1 : (d == 0) = false := by simp [c1]
        have c1' := hid c1
        clear c1
        generalize prodNZ ((part s i n).take k) = p at hp1 hp2 hT hB hB1 ⊢
        go_wp2_with fail
        go_round
        case rel => exact ⟨k + 1, by omega, by (have hj' := hj.out; rw [show ((i + (k + 1) : Nat) : Int) = (j : Int) + 1 by omega]), by rw [hT.out], by rw [hT.out]; omega, by rw [hT.out]; omega, hN.out c1'.out⟩
        case measure => simp [intOf]; (have hj' := hj.out; omega)
    · have hke : k = n - i := by omega
      have E : Hid (cnt (part s i n) = prodNZ ((part s i n).take k)) := by
        have e2 : (part s i n).take k = part s i n := List.take_of_length_le (by rw [hpl.out]; omega)
        unfold Hid
        rw [e2]
        refine cnt_prod fun hm => ?_
        obtain ⟨m, hm1, e⟩ := List.getElem_of_mem hm
        exact hnz.out m (by rw [hpl.out] at hm1; omega) (by simpa [hm1] using e)
      have hge : ¬ i + k < n := by omega
      have hge2 : i + k ≤ 17592186044416 := by omega
      generalize i + k = j at hge hge2 ⊢
      clear hke
      go_wp2_with fail
      exact hR.out _ _ ⟨by rw [E.out] <;> rfl, rfl⟩
theorem part_all (s : List Int) : part s 0 s.length = s := by simp [part]
theorem part_from (s : List Int) (i : Nat) : part s i s.length = s.drop i := by unfold part; exact List.take_of_length_le (by simp)
set_option maxHeartbeats 1000000 in
theorem ref02_Size (s : List Int) (ao : Option Addr) (cap : Nat) (S : Nat → Prop) (w : World) (h : IntsAt w S ao s) :
    Calls Try.prog 60 #[.slice ao s.length cap] w fun e w' => e = .returned (.int .i64 (sizeS s)) ∧ w = w' := by
  refine calls_post fun R' hR => ?_
  have hl := h.1
  cases hs : shapeB s with
  | true =>
    have E := hid (sizeS_true hs)
    have hp := ref02_Product s 0 s.length (Nat.zero_le _) (Nat.le_refl _) hs ao cap S w h
    rw [part_all] at hp
    have HP := hid hp
    have hs' := hid hs
    clear hs hp
    go_enter Try.func60, Try.ntmps60
    go_wp2_with (first | (go_at_call 73; refine (ref02_Right _ _ _ _ _ h).mono ?_; rintro e w' ⟨rfl, rfl⟩; rw [hs'.out]) | (go_at_call 88; refine (by exact HP.out : Calls _ _ #[_, .int .i64 0, _] _ _).mono ?_; rintro e w' ⟨rfl, rfl⟩))
    exact hR.out _ _ ⟨by rw [E.out] <;> rfl, rfl⟩
  | false =>
    have E := hid (sizeS_false hs)
    have hs' := hid hs
    clear hs
    go_enter Try.func60, Try.ntmps60
    go_wp2_with (go_at_call 73; refine (ref02_Right _ _ _ _ _ h).mono ?_; rintro e w' ⟨rfl, rfl⟩; rw [hs'.out])
    exact hR.out _ _ ⟨by rw [E.out] <;> rfl, rfl⟩
def IdxR (w : World) (l : List Int) (e : Ending) (w' : World) : Prop :=
  ∃ ao cap, e = .returned (.tuple #[.slice ao l.length cap, .bool true]) ∧ OwnI w' w.heap.size ao cap l ∧ Below w.heap.size w w'
theorem IdxR.mk {w w' : World} {l : List Int} {ao : Option Addr} {n cap : Nat} (e : n = l.length) (h : OwnI w' w.heap.size ao cap l) (hb : Below w.heap.size w w') : IdxR w l (.returned (.tuple #[.slice ao n cap, .bool true])) w' := by
  subst e; exact ⟨ao, cap, rfl, h, hb⟩
set_option maxHeartbeats 2000000 in
theorem ref02_Index (s : List Int) (k : Int) (ao : Option Addr) (cap : Nat) (S : Nat → Prop) (w : World) (h : IntsAt w S ao s) (hs : shapeB s = true) (h0 : 0 ≤ k) (h1 : k < cnt s) :
    Calls Try.prog 61 #[.slice ao s.length cap, .int .i64 k] w (IdxR w (digs s k)) := by
  refine calls_post fun R' hR => ?_
  have hl := h.1
  have h' := hid h
  have hP := posB_of hs h0 h1
  have hcn := posB_cnt hP
  have hz := hid (sizeS_true hs)
  have hsB := shapeB_iff.1 hs
  have h8 := hsB.1
  have hpr : ∀ i, 1 ≤ prodNZ (s.drop i) ∧ prodNZ (s.drop i) ≤ 65536 := fun i => ⟨posB_prod (posB_drop hP i), Int.le_trans (prodNZ_drop_le hsB.2.1 i) hsB.2.2⟩
  have hkp : k < prodNZ s := by rw [← hcn]; exact h1
  have hk0 := hid (dig_start h0 hkp)
  have HP := hid hP
  have hpr := hid hpr
  have h1' : k < sizeS s := by rw [hz.out]; exact h1
  have hs' := hid hs
  have HC := hid hcn
  have hkl : k ≤ 65536 := by have := (cnt_le hs).2; omega
  clear hs hP hcn hsB h hkp h1
  go_enter Try.func61, Try.ntmps61
  go_wp2_with (first | (go_at_call 73; refine (ref02_Right _ _ _ _ _ h'.out).mono ?_; rintro e w' ⟨rfl, rfl⟩; rw [hs'.out]) | (go_at_call 60; refine (ref02_Size _ _ _ _ _ h'.out).mono ?_; rintro e w' ⟨rfl, rfl⟩))
  go_loopw [1, 6, 7] (fun o v i wr => ∃ (j : Nat) (ro : Option Addr) (rc : Nat), j ≤ s.length ∧ i = .int .i64 j ∧ o = .int .i64 (k % prodNZ (s.drop j)) ∧ v = .slice ro ((digs s k).take j).length rc ∧ OwnI wr w.heap.size ro rc ((digs s k).take j) ∧ Below w.heap.size w wr) (fun _ _ i _ => s.length - (intOf i).toNat)
  case atStart => exact ⟨0, none, 0, Nat.zero_le _, rfl, by rw [hk0.out], by simp, by simpa using OwnI.nil _ _, Below.refl _ _⟩
  case round =>
    obtain ⟨j, ro, rc, hj, rfl, rfl, rfl, hown, hb⟩ := hrel
    replace hown := hid hown
    have hbs := hb.size
    obtain ⟨q1, q2⟩ := hpr.out j
    have q3 : 0 ≤ k % prodNZ (s.drop j) := Int.emod_nonneg _ (by omega)
    have q4 : k % prodNZ (s.drop j) < prodNZ (s.drop j) := Int.emod_lt_of_pos _ (by omega)
    by_cases hlt : j < s.length
    · have hD := hid (dig_ref HP.out k hlt)
      have hpp := ref02_Product s (j + 1) s.length (by omega) (Nat.le_refl _) hs'.out ao cap S wr (h'.out.later hb)
      rw [part_from, posB_cnt (posB_drop HP.out _)] at hpp
      have HPP : Hid (Calls Try.prog 88 #[.slice ao s.length cap, .int .i64 ((j : Int) + 1), .int .i64 (s.length : Nat)] wr fun e w' => e = .returned (.int .i64 (prodNZ (s.drop (j + 1)))) ∧ wr = w') := hid (by simpa using hpp)
      clear hpp
      obtain ⟨p1, p2⟩ := hpr.out (j + 1)
      have hT := hid (digs_take_succ (k := k) hlt)
      have hLen : Hid (((digs s k).take j).length = j) := by simp only [Hid, List.length_take, digs_len]; omega
      generalize prodNZ (s.drop j) = pj at q1 q2 q3 q4 hD ⊢
      generalize hpn : prodNZ (s.drop (j + 1)) = pn at p1 p2 hD HPP ⊢
      replace hpn := hid hpn
      generalize k % pj = kj at q3 q4 hD ⊢
      generalize (digs s k).take j = l at hT hown hLen ⊢
      have d1 := hid hD.out.1
      have d2 := hid hD.out.2
      clear hD
      go_wp2_with (first | (go_at_call 88; refine HPP.out.mono ?_; rintro e w' ⟨rfl, rfl⟩) | (at_builtin; refine wpList_appI _ rfl _ _ rfl w.heap.size ro rc l rfl (hown.out.alloc _) (fun b => b = wr.heap.size) (some ⟨wr.heap.size, 0, none⟩) 1 [kj / pn] rfl ?c1 ?c2 ?c3 ?_))
      case c1 => exact IntsAt.box rfl (by simp [go_sem])
      case c2 => simp; rw [hLen.out]; omega
      case c3 => simp; omega
      · intro ao' cap' w' hown' hg hrow
        have HO := hid hown'
        have hb2 := hid (below_grownI (hb.alloc hbs _) hg (fun q hq => (hown.out.row q hq).1))
        clear hown' hg hrow hb
        go_wp2_with fail
        go_roundw
        case rel => exact ⟨j + 1, ao', cap', by omega, by go_num, by rw [hpn.out, ← d2.out], by rw [hT.out, ← d1.out]; simp, by rw [hT.out, ← d1.out]; exact HO.out, hb2.out⟩
        case measure => simp [intOf]; omega
    · have e : (digs s k).take j = digs s k := List.take_of_length_le (by rw [digs_len]; omega)
      have hown' := hown.out
      rw [e] at hown' ⊢
      replace hown := hid hown'
      clear hown'
      replace hb := hid hb
      clear e
      go_wp2_with fail
      exact hR.out _ _ (IdxR.mk rfl hown.out hb.out)
set_option maxHeartbeats 2000000 in
theorem ref02_Offset (s l : List Int) (ao : Option Addr) (cap : Nat) (bo : Option Addr) (bcap : Nat) (S T : Nat → Prop) (w : World) (h : IntsAt w S ao s) (g : IntsAt w T bo l) (hs : shapeB s = true) (hin : inS s l) :
    Calls Try.prog 62 #[.slice ao s.length cap, .slice bo l.length bcap] w fun e w' => e = .returned (.tuple #[.int .i64 (offS s l), .bool true]) ∧ ∃ n, w' = w.drewN n := by
  refine calls_post fun R' hR => ?_
  have hl := h.1
  have gl := g.1
  have hs' := hid hs
  have hll := hin.1
  have hin' := hid hin
  have hB := shapeB_iff.1 hs
  have hpr : Hid (∀ i, i ≤ s.length → 0 ≤ offF s l i ∧ offF s l i < 65536) := fun i hi => by
    have h1 := offF_bd hin i hi
    have h2 := prodNZ_take_le hB.2.1 i
    have := hB.2.2
    omega
  have hel : Hid (∀ i, i < s.length → s.getD i 0 ≤ 65536) := fun i hi => Int.le_trans (prodNZ_ge_mem hB.2.1 (getD_mem hi)) hB.2.2
  have h' := hid h
  have g' := hid g
  clear hs hB hin
  have e0 : ((l.length : Int) != (s.length : Int)) = false := by simp [hll]
  replace hll := hid hll
  go_enter Try.func62, Try.ntmps62
  go_wp2_with (go_at_call 73; refine (ref02_Right _ _ _ _ _ h'.out).mono ?_; rintro e w' ⟨rfl, rfl⟩; rw [hs'.out])
  go_loopw [6, 7] (fun o i wr => ∃ j : Nat, j ≤ s.length ∧ i = .int .i64 j ∧ o = .int .i64 (offF s l j) ∧ ∃ n, wr = w.drewN n) (fun _ i _ => s.length - (intOf i).toNat)
  case atStart => exact ⟨0, Nat.zero_le _, rfl, rfl, 0, rfl⟩
  case round =>
    obtain ⟨j, hj, rfl, rfl, n, rfl⟩ := hrel
    by_cases hlt : j < s.length
    · obtain ⟨b, off, rfl, hbl, hS, hc⟩ := h.at hlt
      obtain ⟨b', off', rfl, hbl', hS', hc'⟩ := g.at (k := j) (by have := hll.out; omega)
      have hlt2 : j < l.length := by have := hll.out; omega
      obtain ⟨i1, i2⟩ := hin'.out.2 j hlt
      have f1 := (hpr.out j hj).1
      have f2 := (hpr.out j hj).2
      have f3 := (hpr.out (j + 1) (by omega)).2
      have f4 := hel.out j hlt
      have hF : Hid (offF s l (j + 1) = offF s l j * s.getD j 0 + l.getD j 0) := rfl
      rw [hF.out] at f3
      generalize s.getD j 0 = d at hc i1 i2 f3 f4 hF
      generalize l.getD j 0 = x at hc' i1 i2 f3 hF
      generalize offF s l j = y at f1 f2 f3 hF ⊢
      have m0 : 0 ≤ y * d := Int.mul_nonneg f1 (by omega)
      have jj0 : (0 : Int) ≤ (j : Int) := by omega
      have jj1 : (j : Int) < (s.length : Int) := by omega
      have jj2 : (j : Int) < (l.length : Int) := by omega
      have c1 : decide (x < 0) = false := by simp; omega
      have c2 : decide (d ≤ x) = false := by simp; omega
      have c3 : decide (x ≥ d) = false := by simp; omega
      go_wp2_with fail
      go_quiet (fail)
      go_wp2_with fail
      go_quiet (fail)
      go_wp2_with fail
      go_roundw
      case rel => exact ⟨j + 1, by omega, by go_num, by rw [hF.out], _, by first | rfl | exact World.drewN_drewN _ _ _ | (rw [World.drewN_drewN, World.drewN_drewN])⟩
      case measure => simp [intOf]; omega
    · have hje : j = s.length := by omega
      have E : Hid (offS s l = offF s l j) := by rw [hje]; exact rfl
      clear hje
      go_wp2_with fail
      exact hR.out _ _ ⟨by rw [E.out] <;> rfl, n, rfl⟩
end Go.Proofs.Ytmclggonmekanaa
