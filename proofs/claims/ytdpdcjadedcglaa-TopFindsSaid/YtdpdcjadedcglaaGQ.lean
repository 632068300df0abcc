/- A group of texts (GQ), each with its own conditions: those of each lemma. -/
import Derived.Test.YtdpdcjadedcglaaGP
import Derived.Test.YtdpdcjadedcglaaGN
import Derived.WalkMore
import Derived.Test.YtdpdcjadedcglaaP23
import Derived.Test.YtdpdcjadedcglaaPTAK
set_option linter.unusedVariables false
set_option maxRecDepth 20000
set_option linter.unusedSimpArgs false
namespace Go.Proofs.Ytdpdcjadedcglaa
open Go.RowKit Go.Sort
attribute [local go_sem ↓] run_max2 run_min2
attribute [local go_sem] eql_ints_nil eql_arrs_nil
set_option maxHeartbeats 2000000 in
theorem bits_Mul11 (w : World) : Calls Try.prog 66 #[.int .u64 1, .int .u64 1] w fun e w' => e = .returned (.tuple #[.int .u64 0, .int .u64 1]) ∧ w' = w := by
  refine calls_post fun R' hR => ?_
  go_enter Try.func66, Try.ntmps66
  go_wp2
  exact hR.out _ _ ⟨by kernel_rfl, rfl⟩
set_option maxHeartbeats 4000000 in
theorem slices_Repeat1 (d : Int) (ao : Option Addr) (ac : Nat) (S : Nat → Prop) (w : World) (h : IntsAt w S ao [d]) :
    Calls Try.prog 34 #[.slice ao 1 ac, .int .i64 1] w fun e w' => ∃ bo bc, e = .returned (.slice bo 1 bc) ∧ IntsAt w' (fun b => w.heap.size ≤ b) bo [d] ∧ Below w.heap.size w w' := by
  refine calls_post fun R' hR => ?_
  have h0 := hid h
  obtain ⟨b1, o1, rfl, hb1, _, hc1⟩ := h.at (k := 0) (by simp)
  simp only [List.getD_cons_zero, Nat.add_zero] at hc1
  clear h
  have mS : ∀ w : World, (Instr.makeSlice 24 (.int .i64 1) (.int .i64 1)).run Try.prog w = .ok (.slice (some ⟨w.heap.size, 0, none⟩) 1 1) (w.alloc (.cells (madeI 1) 3)) := fun w => run_makeI w 1 (by decide)
  have E := hid (Env.start w S)
  replace E := hid (E.out.argI h0.out)
  (try simp only [List.cons_append, List.nil_append, List.set_cons_zero, List.set_cons_succ] at E)
  have w1 : IntKind.u64.wrap 1 = 1 := by kernel_rfl
  go_enter Try.func34, Try.ntmps34
  go_wp2_with (first
    | (go_at_call 66; refine (bits_Mul11 _).mono ?_; rintro e w' ⟨rfl, rfl⟩)
    | (refine wpl_copyI rfl (.tmp 31) (.tmp 32) rfl _ _ _ _ (some ⟨b1, o1, none⟩) ac 1 [d] rfl rfl ((E.out.alloc _).obj 1 rfl) (madeI_size _) ((E.out.alloc _).ints 0 rfl) ?_; intro V HV CV; replace E := hid ((E.out.alloc _).chg 1 rfl CV HV); clear HV CV; (try simp only [List.cons_append, List.nil_append, List.set_cons_zero, List.set_cons_succ] at E)))
  replace E := hid (E.out.doneOF (xs := [d]) 1 rfl (by simp))
  (try simp only [List.cons_append, List.nil_append, List.set_cons_zero, List.set_cons_succ] at E)
  go_loopw [8] (fun i wr => i = .int .i64 1 ∧ wr = V) (fun _ _ => 0)
  case atStart => exact ⟨rfl, rfl⟩
  obtain ⟨rfl, rfl⟩ := hrel
  go_wp2
  exact hR.out _ _ ⟨_, _, rfl, (E.out.intsF 1 rfl).mono fun b _ h => h.2, E.out.ext⟩
set_option maxHeartbeats 1000000 in
theorem slices_IndexFunc_searching_Where_1 (p : Int → Bool) (s : List Int) (ao : Option Addr) (cap : Nat) (S : Nat → Prop) (w : World) (h : IntsAt w S ao s)
    (hf : ∀ n : Int, Calls Try.prog 33 #[.int .i64 n] w fun e w' => e = .returned (.bool (p n)) ∧ w = w') :
    Calls Try.prog 56 #[.slice ao s.length cap, .func (.func 33) #[] #[]] w fun e w' => e = .returned (.int .i64 (idxF s p)) ∧ w = w' := by
  refine calls_post fun R' hR => ?_
  have hl := h.1
  have hf' := hid hf
  clear hf
  go_enter Try.func56, Try.ntmps56
  go_wp2
  go_loop [8] (fun i => ∃ k : Nat, k ≤ s.length ∧ i = .int .i64 k ∧ Hid (∀ j, j < k → p (s.getD j 0) = false)) (fun i => s.length - (intOf i).toNat)
  case atStart => exact ⟨0, Nat.zero_le _, rfl, fun j hj => by omega⟩
  case round =>
    obtain ⟨k, hk, rfl, hb⟩ := hrel
    by_cases hlt : k < s.length
    · obtain ⟨b, off, rfl, hbl, hS, hc⟩ := h.at hlt
      have hI := hid (fun e => idxF_at hlt e hb.out)
      have hN : Hid (p (s.getD k 0) = false → ∀ j, j < k + 1 → p (s.getD j 0) = false) := fun e j hj => by
        rcases Nat.lt_succ_iff_lt_or_eq.1 hj with h1 | h1
        · exact hb.out j h1
        · rw [h1]; exact e
      generalize s.getD k 0 = d at hc hI hN
      go_wp2_with fail
      refine (hf'.out _).mono ?_
      rintro e w' ⟨rfl, rfl⟩
      cases c1 : p d with
      | true =>
        have c1' := hid c1
        clear c1
        go_wp2_with fail
        exact hR.out _ _ ⟨by rw [hI.out c1'.out] <;> rfl, rfl⟩
      | false =>
        have c1' := hid c1
        clear c1
        go_wp2_with fail
        go_round
        case rel => exact ⟨k + 1, by omega, by go_num, hN.out c1'.out⟩
        case measure => simp [intOf]; omega
    · have e := idxF_none (s := s) (p := p) (fun j hj => hb.out j (by omega))
      have E := hid e; clear e
      go_wp2
      exact hR.out _ _ ⟨by rw [E.out] <;> rfl, rfl⟩
set_option maxHeartbeats 1000000 in
theorem slices_ContainsFunc_searching_Where_1 (p : Int → Bool) (s : List Int) (ao : Option Addr) (cap : Nat) (S : Nat → Prop) (w : World) (h : IntsAt w S ao s)
    (hf : ∀ n : Int, Calls Try.prog 33 #[.int .i64 n] w fun e w' => e = .returned (.bool (p n)) ∧ w = w') :
    Calls Try.prog 25 #[.slice ao s.length cap, .func (.func 33) #[] #[]] w fun e w' => e = .returned (.bool (s.any p)) ∧ w = w' := by
  refine calls_post fun R' hR => ?_
  have hf' := hid hf
  clear hf
  go_enter Try.func25, Try.ntmps25
  go_wp2_with fail
  refine (slices_IndexFunc_searching_Where_1 p _ _ _ _ _ h hf'.out).mono ?_
  rintro e w' ⟨rfl, rfl⟩
  go_wp2_with fail
  exact hR.out _ _ ⟨by rw [← idxF_pos] <;> rfl, rfl⟩
theorem Where_1 (d : Int) (w : World) : Calls Try.prog 33 #[.int .i64 d] w fun e w' => e = .returned (.bool (negB d)) ∧ w = w' := by
  refine calls_post fun R' hR => ?_
  go_enter Try.func33, Try.ntmps33
  go_wp2
  exact hR.out _ _ ⟨rfl, rfl⟩
set_option maxHeartbeats 2000000 in
theorem searching_vector (l : List Int) (lo : Option Addr) (lc : Nat) (S : Nat → Prop) (w : World) (h : IntsAt w S lo l) : Calls Try.prog 35 #[.slice lo l.length lc] w (RetAC w (fun b => S b ∨ w.heap.size ≤ b) (vecA l)) := by
  refine calls_post fun R' hR => ?_
  have h0 := hid h
  have hl := h.1
  clear h
  go_enter Try.func35, Try.ntmps35
  go_upto_region 1 with (fail)
  generalize hEW : (w).alloc (.cells #[.int .i64 0, .slice none 0 0, .slice none 0 0, .slice none 0 0] 27) = W
  have E := hid (env1 w S hEW)
  clear hEW
  replace E := hid (E.out.argI h0.out)
  (try simp only [List.cons_append, List.nil_append, List.set_cons_zero, List.set_cons_succ] at E)
  go_wp2_with fail
  replace E := hid (E.out.lit [(l.length : Int)] (show (1 : Nat) ≤ 17592186044416 by decide))
  (try simp only [List.cons_append, List.nil_append, List.set_cons_zero, List.set_cons_succ] at E)
  generalize W.heap.size = g1 at E ⊢
  refine (slices_Clone l _ _ _ _ (E.out.ints 1 rfl)).mono ?_
  rintro e w1 ⟨so, sc, rfl, hO, hb⟩
  have hcap := hO.cap
  replace E := hid ((E.out.addRowI hO hb).doneI 3 rfl hl)
  clear hO hb
  (try simp only [List.cons_append, List.nil_append, List.set_cons_zero, List.set_cons_succ] at E)
  go_wp2_with (refine wpl_store4 rfl (.tmp 2) (.tmp 8) rfl _ rfl rfl (E.out.hdr 0 rfl) ?_; intro V HV CV; replace E := hid (E.out.chg 0 rfl CV HV); clear CV; (try simp only [List.cons_append, List.nil_append, List.set_cons_zero, List.set_cons_succ] at E))
  exact bodyPost_ret (end_arr rfl HV rfl) rfl (hR.out _ _ ⟨_, 1, so, sc, none, 0, rfl, ArrAt.mono (fun b _ h => h.1) (vecA l) (ArrAt.iff.2 ⟨E.out.ints 2 rfl, E.out.ints 3 rfl, by simp [vecA, Arr.items], by simp only [vecA, Arr.items, ItemsAt]⟩), E.out.ext, Nat.le_refl _, hcap, Nat.le_refl _⟩)
def whL (l : List Int) : Nat → List Int
  | 0 => []
  | m + 1 => whL l m ++ (if l.getD m 0 = 0 then [] else [(m : Int)])
theorem whL_le (l : List Int) : ∀ m, (whL l m).length ≤ m
  | 0 => Nat.le_refl _
  | m + 1 => by
    have := whL_le l m
    simp only [whL, List.length_append]
    split <;> simp <;> omega
set_option maxRecDepth 100000 in
set_option maxHeartbeats 4000000 in
theorem searching_Where (x : Arr) (sx : Option Addr) (cx : Nat) (nx : Option Addr) (mx : Nat) (ix : Option Addr) (jx : Nat) (S : Nat → Prop) (w : World) (h : ArrAt w S x sx nx ix) (hr : rightS x = 0) (hk : x.kind = 1) (hs : x.shape.length = 1) (hb : ∀ k, k < x.nums.length → x.nums.getD k 0 = 0 ∨ x.nums.getD k 0 = 1) (hl6 : x.nums.length ≤ 65536) :
    Calls Try.prog 11 #[.agg #[.int .i64 x.kind, .slice sx x.shape.length cx, .slice nx x.nums.length mx, .slice ix x.items.length jx]] w (RetAEC w (fun b => S b ∨ w.heap.size ≤ b) (vecA (whL x.nums x.nums.length)) 0) := by
  refine calls_post fun R' hR => ?_
  have h0 := hid h
  have hrb : (rightS x != 0) = false := by simp [hr]
  have hkb : (x.kind != 1) = false := by simp [hk]
  have hsb : ¬ (1 : Int) < (x.shape.length : Int) := by omega
  have hnb : x.nums.any negB = false := by
    rw [List.any_eq_false]
    intro q hq
    obtain ⟨k, hk', rfl⟩ := List.getElem_of_mem hq
    have := hb k hk'
    rw [List.getD_eq_getElem?_getD, List.getElem?_eq_getElem hk', Option.getD_some] at this
    simp [negB]
    omega
  have hbit : Hid (∀ k, k < x.nums.length → x.nums.getD k 0 = 0 ∨ x.nums.getD k 0 = 1) := hid hb
  replace hr := hid hr
  replace hk := hid hk
  replace hs := hid hs
  replace hb := hid hb
  clear h
  go_enter Try.func11, Try.ntmps11
  go_upto_region 1 with (fail)
  generalize hEW : ((w).alloc (.cells #[.int .i64 x.kind, .slice sx x.shape.length cx, .slice nx x.nums.length mx, .slice ix x.items.length jx] 27)).alloc (.cells #[.int .i64 0, .slice none 0 0, .slice none 0 0, .slice none 0 0] 27) = W
  have E := hid (env2 w S hEW)
  clear hEW
  replace E := hid (E.out.arg h0.out)
  (try simp only [List.cons_append, List.nil_append, List.set_cons_zero, List.set_cons_succ] at E)
  obtain ⟨q00, q01, q02, q03⟩ := (E.out.hdr 0 rfl).all
  go_step3
  go_wp2_with fail
  clear q00 q01 q02 q03
  refine (array_Right x _ _ _ _ _ _ _ _ (E.out.arr 2 rfl)).mono ?_
  rintro e w1 ⟨rfl, hb⟩
  replace E := hid (E.out.up hb)
  clear hb
  obtain ⟨q00, q01, q02, q03⟩ := (E.out.hdr 0 rfl).all
  go_wp2_with fail
  clear q00 q01 q02 q03
  refine (slices_ContainsFunc_searching_Where_1 negB x.nums _ _ _ _ (E.out.arr 2 rfl).nums (fun n => Where_1 n _)).mono ?_
  rintro e w' ⟨rfl, rfl⟩
  rw [hnb]
  replace E := hid E.out.row0I
  (try simp only [List.cons_append, List.nil_append, List.set_cons_zero, List.set_cons_succ] at E)
  obtain ⟨q00, q01, q02, q03⟩ := (E.out.hdr 0 rfl).all
  go_wp2_with fail
  go_step3
  go_wp2_with fail
  go_loopw [4, 31] (fun o i wr => ∃ (k : Nat) (lo : Option Addr) (lc : Nat), k ≤ x.nums.length ∧ o = .slice lo (whL x.nums k).length lc ∧ i = .int .i64 k ∧ Env w S wr [.obj w.heap.size (.cells #[.int .i64 x.kind, .slice sx x.shape.length cx, .slice nx x.nums.length mx, .slice ix x.items.length jx] 27 (0, 0)), .obj (w.heap.size + 1) (.cells #[.int .i64 0, .slice none 0 0, .slice none 0 0, .slice none 0 0] 27 (0, 0)), .arr x sx nx ix, .rowI lo lc (whL x.nums k)]) (fun _ i _ => x.nums.length - (intOf i).toNat)
  case atStart => exact ⟨0, none, 0, Nat.zero_le _, rfl, rfl, E.out⟩
  case round =>
    clear E
    obtain ⟨kk, lo, lc, hkk, rfl, rfl, E⟩ := hrel
    replace E := hid E
    by_cases hlt : kk < x.nums.length
    case pos =>
      obtain ⟨b1, o1, hna, hb1, hS1, hc1⟩ := (E.out.arr 2 rfl).nums.at hlt
      have hd := hbit.out kk hlt
      have hle := whL_le x.nums kk
      obtain ⟨cur, hcur⟩ : ∃ c, c = whL x.nums kk := ⟨_, rfl⟩
      have hstep : whL x.nums (kk + 1) = cur ++ (if x.nums.getD kk 0 = 0 then [] else [(kk : Int)]) := by rw [hcur]; rfl
      rw [← hcur] at E hle ⊢
      generalize x.nums.getD kk 0 = dd at hc1 hd hstep
      have tt0 : (0 : Int) ≤ (kk : Int) := by omega
      have tt1 : (kk : Int) < (x.nums.length : Int) := by omega
      replace hcur := hid hcur
      subst hna
      rcases hd with rfl | rfl
      · rw [if_pos rfl, List.append_nil] at hstep
        replace hstep := hid hstep
        go_wp2_with fail
        go_roundw
        case rel => exact ⟨kk + 1, lo, lc, by omega, by rw [hstep.out], by go_num, by rw [hstep.out]; exact E.out⟩
        case measure => simp [intOf]; omega
      · rw [if_neg (by decide)] at hstep
        replace hstep := hid hstep
        go_wp2_with fail
        replace E := hid (E.out.lit [(kk : Int)] (show (1 : Nat) ≤ 17592186044416 by decide))
        (try simp only [List.cons_append, List.nil_append, List.set_cons_zero, List.set_cons_succ] at E)
        generalize wr.heap.size = g1 at E ⊢
        refine (slices_Repeat1 (kk : Int) _ _ _ _ (E.out.ints 4 rfl)).mono ?_
        rintro e w3 ⟨bo, bc, rfl, hI, hb⟩
        replace E := hid ((E.out.up hb).addInts hI (fun b _ hq => E.out.fresh (Ext.refl _) hq))
        clear hI hb
        (try simp only [List.cons_append, List.nil_append, List.set_cons_zero, List.set_cons_succ] at E)
        go_wp2_with (refine wplE_appI E.out 3 rfl rfl (.tmp 44) (.tmp 48) rfl rfl _ bo bc [(kk : Int)] rfl (E.out.ints 5 rfl) (by simp only [List.length_cons, List.length_nil]; omega) ?_; intro V lo2 lc2 E1; clear E; have E := hid E1; clear E1; (try simp only [List.cons_append, List.nil_append, List.set_cons_zero, List.set_cons_succ] at E))
        go_roundw
        case rel => exact ⟨kk + 1, lo2, lc2, by omega, by rw [hstep.out]; simp, by go_num, by rw [hstep.out]; exact E.out.sub (List.Sublist.cons_cons _ (List.Sublist.cons_cons _ (List.Sublist.cons_cons _ (List.Sublist.cons_cons _ (List.nil_sublist _)))))⟩
        case measure => simp [intOf]; omega
    case neg =>
      have hmn : kk = x.nums.length := by omega
      rw [hmn] at E ⊢
      have hle := whL_le x.nums x.nums.length
      obtain ⟨cur, hcur⟩ : ∃ c, c = whL x.nums x.nums.length := ⟨_, rfl⟩
      rw [← hcur] at E hR hle ⊢
      replace hmn := hid hmn
      replace hcur := hid hcur
      replace E := hid (E.out.doneI 3 rfl (by omega))
      (try simp only [List.cons_append, List.nil_append, List.set_cons_zero, List.set_cons_succ] at E)
      go_wp2_with fail
      refine (searching_vector cur _ _ _ _ (E.out.ints 3 rfl)).mono ?_
      rintro e w3 ⟨s9, c9, n9, m9, i9, j9, rfl, hA, hb, hC9⟩
      replace E := hid ((E.out.up hb).addArr hA (fun b _ hq => E.out.res (Ext.refl _) hq))
      clear hA hb
      (try simp only [List.cons_append, List.nil_append, List.set_cons_zero, List.set_cons_succ] at E)
      obtain ⟨av, hav⟩ : ∃ a, a = vecA cur := ⟨_, rfl⟩
      rw [← hav] at E hR hC9 ⊢
      replace hav := hid hav
      replace hC9 := hid hC9
      go_wp2_with (refine wpl_store4 rfl (.tmp 2) (.tmp 52) rfl _ rfl rfl (E.out.hdr 1 rfl) ?_; intro V HV CV; replace E := hid (E.out.chg 1 rfl CV HV))
      exact bodyPost_ret (end_arr2 rfl HV rfl rfl) rfl (hR.out _ _ (RetAEC.at rfl rfl (ArrAt.mono (fun b _ h => h.1) _ (E.out.arr 4 rfl)) E.out.ext hC9.out))
end Go.Proofs.Ytdpdcjadedcglaa
namespace Go.Proofs.Ytdpdcjadedcglaa
theorem vec_right {l : List Int} (hl : l.length ≤ 65536) (he : ∀ n ∈ l, elemB 1 n = true) : rightS (vecA l) = 0 := by
  refine right_iff.2 ⟨?_, he, (fun x hx => by cases hx), ?_⟩
  · have hsb : shapeB [(l.length : Int)] = true := shapeB_one (by omega) (by omega)
    have hneg : [(l.length : Int)].any negB = false := by simp [negB]
    have := formE_last (k := 1) (s := [(l.length : Int)]) (nn := l.length) (ni := 0) (Or.inl rfl) (by simp) hneg hsb
    refine this.trans (if_neg ?_)
    rw [cnt_cons1, cnt_nil]
    simp
  · show (l.length : Int) + ((0 : Nat) : Int) + sumW [] ≤ 262144
    simp [sumW]
    omega
theorem gatL_from {α : Type} (l : List α) (a : Nat) : ∀ n : Nat, gatL l (seqI (a : Int) n) = (l.drop a).take n
  | 0 => by simp [seqI, gatL]
  | n + 1 => by
    rw [seqI_succ, gatL_snoc, gatL_from l a n, List.take_add]
    congr 1
    rw [show ((a : Int) + (n : Int)).toNat = a + n by omega, List.drop_drop]
theorem gatL_blk {α : Type} (l : List α) (i c : Nat) : gatL l (seqI ((i : Int) * (c : Int)) c) = blkL l i c := by
  rw [show (i : Int) * (c : Int) = ((i * c : Nat) : Int) by rw [Int.natCast_mul], gatL_from]; rfl
def bitL (l : List Int) : Prop := ∀ k, k < l.length → l.getD k 0 = 0 ∨ l.getD k 0 = 1
theorem mem_whL {l : List Int} {n : Int} : ∀ {m : Nat}, n ∈ whL l m → ∃ i : Nat, i < m ∧ n = (i : Int)
  | 0, h => by simp [whL] at h
  | m + 1, h => by
    simp only [whL, List.mem_append] at h
    rcases h with h | h
    · obtain ⟨i, hi, e⟩ := mem_whL h
      exact ⟨i, by omega, e⟩
    · split at h
      · simp at h
      · simp at h; exact ⟨m, by omega, h⟩
theorem gat_whL {α : Type} {l : List Int} (hb : bitL l) (L : List α) (c : Nat) : ∀ m, m ≤ l.length → gatL L ((whL l m).flatMap fun i => seqI (i * (c : Int)) c) = cpL (fun i => (l.getD i 0).toNat) (fun i => blkL L i c) m
  | 0, _ => by simp [whL, gatL, cpL]
  | m + 1, h => by
    simp only [whL, List.flatMap_append, gatL_append, cpL]
    rw [gat_whL hb L c m (by omega)]
    congr 1
    rcases hb m (by omega) with e | e
    · rw [if_pos e, e]; simp [gatL, repL]
    · rw [if_neg (by omega), e, List.flatMap_cons, List.flatMap_nil, List.append_nil, gatL_blk]; simp [repL]
theorem sumF_whL {l : List Int} (hb : bitL l) : ∀ m, m ≤ l.length → sumF (fun i => l.getD i 0) m = ((whL l m).length : Int)
  | 0, _ => rfl
  | m + 1, h => by
    simp only [whL, List.length_append, sumF]
    rw [sumF_whL hb m (by omega)]
    rcases hb m (by omega) with e | e
    · rw [if_pos e, e]; simp
    · rw [if_neg (by omega), e]; simp
theorem sumF_le {f g : Nat → Int} {n : Nat} (h : ∀ i, i < n → f i ≤ g i) : sumF f n ≤ sumF g n := by
  induction n with
  | zero => exact Int.le_refl _
  | succ n ih => simp only [sumF]; have := ih (fun i hi => h i (by omega)); have := h n (by omega); omega
theorem sumW_blks (L : List Arr) (c : Nat) : ∀ n, sumF (fun i => sumW (blkL L i c)) n = sumW (L.take (n * c))
  | 0 => by simp [sumF, sumW]
  | n + 1 => by
    simp only [sumF]
    rw [sumW_blks L c n, Nat.succ_mul, List.take_add, sumW_append]; rfl
theorem sumF_cst (c : Int) (n : Nat) : sumF (fun _ => c) n = n * c := by
  induction n with
  | zero => simp [sumF]
  | succ n ih => simp only [sumF, ih]; rw [Int.natCast_add, Int.add_mul]; simp
theorem sumW_take_le (L : List Arr) (n : Nat) : sumW (L.take n) ≤ sumW L := by
  have h := sumW_append (L.take n) (L.drop n)
  rw [List.take_append_drop] at h
  have := sumW_nn (L.drop n)
  omega
theorem celW_sum {y : Arr} (h : rightS y = 0) : sumF (celW y) (talM y) ≤ 262144 := by
  have hz := sz_tal h
  have h4 := (right_iff.1 h).2.2.2
  by_cases k : y.kind = 3
  · have e : sumF (celW y) (talM y) = sumF (fun i => (celN y : Int) + sumW (blkL y.items i (celN y))) (talM y) := sumF_congr fun i _ => by unfold celW; rw [if_pos k]
    rw [e, sumF_add, sumF_cst, sumW_blks, ← Int.natCast_mul, ← hz, szA_3 k]
    have := sumW_take_le y.items (y.items.length)
    omega
  · have e : sumF (celW y) (talM y) = sumF (fun i => (celN y : Int)) (talM y) := sumF_congr fun i _ => by unfold celW; rw [if_neg k]
    rw [e, sumF_cst, ← Int.natCast_mul, ← hz]
    have := szA_le h
    omega
theorem copy_where {y : Arr} {l : List Int} (h : rightS y = 0) (hr : y.shape.length ≠ 0) (hb : bitL l) (hl : l.length = talM y) :
    rightS (vecA l) = 0 ∧ rightS (vecA (whL l l.length)) = 0 ∧ copyE (vecA l) y = 0 ∧ frmE (vecA (whL l l.length)) y = 0 ∧ copyS (vecA l) y = frmS (vecA (whL l l.length)) y := by
  have hs := (right_ok h).2.1
  have ht := tal_le hs
  have r1 : rightS (vecA l) = 0 := vec_right (by omega) (fun n hn => by
    obtain ⟨k, hk, rfl⟩ := List.getElem_of_mem hn
    have := hb k hk
    rw [List.getD_eq_getElem?_getD, List.getElem?_eq_getElem hk, Option.getD_some] at this
    show numB _ = true
    simp [numB]
    omega)
  have hwl := whL_le l l.length
  have r2 : rightS (vecA (whL l l.length)) = 0 := vec_right (by omega) (fun n hn => by
    obtain ⟨i, hi, rfl⟩ := mem_whL hn
    show numB _ = true
    simp [numB]
    omega)
  have hck : ∀ i, cpK (vecA l) i = l.getD i 0 := fun i => by simp [cpK, vecA, Arr.shape, Arr.nums]
  have hck' : cpK (vecA l) = fun i => l.getD i 0 := funext hck
  have hsum : cpSum (vecA l) y = ((whL l l.length).length : Int) := by
    unfold cpSum; rw [hck', ← hl, sumF_whL hb _ (Nat.le_refl _)]
  have hsh : cpShape (vecA l) y = ((whL l l.length).length : Int) :: celL y := by
    unfold cpShape; rw [hsum, Int.min_eq_left (by omega)]
  have hsB : shapeB (((whL l l.length).length : Int) :: celL y) = true := shapeB_first hs hr (by omega)
  have hbd : ∀ i, i < talM y → cpK (vecA l) i = 0 ∨ cpK (vecA l) i = 1 := fun i hi => by rw [hck]; exact hb i (by omega)
  have hneg : (vecA l).nums.any negB = false := by
    show l.any negB = false
    rw [List.any_eq_false]
    intro q hq
    obtain ⟨k, hk, rfl⟩ := List.getElem_of_mem hq
    have := hb k hk
    rw [List.getD_eq_getElem?_getD, List.getElem?_eq_getElem hk, Option.getD_some] at this
    simp [negB]
    omega
  have OK : CpOk (vecA l) y := ⟨chk26_of ⟨r1, h, rfl, by simp [vecA, Arr.shape]⟩, fun q => q.2 hl, hneg, by rw [hsh]; exact hsB⟩
  have hvy : cpHvy (vecA l) y ≤ 262144 := by
    rw [OK.hvy]
    refine Int.le_trans (sumF_le fun i hi => ?_) (celW_sum h)
    have := (celW_bd h hi).1
    rcases hbd i hi with e | e <;> rw [e] <;> omega
  have hcE : copyE (vecA l) y = 0 := copyE_0 OK.c OK.l OK.d OK.s (by omega)
  have FO : FrOk (vecA (whL l l.length)) y := ⟨r2, h, rfl, hsB, by
    rw [List.any_eq_false]
    intro n hn
    obtain ⟨i, hi, rfl⟩ := mem_whL hn
    have := tal_nn hs
    simp [outB]
    omega⟩
  have hO : frO (vecA (whL l l.length)) y = (whL l l.length).flatMap fun i => seqI (i * (celN y : Int)) (celN y) := rfl
  have gN := gat_whL hb y.nums (celN y) l.length (Nat.le_refl _)
  have gI := gat_whL hb y.items (celN y) l.length (Nat.le_refl _)
  rw [← hO] at gN gI
  have hgE : gatE y (frO (vecA (whL l l.length)) y) = 0 := by
    unfold gatE
    refine if_neg fun q => ?_
    obtain ⟨k3, q⟩ := q
    rw [gI, sumW_cpL, frO_len] at q
    rw [OK.hvy] at hvy
    have e1 : sumF (fun i => cpK (vecA l) i * celW y i) (talM y) = sumF (fun i => cpK (vecA l) i * (celN y : Int) + cpK (vecA l) i * sumW (blkL y.items i (celN y))) (talM y) := sumF_congr fun i _ => by unfold celW; rw [if_pos k3, Int.mul_add]
    rw [e1, sumF_add, sumF_mul, hck', ← hl, sumF_whL hb _ (Nat.le_refl _)] at hvy
    have e2 : sumF (fun i => ((l.getD i 0).toNat : Int) * sumW (blkL y.items i (celN y))) l.length = sumF (fun i => l.getD i 0 * sumW (blkL y.items i (celN y))) l.length := sumF_congr fun i hi => by
      rcases hb i hi with e | e <;> rw [e] <;> rfl
    rw [e2] at q
    have e3 : (vecA (whL l l.length)).nums.length = (whL l l.length).length := rfl
    rw [e3, Int.natCast_mul] at q
    simp only at hvy
    omega
  have hfE : frmE (vecA (whL l l.length)) y = 0 := by rw [FO.e]; exact hgE
  refine ⟨r1, r2, hcE, hfE, ?_⟩
  rw [copyS_yes hcE, FO.v, gatS_yes hgE]
  unfold copyA gatA
  rw [hsh, gN, gI, hck', hl]
  rfl
end Go.Proofs.Ytdpdcjadedcglaa
