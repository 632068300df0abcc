/- The law IndexingBack: true. Conditions: the arrays are read; a slice's capacity is at least its length. -/
import Derived.Test.YtcoknjlkhefgpaaLAW23X
import Derived.Test.YtcoknjlkhefgpaaP23B
import Derived.Test.YtcoknjlkhefgpaaREF26A
import Derived.Test.YtcoknjlkhefgpaaAPF
set_option linter.unusedVariables false
set_option linter.unusedSimpArgs false
namespace Go.Proofs.Ytcoknjlkhefgpaa
open Go.RowKit Go.Sort
attribute [local go_sem ↓] run_max2 run_min2
attribute [local go_sem] eql_ints_nil eql_arrs_nil
theorem ints_capV {H : Type} {enc : TypeId × Value → H} {W : World} {ao : Option Addr} {n c : Nat} {d : DataW H} {p : List MemPlace}
    (h : DataW.Trod enc Try.prog W 0 (fun _ => true) true 23 (.slice ao n c) d p) : n ≤ c := by
  obtain ⟨fuel, hf⟩ := h
  exact ints_cap (fuel := fuel) (x := (d, p)) (by simpa [Value.cells] using hf)
theorem ref23_CellM (y : Arr) (sy : Option Addr) (cy : Nat) (ny : Option Addr) (my : Nat) (iy : Option Addr) (jy : Nat) (cl : List Int) (hcl : cl = celL y) (S : Nat → Prop) (w : World) (h : ArrAt w S y sy ny iy) (hc : y.shape.length ≤ cy) : Calls Try.prog 27 #[.agg #[.int .i64 y.kind, .slice sy y.shape.length cy, .slice ny y.nums.length my, .slice iy y.items.length jy]] w fun e w' => ∃ so sc, e = .returned (.slice so cl.length sc) ∧ IntsAt w' S so cl ∧ Below w.heap.size w w' := by
  subst hcl
  exact ref23_Cell y _ _ _ _ _ _ S w h hc
set_option maxHeartbeats 2000000 in
theorem law23_among (l : List Int) (lo : Option Addr) (lc : Nat) (n : Int) (S : Nat → Prop) (w : World) (h : IntsAt w S lo l) :
    Calls Try.prog 28 #[.slice lo l.length lc, .int .i64 n] w fun e w' => e = .returned (.bool (decide (n ∈ l))) ∧ w = w' := by
  refine calls_post fun R' hR => ?_
  have hl := h.1
  go_enter Try.func28, Try.ntmps28
  go_wp2
  go_loop [5] (fun i => ∃ k : Nat, k ≤ l.length ∧ i = .int .i64 k ∧ Hid (∀ j, j < k → l.getD j 0 ≠ n)) (fun i => l.length - (intOf i).toNat)
  case atStart => exact ⟨0, Nat.zero_le _, rfl, fun j hj => by omega⟩
  case round =>
    obtain ⟨k, hk, rfl, hb⟩ := hrel
    by_cases hlt : k < l.length
    · obtain ⟨b, off, rfl, hbl, hS, hc⟩ := h.at hlt
      have hT : Hid (l.getD k 0 = n → n ∈ l) := hid fun q => q ▸ getD_mem hlt
      have hA : Hid (l.getD k 0 ≠ n → ∀ j, j < k + 1 → l.getD j 0 ≠ n) := hid fun q j hj => by
        rcases Nat.lt_succ_iff_lt_or_eq.1 hj with h1 | h1
        · exact hb.out j h1
        · rw [h1]; exact q
      generalize l.getD k 0 = d at hc hT hA
      by_cases c0 : d = n
      · have e0 : (d == n) = true := by simp [c0]
        have hT2 : Hid (decide (n ∈ l) = true) := hid (decide_eq_true (hT.out c0))
        replace c0 := hid c0
        go_wp2
        exact hR.out _ _ ⟨by rw [hT2.out] <;> rfl, rfl⟩
      · have e0 : (d == n) = false := by simp [c0]
        have hA2 := hid (hA.out c0)
        replace c0 := hid c0
        go_wp2
        go_round
        case rel => exact ⟨k + 1, by omega, by go_num, hA2⟩
        case measure => simp [intOf]; omega
    · have hT2 : Hid (decide (n ∈ l) = false) := hid (decide_eq_false fun q => by
        obtain ⟨j, hj, e⟩ := List.mem_iff_getElem.1 q
        exact hb.out j (by omega) (by rw [List.getD_eq_getElem?_getD, List.getElem?_eq_getElem hj]; exact e))
      go_wp2
      exact hR.out _ _ ⟨by rw [hT2.out] <;> rfl, rfl⟩
set_option maxHeartbeats 2000000 in
theorem law23_once (l : List Int) (lo : Option Addr) (lc : Nat) (S : Nat → Prop) (w : World) (h : IntsAt w S lo l) :
    Calls Try.prog 24 #[.slice lo l.length lc] w fun e w' => ∃ r : Bool, e = .returned (.bool r) ∧ (r = true → l.Nodup) ∧ Ext w w' := by
  refine calls_post fun R' hR => ?_
  have hl := h.1
  have E := hid ((Env.start w S).argI h)
  clear h
  go_enter Try.func24, Try.ntmps24
  go_upto_region 2 with (fail)
  go_loopw [3] (fun v wr => ∃ i : Nat, i ≤ l.length ∧ v = .int .i64 i ∧ Hid (∀ a b, b < a → a < i → l.getD a 0 ≠ l.getD b 0) ∧ Env w S wr [.ints l lo]) (fun v _ => l.length - (intOf v).toNat)
  case atStart => exact ⟨0, Nat.zero_le _, rfl, hid (fun a b _ q => by omega), E.out⟩
  case round =>
    clear E
    obtain ⟨i, hi, rfl, hd, E⟩ := hrel
    replace E := hid E
    by_cases hlt : i < l.length
    case pos =>
      obtain ⟨b1, o1, hlo, _, _, _⟩ := (E.out.ints 0 rfl).at hlt
      subst hlo
      go_upto_region 5 with (fail)
      go_loopw [4] (fun v wr => ∃ kq : Nat, kq ≤ i ∧ v = .int .i64 kq ∧ Hid (∀ b, b < kq → l.getD i 0 ≠ l.getD b 0) ∧ Env w S wr [.ints l (some ⟨b1, o1, none⟩)]) (fun v _ => i - (intOf v).toNat)
      case atStart => exact ⟨0, Nat.zero_le _, rfl, hid (fun b q => by omega), E.out⟩
      case round =>
        clear E
        obtain ⟨kq, hk, rfl, hd2, E⟩ := hrel
        replace E := hid E
        by_cases hlt2 : kq < i
        case pos =>
          obtain ⟨b2, o2, hlo, _, _, hc1⟩ := (E.out.ints 0 rfl).at hlt
          obtain ⟨h21, h22⟩ : b2 = b1 ∧ o2 = o1 := by simpa [eq_comm] using hlo
          subst h21 h22
          obtain ⟨b3, o3, hlo3, _, _, hc2⟩ := (E.out.ints 0 rfl).at (show kq < l.length by omega)
          obtain ⟨h31, h32⟩ : b3 = b2 ∧ o3 = o2 := by simpa [eq_comm] using hlo3
          subst h31 h32
          clear hlo hlo3
          have hD : Hid (l.getD i 0 ≠ l.getD kq 0 → ∀ b, b < kq + 1 → l.getD i 0 ≠ l.getD b 0) := hid fun q b hb => by
            rcases Nat.lt_succ_iff_lt_or_eq.1 hb with h1 | h1
            · exact hd2.out b h1
            · rw [h1]; exact q
          generalize hd1 : l.getD i 0 = d1 at hc1 hD
          generalize hd3 : l.getD kq 0 = d2 at hc2 hD
          replace hd1 := hid hd1
          replace hd3 := hid hd3
          have i0 : (0 : Int) ≤ (i : Int) := by omega
          have i1 : (i : Int) < (l.length : Int) := by omega
          have k0 : (0 : Int) ≤ (kq : Int) := by omega
          have k1 : (kq : Int) < (l.length : Int) := by omega
          have k3 : kq < l.length := by omega
          go_upto_region 7 with (fail)
          refine wp_region_mono (Sees wr [(⟨b3, o3 + i, none⟩, .int .i64 d1), (⟨b3, o3 + kq, none⟩, .int .i64 d2)]) [] (fun k v u u' => match k with  | _ => False) (fun _ _ h e => h.up e) (Sees.start (all_cons (hc1) (all_cons (hc2) (all_nil)))) (by kernel_rfl) (by kernel_rfl) ?_
          repeat (first | (refine m_plain (v := ?_) (by rfl) (by rfl) ?_ ?_; rotate_left; (intro wz hSw; obtain ⟨-, hSc⟩ := hSw; (try simp only [List.forall_mem_cons, List.forall_mem_nil, and_true] at hSc); go_simp; (first | done | with_reducible rfl)); (intro K hK; (try simp only [Act.put, List.setIfInBounds_toArray, List.set_cons_zero, List.set_cons_succ]); refine hK _ _ ?_; clear hK K)) | (refine m_skip (by rfl) (by rfl) ?_; (intro K hK; (try simp only [Act.put, List.setIfInBounds_toArray, List.set_cons_zero, List.set_cons_succ]); refine hK _ _ ?_; clear hK K)))
          refine m_nil ?_
          intro wf hSf hAf
          replace E := hid (E.out.up hSf.1)
          clear hSf hAf hc1 hc2
          by_cases c0 : d1 = d2
          · have e0 : (d1 == d2) = true := by simp [c0]
            replace c0 := hid c0
            go_wp2_with fail
            exact hR.out _ _ ⟨false, rfl, (fun q => by cases q), E.out.ext⟩
          · have e0 : (d1 == d2) = false := by simp [c0]
            have hD2 := hid (hD.out c0)
            replace c0 := hid c0
            go_wp2_with fail
            go_roundw
            case rel => exact ⟨kq + 1, by omega, by go_num, hD2, E.out⟩
            case measure => simp [intOf]; omega
        case neg =>
          obtain rfl : kq = i := by omega
          have hd4 : Hid (∀ a b, b < a → a < kq + 1 → l.getD a 0 ≠ l.getD b 0) := hid fun a b hb ha => by
            rcases Nat.lt_succ_iff_lt_or_eq.1 ha with h1 | h1
            · exact hd.out a b hb h1
            · subst h1; exact hd2.out b hb
          go_wp2_with fail
          go_roundw
          case rel => exact ⟨kq + 1, by omega, by go_num, hd4, E.out⟩
          case measure => simp [intOf]; omega
    case neg =>
      have hN : Hid l.Nodup := hid (List.pairwise_iff_getElem.2 fun a b ha hb hab e => by
        have := hd.out b a hab (by omega)
        simp only [List.getD_eq_getElem?_getD, List.getElem?_eq_getElem ha, List.getElem?_eq_getElem hb, Option.getD_some] at this
        exact this e.symm)
      go_wp2_with fail
      exact hR.out _ _ ⟨true, rfl, fun _ => hN.out, E.out.ext⟩
set_option maxRecDepth 100000 in
set_option maxHeartbeats 8000000 in
theorem law23_IndexingBack (l : List Int) (lo : Option Addr) (lc : Nat) (z : Arr) (sz : Option Addr) (cz : Nat) (nz : Option Addr) (mz : Nat) (iz : Option Addr) (jz : Nat) (y : Arr) (sy : Option Addr) (cy : Nat) (ny : Option Addr) (my : Nat) (iy : Option Addr) (jy : Nat) (S : Nat → Prop) (w : World) (hl : IntsAt w S lo l) (h : ArrAt w S z sz nz iz) (g : ArrAt w S y sy ny iy) (hlc : l.length ≤ lc) (hcy : y.shape.length ≤ cy) :
    Calls Try.prog 7 #[.slice lo l.length lc, .agg #[.int .i64 z.kind, .slice sz z.shape.length cz, .slice nz z.nums.length mz, .slice iz z.items.length jz], .agg #[.int .i64 y.kind, .slice sy y.shape.length cy, .slice ny y.nums.length my, .slice iy y.items.length jy]] w fun e w' => e = .returned (.bool true) ∧ Below w.heap.size w w' := by
  refine calls_post fun R' hR => ?_
  have h0 := hid h
  have g0 := hid g
  have l0 := hid hl
  have hlc := hid hlc
  have hcy := hid hcy
  have hl1 := hl.1
  clear h g hl
  go_enter Try.func7, Try.ntmps7
  go_upto_region 1 with (fail)
  generalize hEW : ((w).alloc (.cells #[.int .i64 z.kind, .slice sz z.shape.length cz, .slice nz z.nums.length mz, .slice iz z.items.length jz] 26)).alloc (.cells #[.int .i64 y.kind, .slice sy y.shape.length cy, .slice ny y.nums.length my, .slice iy y.items.length jy] 26) = W
  have E := hid (env2 w S hEW)
  clear hEW
  replace E := hid (((E.out.argI l0.out).arg h0.out).arg g0.out)
  (try simp only [List.cons_append, List.nil_append, List.set_cons_zero, List.set_cons_succ] at E)
  by_cases c6 : 60 < l.length
  case pos =>
    have cb6 : (60 : Int) < (l.length : Int) := by omega
    replace c6 := hid c6
    go_wp2_with (go_at_call 10; refine (law23_example _).mono ?_; rintro e w9 ⟨rfl, hb9⟩)
    exact hR.out _ _ ⟨rfl, (E.out.up hb9).ext⟩
  have cb6 : ¬ (60 : Int) < (l.length : Int) := by omega
  obtain ⟨q00, q01, q02, q03⟩ := (E.out.hdr 0 rfl).all
  obtain ⟨q10, q11, q12, q13⟩ := (E.out.hdr 1 rfl).all
  go_wp2_with fail
  clear q00 q01 q02 q03 q10 q11 q12 q13
  refine (law23_small z _ _ _ _ _ _ y _ _ _ _ _ _ _ _ (E.out.arr 3 rfl) (E.out.arr 4 rfl)).mono ?_
  rintro e w1 ⟨b1, rfl, hb⟩
  replace E := hid (E.out.up hb)
  clear hb
  cases b1 with
  | false =>
    go_wp2_with (go_at_call 10; refine (law23_example _).mono ?_; rintro e w9 ⟨rfl, hb9⟩)
    exact hR.out _ _ ⟨rfl, (E.out.up hb9).ext⟩
  | true =>
  obtain ⟨q10, q11, q12, q13⟩ := (E.out.hdr 1 rfl).all
  go_wp2_with fail
  clear q10 q11 q12 q13
  refine (ref03_Right y _ _ _ _ _ _ _ _ (E.out.arr 4 rfl)).mono ?_
  rintro e w2 ⟨rfl, hb⟩
  replace E := hid (E.out.up hb)
  clear hb
  by_cases c : rightS y = 0
  case neg =>
    have cb : (rightS y != 0) = true := by simpa using c
    replace c := hid c
    go_wp2_with (go_at_call 10; refine (law23_example _).mono ?_; rintro e w9 ⟨rfl, hb9⟩)
    exact hR.out _ _ ⟨rfl, (E.out.up hb9).ext⟩
  have cb : (rightS y != 0) = false := by simpa using c
  by_cases c0 : y.shape.length = 0
  case pos =>
    have cb0 : ((y.shape.length : Int) == 0) = true := by simpa using c0
    replace c := hid c
    replace c0 := hid c0
    obtain ⟨q10, q11, q12, q13⟩ := (E.out.hdr 1 rfl).all
    go_wp2_with (go_at_call 10; refine (law23_example _).mono ?_; rintro e w9 ⟨rfl, hb9⟩)
    exact hR.out _ _ ⟨rfl, (E.out.up hb9).ext⟩
  have cb0 : ((y.shape.length : Int) == 0) = false := by simpa using c0
  have hsY := (right_ok c).2.1
  have hrk : Hid (y.shape.length ≤ 10000) := hid (by have := (shapeB_iff.1 hsY).1; omega)
  replace c := hid c
  replace c0 := hid c0
  obtain ⟨q10, q11, q12, q13⟩ := (E.out.hdr 1 rfl).all
  go_wp2_with fail
  clear q10 q11 q12 q13
  refine (law23_once l _ _ _ _ (E.out.ints 2 rfl)).mono ?_
  rintro e w3 ⟨r3, rfl, hnd, hb⟩
  replace E := hid (E.out.up hb)
  clear hb
  cases r3 with
  | false =>
    clear hnd
    go_wp2_with (go_at_call 10; refine (law23_example _).mono ?_; rintro e w9 ⟨rfl, hb9⟩)
    exact hR.out _ _ ⟨rfl, (E.out.up hb9).ext⟩
  | true =>
  have hND := hid (hnd rfl)
  clear hnd
  obtain ⟨ax, hax⟩ : ∃ a, a = atI l := ⟨_, rfl⟩
  obtain ⟨bx, hbx⟩ : ∃ a, a = Arr.mk 3 [2] [] [ax, z] := ⟨_, rfl⟩
  obtain ⟨ra, hra⟩ : ∃ a, a = amdS bx y := ⟨_, rfl⟩
  obtain ⟨ea, hea⟩ : ∃ a, amdE bx y = a := ⟨_, rfl⟩
  have hat : Hid (ax = Arr.mk 1 [(l.length : Int)] l []) := hid hax
  have hbx2 : Hid (bx = atX l z) := hid (by rw [hbx, hax]; rfl)
  have hax1 : Hid (ax.shape.length ≤ 10000) := hid (by rw [hax]; simp [atI, Arr.shape])
  replace hax := hid hax
  replace hbx := hid hbx
  replace hra := hid hra
  replace hea := hid hea
  go_wp2_with fail
  replace E := hid (E.out.lit [(l.length : Int)] (show (1 : Nat) ≤ 17592186044416 by decide))
  (try simp only [List.cons_append, List.nil_append, List.set_cons_zero, List.set_cons_succ] at E)
  generalize w3.heap.size = g5 at E ⊢
  refine (law23_ints [(l.length : Int)] l _ _ _ _ _ _ (E.out.ints 5 rfl) (E.out.ints 2 rfl) (by simp) hlc.out).mono ?_
  intro e w4 h
  obtain ⟨s101, c101, n101, m101, i101, j101, rfl, hA, hb, hC101⟩ := h.eq hat.out
  replace E := hid ((E.out.up hb).addArr hA (fun b _ hq => E.out.res (Ext.refl _) hq))
  replace hC101 := hid hC101
  clear hA hb h
  (try simp only [List.cons_append, List.nil_append, List.set_cons_zero, List.set_cons_succ] at E)
  go_upto_region 4 with (refine wpl_store4 rfl (.tmp 7) (.tmp 44) rfl _ rfl rfl ((E.out.alloc _).hdr 7 rfl) ?_; intro V3 HV CV; replace E := hid ((E.out.alloc _).chg 7 rfl CV HV); clear CV HV; (try simp only [List.cons_append, List.nil_append, List.set_cons_zero, List.set_cons_succ] at E))
  generalize w4.heap.size = p1 at E ⊢
  obtain ⟨T, hT1, hT2, hT3⟩ := E.out.tw
  refine wp_region_edge 8 10 (by kernel_rfl) (by kernel_rfl) (fun o _ v c a w h => by cases hd : o.dst <;> (rw [hd] at h; exact h)) _ rfl 10 (Sees V3 [(⟨p1, 0, none⟩, .int .i64 ax.kind), (⟨p1, 1, none⟩, .slice s101 ax.shape.length c101), (⟨p1, 2, none⟩, .slice n101 ax.nums.length m101), (⟨p1, 3, none⟩, .slice i101 ax.items.length j101), (⟨w.heap.size, 0, none⟩, .int .i64 z.kind), (⟨w.heap.size, 1, none⟩, .slice sz z.shape.length cz), (⟨w.heap.size, 2, none⟩, .slice nz z.nums.length mz), (⟨w.heap.size, 3, none⟩, .slice iz z.items.length jz), (⟨(w.heap.size+1), 0, none⟩, .int .i64 y.kind), (⟨(w.heap.size+1), 1, none⟩, .slice sy y.shape.length cy), (⟨(w.heap.size+1), 2, none⟩, .slice ny y.nums.length my), (⟨(w.heap.size+1), 3, none⟩, .slice iy y.items.length jy)]) [2, 3, 5, 9] (fun k v u u' => match k with | 2 => ∃ b, v = .slice (some ⟨b, 0, none⟩) 2 2 ∧ ItemsAt u' T (some ⟨b, 0, none⟩) 0 [ax, z] | 3 => RetAC u T (bx) (.returned v) u' | 5 => RetAEC u (fun b => u.heap.size ≤ b) (ra) (ea) (.returned v) u' | 9 => v = .pointer (some ⟨u.heap.size, 0, none⟩) ∧ u' = u.alloc (.cells #[.int .i64 0, .slice none 0 0, .slice none 0 0, .slice none 0 0] 26) | _ => False) (fun _ _ h e => h.up e) (Sees.start (all_cons ((E.out.hdr 7 rfl).c0) (all_cons ((E.out.hdr 7 rfl).c1) (all_cons ((E.out.hdr 7 rfl).c2) (all_cons ((E.out.hdr 7 rfl).c3) (all_cons ((E.out.hdr 0 rfl).c0) (all_cons ((E.out.hdr 0 rfl).c1) (all_cons ((E.out.hdr 0 rfl).c2) (all_cons ((E.out.hdr 0 rfl).c3) (all_cons ((E.out.hdr 1 rfl).c0) (all_cons ((E.out.hdr 1 rfl).c1) (all_cons ((E.out.hdr 1 rfl).c2) (all_cons ((E.out.hdr 1 rfl).c3) (all_nil)))))))))))))) (by kernel_rfl) ?_
  simp only [withEdge, List.modify_succ_cons, List.modify_zero_cons, List.push_toArray, List.cons_append, List.nil_append]
  simp only [List.take_succ_cons, List.take_zero, List.drop_succ_cons, List.drop_zero]
  repeat (first | (refine m_plain (v := ?_) (by rfl) (by rfl) ?_ ?_; rotate_left; (intro wz hSw; obtain ⟨-, hSc⟩ := hSw; (try simp only [List.forall_mem_cons, List.forall_mem_nil, and_true] at hSc); go_simp; (first | done | with_reducible rfl)); (intro K hK; (try simp only [Act.put, List.setIfInBounds_toArray, List.set_cons_zero, List.set_cons_succ]); refine hK _ _ ?_; clear hK K)) | (refine m_skip (by rfl) (by rfl) ?_; (intro K hK; (try simp only [Act.put, List.setIfInBounds_toArray, List.set_cons_zero, List.set_cons_succ]); refine hK _ _ ?_; clear hK K)))
  refine m_make (by rfl) (by rfl) ?_ ?_
  · intro wz hSw hdep R hRz
    obtain ⟨hSe, hSc⟩ := hSw
    (try simp only [List.forall_mem_cons, List.forall_mem_nil, and_true] at hSc)
    unfold does
    (go_simp; exact hRz.out _ _ ⟨ext_alloc _ _, _, rfl, pair_items (hT2 _ (Below.size hSe)) (ArrAt.up (ArrAt.mono (fun b _ h => hT1 b h) _ (E.out.arr 6 rfl)) hSe) (ArrAt.up (ArrAt.mono (fun b _ h => hT1 b h) _ (E.out.arr 3 rfl)) hSe)⟩)
  intro v2 u2 x2 hG2 K hK
  have hF2 := hG2.fact
  (try dsimp only at hF2)
  obtain ⟨b2, rfl, hI2⟩ := hF2
  (try simp only [Act.put, List.setIfInBounds_toArray, List.set_cons_zero, List.set_cons_succ]); refine hK _ _ ?_; clear hK K
  repeat (first | (refine m_plain (v := ?_) (by rfl) (by rfl) ?_ ?_; rotate_left; (intro wz hSw; obtain ⟨-, hSc⟩ := hSw; (try simp only [List.forall_mem_cons, List.forall_mem_nil, and_true] at hSc); go_simp; (first | done | with_reducible rfl)); (intro K hK; (try simp only [Act.put, List.setIfInBounds_toArray, List.set_cons_zero, List.set_cons_succ]); refine hK _ _ ?_; clear hK K)) | (refine m_skip (by rfl) (by rfl) ?_; (intro K hK; (try simp only [Act.put, List.setIfInBounds_toArray, List.set_cons_zero, List.set_cons_succ]); refine hK _ _ ?_; clear hK K)))
  refine m_make (by rfl) (by rfl) ?_ ?_
  · intro wz hSw hdep R hRz
    obtain ⟨hSe, hSc⟩ := hSw
    (try simp only [List.forall_mem_cons, List.forall_mem_nil, and_true] at hSc)
    unfold does
    (go_simp; refine Calls.mono (law23_boxes [ax, z] _ 2 _ wz (hI2.later (hdep 2 _ rfl (depB_sound (f := 4) (by kernel_rfl)))) (by simp) (by simp)) ?_; intro e wq h; obtain ⟨v, rfl, h1⟩ := retAC_arm hT2 hSe (h.eq hbx.out); exact ⟨_, rfl, hRz.out _ _ h1⟩)
  intro v3 u3 x3 hG3 K hK
  have hF3 := hG3.fact
  (try dsimp only at hF3)
  obtain ⟨s3, c3, n3, m3, i3, j3, he, hA3, hb3, hC3⟩ := hF3
  injection he with he
  subst he
  replace hC3 := hid hC3
  (try simp only [Act.put, List.setIfInBounds_toArray, List.set_cons_zero, List.set_cons_succ]); refine hK _ _ ?_; clear hK K
  repeat (first | (refine m_plain (v := ?_) (by rfl) (by rfl) ?_ ?_; rotate_left; (intro wz hSw; obtain ⟨-, hSc⟩ := hSw; (try simp only [List.forall_mem_cons, List.forall_mem_nil, and_true] at hSc); go_simp; (first | done | with_reducible rfl)); (intro K hK; (try simp only [Act.put, List.setIfInBounds_toArray, List.set_cons_zero, List.set_cons_succ]); refine hK _ _ ?_; clear hK K)) | (refine m_skip (by rfl) (by rfl) ?_; (intro K hK; (try simp only [Act.put, List.setIfInBounds_toArray, List.set_cons_zero, List.set_cons_succ]); refine hK _ _ ?_; clear hK K)))
  refine m_make (by rfl) (by rfl) ?_ ?_
  · intro wz hSw hdep R hRz
    obtain ⟨hSe, hSc⟩ := hSw
    (try simp only [List.forall_mem_cons, List.forall_mem_nil, and_true] at hSc)
    unfold does
    (go_simp; refine Calls.mono (indexing_Amend bx _ _ _ _ _ _ y _ _ _ _ _ _ _ wz (hA3.up (hdep 3 _ rfl (depB_sound (f := 4) (by kernel_rfl)))) (ArrAt.up (ArrAt.mono (fun b _ h => hT1 b h) _ (E.out.arr 4 rfl)) hSe) hcy.out) ?_; intro e wq h; obtain ⟨ta, tc, tn, tnc, ti, tic, rfl, hq, hqb, hqc⟩ := (h.eq hra.out hea.out); exact ⟨_, rfl, hRz.out _ _ ⟨hqb, ta, tc, tn, tnc, ti, tic, rfl, hq, hqb, hqc⟩⟩)
  intro v5 u5 x5 hG5 K hK
  have hF5 := hG5.fact
  (try dsimp only at hF5)
  obtain ⟨s5, c5, n5, m5, i5, j5, he, hA5, hb5, hC5⟩ := hF5
  injection he with he
  subst he
  replace hC5 := hid hC5
  (try simp only [Act.put, List.setIfInBounds_toArray, List.set_cons_zero, List.set_cons_succ]); refine hK _ _ ?_; clear hK K
  repeat (first | (refine m_plain (v := ?_) (by rfl) (by rfl) ?_ ?_; rotate_left; (intro wz hSw; obtain ⟨-, hSc⟩ := hSw; (try simp only [List.forall_mem_cons, List.forall_mem_nil, and_true] at hSc); go_simp; (first | done | with_reducible rfl)); (intro K hK; (try simp only [Act.put, List.setIfInBounds_toArray, List.set_cons_zero, List.set_cons_succ]); refine hK _ _ ?_; clear hK K)) | (refine m_skip (by rfl) (by rfl) ?_; (intro K hK; (try simp only [Act.put, List.setIfInBounds_toArray, List.set_cons_zero, List.set_cons_succ]); refine hK _ _ ?_; clear hK K)))
  refine m_make (by rfl) (by rfl) ?_ ?_
  · intro wz hSw hdep R hRz
    obtain ⟨hSe, hSc⟩ := hSw
    (try simp only [List.forall_mem_cons, List.forall_mem_nil, and_true] at hSc)
    unfold does
    (go_simp; exact hRz.out _ _ ⟨ext_alloc _ _, rfl, rfl⟩)
  intro v9 u9 x9 hG9 K hK
  have hF9 := hG9.fact
  (try dsimp only at hF9)
  obtain ⟨rfl, rfl⟩ := hF9
  (try simp only [Act.put, List.setIfInBounds_toArray, List.set_cons_zero, List.set_cons_succ]); refine hK _ _ ?_; clear hK K
  repeat (first | (refine m_plain (v := ?_) (by rfl) (by rfl) ?_ ?_; rotate_left; (intro wz hSw; obtain ⟨-, hSc⟩ := hSw; (try simp only [List.forall_mem_cons, List.forall_mem_nil, and_true] at hSc); go_simp; (first | done | with_reducible rfl)); (intro K hK; (try simp only [Act.put, List.setIfInBounds_toArray, List.set_cons_zero, List.set_cons_succ]); refine hK _ _ ?_; clear hK K)) | (refine m_skip (by rfl) (by rfl) ?_; (intro K hK; (try simp only [Act.put, List.setIfInBounds_toArray, List.set_cons_zero, List.set_cons_succ]); refine hK _ _ ?_; clear hK K)))
  refine m_nil ?_
  intro wf hSf hAf
  replace E := hid (E.out.varO hA5 (hAf 5 _ rfl) (hG9.order 5 _ rfl) hG5.s.1 hG9.s.1 (hAf 9 _ rfl) hSf.1)
  refine wpl_store4 (by rfl) (.tmp 8) (.tmp 52) (by rfl) _ (by rfl) (by rfl) (E.out.hdr 8 rfl) ?_
  intro V4 HV CV
  replace E := hid (E.out.chg 8 rfl CV HV)
  clear CV HV hSf hAf
  (try simp only [List.cons_append, List.nil_append, List.set_cons_zero, List.set_cons_succ] at E)
  clear hG2 hG3 hG5 hG9 hI2 hA3 hA5 hb3 hb5 hT1 hT2 hT3 hC3
  generalize u9.heap.size = p2 at E ⊢
  obtain ⟨s111, hq⟩ : ∃ s, s = s5 := ⟨_, rfl⟩
  subst hq
  obtain ⟨c111, hq⟩ : ∃ s, s = c5 := ⟨_, rfl⟩
  subst hq
  obtain ⟨n111, hq⟩ : ∃ s, s = n5 := ⟨_, rfl⟩
  subst hq
  obtain ⟨m111, hq⟩ : ∃ s, s = m5 := ⟨_, rfl⟩
  subst hq
  obtain ⟨i111, hq⟩ : ∃ s, s = i5 := ⟨_, rfl⟩
  subst hq
  obtain ⟨j111, hq⟩ : ∃ s, s = j5 := ⟨_, rfl⟩
  subst hq
  go_upto_region 5 with fail
  by_cases ce : ea = 0
  case neg =>
    have ceb : (ea != 0) = true := by simpa using ce
    have hz : Hid (ra = .zero) := hid (by rw [hra.out]; exact amdS_no (by rw [hea.out]; exact ce))
    replace ce := hid ce
    obtain ⟨q80, q81, q82, q83⟩ := (E.out.hdr 8 rfl).all
    go_wp2_with fail
    clear q80 q81 q82 q83
    refine (ref03_Same ra .zero _ _ _ _ _ _ none 0 none 0 none 0 _ (fun _ => True) _ (E.out.arr 9 rfl) (zero_at _ _ none none none)).mono ?_
    rintro e w5 ⟨rfl, hb⟩
    replace E := hid (E.out.up hb)
    clear hb
    rw [show sameB ra .zero = true by rw [hz.out]; exact sameB_self _]
    go_wp2_with (go_at_call 10; refine (law23_example _).mono ?_; rintro e w9 ⟨rfl, hb9⟩)
    exact hR.out _ _ ⟨rfl, (E.out.up hb9).ext⟩
  subst ce
  have AK : AmOk l z y := amd_ok (by rw [← hbx2.out]; exact hea.out)
  have hrA : Hid (ra = amdA l z y) := hid (by rw [hra.out, hbx2.out]; exact AK.v)
  have hsh : Hid (eqI ra.shape y.shape = true) := hid (by rw [hrA.out]; exact decide_eq_true rfl)
  have hkd : (ra.kind != y.kind) = false := by rw [hrA.out]; simp [amdA_k]
  have hkeep : Hid (∀ im : Nat, im < szA y → (((im / celN y : Nat) : Int)) ∉ l → sameB (atS ra im) (atS y im) = true) := hid fun im h1 h2 => by
    rw [hrA.out, AK.keep h1 h2]; exact sameB_self _
  have hfE : Hid (frmE ax ra = 0) := hid (by rw [hat.out, hrA.out]; exact AK.fromE c0.out hND.out)
  have hfB : Hid (z.shape = (l.length : Int) :: celL y → frmS ax ra = z) := hid fun q => by rw [hat.out, hrA.out]; exact AK.back c0.out hND.out q
  have hrsh : Hid (ra.shape.length ≤ 10000) := hid (by rw [hrA.out, amdA_sh]; exact hrk.out)
  obtain ⟨cl, hcl⟩ : ∃ q, q = celL y := ⟨_, rfl⟩
  have hcl8 : cl.length ≤ 8 := by rw [hcl]; exact (shapeB_iff.1 (celL_ok hsY)).1
  have hsC : Hid (shapeB cl = true) := hid (by rw [hcl]; exact celL_ok hsY)
  obtain ⟨n, hn⟩ : ∃ n, n = celN y := ⟨_, rfl⟩
  have hcn : Hid (cnt cl = (n : Int)) := hid (by rw [hn, hcl]; exact (celN_eq hsY).symm)
  have hn6 : n ≤ 65536 := by rw [hn]; exact celN_le hsY
  obtain ⟨N, hNd⟩ : ∃ N, N = szA y := ⟨_, rfl⟩
  have hN6 : N ≤ 65536 := by rw [hNd]; exact szA_le c.out
  have hNs : Hid (((szN y.kind y.nums.length y.items.length : Nat) : Int) = (N : Int)) := hid (by rw [hNd]; rfl)
  have hnp : Hid (0 < N → 0 < n) := hid fun q => by
    have := sz_tal c.out
    rw [← hNd, ← hn] at this
    rcases Nat.eq_zero_or_pos n with e | e
    · rw [e, Nat.mul_zero] at this; omega
    · exact e
  rw [← hNd, ← hn] at hkeep
  rw [← hcl] at hfB
  replace hcl := hid hcl
  replace hn := hid hn
  replace hNd := hid hNd
  clear hsY AK
  obtain ⟨q10, q11, q12, q13⟩ := (E.out.hdr 1 rfl).all
  obtain ⟨q80, q81, q82, q83⟩ := (E.out.hdr 8 rfl).all
  go_wp2_with fail
  clear q10 q11 q12 q13 q80 q81 q82 q83
  refine (ref03_Shapes ra.shape y.shape _ _ _ _ _ _ _ (E.out.arr 9 rfl).shape (E.out.arr 4 rfl).shape).mono ?_
  rintro e w5 ⟨rfl, n5, rfl⟩
  replace E := hid (E.out.up (ext_drewN V4 n5))
  generalize V4.drewN n5 = w5 at E ⊢
  rw [hsh.out]
  obtain ⟨q10, q11, q12, q13⟩ := (E.out.hdr 1 rfl).all
  obtain ⟨q80, q81, q82, q83⟩ := (E.out.hdr 8 rfl).all
  go_wp2_with fail
  clear q10 q11 q12 q13 q80 q81 q82 q83
  refine (ref23_CellM y _ _ _ _ _ _ cl hcl.out _ _ (E.out.arr 4 rfl) hcy.out).mono ?_
  rintro e w7 ⟨so, sc, rfl, hI, hb⟩
  replace E := hid ((E.out.up hb).addInts hI (fun _ _ h => h))
  clear hI hb
  (try simp only [List.cons_append, List.nil_append, List.set_cons_zero, List.set_cons_succ] at E)
  go_wp2_with fail
  refine (ref03_Count cl _ _ _ _ (E.out.ints 10 rfl)).mono ?_
  rintro e w8 ⟨rfl, rfl⟩
  rw [cntC_eq hsC.out, hcn.out]
  go_upto_region 11 with (fail)
  go_loopw [11] (fun v wr => ∃ im : Nat, im ≤ N ∧ v = .int .i64 im ∧ Env w S wr [.obj w.heap.size (.cells #[.int .i64 z.kind, .slice sz z.shape.length cz, .slice nz z.nums.length mz, .slice iz z.items.length jz] 26 (0, 0)), .obj (w.heap.size + 1) (.cells #[.int .i64 y.kind, .slice sy y.shape.length cy, .slice ny y.nums.length my, .slice iy y.items.length jy] 26 (0, 0)), .ints l lo, .arr z sz nz iz, .arr y sy ny iy, .ints [(l.length : Int)] (some ⟨g5, 0, none⟩), .arr ax s101 n101 i101, .obj p1 (.cells #[.int .i64 ax.kind, .slice s101 ax.shape.length c101, .slice n101 ax.nums.length m101, .slice i101 ax.items.length j101] 26 (0, 0)), .obj p2 (.cells #[.int .i64 ra.kind, .slice s111 ra.shape.length c111, .slice n111 ra.nums.length m111, .slice i111 ra.items.length j111] 26 (0, 0)), .arr ra s111 n111 i111, .ints cl so]) (fun v _ => N - (intOf v).toNat)
  case atStart => exact ⟨0, Nat.zero_le _, rfl, E.out⟩
  case round =>
    clear E
    obtain ⟨im, him, rfl, E⟩ := hrel
    replace E := hid E
    obtain ⟨q10, q11, q12, q13⟩ := (E.out.hdr 1 rfl).all
    go_wp2_with fail
    clear q10 q11 q12 q13
    refine (size_ref03_Size y _ _ _ _ _ _ _ _ (E.out.arr 4 rfl)).mono ?_
    rintro e w10 ⟨rfl, hb⟩
    replace E := hid (E.out.up hb)
    clear hb
    rw [hNs.out]
    by_cases hlt : im < N
    case pos =>
      have n0 : 0 < n := hnp.out (by omega)
      have hkp := hid (hkeep.out im hlt)
      obtain ⟨qn, hqn⟩ : ∃ q : Nat, q = im / n := ⟨_, rfl⟩
      rw [← hqn] at hkp
      have hdv : Int.tdiv (im : Int) (n : Int) = (qn : Int) := by rw [hqn]; exact Int.ofNat_tdiv im n
      have hqb : qn ≤ im := by rw [hqn]; exact Nat.div_le_self _ _
      have hw1 : IntKind.i64.wrap (qn : Int) = (qn : Int) := IntWalk.i64_in _ (by omega)
      have hnz : ((n : Int) == 0) = false := by simp; omega
      have hnz2 : ¬ (n : Int) = 0 := by omega
      have hnz3 : ¬ n = 0 := by omega
      replace hqn := hid hqn
      by_cases hm : (qn : Int) ∈ l
      case pos =>
        have hmb : Hid (decide ((qn : Int) ∈ l) = true) := hid (decide_eq_true hm)
        replace hm := hid hm
        go_upto_region 13 with (fail)
        obtain ⟨T, hT1, hT2, hT3⟩ := E.out.tw
        refine wp_region_mono (Sees w10 [(⟨p2, 0, none⟩, .int .i64 ra.kind), (⟨p2, 1, none⟩, .slice s111 ra.shape.length c111), (⟨p2, 2, none⟩, .slice n111 ra.nums.length m111), (⟨p2, 3, none⟩, .slice i111 ra.items.length j111), (⟨(w.heap.size+1), 0, none⟩, .int .i64 y.kind), (⟨(w.heap.size+1), 1, none⟩, .slice sy y.shape.length cy), (⟨(w.heap.size+1), 2, none⟩, .slice ny y.nums.length my), (⟨(w.heap.size+1), 3, none⟩, .slice iy y.items.length jy)]) [4] (fun k v u u' => match k with | 4 => v = .bool true | _ => False) (fun _ _ h e => h.up e) (Sees.start (all_cons ((E.out.hdr 8 rfl).c0) (all_cons ((E.out.hdr 8 rfl).c1) (all_cons ((E.out.hdr 8 rfl).c2) (all_cons ((E.out.hdr 8 rfl).c3) (all_cons ((E.out.hdr 1 rfl).c0) (all_cons ((E.out.hdr 1 rfl).c1) (all_cons ((E.out.hdr 1 rfl).c2) (all_cons ((E.out.hdr 1 rfl).c3) (all_nil)))))))))) (by kernel_rfl) (by kernel_rfl) ?_
        repeat (first | (refine m_plain (v := ?_) (by rfl) (by rfl) ?_ ?_; rotate_left; (intro wz hSw; obtain ⟨-, hSc⟩ := hSw; (try simp only [List.forall_mem_cons, List.forall_mem_nil, and_true] at hSc); go_simp; (first | done | with_reducible rfl)); (intro K hK; (try simp only [Act.put, List.setIfInBounds_toArray, List.set_cons_zero, List.set_cons_succ]); refine hK _ _ ?_; clear hK K)) | (refine m_skip (by rfl) (by rfl) ?_; (intro K hK; (try simp only [Act.put, List.setIfInBounds_toArray, List.set_cons_zero, List.set_cons_succ]); refine hK _ _ ?_; clear hK K)))
        refine m_make (by rfl) (by rfl) ?_ ?_
        · intro wz hSw hdep R hRz
          obtain ⟨hSe, hSc⟩ := hSw
          (try simp only [List.forall_mem_cons, List.forall_mem_nil, and_true] at hSc)
          unfold does
          (go_simp; refine Calls.mono (law23_among l _ _ (qn : Int) _ wz ((E.out.ints 2 rfl).mono (fun b _ h => hT1 b h) |>.up hSe)) ?_; rintro e wq ⟨rfl, rfl⟩; rw [hmb.out]; exact ⟨_, rfl, hRz.out _ _ ⟨Ext.refl _, rfl⟩⟩)
        intro v4 u4 x4 hG4 K hK
        have hF4 := hG4.fact
        (try dsimp only at hF4)
        subst hF4
        (try simp only [Act.put, List.setIfInBounds_toArray, List.set_cons_zero, List.set_cons_succ]); refine hK _ _ ?_; clear hK K
        repeat (first | (refine m_plain (v := ?_) (by rfl) (by rfl) ?_ ?_; rotate_left; (intro wz hSw; obtain ⟨-, hSc⟩ := hSw; (try simp only [List.forall_mem_cons, List.forall_mem_nil, and_true] at hSc); go_simp; (first | done | with_reducible rfl)); (intro K hK; (try simp only [Act.put, List.setIfInBounds_toArray, List.set_cons_zero, List.set_cons_succ]); refine hK _ _ ?_; clear hK K)) | (refine m_skip (by rfl) (by rfl) ?_; (intro K hK; (try simp only [Act.put, List.setIfInBounds_toArray, List.set_cons_zero, List.set_cons_succ]); refine hK _ _ ?_; clear hK K)))
        refine m_nil ?_
        intro wf hSf hAf
        replace E := hid (E.out.up hSf.1)
        clear hSf hAf hG4 hT1 hT2 hT3
        go_wp2_with fail
        go_roundw
        case rel => exact ⟨im + 1, by omega, by go_num, E.out⟩
        case measure => simp [intOf]; omega
      case neg =>
        have hmb : Hid (decide ((qn : Int) ∈ l) = false) := hid (decide_eq_false hm)
        replace hkp := hid (hkp.out hm)
        replace hm := hid hm
        go_upto_region 13 with (fail)
        obtain ⟨T, hT1, hT2, hT3⟩ := E.out.tw
        refine wp_region_mono (Sees w10 [(⟨p2, 0, none⟩, .int .i64 ra.kind), (⟨p2, 1, none⟩, .slice s111 ra.shape.length c111), (⟨p2, 2, none⟩, .slice n111 ra.nums.length m111), (⟨p2, 3, none⟩, .slice i111 ra.items.length j111), (⟨(w.heap.size+1), 0, none⟩, .int .i64 y.kind), (⟨(w.heap.size+1), 1, none⟩, .slice sy y.shape.length cy), (⟨(w.heap.size+1), 2, none⟩, .slice ny y.nums.length my), (⟨(w.heap.size+1), 3, none⟩, .slice iy y.items.length jy)]) [4, 9, 12, 13] (fun k v u u' => match k with | 4 => v = .bool false | 9 => RetA u T (atS ra im) (.returned v) u' | 12 => RetA u T (atS y im) (.returned v) u' | 13 => v = .bool true | _ => False) (fun _ _ h e => h.up e) (Sees.start (all_cons ((E.out.hdr 8 rfl).c0) (all_cons ((E.out.hdr 8 rfl).c1) (all_cons ((E.out.hdr 8 rfl).c2) (all_cons ((E.out.hdr 8 rfl).c3) (all_cons ((E.out.hdr 1 rfl).c0) (all_cons ((E.out.hdr 1 rfl).c1) (all_cons ((E.out.hdr 1 rfl).c2) (all_cons ((E.out.hdr 1 rfl).c3) (all_nil)))))))))) (by kernel_rfl) (by kernel_rfl) ?_
        repeat (first | (refine m_plain (v := ?_) (by rfl) (by rfl) ?_ ?_; rotate_left; (intro wz hSw; obtain ⟨-, hSc⟩ := hSw; (try simp only [List.forall_mem_cons, List.forall_mem_nil, and_true] at hSc); go_simp; (first | done | with_reducible rfl)); (intro K hK; (try simp only [Act.put, List.setIfInBounds_toArray, List.set_cons_zero, List.set_cons_succ]); refine hK _ _ ?_; clear hK K)) | (refine m_skip (by rfl) (by rfl) ?_; (intro K hK; (try simp only [Act.put, List.setIfInBounds_toArray, List.set_cons_zero, List.set_cons_succ]); refine hK _ _ ?_; clear hK K)))
        refine m_make (by rfl) (by rfl) ?_ ?_
        · intro wz hSw hdep R hRz
          obtain ⟨hSe, hSc⟩ := hSw
          (try simp only [List.forall_mem_cons, List.forall_mem_nil, and_true] at hSc)
          unfold does
          (go_simp; refine Calls.mono (law23_among l _ _ (qn : Int) _ wz ((E.out.ints 2 rfl).mono (fun b _ h => hT1 b h) |>.up hSe)) ?_; rintro e wq ⟨rfl, rfl⟩; rw [hmb.out]; exact ⟨_, rfl, hRz.out _ _ ⟨Ext.refl _, rfl⟩⟩)
        intro v4 u4 x4 hG4 K hK
        have hF4 := hG4.fact
        (try dsimp only at hF4)
        subst hF4
        (try simp only [Act.put, List.setIfInBounds_toArray, List.set_cons_zero, List.set_cons_succ]); refine hK _ _ ?_; clear hK K
        repeat (first | (refine m_plain (v := ?_) (by rfl) (by rfl) ?_ ?_; rotate_left; (intro wz hSw; obtain ⟨-, hSc⟩ := hSw; (try simp only [List.forall_mem_cons, List.forall_mem_nil, and_true] at hSc); go_simp; (first | done | with_reducible rfl)); (intro K hK; (try simp only [Act.put, List.setIfInBounds_toArray, List.set_cons_zero, List.set_cons_succ]); refine hK _ _ ?_; clear hK K)) | (refine m_skip (by rfl) (by rfl) ?_; (intro K hK; (try simp only [Act.put, List.setIfInBounds_toArray, List.set_cons_zero, List.set_cons_succ]); refine hK _ _ ?_; clear hK K)))
        refine m_make (by rfl) (by rfl) ?_ ?_
        · intro wz hSw hdep R hRz
          obtain ⟨hSe, hSc⟩ := hSw
          (try simp only [List.forall_mem_cons, List.forall_mem_nil, and_true] at hSc)
          unfold does
          (go_simp; refine Calls.mono (ref03_At ra _ _ _ _ _ _ (im : Int) _ wz (ArrAt.up (ArrAt.mono (fun b _ h => hT1 b h) _ (E.out.arr 9 rfl)) hSe)) ?_; intro e wq h; obtain ⟨v, rfl, h1⟩ := retA_arm hT2 hSe (h.eq rfl); exact ⟨_, rfl, hRz.out _ _ h1⟩)
        intro v9 u9 x9 hG9 K hK
        have hF9 := hG9.fact
        (try dsimp only at hF9)
        obtain ⟨s9, c9, n9, m9, i9, j9, he, hA9, hb9⟩ := hF9
        injection he with he
        subst he
        (try simp only [Act.put, List.setIfInBounds_toArray, List.set_cons_zero, List.set_cons_succ]); refine hK _ _ ?_; clear hK K
        repeat (first | (refine m_plain (v := ?_) (by rfl) (by rfl) ?_ ?_; rotate_left; (intro wz hSw; obtain ⟨-, hSc⟩ := hSw; (try simp only [List.forall_mem_cons, List.forall_mem_nil, and_true] at hSc); go_simp; (first | done | with_reducible rfl)); (intro K hK; (try simp only [Act.put, List.setIfInBounds_toArray, List.set_cons_zero, List.set_cons_succ]); refine hK _ _ ?_; clear hK K)) | (refine m_skip (by rfl) (by rfl) ?_; (intro K hK; (try simp only [Act.put, List.setIfInBounds_toArray, List.set_cons_zero, List.set_cons_succ]); refine hK _ _ ?_; clear hK K)))
        refine m_make (by rfl) (by rfl) ?_ ?_
        · intro wz hSw hdep R hRz
          obtain ⟨hSe, hSc⟩ := hSw
          (try simp only [List.forall_mem_cons, List.forall_mem_nil, and_true] at hSc)
          unfold does
          (go_simp; refine Calls.mono (ref03_At y _ _ _ _ _ _ (im : Int) _ wz (ArrAt.up (ArrAt.mono (fun b _ h => hT1 b h) _ (E.out.arr 4 rfl)) hSe)) ?_; intro e wq h; obtain ⟨v, rfl, h1⟩ := retA_arm hT2 hSe (h.eq rfl); exact ⟨_, rfl, hRz.out _ _ h1⟩)
        intro v12 u12 x12 hG12 K hK
        have hF12 := hG12.fact
        (try dsimp only at hF12)
        obtain ⟨s12, c12, n12, m12, i12, j12, he, hA12, hb12⟩ := hF12
        injection he with he
        subst he
        (try simp only [Act.put, List.setIfInBounds_toArray, List.set_cons_zero, List.set_cons_succ]); refine hK _ _ ?_; clear hK K
        repeat (first | (refine m_plain (v := ?_) (by rfl) (by rfl) ?_ ?_; rotate_left; (intro wz hSw; obtain ⟨-, hSc⟩ := hSw; (try simp only [List.forall_mem_cons, List.forall_mem_nil, and_true] at hSc); go_simp; (first | done | with_reducible rfl)); (intro K hK; (try simp only [Act.put, List.setIfInBounds_toArray, List.set_cons_zero, List.set_cons_succ]); refine hK _ _ ?_; clear hK K)) | (refine m_skip (by rfl) (by rfl) ?_; (intro K hK; (try simp only [Act.put, List.setIfInBounds_toArray, List.set_cons_zero, List.set_cons_succ]); refine hK _ _ ?_; clear hK K)))
        refine m_make (by rfl) (by rfl) ?_ ?_
        · intro wz hSw hdep R hRz
          obtain ⟨hSe, hSc⟩ := hSw
          (try simp only [List.forall_mem_cons, List.forall_mem_nil, and_true] at hSc)
          unfold does
          (go_simp; refine Calls.mono (ref03_Same (atS ra im) (atS y im) _ _ _ _ _ _ _ _ _ _ _ _ _ _ wz (hA9.up (hdep 9 _ rfl (depB_sound (f := 4) (by kernel_rfl)))) (hA12.up (hdep 12 _ rfl (depB_sound (f := 4) (by kernel_rfl))))) ?_; rintro e wq ⟨rfl, hqb⟩; rw [hkp.out]; exact ⟨_, rfl, hRz.out _ _ ⟨hqb, rfl⟩⟩)
        intro v13 u13 x13 hG13 K hK
        have hF13 := hG13.fact
        (try dsimp only at hF13)
        subst hF13
        (try simp only [Act.put, List.setIfInBounds_toArray, List.set_cons_zero, List.set_cons_succ]); refine hK _ _ ?_; clear hK K
        repeat (first | (refine m_plain (v := ?_) (by rfl) (by rfl) ?_ ?_; rotate_left; (intro wz hSw; obtain ⟨-, hSc⟩ := hSw; (try simp only [List.forall_mem_cons, List.forall_mem_nil, and_true] at hSc); go_simp; (first | done | with_reducible rfl)); (intro K hK; (try simp only [Act.put, List.setIfInBounds_toArray, List.set_cons_zero, List.set_cons_succ]); refine hK _ _ ?_; clear hK K)) | (refine m_skip (by rfl) (by rfl) ?_; (intro K hK; (try simp only [Act.put, List.setIfInBounds_toArray, List.set_cons_zero, List.set_cons_succ]); refine hK _ _ ?_; clear hK K)))
        refine m_nil ?_
        intro wf hSf hAf
        replace E := hid (E.out.up hSf.1)
        clear hSf hAf hG4 hG9 hG12 hG13 hA9 hA12 hb9 hb12 hT1 hT2 hT3
        go_wp2_with fail
        go_roundw
        case rel => exact ⟨im + 1, by omega, by go_num, E.out⟩
        case measure => simp [intOf]; omega
    case neg =>
      obtain rfl : im = N := by omega
      obtain ⟨rb, hrb⟩ : ∃ a, a = frmS ax ra := ⟨_, rfl⟩
      rw [← hrb] at hfB
      replace hrb := hid hrb
      clear hkeep hnp hNs
      obtain ⟨q70, q71, q72, q73⟩ := (E.out.hdr 7 rfl).all
      obtain ⟨q80, q81, q82, q83⟩ := (E.out.hdr 8 rfl).all
      go_wp2_with fail
      clear q70 q71 q72 q73 q80 q81 q82 q83
      refine (indexing_From ax _ _ _ _ _ _ ra _ _ _ _ _ _ _ _ (E.out.arr 6 rfl) (E.out.arr 9 rfl) hC5.out.1 hax1.out hrsh.out).mono ?_
      intro e w11 h
      obtain ⟨s102, c102, n102, m102, i102, j102, rfl, hA, hb, hC102⟩ := h.eq hrb.out hfE.out
      replace E := hid ((E.out.up hb).addArr hA (fun b _ hq => E.out.fresh (Ext.refl _) hq))
      clear hA hb hC102 h
      (try simp only [List.cons_append, List.nil_append, List.set_cons_zero, List.set_cons_succ] at E)
      go_upto_region 16 with (refine wpl_store4 rfl (.tmp 12) (.tmp 104) rfl _ rfl rfl ((E.out.alloc _).hdr 12 rfl) ?_; intro V9 HV CV; replace E := hid ((E.out.alloc _).chg 12 rfl CV HV); clear CV HV; (try simp only [List.cons_append, List.nil_append, List.set_cons_zero, List.set_cons_succ] at E))
      generalize w11.heap.size = p3 at E ⊢
      obtain ⟨sn, hsn⟩ : ∃ q, q = [(l.length : Int)] ++ cl := ⟨_, rfl⟩
      by_cases hw : z.shape = sn
      case pos =>
        have heq : Hid (eqI z.shape sn = true) := hid (decide_eq_true hw)
        have hsb : Hid (sameB rb z = true) := hid (by rw [hfB.out (by rw [hw, hsn]; rfl)]; exact sameB_self _)
        replace hw := hid hw
        replace hsn := hid hsn
        obtain ⟨T, hT1, hT2, hT3⟩ := E.out.tw
        refine wp_region_mono (Sees V9 [(⟨w.heap.size, 0, none⟩, .int .i64 z.kind), (⟨w.heap.size, 1, none⟩, .slice sz z.shape.length cz), (⟨w.heap.size, 2, none⟩, .slice nz z.nums.length mz), (⟨w.heap.size, 3, none⟩, .slice iz z.items.length jz), (⟨(w.heap.size+1), 0, none⟩, .int .i64 y.kind), (⟨(w.heap.size+1), 1, none⟩, .slice sy y.shape.length cy), (⟨(w.heap.size+1), 2, none⟩, .slice ny y.nums.length my), (⟨(w.heap.size+1), 3, none⟩, .slice iy y.items.length jy), (⟨p3, 0, none⟩, .int .i64 rb.kind), (⟨p3, 1, none⟩, .slice s102 rb.shape.length c102), (⟨p3, 2, none⟩, .slice n102 rb.nums.length m102), (⟨p3, 3, none⟩, .slice i102 rb.items.length j102)]) [4, 6, 7, 8, 12] (fun k v u u' => match k with | 4 => v = .slice (some ⟨u.heap.size, 0, none⟩) 1 1 ∧ u' = u.alloc (.cells (([(l.length : Int)] : List Int).map (Value.int .i64)).toArray 3) | 6 => ∃ so sc, v = .slice so (cl).length sc ∧ IntsAt u' T so (cl) | 7 => ∃ so sc, v = .slice so (sn).length sc ∧ IntsAt u' (fun _ => True) so (sn) | 8 => v = .bool true | 12 => v = .bool true | _ => False) (fun _ _ h e => h.up e) (Sees.start (all_cons ((E.out.hdr 0 rfl).c0) (all_cons ((E.out.hdr 0 rfl).c1) (all_cons ((E.out.hdr 0 rfl).c2) (all_cons ((E.out.hdr 0 rfl).c3) (all_cons ((E.out.hdr 1 rfl).c0) (all_cons ((E.out.hdr 1 rfl).c1) (all_cons ((E.out.hdr 1 rfl).c2) (all_cons ((E.out.hdr 1 rfl).c3) (all_cons ((E.out.hdr 12 rfl).c0) (all_cons ((E.out.hdr 12 rfl).c1) (all_cons ((E.out.hdr 12 rfl).c2) (all_cons ((E.out.hdr 12 rfl).c3) (all_nil)))))))))))))) (by kernel_rfl) (by kernel_rfl) ?_
        repeat (first | (refine m_plain (v := ?_) (by rfl) (by rfl) ?_ ?_; rotate_left; (intro wz hSw; obtain ⟨-, hSc⟩ := hSw; (try simp only [List.forall_mem_cons, List.forall_mem_nil, and_true] at hSc); go_simp; (first | done | with_reducible rfl)); (intro K hK; (try simp only [Act.put, List.setIfInBounds_toArray, List.set_cons_zero, List.set_cons_succ]); refine hK _ _ ?_; clear hK K)) | (refine m_skip (by rfl) (by rfl) ?_; (intro K hK; (try simp only [Act.put, List.setIfInBounds_toArray, List.set_cons_zero, List.set_cons_succ]); refine hK _ _ ?_; clear hK K)))
        refine m_make (by rfl) (by rfl) ?_ ?_
        · intro wz hSw hdep R hRz
          obtain ⟨hSe, hSc⟩ := hSw
          (try simp only [List.forall_mem_cons, List.forall_mem_nil, and_true] at hSc)
          unfold does
          (go_simp; exact hRz.out _ _ ⟨ext_alloc _ _, rfl, rfl⟩)
        intro v4 u4 x4 hG4 K hK
        have hF4 := hG4.fact
        (try dsimp only at hF4)
        obtain ⟨rfl, rfl⟩ := hF4
        (try simp only [Act.put, List.setIfInBounds_toArray, List.set_cons_zero, List.set_cons_succ]); refine hK _ _ ?_; clear hK K
        repeat (first | (refine m_plain (v := ?_) (by rfl) (by rfl) ?_ ?_; rotate_left; (intro wz hSw; obtain ⟨-, hSc⟩ := hSw; (try simp only [List.forall_mem_cons, List.forall_mem_nil, and_true] at hSc); go_simp; (first | done | with_reducible rfl)); (intro K hK; (try simp only [Act.put, List.setIfInBounds_toArray, List.set_cons_zero, List.set_cons_succ]); refine hK _ _ ?_; clear hK K)) | (refine m_skip (by rfl) (by rfl) ?_; (intro K hK; (try simp only [Act.put, List.setIfInBounds_toArray, List.set_cons_zero, List.set_cons_succ]); refine hK _ _ ?_; clear hK K)))
        refine m_make (by rfl) (by rfl) ?_ ?_
        · intro wz hSw hdep R hRz
          obtain ⟨hSe, hSc⟩ := hSw
          (try simp only [List.forall_mem_cons, List.forall_mem_nil, and_true] at hSc)
          unfold does
          (go_simp; refine Calls.mono (ref23_CellM y _ _ _ _ _ _ cl hcl.out _ wz (ArrAt.up (ArrAt.mono (fun b _ h => hT1 b h) _ (E.out.arr 4 rfl)) hSe) hcy.out) ?_; rintro e wq ⟨so, sc, rfl, hI, hb⟩; exact ⟨_, rfl, hRz.out _ _ ⟨hb, so, sc, rfl, hI⟩⟩)
        intro v6 u6 x6 hG6 K hK
        have hF6 := hG6.fact
        (try dsimp only at hF6)
        obtain ⟨s6, c6, rfl, hI6⟩ := hF6
        (try simp only [Act.put, List.setIfInBounds_toArray, List.set_cons_zero, List.set_cons_succ]); refine hK _ _ ?_; clear hK K
        repeat (first | (refine m_plain (v := ?_) (by rfl) (by rfl) ?_ ?_; rotate_left; (intro wz hSw; obtain ⟨-, hSc⟩ := hSw; (try simp only [List.forall_mem_cons, List.forall_mem_nil, and_true] at hSc); go_simp; (first | done | with_reducible rfl)); (intro K hK; (try simp only [Act.put, List.setIfInBounds_toArray, List.set_cons_zero, List.set_cons_succ]); refine hK _ _ ?_; clear hK K)) | (refine m_skip (by rfl) (by rfl) ?_; (intro K hK; (try simp only [Act.put, List.setIfInBounds_toArray, List.set_cons_zero, List.set_cons_succ]); refine hK _ _ ?_; clear hK K)))
        refine m_make (by rfl) (by rfl) ?_ ?_
        · intro wz hSw hdep R hRz
          obtain ⟨hSe, hSc⟩ := hSw
          (try simp only [List.forall_mem_cons, List.forall_mem_nil, and_true] at hSc)
          unfold does
          (have hm : _ = some (Obj.cells #[.int .i64 (l.length : Int)] 3 (0, 0)) := made_blk (hdep 4 _ rfl (depB_sound (f := 4) (by kernel_rfl))); have hr := run_appI_lit wz 23 hm (fun _ => True) s6 c6 cl ((hI6.up (hdep 6 _ rfl (depB_sound (f := 4) (by kernel_rfl)))).mono fun _ _ _ => trivial) (by omega); rw [← hsn.out] at hr; obtain ⟨so, sc, w', hr, hb, hI, _⟩ := hr; refine does_append (.tmp 110) (.tmp 112) rfl rfl rfl hr ?_; exact hRz.out _ _ ⟨hb, so, sc, rfl, hI.mono fun _ _ _ => trivial⟩)
        intro v7 u7 x7 hG7 K hK
        have hF7 := hG7.fact
        (try dsimp only at hF7)
        obtain ⟨s7, c7, rfl, hI7⟩ := hF7
        (try simp only [Act.put, List.setIfInBounds_toArray, List.set_cons_zero, List.set_cons_succ]); refine hK _ _ ?_; clear hK K
        repeat (first | (refine m_plain (v := ?_) (by rfl) (by rfl) ?_ ?_; rotate_left; (intro wz hSw; obtain ⟨-, hSc⟩ := hSw; (try simp only [List.forall_mem_cons, List.forall_mem_nil, and_true] at hSc); go_simp; (first | done | with_reducible rfl)); (intro K hK; (try simp only [Act.put, List.setIfInBounds_toArray, List.set_cons_zero, List.set_cons_succ]); refine hK _ _ ?_; clear hK K)) | (refine m_skip (by rfl) (by rfl) ?_; (intro K hK; (try simp only [Act.put, List.setIfInBounds_toArray, List.set_cons_zero, List.set_cons_succ]); refine hK _ _ ?_; clear hK K)))
        refine m_make (by rfl) (by rfl) ?_ ?_
        · intro wz hSw hdep R hRz
          obtain ⟨hSe, hSc⟩ := hSw
          (try simp only [List.forall_mem_cons, List.forall_mem_nil, and_true] at hSc)
          unfold does
          (go_simp; refine Calls.mono (ref03_Shapes z.shape sn _ _ _ _ _ _ wz (ArrAt.shape (ArrAt.up (ArrAt.mono (fun b _ h => hT1 b h) _ (E.out.arr 3 rfl)) hSe)) (hI7.up (hdep 7 _ rfl (depB_sound (f := 4) (by kernel_rfl))))) ?_; rintro e wq ⟨rfl, n, rfl⟩; rw [heq.out]; exact ⟨_, rfl, hRz.out _ _ ⟨ext_drewN _ _, rfl⟩⟩)
        intro v8 u8 x8 hG8 K hK
        have hF8 := hG8.fact
        (try dsimp only at hF8)
        subst hF8
        (try simp only [Act.put, List.setIfInBounds_toArray, List.set_cons_zero, List.set_cons_succ]); refine hK _ _ ?_; clear hK K
        repeat (first | (refine m_plain (v := ?_) (by rfl) (by rfl) ?_ ?_; rotate_left; (intro wz hSw; obtain ⟨-, hSc⟩ := hSw; (try simp only [List.forall_mem_cons, List.forall_mem_nil, and_true] at hSc); go_simp; (first | done | with_reducible rfl)); (intro K hK; (try simp only [Act.put, List.setIfInBounds_toArray, List.set_cons_zero, List.set_cons_succ]); refine hK _ _ ?_; clear hK K)) | (refine m_skip (by rfl) (by rfl) ?_; (intro K hK; (try simp only [Act.put, List.setIfInBounds_toArray, List.set_cons_zero, List.set_cons_succ]); refine hK _ _ ?_; clear hK K)))
        refine m_make (by rfl) (by rfl) ?_ ?_
        · intro wz hSw hdep R hRz
          obtain ⟨hSe, hSc⟩ := hSw
          (try simp only [List.forall_mem_cons, List.forall_mem_nil, and_true] at hSc)
          unfold does
          (go_simp; refine Calls.mono (ref03_Same rb z _ _ _ _ _ _ _ _ _ _ _ _ _ _ wz (ArrAt.up (ArrAt.mono (fun b _ h => hT1 b h) _ (E.out.arr 11 rfl)) hSe) (ArrAt.up (ArrAt.mono (fun b _ h => hT1 b h) _ (E.out.arr 3 rfl)) hSe)) ?_; rintro e wq ⟨rfl, hqb⟩; rw [hsb.out]; exact ⟨_, rfl, hRz.out _ _ ⟨hqb, rfl⟩⟩)
        intro v12 u12 x12 hG12 K hK
        have hF12 := hG12.fact
        (try dsimp only at hF12)
        subst hF12
        (try simp only [Act.put, List.setIfInBounds_toArray, List.set_cons_zero, List.set_cons_succ]); refine hK _ _ ?_; clear hK K
        repeat (first | (refine m_plain (v := ?_) (by rfl) (by rfl) ?_ ?_; rotate_left; (intro wz hSw; obtain ⟨-, hSc⟩ := hSw; (try simp only [List.forall_mem_cons, List.forall_mem_nil, and_true] at hSc); go_simp; (first | done | with_reducible rfl)); (intro K hK; (try simp only [Act.put, List.setIfInBounds_toArray, List.set_cons_zero, List.set_cons_succ]); refine hK _ _ ?_; clear hK K)) | (refine m_skip (by rfl) (by rfl) ?_; (intro K hK; (try simp only [Act.put, List.setIfInBounds_toArray, List.set_cons_zero, List.set_cons_succ]); refine hK _ _ ?_; clear hK K)))
        refine m_nil ?_
        intro wf hSf hAf
        replace E := hid (E.out.up hSf.1)
        clear hSf hAf hG4 hG6 hG7 hG8 hG12 hI6 hI7 hT1 hT2 hT3
        go_wp2_with (go_at_call 10; refine (law23_example _).mono ?_; rintro e w9 ⟨rfl, hb9⟩)
        exact hR.out _ _ ⟨rfl, (E.out.up hb9).ext⟩
      case neg =>
        have heq : Hid (eqI z.shape sn = false) := hid (decide_eq_false hw)
        replace hw := hid hw
        replace hsn := hid hsn
        obtain ⟨T, hT1, hT2, hT3⟩ := E.out.tw
        refine wp_region_mono (Sees V9 [(⟨w.heap.size, 0, none⟩, .int .i64 z.kind), (⟨w.heap.size, 1, none⟩, .slice sz z.shape.length cz), (⟨w.heap.size, 2, none⟩, .slice nz z.nums.length mz), (⟨w.heap.size, 3, none⟩, .slice iz z.items.length jz), (⟨(w.heap.size+1), 0, none⟩, .int .i64 y.kind), (⟨(w.heap.size+1), 1, none⟩, .slice sy y.shape.length cy), (⟨(w.heap.size+1), 2, none⟩, .slice ny y.nums.length my), (⟨(w.heap.size+1), 3, none⟩, .slice iy y.items.length jy), (⟨p3, 0, none⟩, .int .i64 rb.kind), (⟨p3, 1, none⟩, .slice s102 rb.shape.length c102), (⟨p3, 2, none⟩, .slice n102 rb.nums.length m102), (⟨p3, 3, none⟩, .slice i102 rb.items.length j102)]) [4, 6, 7, 8] (fun k v u u' => match k with | 4 => v = .slice (some ⟨u.heap.size, 0, none⟩) 1 1 ∧ u' = u.alloc (.cells (([(l.length : Int)] : List Int).map (Value.int .i64)).toArray 3) | 6 => ∃ so sc, v = .slice so (cl).length sc ∧ IntsAt u' T so (cl) | 7 => ∃ so sc, v = .slice so (sn).length sc ∧ IntsAt u' (fun _ => True) so (sn) | 8 => v = .bool false | _ => False) (fun _ _ h e => h.up e) (Sees.start (all_cons ((E.out.hdr 0 rfl).c0) (all_cons ((E.out.hdr 0 rfl).c1) (all_cons ((E.out.hdr 0 rfl).c2) (all_cons ((E.out.hdr 0 rfl).c3) (all_cons ((E.out.hdr 1 rfl).c0) (all_cons ((E.out.hdr 1 rfl).c1) (all_cons ((E.out.hdr 1 rfl).c2) (all_cons ((E.out.hdr 1 rfl).c3) (all_cons ((E.out.hdr 12 rfl).c0) (all_cons ((E.out.hdr 12 rfl).c1) (all_cons ((E.out.hdr 12 rfl).c2) (all_cons ((E.out.hdr 12 rfl).c3) (all_nil)))))))))))))) (by kernel_rfl) (by kernel_rfl) ?_
        repeat (first | (refine m_plain (v := ?_) (by rfl) (by rfl) ?_ ?_; rotate_left; (intro wz hSw; obtain ⟨-, hSc⟩ := hSw; (try simp only [List.forall_mem_cons, List.forall_mem_nil, and_true] at hSc); go_simp; (first | done | with_reducible rfl)); (intro K hK; (try simp only [Act.put, List.setIfInBounds_toArray, List.set_cons_zero, List.set_cons_succ]); refine hK _ _ ?_; clear hK K)) | (refine m_skip (by rfl) (by rfl) ?_; (intro K hK; (try simp only [Act.put, List.setIfInBounds_toArray, List.set_cons_zero, List.set_cons_succ]); refine hK _ _ ?_; clear hK K)))
        refine m_make (by rfl) (by rfl) ?_ ?_
        · intro wz hSw hdep R hRz
          obtain ⟨hSe, hSc⟩ := hSw
          (try simp only [List.forall_mem_cons, List.forall_mem_nil, and_true] at hSc)
          unfold does
          (go_simp; exact hRz.out _ _ ⟨ext_alloc _ _, rfl, rfl⟩)
        intro v4 u4 x4 hG4 K hK
        have hF4 := hG4.fact
        (try dsimp only at hF4)
        obtain ⟨rfl, rfl⟩ := hF4
        (try simp only [Act.put, List.setIfInBounds_toArray, List.set_cons_zero, List.set_cons_succ]); refine hK _ _ ?_; clear hK K
        repeat (first | (refine m_plain (v := ?_) (by rfl) (by rfl) ?_ ?_; rotate_left; (intro wz hSw; obtain ⟨-, hSc⟩ := hSw; (try simp only [List.forall_mem_cons, List.forall_mem_nil, and_true] at hSc); go_simp; (first | done | with_reducible rfl)); (intro K hK; (try simp only [Act.put, List.setIfInBounds_toArray, List.set_cons_zero, List.set_cons_succ]); refine hK _ _ ?_; clear hK K)) | (refine m_skip (by rfl) (by rfl) ?_; (intro K hK; (try simp only [Act.put, List.setIfInBounds_toArray, List.set_cons_zero, List.set_cons_succ]); refine hK _ _ ?_; clear hK K)))
        refine m_make (by rfl) (by rfl) ?_ ?_
        · intro wz hSw hdep R hRz
          obtain ⟨hSe, hSc⟩ := hSw
          (try simp only [List.forall_mem_cons, List.forall_mem_nil, and_true] at hSc)
          unfold does
          (go_simp; refine Calls.mono (ref23_CellM y _ _ _ _ _ _ cl hcl.out _ wz (ArrAt.up (ArrAt.mono (fun b _ h => hT1 b h) _ (E.out.arr 4 rfl)) hSe) hcy.out) ?_; rintro e wq ⟨so, sc, rfl, hI, hb⟩; exact ⟨_, rfl, hRz.out _ _ ⟨hb, so, sc, rfl, hI⟩⟩)
        intro v6 u6 x6 hG6 K hK
        have hF6 := hG6.fact
        (try dsimp only at hF6)
        obtain ⟨s6, c6, rfl, hI6⟩ := hF6
        (try simp only [Act.put, List.setIfInBounds_toArray, List.set_cons_zero, List.set_cons_succ]); refine hK _ _ ?_; clear hK K
        repeat (first | (refine m_plain (v := ?_) (by rfl) (by rfl) ?_ ?_; rotate_left; (intro wz hSw; obtain ⟨-, hSc⟩ := hSw; (try simp only [List.forall_mem_cons, List.forall_mem_nil, and_true] at hSc); go_simp; (first | done | with_reducible rfl)); (intro K hK; (try simp only [Act.put, List.setIfInBounds_toArray, List.set_cons_zero, List.set_cons_succ]); refine hK _ _ ?_; clear hK K)) | (refine m_skip (by rfl) (by rfl) ?_; (intro K hK; (try simp only [Act.put, List.setIfInBounds_toArray, List.set_cons_zero, List.set_cons_succ]); refine hK _ _ ?_; clear hK K)))
        refine m_make (by rfl) (by rfl) ?_ ?_
        · intro wz hSw hdep R hRz
          obtain ⟨hSe, hSc⟩ := hSw
          (try simp only [List.forall_mem_cons, List.forall_mem_nil, and_true] at hSc)
          unfold does
          (have hm : _ = some (Obj.cells #[.int .i64 (l.length : Int)] 3 (0, 0)) := made_blk (hdep 4 _ rfl (depB_sound (f := 4) (by kernel_rfl))); have hr := run_appI_lit wz 23 hm (fun _ => True) s6 c6 cl ((hI6.up (hdep 6 _ rfl (depB_sound (f := 4) (by kernel_rfl)))).mono fun _ _ _ => trivial) (by omega); rw [← hsn.out] at hr; obtain ⟨so, sc, w', hr, hb, hI, _⟩ := hr; refine does_append (.tmp 110) (.tmp 112) rfl rfl rfl hr ?_; exact hRz.out _ _ ⟨hb, so, sc, rfl, hI.mono fun _ _ _ => trivial⟩)
        intro v7 u7 x7 hG7 K hK
        have hF7 := hG7.fact
        (try dsimp only at hF7)
        obtain ⟨s7, c7, rfl, hI7⟩ := hF7
        (try simp only [Act.put, List.setIfInBounds_toArray, List.set_cons_zero, List.set_cons_succ]); refine hK _ _ ?_; clear hK K
        repeat (first | (refine m_plain (v := ?_) (by rfl) (by rfl) ?_ ?_; rotate_left; (intro wz hSw; obtain ⟨-, hSc⟩ := hSw; (try simp only [List.forall_mem_cons, List.forall_mem_nil, and_true] at hSc); go_simp; (first | done | with_reducible rfl)); (intro K hK; (try simp only [Act.put, List.setIfInBounds_toArray, List.set_cons_zero, List.set_cons_succ]); refine hK _ _ ?_; clear hK K)) | (refine m_skip (by rfl) (by rfl) ?_; (intro K hK; (try simp only [Act.put, List.setIfInBounds_toArray, List.set_cons_zero, List.set_cons_succ]); refine hK _ _ ?_; clear hK K)))
        refine m_make (by rfl) (by rfl) ?_ ?_
        · intro wz hSw hdep R hRz
          obtain ⟨hSe, hSc⟩ := hSw
          (try simp only [List.forall_mem_cons, List.forall_mem_nil, and_true] at hSc)
          unfold does
          (go_simp; refine Calls.mono (ref03_Shapes z.shape sn _ _ _ _ _ _ wz (ArrAt.shape (ArrAt.up (ArrAt.mono (fun b _ h => hT1 b h) _ (E.out.arr 3 rfl)) hSe)) (hI7.up (hdep 7 _ rfl (depB_sound (f := 4) (by kernel_rfl))))) ?_; rintro e wq ⟨rfl, n, rfl⟩; rw [heq.out]; exact ⟨_, rfl, hRz.out _ _ ⟨ext_drewN _ _, rfl⟩⟩)
        intro v8 u8 x8 hG8 K hK
        have hF8 := hG8.fact
        (try dsimp only at hF8)
        subst hF8
        (try simp only [Act.put, List.setIfInBounds_toArray, List.set_cons_zero, List.set_cons_succ]); refine hK _ _ ?_; clear hK K
        repeat (first | (refine m_plain (v := ?_) (by rfl) (by rfl) ?_ ?_; rotate_left; (intro wz hSw; obtain ⟨-, hSc⟩ := hSw; (try simp only [List.forall_mem_cons, List.forall_mem_nil, and_true] at hSc); go_simp; (first | done | with_reducible rfl)); (intro K hK; (try simp only [Act.put, List.setIfInBounds_toArray, List.set_cons_zero, List.set_cons_succ]); refine hK _ _ ?_; clear hK K)) | (refine m_skip (by rfl) (by rfl) ?_; (intro K hK; (try simp only [Act.put, List.setIfInBounds_toArray, List.set_cons_zero, List.set_cons_succ]); refine hK _ _ ?_; clear hK K)))
        refine m_nil ?_
        intro wf hSf hAf
        replace E := hid (E.out.up hSf.1)
        clear hSf hAf hG4 hG6 hG7 hG8 hI6 hI7 hT1 hT2 hT3
        go_wp2_with (go_at_call 10; refine (law23_example _).mono ?_; rintro e w9 ⟨rfl, hb9⟩)
        exact hR.out _ _ ⟨rfl, (E.out.up hb9).ext⟩
end Go.Proofs.Ytcoknjlkhefgpaa
