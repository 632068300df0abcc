/- The law ArrayConstructors: true. Conditions: the arguments are read; the tables of unicode/utf8 lie as their initialisers lay them. -/
import Derived.Test.YtdobnkbmjkcpoaaDoorLAW03A
import Derived.Test.YtdobnkbmjkcpoaaDoorRTXT
set_option linter.unusedVariables false
set_option linter.unusedSimpArgs false
namespace Go.Proofs.YtdobnkbmjkcpoaaDoor
open Go.RowKit Go.Sort
attribute [local go_sem ↓] run_max2 run_min2
attribute [local go_sem] eql_ints_nil eql_arrs_nil
set_option maxHeartbeats 4000000 in
theorem ref03_FewM (y : Arr) : ∀ (sy : Option Addr) (cy : Nat) (ny : Option Addr) (my : Nat) (iy : Option Addr) (jy : Nat) (m : Int) (S : Nat → Prop) (w : World), 0 ≤ m → m ≤ 3000 → ArrAt w S y sy ny iy → Calls Tryd.prog 43 #[.agg #[.int .i64 y.kind, .slice sy y.shape.length cy, .slice ny y.nums.length my, .slice iy y.items.length jy], .int .i64 m] w fun e w' => ∃ r : Int, e = .returned (.int .i64 r) ∧ r < m ∧ -70368744177664 ≤ r ∧ Ext w w' := by
  induction y using Arr.ind with
  | h y IH =>
    intro sy cy ny my iy jy m S w h1 h2 h
    have IH := hid IH
    refine calls_post fun R' hR => ?_
    have hsl := h.shape.1
    have hnl := h.nums.1
    have hil := h.len
    have h0 := hid h
    clear h
    go_enter Tryd.func43, Tryd.ntmps43
    go_upto_region 1 with (fail)
    generalize hEW : (w).alloc (.cells #[.int .i64 y.kind, .slice sy y.shape.length cy, .slice ny y.nums.length my, .slice iy y.items.length jy] 26) = W
    have E := hid (env1 w S hEW)
    clear hEW
    replace E := hid (E.out.arg h0.out)
    (try simp only [List.cons_append, List.nil_append, List.set_cons_zero, List.set_cons_succ] at E)
    obtain ⟨q00, q01, q02, q03⟩ := (E.out.hdr 0 rfl).all
    go_wp2_with fail
    clear q00 q01 q02 q03
    obtain ⟨m1, hm1⟩ : ∃ m1 : Int, m1 = m - 1 - (y.shape.length : Int) - (y.nums.length : Int) - (y.items.length : Int) := ⟨_, rfl⟩
    go_loopw [1, 5] (fun s i wr => ∃ (k : Nat) (n : Int), k ≤ y.items.length ∧ i = .int .i64 k ∧ s = .int .i64 n ∧ n < m ∧ -70368744177664 ≤ n ∧ Env w S wr [.obj w.heap.size (.cells #[.int .i64 y.kind, .slice sy y.shape.length cy, .slice ny y.nums.length my, .slice iy y.items.length jy] 26 (0, 0)), .arr y sy ny iy]) (fun _ i _ => y.items.length - (intOf i).toNat)
    case atStart => exact ⟨0, _, Nat.zero_le _, rfl, rfl, by omega, by omega, E.out⟩
    case round =>
      clear E
      obtain ⟨k, n, hk, rfl, rfl, n1, n2, E⟩ := hrel
      replace E := hid E
      obtain ⟨q00, q01, q02, q03⟩ := (E.out.hdr 0 rfl).all
      by_cases hlt : k < y.items.length
      · by_cases hn : 0 ≤ n
        · obtain ⟨b, off, sx, cx, nx, mx, ix, jx, hia, hS, hbl, e0, e1, e2, e3, hx⟩ := (E.out.arr 1 rfl).items.at hlt
          have hmem := hid (List.getElem_mem hlt)
          subst hia
          generalize y.items[k] = x at e0 e1 e2 e3 hx hmem
          have HX := hid hx
          clear hx
          go_wp2_with fail
          refine (IH.out x hmem.out _ cx _ mx _ jx n _ wr hn (by omega) HX.out).mono ?_
          rintro e w2 ⟨r, rfl, r1, r2, hb2⟩
          replace E := hid (E.out.up hb2)
          clear e0 e1 e2 e3 hb2
          clear q00 q01 q02 q03
          go_wp2_with fail
          go_roundw
          case rel => exact ⟨k + 1, _, by omega, by go_num, rfl, by omega, by omega, E.out⟩
          case measure => simp [intOf]; omega
        · go_wp2_with fail
          exact hR.out _ _ ⟨_, rfl, by omega, by omega, E.out.ext⟩
      · go_wp2_with fail
        exact hR.out _ _ ⟨_, rfl, by omega, by omega, E.out.ext⟩
set_option maxHeartbeats 4000000 in
theorem ref03_SmallList (l : List Arr) (ia : Option Addr) (ic : Nat) (S : Nat → Prop) (w : World) (h : ItemsAt w S ia 0 l) (hl : l.length ≤ 1759218604441) : Calls Tryd.prog 24 #[.slice ia l.length ic] w fun e w' => ∃ r : Bool, e = .returned (.bool r) ∧ (r = true → l.length ≤ 3000) ∧ Ext w w' := by
  refine calls_post fun R' hR => ?_
  have h0 := hid h
  clear h
  have E := hid ((Env.start w S).argL h0.out)
  go_enter Tryd.func24, Tryd.ntmps24
  go_wp2_with fail
  go_loopw [3, 4] (fun s i wr => ∃ (k : Nat) (n : Int), k ≤ l.length ∧ i = .int .i64 k ∧ s = .int .i64 n ∧ n ≤ 3000 - (k : Int) ∧ -70368744177664 ≤ n ∧ Env w S wr [.items l ia]) (fun _ i _ => l.length - (intOf i).toNat)
  case atStart => exact ⟨0, _, Nat.zero_le _, rfl, rfl, by omega, by omega, E.out⟩
  case round =>
    clear E
    obtain ⟨k, n, hk, rfl, rfl, n1, n2, E⟩ := hrel
    replace E := hid E
    by_cases hlt : k < l.length
    · by_cases hn : 0 ≤ n
      · obtain ⟨b, off, sx, cx, nx, mx, ix, jx, hia, hS, hbl, e0, e1, e2, e3, hx⟩ := (E.out.items 0 rfl).at hlt
        subst hia
        generalize l[k] = x at e0 e1 e2 e3 hx
        have HX := hid hx
        clear hx
        go_wp2_with fail
        refine (ref03_FewM x _ cx _ mx _ jx n _ wr hn (by omega) HX.out).mono ?_
        rintro e w2 ⟨r, rfl, r1, r2, hb2⟩
        replace E := hid (E.out.up hb2)
        clear e0 e1 e2 e3 hb2
        go_wp2_with fail
        go_roundw
        case rel => exact ⟨k + 1, _, by omega, by go_num, rfl, by omega, by omega, E.out⟩
        case measure => simp [intOf]; omega
      · go_wp2_with fail
        exact hR.out _ _ ⟨_, rfl, fun hh => (by first | (simp at hh; done) | (simp at hh; omega) | omega), E.out.ext⟩
    · go_wp2_with fail
      exact hR.out _ _ ⟨_, rfl, fun hh => (by first | (simp at hh; done) | (simp at hh; omega) | omega), E.out.ext⟩
set_option maxRecDepth 100000 in
set_option maxHeartbeats 8000000 in
theorem law03_ArrayConstructors (l : List Int) (lo : Option Addr) (lc : Nat) (s : ByteArray) (bs : List Arr) (ba : Option Addr) (bc : Nat) (S : Nat → Prop) (w : World) (g : IntsAt w S lo l) (h : ItemsAt w S ba 0 bs) (hbl : bs.length ≤ 1759218604441) (hT : Tabs w) :
    Calls Tryd.prog 6 #[.slice lo l.length lc, .string s, .slice ba bs.length bc] w fun e w' => e = .returned (.bool true) ∧ Below w.heap.size w w' := by
  refine calls_post fun R' hR => ?_
  have h0 := hid h
  have g0 := hid g
  have hsl := g.1
  clear h g
  have E := hid (((Env.start w S).argI g0.out).argL h0.out)
  go_enter Tryd.func6, Tryd.ntmps6
  by_cases c1 : 2000 < l.length
  · have c1' : (2000 : Int) < (l.length : Int) := by omega
    go_wp2_with (go_at_call 12; refine (law03_example _ (Utf8Tabs_below hT E.out.ext)).mono ?_; rintro e w9 ⟨rfl, hb9⟩)
    exact hR.out _ _ ⟨rfl, (E.out.up hb9).ext⟩
  have c1' : ¬ (2000 : Int) < (l.length : Int) := by omega
  by_cases c2 : 2000 < s.size
  · have c2' : (2000 : Int) < (s.size : Int) := by omega
    go_wp2_with (go_at_call 12; refine (law03_example _ (Utf8Tabs_below hT E.out.ext)).mono ?_; rintro e w9 ⟨rfl, hb9⟩)
    exact hR.out _ _ ⟨rfl, (E.out.up hb9).ext⟩
  have c2' : ¬ (2000 : Int) < (s.size : Int) := by omega
  go_wp2_with fail
  refine (ref03_SmallList bs _ _ _ _ (E.out.items 1 rfl) hbl).mono ?_
  rintro e w1 ⟨r1, rfl, hr1, hb⟩
  replace E := hid (E.out.up hb)
  clear hb
  cases r1 with
  | false =>
    go_wp2_with (go_at_call 12; refine (law03_example _ (Utf8Tabs_below hT E.out.ext)).mono ?_; rintro e w9 ⟨rfl, hb9⟩)
    exact hR.out _ _ ⟨rfl, (E.out.up hb9).ext⟩
  | true =>
  have hb3 : bs.length ≤ 3000 := hr1 rfl
  clear hr1
  go_upto_region 3 with fail
  go_wp2_with fail
  go_loopw [7] (fun v wr => ∃ i : Nat, i ≤ l.length ∧ v = .int .i64 i ∧ Env w S wr [.ints l lo, .items bs ba]) (fun v _ => l.length - (intOf v).toNat)
  case atStart => exact ⟨0, Nat.zero_le _, rfl, E.out⟩
  case round =>
    clear E
    obtain ⟨i, hi, rfl, E⟩ := hrel
    replace E := hid E
    by_cases hlt : i < l.length
    case pos =>
      obtain ⟨b1, o1, hlo, hbl1, hS1, hc⟩ := (E.out.ints 0 rfl).at hlt
      generalize l.getD i 0 = d at hc
      obtain ⟨r, hr⟩ : ∃ r, r = validS (numA d) := ⟨_, rfl⟩
      replace hr := hid hr
      have ua : Hid (sameB r r = true) := hid (sameB_self _)
      subst hlo
      have t0 : (0 : Int) ≤ (i : Int) := by omega
      have t1 : (i : Int) < (l.length : Int) := by omega
      go_upto_region 6 with fail
      obtain ⟨T, hT1, hT2, hT3⟩ := E.out.tw
      refine wp_region_mono (Sees wr [(⟨b1, o1 + i, none⟩, .int .i64 d)]) [4, 9, 10] (fun k v u u' => match k with | 4 => RetA u T (r) (.returned v) u' | 9 => RetA u T (r) (.returned v) u' | 10 => v = .bool true | _ => False) (fun _ _ h e => h.up e) (Sees.start (all_cons (hc) (all_nil))) (by kernel_rfl) (by kernel_rfl) ?_
      repeat (first | (refine m_plain (v := ?_) (by rfl) (by rfl) ?_ ?_; rotate_left; (intro wz hSw; obtain ⟨-, hSc⟩ := hSw; (try simp only [List.forall_mem_cons, List.forall_mem_nil, and_true] at hSc); go_simp; (first | done | with_reducible rfl)); (intro K hK; (try simp only [Act.put, List.setIfInBounds_toArray, List.set_cons_zero, List.set_cons_succ]); refine hK _ _ ?_; clear hK K)) | (refine m_skip (by rfl) (by rfl) ?_; (intro K hK; (try simp only [Act.put, List.setIfInBounds_toArray, List.set_cons_zero, List.set_cons_succ]); refine hK _ _ ?_; clear hK K)))
      refine m_make (by rfl) (by rfl) ?_ ?_
      · intro wz hSw hdep R hRz
        obtain ⟨hSe, hSc⟩ := hSw
        (try simp only [List.forall_mem_cons, List.forall_mem_nil, and_true] at hSc)
        unfold does
        (go_simp; refine Calls.mono (array_Scalar d wz) ?_; intro e wq h; obtain ⟨v, rfl, h1⟩ := retA_arm hT2 hSe (RetA.inr T (h.eq hr.out)); exact ⟨_, rfl, hRz.out _ _ h1⟩)
      intro v4 u4 x4 hG4 K hK
      have hF4 := hG4.fact
      (try dsimp only at hF4)
      obtain ⟨s4, c4, n4, m4, i4, j4, he, hA4, hb4⟩ := hF4
      injection he with he
      subst he
      (try simp only [Act.put, List.setIfInBounds_toArray, List.set_cons_zero, List.set_cons_succ]); refine hK _ _ ?_; clear hK K
      repeat (first | (refine m_plain (v := ?_) (by rfl) (by rfl) ?_ ?_; rotate_left; (intro wz hSw; obtain ⟨-, hSc⟩ := hSw; (try simp only [List.forall_mem_cons, List.forall_mem_nil, and_true] at hSc); go_simp; (first | done | with_reducible rfl)); (intro K hK; (try simp only [Act.put, List.setIfInBounds_toArray, List.set_cons_zero, List.set_cons_succ]); refine hK _ _ ?_; clear hK K)) | (refine m_skip (by rfl) (by rfl) ?_; (intro K hK; (try simp only [Act.put, List.setIfInBounds_toArray, List.set_cons_zero, List.set_cons_succ]); refine hK _ _ ?_; clear hK K)))
      refine m_make (by rfl) (by rfl) ?_ ?_
      · intro wz hSw hdep R hRz
        obtain ⟨hSe, hSc⟩ := hSw
        (try simp only [List.forall_mem_cons, List.forall_mem_nil, and_true] at hSc)
        unfold does
        (go_simp; refine Calls.mono (ref03_Scalar d wz) ?_; intro e wq h; obtain ⟨v, rfl, h1⟩ := retA_arm hT2 hSe (RetA.inr T (h.eq hr.out)); exact ⟨_, rfl, hRz.out _ _ h1⟩)
      intro v9 u9 x9 hG9 K hK
      have hF9 := hG9.fact
      (try dsimp only at hF9)
      obtain ⟨s9, c9, n9, m9, i9, j9, he, hA9, hb9⟩ := hF9
      injection he with he
      subst he
      (try simp only [Act.put, List.setIfInBounds_toArray, List.set_cons_zero, List.set_cons_succ]); refine hK _ _ ?_; clear hK K
      repeat (first | (refine m_plain (v := ?_) (by rfl) (by rfl) ?_ ?_; rotate_left; (intro wz hSw; obtain ⟨-, hSc⟩ := hSw; (try simp only [List.forall_mem_cons, List.forall_mem_nil, and_true] at hSc); go_simp; (first | done | with_reducible rfl)); (intro K hK; (try simp only [Act.put, List.setIfInBounds_toArray, List.set_cons_zero, List.set_cons_succ]); refine hK _ _ ?_; clear hK K)) | (refine m_skip (by rfl) (by rfl) ?_; (intro K hK; (try simp only [Act.put, List.setIfInBounds_toArray, List.set_cons_zero, List.set_cons_succ]); refine hK _ _ ?_; clear hK K)))
      refine m_make (by rfl) (by rfl) ?_ ?_
      · intro wz hSw hdep R hRz
        obtain ⟨hSe, hSc⟩ := hSw
        (try simp only [List.forall_mem_cons, List.forall_mem_nil, and_true] at hSc)
        unfold does
        (go_simp; refine Calls.mono (ref03_Same r r _ _ _ _ _ _ _ _ _ _ _ _ _ _ wz (hA4.up (hdep 4 _ rfl (depB_sound (f := 4) (by kernel_rfl)))) (hA9.up (hdep 9 _ rfl (depB_sound (f := 4) (by kernel_rfl))))) ?_; rintro e wq ⟨rfl, hqb⟩; rw [ua.out]; exact ⟨_, rfl, hRz.out _ _ ⟨hqb, rfl⟩⟩)
      intro v10 u10 x10 hG10 K hK
      have hF10 := hG10.fact
      (try dsimp only at hF10)
      subst hF10
      (try simp only [Act.put, List.setIfInBounds_toArray, List.set_cons_zero, List.set_cons_succ]); refine hK _ _ ?_; clear hK K
      repeat (first | (refine m_plain (v := ?_) (by rfl) (by rfl) ?_ ?_; rotate_left; (intro wz hSw; obtain ⟨-, hSc⟩ := hSw; (try simp only [List.forall_mem_cons, List.forall_mem_nil, and_true] at hSc); go_simp; (first | done | with_reducible rfl)); (intro K hK; (try simp only [Act.put, List.setIfInBounds_toArray, List.set_cons_zero, List.set_cons_succ]); refine hK _ _ ?_; clear hK K)) | (refine m_skip (by rfl) (by rfl) ?_; (intro K hK; (try simp only [Act.put, List.setIfInBounds_toArray, List.set_cons_zero, List.set_cons_succ]); refine hK _ _ ?_; clear hK K)))
      refine m_nil ?_
      intro wf hSf hAf
      replace E := hid (E.out.up hSf.1)
      clear hSf hAf hc t0 t1
      go_wp2_with fail
      go_roundw
      case rel => exact ⟨i + 1, by omega, by go_num, E.out⟩
      case measure => simp [intOf]; omega
    case neg =>
      have t1 : ¬ (i : Int) < (l.length : Int) := by omega
      go_upto_region 8 with fail
      go_wp2_with fail
      generalize wr = w2 at E ⊢
      clear t1 hi hlt
      go_loopw [8] (fun v wr => ∃ i : Nat, i ≤ bs.length ∧ v = .int .i64 i ∧ Env w S wr [.ints l lo, .items bs ba]) (fun v _ => bs.length - (intOf v).toNat)
      case atStart => exact ⟨0, Nat.zero_le _, rfl, E.out⟩
      case round =>
        clear E
        obtain ⟨i, hi, rfl, E⟩ := hrel
        replace E := hid E
        by_cases hlt : i < bs.length
        case pos =>
          obtain ⟨b1, o1, sz, cz, nz, mz, iz, jz, hia, hS1, hbl1, e0, e1, e2, e3, hz⟩ := (E.out.items 1 rfl).at hlt
          generalize bs[i] = z at e0 e1 e2 e3 hz
          replace E := hid (E.out.addArr hz (fun _ _ h => h))
          (try simp only [List.cons_append, List.nil_append, List.set_cons_zero, List.set_cons_succ] at E)
          clear hz
          obtain ⟨r, hr⟩ : ∃ r, r = validS (boxA z) := ⟨_, rfl⟩
          replace hr := hid hr
          have ua : Hid (sameB r r = true) := hid (sameB_self _)
          subst hia
          have t0 : (0 : Int) ≤ (i : Int) := by omega
          have t1 : (i : Int) < (bs.length : Int) := by omega
          go_upto_region 11 with fail
          obtain ⟨T, hT1, hT2, hT3⟩ := E.out.tw
          refine wp_region_mono (Sees wr [(⟨b1, o1 + i * 4, none⟩, .int .i64 z.kind), (⟨b1, o1 + i * 4 + 1, none⟩, .slice sz z.shape.length cz), (⟨b1, o1 + i * 4 + 2, none⟩, .slice nz z.nums.length mz), (⟨b1, o1 + i * 4 + 3, none⟩, .slice iz z.items.length jz)]) [4, 9, 10] (fun k v u u' => match k with | 4 => RetA u T (r) (.returned v) u' | 9 => RetA u T (r) (.returned v) u' | 10 => v = .bool true | _ => False) (fun _ _ h e => h.up e) (Sees.start (all_cons (e0) (all_cons (e1) (all_cons (e2) (all_cons (e3) (all_nil)))))) (by kernel_rfl) (by kernel_rfl) ?_
          repeat (first | (refine m_plain (v := ?_) (by rfl) (by rfl) ?_ ?_; rotate_left; (intro wz hSw; obtain ⟨-, hSc⟩ := hSw; (try simp only [List.forall_mem_cons, List.forall_mem_nil, and_true] at hSc); go_simp; (first | done | with_reducible rfl)); (intro K hK; (try simp only [Act.put, List.setIfInBounds_toArray, List.set_cons_zero, List.set_cons_succ]); refine hK _ _ ?_; clear hK K)) | (refine m_skip (by rfl) (by rfl) ?_; (intro K hK; (try simp only [Act.put, List.setIfInBounds_toArray, List.set_cons_zero, List.set_cons_succ]); refine hK _ _ ?_; clear hK K)))
          refine m_make (by rfl) (by rfl) ?_ ?_
          · intro wz hSw hdep R hRz
            obtain ⟨hSe, hSc⟩ := hSw
            (try simp only [List.forall_mem_cons, List.forall_mem_nil, and_true] at hSc)
            unfold does
            (go_simp; refine Calls.mono (array_Box z _ _ _ _ _ _ _ wz (ArrAt.up (ArrAt.mono (fun b _ h => hT1 b h) _ (E.out.arr 2 rfl)) hSe)) ?_; intro e wq h; obtain ⟨v, rfl, h1⟩ := retA_arm hT2 hSe (h.eq hr.out); exact ⟨_, rfl, hRz.out _ _ h1⟩)
          intro v4 u4 x4 hG4 K hK
          have hF4 := hG4.fact
          (try dsimp only at hF4)
          obtain ⟨s4, c4, n4, m4, i4, j4, he, hA4, hb4⟩ := hF4
          injection he with he
          subst he
          (try simp only [Act.put, List.setIfInBounds_toArray, List.set_cons_zero, List.set_cons_succ]); refine hK _ _ ?_; clear hK K
          repeat (first | (refine m_plain (v := ?_) (by rfl) (by rfl) ?_ ?_; rotate_left; (intro wz hSw; obtain ⟨-, hSc⟩ := hSw; (try simp only [List.forall_mem_cons, List.forall_mem_nil, and_true] at hSc); go_simp; (first | done | with_reducible rfl)); (intro K hK; (try simp only [Act.put, List.setIfInBounds_toArray, List.set_cons_zero, List.set_cons_succ]); refine hK _ _ ?_; clear hK K)) | (refine m_skip (by rfl) (by rfl) ?_; (intro K hK; (try simp only [Act.put, List.setIfInBounds_toArray, List.set_cons_zero, List.set_cons_succ]); refine hK _ _ ?_; clear hK K)))
          refine m_make (by rfl) (by rfl) ?_ ?_
          · intro wz hSw hdep R hRz
            obtain ⟨hSe, hSc⟩ := hSw
            (try simp only [List.forall_mem_cons, List.forall_mem_nil, and_true] at hSc)
            unfold does
            (go_simp; refine Calls.mono (ref03_Box z _ _ _ _ _ _ _ wz (ArrAt.up (ArrAt.mono (fun b _ h => hT1 b h) _ (E.out.arr 2 rfl)) hSe)) ?_; intro e wq h; obtain ⟨v, rfl, h1⟩ := retA_arm hT2 hSe (h.eq hr.out); exact ⟨_, rfl, hRz.out _ _ h1⟩)
          intro v9 u9 x9 hG9 K hK
          have hF9 := hG9.fact
          (try dsimp only at hF9)
          obtain ⟨s9, c9, n9, m9, i9, j9, he, hA9, hb9⟩ := hF9
          injection he with he
          subst he
          (try simp only [Act.put, List.setIfInBounds_toArray, List.set_cons_zero, List.set_cons_succ]); refine hK _ _ ?_; clear hK K
          repeat (first | (refine m_plain (v := ?_) (by rfl) (by rfl) ?_ ?_; rotate_left; (intro wz hSw; obtain ⟨-, hSc⟩ := hSw; (try simp only [List.forall_mem_cons, List.forall_mem_nil, and_true] at hSc); go_simp; (first | done | with_reducible rfl)); (intro K hK; (try simp only [Act.put, List.setIfInBounds_toArray, List.set_cons_zero, List.set_cons_succ]); refine hK _ _ ?_; clear hK K)) | (refine m_skip (by rfl) (by rfl) ?_; (intro K hK; (try simp only [Act.put, List.setIfInBounds_toArray, List.set_cons_zero, List.set_cons_succ]); refine hK _ _ ?_; clear hK K)))
          refine m_make (by rfl) (by rfl) ?_ ?_
          · intro wz hSw hdep R hRz
            obtain ⟨hSe, hSc⟩ := hSw
            (try simp only [List.forall_mem_cons, List.forall_mem_nil, and_true] at hSc)
            unfold does
            (go_simp; refine Calls.mono (ref03_Same r r _ _ _ _ _ _ _ _ _ _ _ _ _ _ wz (hA4.up (hdep 4 _ rfl (depB_sound (f := 4) (by kernel_rfl)))) (hA9.up (hdep 9 _ rfl (depB_sound (f := 4) (by kernel_rfl))))) ?_; rintro e wq ⟨rfl, hqb⟩; rw [ua.out]; exact ⟨_, rfl, hRz.out _ _ ⟨hqb, rfl⟩⟩)
          intro v10 u10 x10 hG10 K hK
          have hF10 := hG10.fact
          (try dsimp only at hF10)
          subst hF10
          (try simp only [Act.put, List.setIfInBounds_toArray, List.set_cons_zero, List.set_cons_succ]); refine hK _ _ ?_; clear hK K
          repeat (first | (refine m_plain (v := ?_) (by rfl) (by rfl) ?_ ?_; rotate_left; (intro wz hSw; obtain ⟨-, hSc⟩ := hSw; (try simp only [List.forall_mem_cons, List.forall_mem_nil, and_true] at hSc); go_simp; (first | done | with_reducible rfl)); (intro K hK; (try simp only [Act.put, List.setIfInBounds_toArray, List.set_cons_zero, List.set_cons_succ]); refine hK _ _ ?_; clear hK K)) | (refine m_skip (by rfl) (by rfl) ?_; (intro K hK; (try simp only [Act.put, List.setIfInBounds_toArray, List.set_cons_zero, List.set_cons_succ]); refine hK _ _ ?_; clear hK K)))
          refine m_nil ?_
          intro wf hSf hAf
          replace E := hid (E.out.up hSf.1)
          clear hSf hAf t0 t1 e0 e1 e2 e3
          go_wp2_with fail
          go_roundw
          case rel => exact ⟨i + 1, by omega, by go_num, E.out.sub (List.Sublist.cons_cons _ (List.Sublist.cons_cons _ (List.nil_sublist _)))⟩
          case measure => simp [intOf]; omega
        case neg =>
          have t1 : ¬ (i : Int) < (bs.length : Int) := by omega
          go_upto_region 13 with fail
          clear t1 hi hlt
          obtain ⟨r1, hr1⟩ : ∃ r, r = validS (vctA l) := ⟨_, rfl⟩
          obtain ⟨r2, hr2⟩ : ∃ r, r = txtS s := ⟨_, rfl⟩
          obtain ⟨r3, hr3⟩ : ∃ r, r = validS (bxlA bs) := ⟨_, rfl⟩
          replace hr1 := hid hr1
          replace hr2 := hid hr2
          replace hr3 := hid hr3
          go_wp2_with fail
          refine (array_Vector l _ _ _ _ (E.out.ints 0 rfl)).mono ?_
          intro e w3 h
          obtain ⟨s101, c101, n101, m101, i101, j101, rfl, hA, hb⟩ := h.eq hr1.out
          replace E := hid ((E.out.up hb).addArr hA (fun b _ hq => E.out.res (Ext.refl _) hq))
          clear hA hb h
          (try simp only [List.cons_append, List.nil_append, List.set_cons_zero, List.set_cons_succ] at E)
          go_wp2_with fail
          refine (ref03_Vector l _ _ _ _ (E.out.ints 0 rfl)).mono ?_
          intro e w4 h
          obtain ⟨s102, c102, n102, m102, i102, j102, rfl, hA, hb⟩ := h.eq hr1.out
          replace E := hid ((E.out.up hb).addArr hA (fun b _ hq => E.out.res (Ext.refl _) hq))
          clear hA hb h
          (try simp only [List.cons_append, List.nil_append, List.set_cons_zero, List.set_cons_succ] at E)
          go_wp2_with fail
          refine (ref03_Same r1 r1 _ _ _ _ _ _ _ _ _ _ _ _ _ _ _ (E.out.arr 2 rfl) (E.out.arr 3 rfl)).mono ?_
          rintro e w5 ⟨rfl, hb⟩
          replace E := hid (E.out.up hb)
          clear hb
          rw [show sameB r1 r1 = true from sameB_self _]
          go_wp2_with fail
          refine (array_Text s _ (by omega) (Utf8Tabs_below hT E.out.ext)).mono ?_
          intro e w6 h
          obtain ⟨s103, c103, n103, m103, i103, j103, rfl, hA, hb⟩ := h.eq hr2.out
          replace E := hid ((E.out.up hb).addArr hA (fun b _ hq => E.out.fresh (Ext.refl _) hq))
          clear hA hb h
          (try simp only [List.cons_append, List.nil_append, List.set_cons_zero, List.set_cons_succ] at E)
          go_wp2_with fail
          refine (ref03_Text s _ (by omega)).mono ?_
          intro e w7 h
          obtain ⟨s104, c104, n104, m104, i104, j104, rfl, hA, hb⟩ := h.eq hr2.out
          replace E := hid ((E.out.up hb).addArr hA (fun b _ hq => E.out.fresh (Ext.refl _) hq))
          clear hA hb h
          (try simp only [List.cons_append, List.nil_append, List.set_cons_zero, List.set_cons_succ] at E)
          go_wp2_with fail
          refine (ref03_Same r2 r2 _ _ _ _ _ _ _ _ _ _ _ _ _ _ _ (E.out.arr 4 rfl) (E.out.arr 5 rfl)).mono ?_
          rintro e w8 ⟨rfl, hb⟩
          replace E := hid (E.out.up hb)
          clear hb
          rw [show sameB r2 r2 = true from sameB_self _]
          go_wp2_with fail
          refine (array_Boxes bs _ _ _ _ (E.out.items 1 rfl) (by omega)).mono ?_
          intro e w10 h
          obtain ⟨s105, c105, n105, m105, i105, j105, rfl, hA, hb⟩ := h.eq hr3.out
          replace E := hid ((E.out.up hb).addArr hA (fun b _ hq => E.out.res (Ext.refl _) hq))
          clear hA hb h
          (try simp only [List.cons_append, List.nil_append, List.set_cons_zero, List.set_cons_succ] at E)
          go_wp2_with fail
          refine (ref03_Boxes bs _ _ _ _ (E.out.items 1 rfl) (by omega)).mono ?_
          intro e w11 h
          obtain ⟨s106, c106, n106, m106, i106, j106, rfl, hA, hb⟩ := h.eq hr3.out
          replace E := hid ((E.out.up hb).addArr hA (fun b _ hq => E.out.res (Ext.refl _) hq))
          clear hA hb h
          (try simp only [List.cons_append, List.nil_append, List.set_cons_zero, List.set_cons_succ] at E)
          go_wp2_with fail
          refine (ref03_Same r3 r3 _ _ _ _ _ _ _ _ _ _ _ _ _ _ _ (E.out.arr 6 rfl) (E.out.arr 7 rfl)).mono ?_
          rintro e w12 ⟨rfl, hb⟩
          replace E := hid (E.out.up hb)
          clear hb
          rw [show sameB r3 r3 = true from sameB_self _]
          go_wp2_with (go_at_call 12; refine (law03_example _ (Utf8Tabs_below hT E.out.ext)).mono ?_; rintro e w9 ⟨rfl, hb9⟩)
          exact hR.out _ _ ⟨rfl, (E.out.up hb9).ext⟩
end Go.Proofs.YtdobnkbmjkcpoaaDoor
