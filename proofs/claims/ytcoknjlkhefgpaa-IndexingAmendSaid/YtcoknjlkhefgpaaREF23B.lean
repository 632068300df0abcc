/- ref23.chosen: contract: the rows of an array in progress grow. Conditions: the arrays are read; the indices are within the axes; the rows are the call's own. -/
import Derived.Test.YtcoknjlkhefgpaaREF23A
import Derived.Test.YtcoknjlkhefgpaaP23C
import Derived.Test.YtcoknjlkhefgpaaCUT
import Derived.Test.YtcoknjlkhefgpaaPCELL
import Derived.Test.YtcoknjlkhefgpaaOF
set_option linter.unusedVariables false
set_option linter.unusedSimpArgs false
namespace Go.Proofs.Ytcoknjlkhefgpaa
open Go.RowKit Go.Sort
attribute [local go_sem ↓] run_max2 run_min2
attribute [local go_sem] eql_ints_nil eql_arrs_nil
set_option maxRecDepth 100000 in
set_option maxHeartbeats 8000000 in
theorem ref23_chosen (k : Int) (sa : Option Addr) (sl sc : Nat) (L : List Arr) (lo : Option Addr) (lc : Nat) (y : Arr) (sy : Option Addr) (cy : Nat) (ny : Option Addr) (my : Nat) (iy : Option Addr) (jy : Nat) (hk : k = y.kind) (F : Flat y) (hs : shapeB y.shape = true) (hc : y.shape.length ≤ cy) (hL : L.length ≤ 1000000) (hz6 : szA y ≤ 65536) : ∀ (s : List Int) (ax t : Nat) (axi ti : Int) (na : Option Addr) (nc : Nat) (nums : List Int) (ia : Option Addr) (ic : Nat) (items : List Arr) (w0 : World) (S : Nat → Prop) (w : World) (M : List Fact),
    axi = (ax : Int) → ti = (t : Int) → s = y.shape.drop ax → ax + s.length = y.shape.length → Env w0 S w (.rowI na nc nums :: .rowA ia ic items :: M) → ArrAt w (Tst w0 S (.rowI na nc nums :: .rowA ia ic items :: M)) y sy ny iy → ItemsAt w (Tst w0 S (.rowI na nc nums :: .rowA ia ic items :: M)) lo 0 L →
    (t : Int) + cnt s ≤ (szA y : Int) → chsBad (L.drop ax) s = false → nums.length + (offR s ((L.drop ax).map Arr.nums) t).length ≤ 900000 → items.length + (offR s ((L.drop ax).map Arr.nums) t).length ≤ 900000 →
    Calls Try.prog 64 #[.slice lo L.length lc, .agg #[.int .i64 y.kind, .slice sy y.shape.length cy, .slice ny y.nums.length my, .slice iy y.items.length jy], .int .i64 axi, .int .i64 ti, .agg #[.int .i64 k, .slice sa sl sc, .slice na (nums).length nc, .slice ia (items).length ic]] w fun en w' => ∃ na' nc' ia' ic', en = .returned (.agg #[.int .i64 k, .slice sa sl sc, .slice na' (nums ++ gatL y.nums (offR s ((L.drop ax).map Arr.nums) t)).length nc', .slice ia' (items ++ gatL y.items (offR s ((L.drop ax).map Arr.nums) t)).length ic']) ∧ Env w0 S w' (.rowI na' nc' (nums ++ gatL y.nums (offR s ((L.drop ax).map Arr.nums) t)) :: .rowA ia' ic' (items ++ gatL y.items (offR s ((L.drop ax).map Arr.nums) t)) :: M) := by
  intro s
  induction s with
  | nil =>
    intro ax t axi ti na nc nums ia ic items w0 S w M hai hti hsd hax E h g hb hbad hn hi
    subst hai hti
    refine calls_post fun R' hR => ?_
    replace E := hid ((E.addArr h (fun _ _ q => q)).front.addItems g (fun _ _ q => q)).front
    clear h g
    have hsl : y.shape.length ≤ 8 := (shapeB_iff.1 hs).1
    simp only [List.length_nil, Nat.add_zero] at hax
    have eb : ((ax : Int) == (y.shape.length : Int)) = true := by simp [hax]
    have ht : t < szA y := by rw [cnt_nil] at hb; omega
    have hN : putN k nums (atS y (t : Int)) = nums ++ gatL y.nums (offR [] ((L.drop ax).map Arr.nums) t) := by rw [putN_cell F hk ht]; simp only [offR, gatL_one]
    have hI : putI k items (atS y (t : Int)) = items ++ gatL y.items (offR [] ((L.drop ax).map Arr.nums) t) := by rw [putI_cell F hk ht]; simp only [offR, gatL_one]
    have hbN : nums.length ≤ 900000 := by omega
    have hbI : items.length ≤ 900000 := by omega
    rw [← hN, ← hI] at hR
    clear hN hI hsd hn hi hbad hb
    replace hax := hid hax
    replace F := hid F
    replace hs := hid hs
    replace hk := hid hk
    go_enter Try.func64, Try.ntmps64
    go_upto_region 1 with (fail)
    generalize hEW : (((w).alloc (.cells #[.int .i64 y.kind, .slice sy y.shape.length cy, .slice ny y.nums.length my, .slice iy y.items.length jy] 26)).alloc (.cells #[.int .i64 k, .slice sa sl sc, .slice na nums.length nc, .slice ia items.length ic] 26)).alloc (.cells #[.int .i64 0, .slice none 0 0, .slice none 0 0, .slice none 0 0] 26) = W
    replace E := hid (envF3 E.out hEW)
    clear hEW
    (try simp only [List.cons_append, List.nil_append, List.set_cons_zero, List.set_cons_succ] at E)
    replace E := hid (E.out.pick 6 rfl)
    simp only [List.eraseIdx_cons_succ, List.eraseIdx_cons_zero] at E
    replace E := hid (E.out.pick 6 rfl)
    simp only [List.eraseIdx_cons_succ, List.eraseIdx_cons_zero] at E
    obtain ⟨q20, q21, q22, q23⟩ := (E.out.hdr 2 rfl).all
    go_upto_region 2 with (fail)
    clear q20 q21 q22 q23
    obtain ⟨q20, q21, q22, q23⟩ := (E.out.hdr 2 rfl).all
    obtain ⟨q30, q31, q32, q33⟩ := (E.out.hdr 3 rfl).all
    obtain ⟨T, hT1, hT2, hT3⟩ := E.out.tw
    refine wp_region_mono_tail 4 (Sees W [(⟨w.heap.size + 1, 0, none⟩, .int .i64 k), (⟨w.heap.size + 1, 1, none⟩, .slice sa sl sc), (⟨w.heap.size + 1, 2, none⟩, .slice na nums.length nc), (⟨w.heap.size + 1, 3, none⟩, .slice ia items.length ic), (⟨(w.heap.size), 0, none⟩, .int .i64 y.kind), (⟨(w.heap.size), 1, none⟩, .slice sy y.shape.length cy), (⟨(w.heap.size), 2, none⟩, .slice ny y.nums.length my), (⟨(w.heap.size), 3, none⟩, .slice iy y.items.length jy)]) [3] (fun k v u u' => match k with | 3 => RetA u T (atS y t) (.returned v) u' | _ => False) (fun _ _ h e => h.up e) (Sees.start (all_cons (q30) (all_cons (q31) (all_cons (q32) (all_cons (q33) (all_cons ((E.out.hdr 2 rfl).c0) (all_cons ((E.out.hdr 2 rfl).c1) (all_cons ((E.out.hdr 2 rfl).c2) (all_cons ((E.out.hdr 2 rfl).c3) (all_nil)))))))))) (by kernel_rfl) (by kernel_rfl) ?_
    simp only [List.take_succ_cons, List.take_zero, List.drop_succ_cons, List.drop_zero]
    repeat (first | (refine m_plain (v := ?_) (by rfl) (by rfl) ?_ ?_; rotate_left; (intro wz hSw; obtain ⟨-, hSc⟩ := hSw; (try simp only [List.forall_mem_cons, List.forall_mem_nil, and_true] at hSc); go_simp; (first | done | with_reducible rfl)); (intro K hK; (try simp only [Act.put, List.setIfInBounds_toArray, List.set_cons_zero, List.set_cons_succ]); refine hK _ _ ?_; clear hK K)) | (refine m_skip (by rfl) (by rfl) ?_; (intro K hK; (try simp only [Act.put, List.setIfInBounds_toArray, List.set_cons_zero, List.set_cons_succ]); refine hK _ _ ?_; clear hK K)))
    refine m_make (by rfl) (by rfl) ?_ ?_
    · intro wz hSw hdep R hRz
      obtain ⟨hSe, hSc⟩ := hSw
      (try simp only [List.forall_mem_cons, List.forall_mem_nil, and_true] at hSc)
      unfold does
      (go_simp; refine Calls.mono (ref03_At y _ _ _ _ _ _ (t : Int) _ wz (ArrAt.up (ArrAt.mono (fun b _ h => hT1 b h) _ (E.out.arr 6 rfl)) hSe)) ?_; intro e wq h; obtain ⟨v, rfl, h1⟩ := retA_arm hT2 hSe (h.eq rfl); exact ⟨_, rfl, hRz.out _ _ h1⟩)
    intro v3 u3 x3 hG3 K hK
    have hF3 := hG3.fact
    (try dsimp only at hF3)
    obtain ⟨s3, c3, n3, m3, i3, j3, he, hA3, hb3⟩ := hF3
    injection he with he
    subst he
    (try simp only [Act.put, List.setIfInBounds_toArray, List.set_cons_zero, List.set_cons_succ]); refine hK _ _ ?_; clear hK K
    repeat (first | (refine m_plain (v := ?_) (by rfl) (by rfl) ?_ ?_; rotate_left; (intro wz hSw; obtain ⟨-, hSc⟩ := hSw; (try simp only [List.forall_mem_cons, List.forall_mem_nil, and_true] at hSc); go_simp; (first | done | with_reducible rfl)); (intro K hK; (try simp only [Act.put, List.setIfInBounds_toArray, List.set_cons_zero, List.set_cons_succ]); refine hK _ _ ?_; clear hK K)) | (refine m_skip (by rfl) (by rfl) ?_; (intro K hK; (try simp only [Act.put, List.setIfInBounds_toArray, List.set_cons_zero, List.set_cons_succ]); refine hK _ _ ?_; clear hK K)))
    refine m_nil ?_
    intro wf hSf hAf
    have hAt := hid (ArrAt.mono (fun b _ q => hT3 b q) _ (hA3.up (hAf 3 _ rfl)))
    replace E := hid (E.out.up hSf.1)
    clear hSf hAf hG3 hA3 hb3 hT1 hT2 hT3
    clear q20 q21 q22 q23 q30 q31 q32 q33
    have hl := at_len y (t : Int)
    go_wp2_with fail
    refine (ref03_Put k sa sl sc _ _ _ _ _ _ (atS y (t : Int)) _ _ _ _ _ _ w0 S wf _ E.out hAt.out (by omega) (by omega)).mono ?_
    rintro e w9 ⟨na2, nc2, ia2, ic2, rfl, E1⟩
    clear E
    have E := hid E1
    clear E1
    generalize putN k nums (atS y (t : Int)) = nn2 at E hR ⊢
    generalize putI k items (atS y (t : Int)) = ii2 at E hR ⊢
    go_wp2_with (refine wpl_store4 rfl (.tmp 10) (.tmp 23) rfl _ rfl rfl (E.out.hdr 4 rfl) ?_; intro V2 HV CV; replace E := hid (E.out.chg 4 rfl CV HV); (try simp only [List.cons_append, List.nil_append, List.set_cons_zero, List.set_cons_succ] at E))
    refine bodyPost_ret (end_arr rfl HV rfl) rfl (hR.out _ _ ⟨na2, nc2, ia2, ic2, rfl, ?_⟩)
    exact E.out.sub ((((((List.Sublist.refl _).cons _).cons _).cons _).cons _).cons _ |>.cons_cons _ |>.cons_cons _)
  | cons d s IH =>
    intro ax t axi ti na nc nums ia ic items w0 S w M hai hti hsd hax E h g hb hbad hn hi
    subst hai hti
    refine calls_post fun R' hR => ?_
    have hlt : ax < y.shape.length := by simp only [List.length_cons] at hax; omega
    have hsl : y.shape.length ≤ 8 := (shapeB_iff.1 hs).1
    rw [drop_getD hlt] at hsd
    injection hsd with hd1 hs1
    have hd : 0 ≤ d := (shapeB_iff.1 hs).2.1 d (by rw [hd1]; exact getD_mem hlt)
    obtain ⟨dn, hdn⟩ : ∃ n : Nat, d = (n : Int) := ⟨d.toNat, by omega⟩
    subst hdn
    have hd6 : dn ≤ 65536 := by
      have h1 := prodNZ_ge_mem (shapeB_iff.1 hs).2.1 (getD_mem hlt)
      have h2 := (shapeB_iff.1 hs).2.2
      rw [← hd1] at h1
      omega
    have hsS : shapeB s = true := by rw [hs1]; exact shapeB_drop hs (ax + 1)
    have hcs := cnt_le hsS
    obtain ⟨c, hcc⟩ : ∃ c : Nat, cnt s = (c : Int) := ⟨(cnt s).toNat, by omega⟩
    have hax2 : ax + 1 + s.length = y.shape.length := by simp only [List.length_cons] at hax; omega
    rw [cnt_cons1, hcc] at hb
    have hdr : ((L.drop ax).map Arr.nums).drop 1 = (L.drop (ax + 1)).map Arr.nums := by simp [List.map_drop, List.drop_drop]
    have hbad2 := chsBad_tl hbad
    rw [List.drop_drop] at hbad2
    have hin := hid (fun i q => chL_in hbad hd (i := i) q)
    rw [offR_cons, hdr, hcc] at hn hi hR
    obtain ⟨Q, hQ⟩ : ∃ Q, Q = chL ((L.drop ax).map Arr.nums) (dn : Int) := ⟨_, rfl⟩
    obtain ⟨f, hf⟩ : ∃ f : Int → List Int, f = fun i => offR s ((L.drop (ax + 1)).map Arr.nums) ((t : Int) + i * (c : Int)) := ⟨_, rfl⟩
    rw [← hQ] at hn hi hR hin
    rw [← hf] at hn hi hR
    have hst : Hid (∀ j, j < Q.length → ∀ iv : Nat, Q.getD j 0 = (iv : Int) → t + iv * c + c ≤ szA y ∧ (Q.take (j + 1)).flatMap f = (Q.take j).flatMap f ++ offR s ((L.drop (ax + 1)).map Arr.nums) ((t + iv * c : Nat) : Int) ∧ nums.length + ((Q.take j).flatMap f).length + (offR s ((L.drop (ax + 1)).map Arr.nums) ((t + iv * c : Nat) : Int)).length ≤ 900000 ∧ items.length + ((Q.take j).flatMap f).length + (offR s ((L.drop (ax + 1)).map Arr.nums) ((t + iv * c : Nat) : Int)).length ≤ 900000) := hid fun j hj iv hiv => by
      have h1 := cell_bd (hin.out _ (hiv ▸ getD_mem hj)) hb
      have h2 : (Q.take (j + 1)).flatMap f = (Q.take j).flatMap f ++ offR s ((L.drop (ax + 1)).map Arr.nums) ((t + iv * c : Nat) : Int) := by
        rw [flat_step hj, hiv, hf, Int.natCast_add, Int.natCast_mul]
      have h3 := flat_take (l := Q) (f := f) (k := j + 1)
      rw [h2, List.length_append] at h3
      refine ⟨?_, h2, by omega, by omega⟩
      have h4 := h1.1
      rw [← Int.natCast_mul] at h4
      omega
    have hnn : Hid (∀ j, j < Q.length → ∃ iv : Nat, Q.getD j 0 = (iv : Int)) := hid fun j hj => ⟨(Q.getD j 0).toNat, by have := (hin.out _ (getD_mem hj)).1; omega⟩
    replace E := hid ((E.addArr h (fun _ _ q => q)).front.addItems g (fun _ _ q => q)).front
    have eb : ((ax : Int) == (y.shape.length : Int)) = false := by simp; omega
    clear h g
    replace hQ := hid hQ
    replace hf := hid hf
    replace hin := hid hin
    replace hb := hid hb
    replace hn := hid hn
    replace hi := hid hi
    replace hdr := hid hdr
    replace hbad := hid hbad
    replace hbad2 := hid hbad2
    replace hcc := hid hcc
    replace hcs := hid hcs
    replace hsS := hid hsS
    replace hd1 := hid hd1
    replace hs1 := hid hs1
    replace hax := hid hax
    replace hax2 := hid hax2
    replace F := hid F
    replace hs := hid hs
    replace hk := hid hk
    replace IH := hid IH
    go_enter Try.func64, Try.ntmps64
    go_upto_region 1 with (fail)
    generalize hEW : (((w).alloc (.cells #[.int .i64 y.kind, .slice sy y.shape.length cy, .slice ny y.nums.length my, .slice iy y.items.length jy] 26)).alloc (.cells #[.int .i64 k, .slice sa sl sc, .slice na nums.length nc, .slice ia items.length ic] 26)).alloc (.cells #[.int .i64 0, .slice none 0 0, .slice none 0 0, .slice none 0 0] 26) = W
    replace E := hid (envF3 E.out hEW)
    clear hEW
    (try simp only [List.cons_append, List.nil_append, List.set_cons_zero, List.set_cons_succ] at E)
    replace E := hid (E.out.pick 6 rfl)
    simp only [List.eraseIdx_cons_succ, List.eraseIdx_cons_zero] at E
    replace E := hid (E.out.pick 6 rfl)
    simp only [List.eraseIdx_cons_succ, List.eraseIdx_cons_zero] at E
    obtain ⟨q20, q21, q22, q23⟩ := (E.out.hdr 2 rfl).all
    go_upto_region 3 with (fail)
    go_wp2_with (refine wpl_cutI rfl (.tmp 25) (.tmp 27) rfl y.shape (ax + 1) s hs1.out rfl rfl (by omega) (by omega) hc (E.out.arr 6 rfl).shape ?_; intro bo hB)
    clear q20 q21 q22 q23
    refine (ref03_Count s _ _ _ _ hB).mono ?_
    rintro e w3 ⟨rfl, rfl⟩
    clear hB
    rw [cntC_eq hsS.out, hcc.out]
    have z1 : nums ++ gatL y.nums ((Q.take 0).flatMap f) = nums := by simp [gatL]
    have z2 : items ++ gatL y.items ((Q.take 0).flatMap f) = items := by simp [gatL]
    replace z1 := hid z1
    replace z2 := hid z2
    by_cases hA : L.length ≤ ax
    case pos =>
      have hQ2 : Q = seqI 0 dn := by rw [hQ.out, List.drop_of_length_le hA]; simp [chL]
      have hQl : Q.length = dn := by rw [hQ2, seqI_len]
      have hQg : Hid (∀ j, j < dn → Q.getD j 0 = (j : Int)) := hid fun j hj => by rw [hQ2]; simp [seqI, hj]
      have hl0 : (L.length : Int) ≤ (ax : Int) := by omega
      replace hQ2 := hid hQ2
      replace hQl := hid hQl
      obtain ⟨b1, o1, hsy, _, _, _⟩ := (E.out.arr 6 rfl).shape.at hlt
      subst hsy
      go_upto_region 6 with (fail)
      go_loopw [12] (fun v wr => ∃ (j : Nat) (na : Option Addr) (nc : Nat) (ia : Option Addr) (ic : Nat), j ≤ dn ∧ v = .int .i64 j ∧ Env w0 S wr (.rowI na nc (nums ++ gatL y.nums ((Q.take j).flatMap f)) :: .rowA ia ic (items ++ gatL y.items ((Q.take j).flatMap f)) :: .obj w.heap.size (.cells #[.int .i64 y.kind, .slice (some ⟨b1, o1, none⟩) y.shape.length cy, .slice ny y.nums.length my, .slice iy y.items.length jy] 26 (0, 0)) :: .obj (w.heap.size + 1) (.cells #[.int .i64 k, .slice sa sl sc, .slice na (nums ++ gatL y.nums ((Q.take j).flatMap f)).length nc, .slice ia (items ++ gatL y.items ((Q.take j).flatMap f)).length ic] 26 (0, 0)) :: .obj (w.heap.size + 1 + 1) (.cells #[.int .i64 0, .slice none 0 0, .slice none 0 0, .slice none 0 0] 26 (0, 0)) :: .items L (lo) :: .arr y (some ⟨b1, o1, none⟩) ny iy :: M)) (fun v _ => dn - (intOf v).toNat)
      case atStart => exact ⟨0, na, nc, ia, ic, Nat.zero_le _, rfl, by rw [z1.out, z2.out]; exact E.out⟩
      case round =>
        clear E
        obtain ⟨j, na, nc, ia, ic, hj, rfl, E⟩ := hrel
        replace E := hid E
        obtain ⟨b4, o4, hsy, hbl1, hS1, hc1⟩ := (E.out.arr 6 rfl).shape.at hlt
        obtain ⟨hb4, ho4⟩ : b4 = b1 ∧ o4 = o1 := by simpa [eq_comm] using hsy
        rw [← hd1.out, hb4, ho4] at hc1
        clear hbl1 hS1 hb4 ho4 hsy
        have a0 : (0 : Int) ≤ (ax : Int) := by omega
        have a1 : (ax : Int) < (y.shape.length : Int) := by omega
        by_cases hlt2 : j < dn
        case pos =>
          obtain ⟨k1, k2, k3, k4⟩ := hst.out j (by rw [hQl.out]; exact hlt2) j (hQg.out j hlt2)
          obtain ⟨q, hq⟩ : ∃ q, q = j * c := ⟨_, rfl⟩
          rw [← hq] at k1 k2 k3 k4
          have hw1 : IntKind.i64.wrap ((j : Int) * (c : Int)) = (q : Int) := by rw [← Int.natCast_mul, ← hq]; exact IntWalk.i64_in _ (by omega)
          have hw2 : IntKind.i64.wrap ((t : Int) + (q : Int)) = ((t + q : Nat) : Int) := by rw [Int.natCast_add]; exact IntWalk.i64_in _ (by omega)
          have hN2 : (nums ++ gatL y.nums ((Q.take j).flatMap f)) ++ gatL y.nums (offR s ((L.drop (ax + 1)).map Arr.nums) ((t + q : Nat) : Int)) = nums ++ gatL y.nums ((Q.take (j + 1)).flatMap f) := by rw [k2, gatL_append, List.append_assoc]
          have hI2 : (items ++ gatL y.items ((Q.take j).flatMap f)) ++ gatL y.items (offR s ((L.drop (ax + 1)).map Arr.nums) ((t + q : Nat) : Int)) = items ++ gatL y.items ((Q.take (j + 1)).flatMap f) := by rw [k2, gatL_append, List.append_assoc]
          have hN3 : (nums ++ gatL y.nums ((Q.take j).flatMap f)).length + (offR s ((L.drop (ax + 1)).map Arr.nums) ((t + q : Nat) : Int)).length ≤ 900000 := by rw [List.length_append]; have := gatL_le y.nums ((Q.take j).flatMap f); omega
          have hI3 : (items ++ gatL y.items ((Q.take j).flatMap f)).length + (offR s ((L.drop (ax + 1)).map Arr.nums) ((t + q : Nat) : Int)).length ≤ 900000 := by rw [List.length_append]; have := gatL_le y.items ((Q.take j).flatMap f); omega
          obtain ⟨nn, hnn2⟩ : ∃ l, l = nums ++ gatL y.nums ((Q.take j).flatMap f) := ⟨_, rfl⟩
          obtain ⟨ii, hii2⟩ : ∃ l, l = items ++ gatL y.items ((Q.take j).flatMap f) := ⟨_, rfl⟩
          rw [← hnn2] at E hN2 hN3
          rw [← hii2] at E hI2 hI3
          have hb2 : Hid (((t + q : Nat) : Int) + cnt s ≤ (szA y : Int)) := hid (by rw [hcc.out]; omega)
          replace hnn2 := hid hnn2
          replace hii2 := hid hii2
          replace hN2 := hid hN2
          replace hI2 := hid hI2
          replace hN3 := hid hN3
          replace hI3 := hid hI3
          replace hq := hid hq
          replace k2 := hid k2
          clear k3 k4
          have hax3 : (ax : Int) + 1 = ((ax + 1 : Nat) : Int) := by omega
          have hti3 : (t : Int) + (q : Int) = ((t + q : Nat) : Int) := by omega
          replace hax3 := hid hax3
          replace hti3 := hid hti3
          obtain ⟨q20, q21, q22, q23⟩ := (E.out.hdr 2 rfl).all
          obtain ⟨q30, q31, q32, q33⟩ := (E.out.hdr 3 rfl).all
          go_wp2_with fail
          clear q20 q21 q22 q23 q30 q31 q32 q33
          refine (IH.out (ax + 1) (t + q) _ _ na nc nn ia ic ii w0 S wr _ hax3.out hti3.out hs1.out hax2.out E.out (E.out.arr 6 rfl) (E.out.items 5 rfl) hb2.out hbad2.out hN3.out hI3.out).mono ?_
          rintro e w9 ⟨na2, nc2, ia2, ic2, rfl, E1⟩
          generalize hn2 : nn ++ gatL y.nums (offR s ((L.drop (ax + 1)).map Arr.nums) ((t + q : Nat) : Int)) = nn2 at E1 ⊢
          generalize hi2 : ii ++ gatL y.items (offR s ((L.drop (ax + 1)).map Arr.nums) ((t + q : Nat) : Int)) = ii2 at E1 ⊢
          replace hn2 := hid (hn2.symm.trans hN2.out)
          replace hi2 := hid (hi2.symm.trans hI2.out)
          clear E hN2 hI2
          have E := hid E1
          clear E1
          go_wp2_with (refine wpl_store4 rfl (.tmp 9) (.tmp 53) rfl _ rfl rfl (E.out.hdr 3 rfl) ?_; intro V2 HV CV; replace E := hid (E.out.chg 3 rfl CV HV); clear HV CV; (try simp only [List.cons_append, List.nil_append, List.set_cons_zero, List.set_cons_succ] at E))
          go_roundw
          case rel => exact ⟨j + 1, na2, nc2, ia2, ic2, by omega, by go_num, by rw [← hn2.out, ← hi2.out]; exact E.out⟩
          case measure => simp [intOf]; omega
        case neg =>
          obtain rfl : j = dn := by omega
          have e1 : Q.take j = Q := List.take_of_length_le (by rw [hQl.out]; exact Nat.le_refl _)
          rw [e1] at E
          obtain ⟨nn, hnn2⟩ : ∃ l, l = nums ++ gatL y.nums (Q.flatMap f) := ⟨_, rfl⟩
          obtain ⟨ii, hii2⟩ : ∃ l, l = items ++ gatL y.items (Q.flatMap f) := ⟨_, rfl⟩
          rw [← hnn2, ← hii2] at E hR
          replace hnn2 := hid hnn2
          replace hii2 := hid hii2
          replace e1 := hid e1
          obtain ⟨q20, q21, q22, q23⟩ := (E.out.hdr 2 rfl).all
          obtain ⟨q30, q31, q32, q33⟩ := (E.out.hdr 3 rfl).all
          go_wp2_with (refine wpl_store4 rfl (.tmp 10) (.tmp 54) rfl _ rfl rfl (E.out.hdr 4 rfl) ?_; intro V2 HV CV; replace E := hid (E.out.chg 4 rfl CV HV); (try simp only [List.cons_append, List.nil_append, List.set_cons_zero, List.set_cons_succ] at E))
          refine bodyPost_ret (end_arr rfl HV rfl) rfl (hR.out _ _ ⟨na, nc, ia, ic, rfl, ?_⟩)
          exact E.out.sub ((((((List.Sublist.refl _).cons _).cons _).cons _).cons _).cons _ |>.cons_cons _ |>.cons_cons _)
    case neg =>
      have hlA : ax < L.length := by omega
      have hQ2 : Q = L[ax].nums := by rw [hQ.out, List.drop_eq_getElem_cons hlA]; rfl
      have hl0 : ¬ (L.length : Int) ≤ (ax : Int) := by omega
      have hl1 : (ax : Int) < (L.length : Int) := by omega
      have hl2 : (0 : Int) ≤ (ax : Int) := by omega
      obtain ⟨lb, lf, _, _, _, _, _, _, hlo0, _, _, _, _, _, _, _⟩ := (E.out.items 5 rfl).at hlA
      subst hlo0
      obtain ⟨z, hzL⟩ : ∃ z, z = L[ax] := ⟨_, rfl⟩
      rw [← hzL] at hQ2
      have hQl : Hid (Q.length = z.nums.length) := hid (by rw [hQ2])
      have hQg : Hid (∀ j, Q.getD j 0 = z.nums.getD j 0) := hid fun j => by rw [hQ2]
      replace hQ2 := hid hQ2
      replace hzL := hid hzL
      go_upto_region 11 with (fail)
      go_loopw [13] (fun v wr => ∃ (j : Nat) (na : Option Addr) (nc : Nat) (ia : Option Addr) (ic : Nat), j ≤ z.nums.length ∧ v = .int .i64 j ∧ Env w0 S wr (.rowI na nc (nums ++ gatL y.nums ((Q.take j).flatMap f)) :: .rowA ia ic (items ++ gatL y.items ((Q.take j).flatMap f)) :: .obj w.heap.size (.cells #[.int .i64 y.kind, .slice (sy) y.shape.length cy, .slice ny y.nums.length my, .slice iy y.items.length jy] 26 (0, 0)) :: .obj (w.heap.size + 1) (.cells #[.int .i64 k, .slice sa sl sc, .slice na (nums ++ gatL y.nums ((Q.take j).flatMap f)).length nc, .slice ia (items ++ gatL y.items ((Q.take j).flatMap f)).length ic] 26 (0, 0)) :: .obj (w.heap.size + 1 + 1) (.cells #[.int .i64 0, .slice none 0 0, .slice none 0 0, .slice none 0 0] 26 (0, 0)) :: .items L (some ⟨lb, lf, none⟩) :: .arr y (sy) ny iy :: M)) (fun v _ => z.nums.length - (intOf v).toNat)
      case atStart => exact ⟨0, na, nc, ia, ic, Nat.zero_le _, rfl, by rw [z1.out, z2.out]; exact E.out⟩
      case round =>
        clear E
        obtain ⟨j, na, nc, ia, ic, hj, rfl, E⟩ := hrel
        replace E := hid E
        obtain ⟨b', off', sz, cz, nz, mz, iz, jz, hlo, hSb', hbl', e0, e1, e2, e3, hz⟩ := (E.out.items 5 rfl).at hlA
        rw [← hzL.out] at e0 e1 e2 e3 hz
        obtain ⟨hb1, ho1⟩ : b' = lb ∧ off' = lf := by simpa [eq_comm] using hlo
        clear hlo
        rw [hb1, ho1] at e2
        clear e0 e1 e3 hSb' hbl'
        replace hb1 := hid hb1
        replace ho1 := hid ho1
        by_cases hlt2 : j < z.nums.length
        case pos =>
          obtain ⟨iv, hiv⟩ := hnn.out j (by rw [hQl.out]; exact hlt2)
          obtain ⟨k1, k2, k3, k4⟩ := hst.out j (by rw [hQl.out]; exact hlt2) iv hiv
          obtain ⟨b3, o3, hnz, hbl3, hS3, hc3⟩ := hz.nums.at hlt2
          rw [← hQg.out, hiv] at hc3
          replace hiv := hid hiv
          subst hnz
          have j0 : (0 : Int) ≤ (j : Int) := by omega
          have j1 : (j : Int) < (z.nums.length : Int) := by omega
          obtain ⟨q, hq⟩ : ∃ q, q = iv * c := ⟨_, rfl⟩
          rw [← hq] at k1 k2 k3 k4
          have hw1 : IntKind.i64.wrap ((iv : Int) * (c : Int)) = (q : Int) := by rw [← Int.natCast_mul, ← hq]; exact IntWalk.i64_in _ (by omega)
          have hw2 : IntKind.i64.wrap ((t : Int) + (q : Int)) = ((t + q : Nat) : Int) := by rw [Int.natCast_add]; exact IntWalk.i64_in _ (by omega)
          have hN2 : (nums ++ gatL y.nums ((Q.take j).flatMap f)) ++ gatL y.nums (offR s ((L.drop (ax + 1)).map Arr.nums) ((t + q : Nat) : Int)) = nums ++ gatL y.nums ((Q.take (j + 1)).flatMap f) := by rw [k2, gatL_append, List.append_assoc]
          have hI2 : (items ++ gatL y.items ((Q.take j).flatMap f)) ++ gatL y.items (offR s ((L.drop (ax + 1)).map Arr.nums) ((t + q : Nat) : Int)) = items ++ gatL y.items ((Q.take (j + 1)).flatMap f) := by rw [k2, gatL_append, List.append_assoc]
          have hN3 : (nums ++ gatL y.nums ((Q.take j).flatMap f)).length + (offR s ((L.drop (ax + 1)).map Arr.nums) ((t + q : Nat) : Int)).length ≤ 900000 := by rw [List.length_append]; have := gatL_le y.nums ((Q.take j).flatMap f); omega
          have hI3 : (items ++ gatL y.items ((Q.take j).flatMap f)).length + (offR s ((L.drop (ax + 1)).map Arr.nums) ((t + q : Nat) : Int)).length ≤ 900000 := by rw [List.length_append]; have := gatL_le y.items ((Q.take j).flatMap f); omega
          obtain ⟨nn, hnn2⟩ : ∃ l, l = nums ++ gatL y.nums ((Q.take j).flatMap f) := ⟨_, rfl⟩
          obtain ⟨ii, hii2⟩ : ∃ l, l = items ++ gatL y.items ((Q.take j).flatMap f) := ⟨_, rfl⟩
          rw [← hnn2] at E hN2 hN3
          rw [← hii2] at E hI2 hI3
          have hb2 : Hid (((t + q : Nat) : Int) + cnt s ≤ (szA y : Int)) := hid (by rw [hcc.out]; omega)
          replace hnn2 := hid hnn2
          replace hii2 := hid hii2
          replace hN2 := hid hN2
          replace hI2 := hid hI2
          replace hN3 := hid hN3
          replace hI3 := hid hI3
          replace hq := hid hq
          replace k2 := hid k2
          clear k3 k4
          have hax3 : (ax : Int) + 1 = ((ax + 1 : Nat) : Int) := by omega
          have hti3 : (t : Int) + (q : Int) = ((t + q : Nat) : Int) := by omega
          replace hax3 := hid hax3
          replace hti3 := hid hti3
          have hznl := hz.nums.1
          clear hz
          go_upto_region 13 with (fail)
          obtain ⟨q20, q21, q22, q23⟩ := (E.out.hdr 2 rfl).all
          obtain ⟨q30, q31, q32, q33⟩ := (E.out.hdr 3 rfl).all
          refine wp_region_mono_tail 17 (Sees wr [(⟨(w.heap.size), 0, none⟩, .int .i64 y.kind), (⟨(w.heap.size), 1, none⟩, .slice sy y.shape.length cy), (⟨(w.heap.size), 2, none⟩, .slice ny y.nums.length my), (⟨(w.heap.size), 3, none⟩, .slice iy y.items.length jy), (⟨w.heap.size + 1, 0, none⟩, .int .i64 k), (⟨w.heap.size + 1, 1, none⟩, .slice sa sl sc), (⟨w.heap.size + 1, 2, none⟩, .slice na nn.length nc), (⟨w.heap.size + 1, 3, none⟩, .slice ia ii.length ic), (⟨lb, lf + ax * 4 + 2, none⟩, .slice (some ⟨b3, o3, none⟩) z.nums.length mz), (⟨b3, o3 + j, none⟩, .int .i64 iv)]) [] (fun k v u u' => match k with  | _ => False) (fun _ _ h e => h.up e) (Sees.start (all_cons ((E.out.hdr 2 rfl).c0) (all_cons ((E.out.hdr 2 rfl).c1) (all_cons ((E.out.hdr 2 rfl).c2) (all_cons ((E.out.hdr 2 rfl).c3) (all_cons (q30) (all_cons (q31) (all_cons (q32) (all_cons (q33) (all_cons (e2) (all_cons (hc3) (all_nil)))))))))))) (by kernel_rfl) (by kernel_rfl) ?_
          simp only [List.take_succ_cons, List.take_zero, List.drop_succ_cons, List.drop_zero]
          repeat (first | (refine m_plain (v := ?_) (by rfl) (by rfl) ?_ ?_; rotate_left; (intro wz hSw; obtain ⟨-, hSc⟩ := hSw; (try simp only [List.forall_mem_cons, List.forall_mem_nil, and_true] at hSc); go_simp; (first | done | with_reducible rfl)); (intro K hK; (try simp only [Act.put, List.setIfInBounds_toArray, List.set_cons_zero, List.set_cons_succ]); refine hK _ _ ?_; clear hK K)) | (refine m_skip (by rfl) (by rfl) ?_; (intro K hK; (try simp only [Act.put, List.setIfInBounds_toArray, List.set_cons_zero, List.set_cons_succ]); refine hK _ _ ?_; clear hK K)))
          refine m_nil ?_
          intro wf hSf hAf
          replace E := hid (E.out.up hSf.1)
          clear hSf hAf e2 hc3
          clear q20 q21 q22 q23 q30 q31 q32 q33
          go_wp2_with fail
          refine (IH.out (ax + 1) (t + q) _ _ na nc nn ia ic ii w0 S wf _ hax3.out hti3.out hs1.out hax2.out E.out (E.out.arr 6 rfl) (E.out.items 5 rfl) hb2.out hbad2.out hN3.out hI3.out).mono ?_
          rintro e w9 ⟨na2, nc2, ia2, ic2, rfl, E1⟩
          generalize hn2 : nn ++ gatL y.nums (offR s ((L.drop (ax + 1)).map Arr.nums) ((t + q : Nat) : Int)) = nn2 at E1 ⊢
          generalize hi2 : ii ++ gatL y.items (offR s ((L.drop (ax + 1)).map Arr.nums) ((t + q : Nat) : Int)) = ii2 at E1 ⊢
          replace hn2 := hid (hn2.symm.trans hN2.out)
          replace hi2 := hid (hi2.symm.trans hI2.out)
          clear E hN2 hI2
          have E := hid E1
          clear E1
          go_wp2_with (refine wpl_store4 rfl (.tmp 9) (.tmp 82) rfl _ rfl rfl (E.out.hdr 3 rfl) ?_; intro V2 HV CV; replace E := hid (E.out.chg 3 rfl CV HV); clear HV CV; (try simp only [List.cons_append, List.nil_append, List.set_cons_zero, List.set_cons_succ] at E))
          go_roundw
          case rel => exact ⟨j + 1, na2, nc2, ia2, ic2, by omega, by go_num, by rw [← hn2.out, ← hi2.out]; exact E.out⟩
          case measure => simp [intOf]; omega
        case neg =>
          obtain rfl : j = z.nums.length := by omega
          have e1 : Q.take z.nums.length = Q := List.take_of_length_le (by rw [hQl.out]; exact Nat.le_refl _)
          rw [e1] at E
          obtain ⟨nn, hnn2⟩ : ∃ l, l = nums ++ gatL y.nums (Q.flatMap f) := ⟨_, rfl⟩
          obtain ⟨ii, hii2⟩ : ∃ l, l = items ++ gatL y.items (Q.flatMap f) := ⟨_, rfl⟩
          rw [← hnn2, ← hii2] at E hR
          replace hnn2 := hid hnn2
          replace hii2 := hid hii2
          replace e1 := hid e1
          clear hz
          obtain ⟨q20, q21, q22, q23⟩ := (E.out.hdr 2 rfl).all
          obtain ⟨q30, q31, q32, q33⟩ := (E.out.hdr 3 rfl).all
          go_wp2_with (refine wpl_store4 rfl (.tmp 10) (.tmp 83) rfl _ rfl rfl (E.out.hdr 4 rfl) ?_; intro V2 HV CV; replace E := hid (E.out.chg 4 rfl CV HV); (try simp only [List.cons_append, List.nil_append, List.set_cons_zero, List.set_cons_succ] at E))
          refine bodyPost_ret (end_arr rfl HV rfl) rfl (hR.out _ _ ⟨na, nc, ia, ic, rfl, ?_⟩)
          exact E.out.sub ((((((List.Sublist.refl _).cons _).cons _).cons _).cons _).cons _ |>.cons_cons _ |>.cons_cons _)
end Go.Proofs.Ytcoknjlkhefgpaa
