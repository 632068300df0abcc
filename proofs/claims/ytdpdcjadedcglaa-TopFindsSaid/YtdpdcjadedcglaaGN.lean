/- A group of texts (GN), each with its own conditions: those of each lemma. -/
import Derived.Test.YtdpdcjadedcglaaCUT
import Derived.Test.YtdpdcjadedcglaaNEWF
import Derived.Test.YtdpdcjadedcglaaS26
import Derived.Test.YtdpdcjadedcglaaPCELL
import Derived.Test.YtdpdcjadedcglaaP26
import Derived.Test.YtdpdcjadedcglaaPTAK
set_option linter.unusedVariables false
set_option maxRecDepth 20000
set_option linter.unusedSimpArgs false
namespace Go.Proofs.Ytdpdcjadedcglaa
open Go.RowKit Go.Sort
section
variable {ops : Array Oper} {rest : List Oper} {o : Oper} {a : Act} {Q : Exit → Act → World → Prop} {w : World}
theorem run_cut3I (ao : Option Addr) (n cap f e : Nat) (h : f ≤ e) (h2 : e ≤ cap) (w : World) :
    (Instr.sliceAt 24 (.slice ao n cap) (some (.int .i64 (f : Int))) (some (.int .i64 (e : Int))) (some (.int .i64 (e : Int)))).run Try.prog w = .ok (.slice (if e = f then ao else ao.map fun x => x.add f) (e - f) (e - f)) w := by
  have h1 : (f : Int) ≤ (e : Int) := by omega
  have h0 : (0 : Int) ≤ (f : Int) := by omega
  have h3 : (e : Int) ≤ (cap : Int) := by omega
  have h4 : (0 : Int) ≤ (e : Int) := by omega
  have h5 : (f : Int) ≤ (cap : Int) := by omega
  simp [go_sem, h1, h0, h3, h4, h5, Result.andThen]
theorem run_cut3A (ao : Option Addr) (n cap f e : Nat) (h : f ≤ e) (h2 : e ≤ cap) (w : World) :
    (Instr.sliceAt 25 (.slice ao n cap) (some (.int .i64 (f : Int))) (some (.int .i64 (e : Int))) (some (.int .i64 (e : Int)))).run Try.prog w = .ok (.slice (if e = f then ao else ao.map fun x => x.add (f * 4)) (e - f) (e - f)) w := by
  have h1 : (f : Int) ≤ (e : Int) := by omega
  have h0 : (0 : Int) ≤ (f : Int) := by omega
  have h3 : (e : Int) ≤ (cap : Int) := by omega
  have h4 : (0 : Int) ≤ (e : Int) := by omega
  have h5 : (f : Int) ≤ (cap : Int) := by omega
  simp [go_sem, h1, h0, h3, h4, h5, Result.andThen]
theorem wpl_cut3I (hgd : o.guard = none) (p q r t : Operand) (ho : o.op = .slice 24 p (some q) (some r) (some t)) {ao : Option Addr} {n cap : Nat} (xs : List Int) (f z : Nat) {fv ev gv : Int} {T : Nat → Prop} (ys : List Int) (hys : ys = (xs.drop f).take z)
    (hp : a.eval p = .slice ao n cap) (hq : a.eval q = .int .i64 fv) (hr : a.eval r = .int .i64 ev) (ht : a.eval t = .int .i64 gv) (hn : xs.length = n) (hfv : fv = (f : Int)) (hev : ev = ((f + z : Nat) : Int)) (hgv : gv = ((f + z : Nat) : Int)) (hk : f + z ≤ xs.length) (hc : xs.length ≤ cap) (hI : IntsAt w T ao xs)
    (h : ∀ bo, IntsAt w T bo ys → wpList Try.prog ops Q rest (a.put o.dst (.slice bo ys.length ys.length)) w) : wpList Try.prog ops Q (o :: rest) a w := by
  subst hfv
  subst hev
  subst hgv
  subst hys
  subst hn
  have hl : ((xs.drop f).take z).length = f + z - f := by simp; omega
  have hb : IntsAt w T (if f + z = f then ao else ao.map fun x => x.add f) ((xs.drop f).take z) := by
    split
    · rw [show z = 0 by omega, List.take_zero]; exact IntsAt.nil _ _ _
    · have hd := hI.cut f
      have hl' := hd.1
      refine ⟨by simp only [List.length_take]; omega, fun h0 => ?_⟩
      obtain ⟨b, off, e1, e2, e3, e4⟩ := hd.2 (by simp only [List.length_take] at h0; omega)
      refine ⟨b, off, e1, e2, e3, fun k hk' => ?_⟩
      have hk2 : k < z := by simp only [List.length_take] at hk'; omega
      have := e4 k (by simp only [List.length_take] at hk'; omega)
      rw [this]
      simp [List.getD_eq_getElem?_getD, List.getElem?_take, hk2]
  refine wpList_plain hgd fun K hK => ?_
  have := hK _ _ (h _ hb)
  have hr' := run_cut3I ao xs.length cap f (f + z) (by omega) (by omega) w
  rw [hl] at this
  generalize f + z = e at this hr' hr ht
  unfold Oper.wp execOp
  simp only [ho]
  simp only [Option.map, hp, hq, hr, ht]
  simp [hr', Result.andThen]
  exact this
theorem ItemsAt.part {T : Nat → Prop} {ia : Option Addr} {l : List Arr} (h : ItemsAt w T ia 0 l) (f z : Nat) (hk : f + z ≤ l.length) : ItemsAt w T (if f + z = f then ia else ia.map fun x => x.add (f * 4)) 0 ((l.drop f).take z) := by
  refine ItemsAt.of_get fun j x hx => ?_
  have hj : j < z := by
    have := (List.getElem?_eq_some_iff.1 hx).1
    simp only [List.length_take] at this; omega
  have hx2 : l[f + j]? = some x := by
    rw [List.getElem?_take, if_pos hj, List.getElem?_drop] at hx; exact hx
  obtain ⟨b, off, sa, sc, na, nc, ja, jc, e, h1, h2, c0, c1, c2, c3, h3⟩ := h.get _ x hx2
  rw [if_neg (by omega)]
  refine ⟨b, off + f * 4, sa, sc, na, nc, ja, jc, by rw [e]; simp [Addr.add_lit], h1, h2, ?_, ?_, ?_, ?_, h3⟩
  · rw [← c0]; congr 2; omega
  · rw [← c1]; congr 2; omega
  · rw [← c2]; congr 2; omega
  · rw [← c3]; congr 2; omega
theorem wpl_cut3A (hgd : o.guard = none) (p q r t : Operand) (ho : o.op = .slice 25 p (some q) (some r) (some t)) {ao : Option Addr} {n cap : Nat} (xs : List Arr) (f z : Nat) {fv ev gv : Int} {T : Nat → Prop} (ys : List Arr) (hys : ys = (xs.drop f).take z)
    (hp : a.eval p = .slice ao n cap) (hq : a.eval q = .int .i64 fv) (hr : a.eval r = .int .i64 ev) (ht : a.eval t = .int .i64 gv) (hn : xs.length = n) (hfv : fv = (f : Int)) (hev : ev = ((f + z : Nat) : Int)) (hgv : gv = ((f + z : Nat) : Int)) (hk : f + z ≤ xs.length) (hc : xs.length ≤ cap) (hI : ItemsAt w T ao 0 xs)
    (h : ∀ bo, ItemsAt w T bo 0 ys → wpList Try.prog ops Q rest (a.put o.dst (.slice bo ys.length ys.length)) w) : wpList Try.prog ops Q (o :: rest) a w := by
  subst hfv
  subst hev
  subst hgv
  subst hys
  subst hn
  have hl : ((xs.drop f).take z).length = f + z - f := by simp; omega
  have hb := hI.part f z hk
  refine wpList_plain hgd fun K hK => ?_
  have := hK _ _ (h _ hb)
  have hr' := run_cut3A ao xs.length cap f (f + z) (by omega) (by omega) w
  rw [hl] at this
  generalize f + z = e at this hr' hr ht
  unfold Oper.wp execOp
  simp only [ho]
  simp only [Option.map, hp, hq, hr, ht]
  simp [hr', Result.andThen]
  exact this
end
end Go.Proofs.Ytdpdcjadedcglaa
namespace Go.Proofs.Ytdpdcjadedcglaa
open Go.RowKit Go.Sort
attribute [local go_sem ↓] run_max2 run_min2
attribute [local go_sem] eql_ints_nil eql_arrs_nil
/-- major cell i -/
def celA (y : Arr) (i : Nat) : Arr := .mk y.kind (celL y) (blkL y.nums i (celN y)) (blkL y.items i (celN y))
def celsN (y : Arr) (m : Nat) : List Arr := (List.range m).map (celA y)
theorem celsN_succ (y : Arr) (m : Nat) : celsN y (m + 1) = celsN y m ++ [celA y m] := by simp [celsN, List.range_succ]
theorem celsN_len (y : Arr) (m : Nat) : (celsN y m).length = m := by simp [celsN]
/-- a new slice of arrays as a result -/
def RetL (w : World) (S : Nat → Prop) (l : List Arr) (e : Ending) (w' : World) : Prop :=
  ∃ so sc, e = .returned (.slice so l.length sc) ∧ l.length ≤ sc ∧ ItemsAt w' S so 0 l ∧ Below w.heap.size w w'
theorem run_makeA0 (w : World) (n : Nat) (h : n ≤ 1759218604441) : (Instr.makeSlice 25 (.int .i64 0) (.int .i64 (n : Int))).run Try.prog w = .ok (.slice (some ⟨w.heap.size, 0, none⟩) 0 n) (w.alloc (.cells (madeA n) 27)) := by
  obtain ⟨i0, hi, hz0, hz1, hz2⟩ := info_parts infoArr
  have hr := run_make (P := Try.prog) w 25 27 i0 (.agg #[.int .i64 0, .slice none 0 0, .slice none 0 0, .slice none 0 0]) Try.underlying25 hi hz0 .i64 .i64 0 n (by omega) (by omega) (by rw [hz2]; omega) (by omega)
  simp only [Int.toNat_natCast, hz1] at hr
  exact hr
/-- a made row without elements -/
theorem Env.row0M {w0 w : World} {S : Nat → Prop} {L : List Fact} (E : Env w0 S w L) (j : Nat) {g n : Nat} (h : L[j]? = some (.obj g (.cells (madeA n) 27 (0, 0)))) (hn : n ≤ 1000000) : Env w0 S w (L.set j (.rowAF (some ⟨g, 0, none⟩) n [])) := by
  have hl := E.lt j h
  refine E.turn j h E.ext (Nat.le_refl _) (fun _ _ _ => rfl) (fun b hb => Or.inl (by simpa [Fact.blk, rowOf] using hb)) (by simp [Fact.blk, rowOf]) ?_
  refine ⟨[], ⟨rfl, Or.inr ⟨g, n, madeA n, rfl, hl.1, E.obj j h, Nat.zero_le _, by unfold maxLen; omega, madeA_size n, by simp⟩⟩, by simp only [CellsAt]⟩
theorem cell_Rank (k r : Int) (w : World) (h : (1 ≤ r ∧ r ≤ 1000) ∧ (k = r - 1 ∨ k = -1)) : Calls Try.prog 91 #[.int .i64 k, .int .i64 r] w fun e w' => e = .returned (.int .i64 (r - 1)) ∧ w' = w := by
  refine calls_post fun R' hR => ?_
  obtain ⟨⟨h1, h2⟩, h3⟩ := h
  by_cases c : k < 0
  case pos =>
    have hk : k = -1 := by omega
    subst hk
    have e1 : max r 0 = r := by omega
    have e2 : max (-1) (-r) = (-1 : Int) := by omega
    have e3 : min (-1 + r) r = r - 1 := by omega
    have e4 : IntKind.i64.wrap (-1 + r) = -1 + r := IntWalk.i64_in _ (by omega)
    have e5 : IntKind.i64.wrap (-r) = -r := IntWalk.i64_in _ (by omega)
    go_enter Try.func91, Try.ntmps91
    go_wp2_with fail
    exact hR.out _ _ ⟨rfl, rfl⟩
  case neg =>
    have hk : k = r - 1 := by omega
    have e1 : max r 0 = r := by omega
    have e3 : min k r = r - 1 := by omega
    go_enter Try.func91, Try.ntmps91
    go_wp2_with fail
    subst hk
    exact hR.out _ _ ⟨by rw [e3], rfl⟩
set_option maxRecDepth 100000 in
set_option maxHeartbeats 4000000 in
theorem cell_part (y : Arr) (sy : Option Addr) (cy : Nat) (ny : Option Addr) (my : Nat) (iy : Option Addr) (jy : Nat) (f z : Nat) (s : List Int) (so : Option Addr) (sc : Nat) (p : Arr) (S : Nat → Prop) (w : World) (h : ArrAt w S y sy ny iy) (g : IntsAt w S so s) (hF : Flat y) (hc : y.nums.length ≤ my ∧ y.items.length ≤ jy) (hf : f + z ≤ 1000000) (h3 : y.kind = 3 → f + z ≤ y.items.length) (h4 : y.kind ≠ 3 → f + z ≤ y.nums.length)
    (hp : p = .mk y.kind s ((y.nums.drop f).take z) ((y.items.drop f).take z)) :
    Calls Try.prog 92 #[.agg #[.int .i64 y.kind, .slice sy y.shape.length cy, .slice ny y.nums.length my, .slice iy y.items.length jy], .int .i64 (f : Int), .int .i64 (z : Int), .slice so s.length sc] w (RetA w (fun b => w.heap.size ≤ b) p) := by
  refine calls_post fun R' hR => ?_
  have h0 := hid h
  have g0 := hid g
  have hsl := g.1
  have hnl := h.nums.1
  have hil := h.len
  have hw : IntKind.i64.wrap ((f : Int) + (z : Int)) = ((f + z : Nat) : Int) := by rw [IntWalk.i64_in _ (by omega)]; omega
  replace hF := hid hF
  replace hp := hid hp
  obtain ⟨hc1, hc2⟩ := hc
  clear h g
  go_enter Try.func92, Try.ntmps92
  go_upto_region 1 with (fail)
  generalize hEW : ((w).alloc (.cells #[.int .i64 y.kind, .slice sy y.shape.length cy, .slice ny y.nums.length my, .slice iy y.items.length jy] 27)).alloc (.cells #[.int .i64 0, .slice none 0 0, .slice none 0 0, .slice none 0 0] 27) = W
  have E := hid (env2 w S hEW)
  clear hEW
  replace E := hid ((E.out.arg h0.out).argI g0.out)
  (try simp only [List.cons_append, List.nil_append, List.set_cons_zero, List.set_cons_succ] at E)
  obtain ⟨q00, q01, q02, q03⟩ := (E.out.hdr 0 rfl).all
  refine wp_region_mono_tail 6 (Sees W [(⟨w.heap.size, 0, none⟩, .int .i64 y.kind)]) [3, 5] (fun k v u u' => match k with | 3 => ∃ ao cap, v = .slice ao s.length cap ∧ OwnI u' u.heap.size ao cap s | 5 => v = .pointer (some ⟨u.heap.size, 0, none⟩) ∧ u' = u.alloc (.cells #[.int .i64 0, .slice none 0 0, .slice none 0 0, .slice none 0 0] 27) | _ => False) (fun _ _ h e => h.up e) (Sees.start (all_cons (q00) (all_nil))) (by kernel_rfl) (by kernel_rfl) ?_
  simp only [List.take_succ_cons, List.take_zero, List.drop_succ_cons, List.drop_zero]
  repeat (first | (refine m_plain (v := ?_) (by rfl) (by rfl) ?_ ?_; rotate_left; (intro wz hSw; obtain ⟨-, hSc⟩ := hSw; (try simp only [List.forall_mem_cons, List.forall_mem_nil, and_true] at hSc); go_simp; (first | done | with_reducible rfl)); (intro K hK; (try simp only [Act.put, List.setIfInBounds_toArray, List.set_cons_zero, List.set_cons_succ]); refine hK _ _ ?_; clear hK K)) | (refine m_skip (by rfl) (by rfl) ?_; (intro K hK; (try simp only [Act.put, List.setIfInBounds_toArray, List.set_cons_zero, List.set_cons_succ]); refine hK _ _ ?_; clear hK K)))
  refine m_make (by rfl) (by rfl) ?_ ?_
  · intro wz hSw hdep R hRz
    obtain ⟨hSe, hSc⟩ := hSw
    (try simp only [List.forall_mem_cons, List.forall_mem_nil, and_true] at hSc)
    unfold does
    (go_simp; refine Calls.mono (slices_Clone s _ _ _ wz ((E.out.ints 3 rfl).up hSe)) ?_; rintro e wq ⟨ta, tc, rfl, hq, hqb⟩; exact ⟨_, rfl, hRz.out _ _ ⟨hqb, ta, tc, rfl, hq⟩⟩)
  intro v3 u3 x3 hG3 K hK
  have hF3 := hG3.fact
  (try dsimp only at hF3)
  obtain ⟨ta, tc, rfl, ht⟩ := hF3
  (try simp only [Act.put, List.setIfInBounds_toArray, List.set_cons_zero, List.set_cons_succ]); refine hK _ _ ?_; clear hK K
  repeat (first | (refine m_plain (v := ?_) (by rfl) (by rfl) ?_ ?_; rotate_left; (intro wz hSw; obtain ⟨-, hSc⟩ := hSw; (try simp only [List.forall_mem_cons, List.forall_mem_nil, and_true] at hSc); go_simp; (first | done | with_reducible rfl)); (intro K hK; (try simp only [Act.put, List.setIfInBounds_toArray, List.set_cons_zero, List.set_cons_succ]); refine hK _ _ ?_; clear hK K)) | (refine m_skip (by rfl) (by rfl) ?_; (intro K hK; (try simp only [Act.put, List.setIfInBounds_toArray, List.set_cons_zero, List.set_cons_succ]); refine hK _ _ ?_; clear hK K)))
  refine m_make (by rfl) (by rfl) ?_ ?_
  · intro wz hSw hdep R hRz
    obtain ⟨hSe, hSc⟩ := hSw
    (try simp only [List.forall_mem_cons, List.forall_mem_nil, and_true] at hSc)
    unfold does
    (go_simp; exact hRz.out _ _ ⟨ext_alloc _ _, rfl, rfl⟩)
  intro v5 u5 x5 hG5 K hK
  have hF5 := hG5.fact
  (try dsimp only at hF5)
  obtain ⟨rfl, rfl⟩ := hF5
  (try simp only [Act.put, List.setIfInBounds_toArray, List.set_cons_zero, List.set_cons_succ]); refine hK _ _ ?_; clear hK K
  repeat (first | (refine m_plain (v := ?_) (by rfl) (by rfl) ?_ ?_; rotate_left; (intro wz hSw; obtain ⟨-, hSc⟩ := hSw; (try simp only [List.forall_mem_cons, List.forall_mem_nil, and_true] at hSc); go_simp; (first | done | with_reducible rfl)); (intro K hK; (try simp only [Act.put, List.setIfInBounds_toArray, List.set_cons_zero, List.set_cons_succ]); refine hK _ _ ?_; clear hK K)) | (refine m_skip (by rfl) (by rfl) ?_; (intro K hK; (try simp only [Act.put, List.setIfInBounds_toArray, List.set_cons_zero, List.set_cons_succ]); refine hK _ _ ?_; clear hK K)))
  refine m_nil ?_
  intro wf hSf hAf
  replace E := hid (E.out.madeIF ((ht.ints hsl).mono fun b _ hb => hb.1) (hAf 3 _ rfl) (hG5.order 3 _ rfl) hG3.s.1 hG5.s.1 (hAf 5 _ rfl) hSf.1)
  clear hSf hAf hG3 hG5 ht
  clear q00 q01 q02 q03
  (try simp only [List.cons_append, List.nil_append, List.set_cons_zero, List.set_cons_succ] at E)
  generalize u5.heap.size = bo at E ⊢
  refine wpl_store4 rfl (.tmp 9) (.tmp 15) rfl _ rfl rfl (E.out.hdr 4 rfl) ?_
  intro V1 HV CV
  replace E := hid (E.out.chg 4 rfl CV HV)
  clear HV CV
  (try simp only [List.cons_append, List.nil_append, List.set_cons_zero, List.set_cons_succ] at E)
  by_cases k3 : y.kind = 3
  case pos =>
    have kb : (y.kind == 3) = true := by simp [k3]
    have hlen := h3 k3
    have hpe : Hid (p = .mk y.kind s [] ((y.items.drop f).take z)) := hid (by rw [hp.out, hF.out.n k3]; simp)
    clear h3 h4 hp
    replace k3 := hid k3
    obtain ⟨q00, q01, q02, q03⟩ := (E.out.hdr 0 rfl).all
    obtain ⟨q40, q41, q42, q43⟩ := (E.out.hdr 4 rfl).all
    go_upto_region 6 with (first
      | (refine wpl_cut3A rfl (.tmp 23) (.tmp 24) (.tmp 25) (.tmp 26) rfl y.items f z _ rfl rfl rfl rfl rfl rfl rfl rfl rfl hlen hc2 (E.out.arr 2 rfl).items ?_; intro xo hX; have hyl : ((y.items.drop f).take z).length ≤ 1759218604441 := (by simp only [List.length_take, List.length_drop]; omega); generalize ((y.items.drop f).take z) = ys at hX hpe hyl ⊢; replace E := hid (E.out.addItems hX (fun _ _ h => h)); clear hX; (try simp only [List.cons_append, List.nil_append, List.set_cons_zero, List.set_cons_succ] at E))
      | (refine wpl_store3 rfl (.tmp 28) (.tmp 27) rfl _ rfl rfl (E.out.hdr 4 rfl) ?_; intro V2 HV CV; replace E := hid ((E.out.chg 4 rfl CV HV)); clear CV HV; (try simp only [List.cons_append, List.nil_append, List.set_cons_zero, List.set_cons_succ] at E)))
    replace E := hid (E.out.addArr (a := .mk y.kind s [] ys) (ia := xo) (ArrAt.iff.2 ⟨((E.out.intsF 5 rfl).mono fun b _ q => q.1), IntsAt.nil _ _ none, by simp [Arr.items]; try omega, E.out.items 6 rfl⟩) (fun _ _ h => h))
    (try simp only [List.cons_append, List.nil_append, List.set_cons_zero, List.set_cons_succ] at E)
    clear q00 q01 q02 q03 q40 q41 q42 q43
    obtain ⟨q40, q41, q42, q43⟩ := (E.out.hdr 4 rfl).all
    go_wp2_with fail
    clear q40 q41 q42 q43
    refine (array_Clone (.mk y.kind s [] ys) _ _ _ _ _ _ _ _ (E.out.arr 7 rfl)).mono ?_
    intro e w7 h
    obtain ⟨sz, cz, nz, mz, iz, jz, rfl, hA, hb⟩ := h.eq hpe.out
    replace E := hid ((E.out.up hb).addArrF hA E.out.blt E.out.size)
    clear hA hb h
    (try simp only [List.cons_append, List.nil_append, List.set_cons_zero, List.set_cons_succ] at E)
    go_wp2_with (refine wpl_store4 rfl (.tmp 8) (.tmp 37) rfl _ rfl rfl (E.out.hdr 1 rfl) ?_; intro V HV CV; replace E := hid (E.out.chg 1 rfl CV HV))
    exact bodyPost_ret (end_arr rfl HV rfl) rfl (hR.out _ _ (RetA.to rfl (ArrAt.mono (fun b _ h => h.2) _ (E.out.arrF 8 rfl)) E.out.ext))
  case neg =>
    have kb : (y.kind == 3) = false := by simp [k3]
    have hlen := h4 k3
    have hpe : Hid (p = .mk y.kind s ((y.nums.drop f).take z) []) := hid (by rw [hp.out, hF.out.i k3]; simp)
    clear h3 h4 hp
    replace k3 := hid k3
    obtain ⟨q00, q01, q02, q03⟩ := (E.out.hdr 0 rfl).all
    obtain ⟨q40, q41, q42, q43⟩ := (E.out.hdr 4 rfl).all
    go_upto_region 6 with (first
      | (refine wpl_cut3I rfl (.tmp 30) (.tmp 31) (.tmp 32) (.tmp 33) rfl y.nums f z _ rfl rfl rfl rfl rfl rfl rfl rfl rfl hlen hc1 (E.out.arr 2 rfl).nums ?_; intro xo hX; generalize ((y.nums.drop f).take z) = ys at hX hpe ⊢; replace E := hid (E.out.addInts hX (fun _ _ h => h)); clear hX; (try simp only [List.cons_append, List.nil_append, List.set_cons_zero, List.set_cons_succ] at E))
      | (refine wpl_store2 rfl (.tmp 35) (.tmp 34) rfl _ rfl rfl (E.out.hdr 4 rfl) ?_; intro V2 HV CV; replace E := hid ((E.out.chg 4 rfl CV HV)); clear CV HV; (try simp only [List.cons_append, List.nil_append, List.set_cons_zero, List.set_cons_succ] at E)))
    replace E := hid (E.out.addArr (a := .mk y.kind s ys []) (ia := none) (ArrAt.iff.2 ⟨((E.out.intsF 5 rfl).mono fun b _ q => q.1), E.out.ints 6 rfl, by simp [Arr.items]; try omega, by simp only [Arr.items, ItemsAt]⟩) (fun _ _ h => h))
    (try simp only [List.cons_append, List.nil_append, List.set_cons_zero, List.set_cons_succ] at E)
    clear q00 q01 q02 q03 q40 q41 q42 q43
    obtain ⟨q40, q41, q42, q43⟩ := (E.out.hdr 4 rfl).all
    go_wp2_with fail
    clear q40 q41 q42 q43
    refine (array_Clone (.mk y.kind s ys []) _ _ _ _ _ _ _ _ (E.out.arr 7 rfl)).mono ?_
    intro e w7 h
    obtain ⟨sz, cz, nz, mz, iz, jz, rfl, hA, hb⟩ := h.eq hpe.out
    replace E := hid ((E.out.up hb).addArrF hA E.out.blt E.out.size)
    clear hA hb h
    (try simp only [List.cons_append, List.nil_append, List.set_cons_zero, List.set_cons_succ] at E)
    go_wp2_with (refine wpl_store4 rfl (.tmp 8) (.tmp 37) rfl _ rfl rfl (E.out.hdr 1 rfl) ?_; intro V HV CV; replace E := hid (E.out.chg 1 rfl CV HV))
    exact bodyPost_ret (end_arr rfl HV rfl) rfl (hR.out _ _ (RetA.to rfl (ArrAt.mono (fun b _ h => h.2) _ (E.out.arrF 8 rfl)) E.out.ext))
end Go.Proofs.Ytdpdcjadedcglaa
namespace Go.Proofs.Ytdpdcjadedcglaa
open Go.RowKit Go.Sort
attribute [local go_sem ↓] run_max2 run_min2
attribute [local go_sem] eql_ints_nil eql_arrs_nil
/-- the shape of a major cell, cut out of the array's shape -/
theorem cut_tail (y : Arr) (sy : Option Addr) (cy : Nat) (h1 : 0 < y.shape.length) (hc : y.shape.length ≤ cy) :
    ∃ so sc, (∀ w, (Instr.sliceAt 24 (.slice sy y.shape.length cy) (some (.int .i64 1)) none none).run Try.prog w = .ok (.slice so (celL y).length sc) w) ∧ (∀ w T, IntsAt w T sy y.shape → IntsAt w T so (celL y)) ∧ (celL y).length ≤ sc := by
  refine ⟨if cy = 1 then sy else sy.map fun x => x.add 1, cy - 1, fun w => ?_, ?_, ?_⟩
  · have := run_cutI sy y.shape.length cy 1 (by omega) w
    unfold celL
    rw [List.length_drop]
    exact this
  · intro w T hI
    unfold celL
    split
    · exact hI.cut0 (by omega)
    · exact hI.cut 1
  · unfold celL; rw [List.length_drop]; omega
set_option maxRecDepth 100000 in
set_option maxHeartbeats 4000000 in
theorem cell_Cells (y : Arr) (sy : Option Addr) (cy : Nat) (ny : Option Addr) (my : Nat) (iy : Option Addr) (jy : Nat) (k : Int) (S : Nat → Prop) (w : World) (h : ArrAt w S y sy ny iy) (hr : rightS y = 0) (hn : 0 < y.shape.length) (hk : k = (y.shape.length : Int) - 1 ∨ k = -1) (hc : y.shape.length ≤ cy ∧ y.nums.length ≤ my ∧ y.items.length ≤ jy) :
    Calls Try.prog 72 #[.agg #[.int .i64 y.kind, .slice sy y.shape.length cy, .slice ny y.nums.length my, .slice iy y.items.length jy], .int .i64 k] w (RetL w (fun b => w.heap.size ≤ b) (celsN y (talM y))) := by
  refine calls_post fun R' hR => ?_
  have h0 := hid h
  have hsh := (right_ok hr).2.1
  have hl8 : y.shape.length ≤ 1000 := by have := (shapeB_iff.1 hsh).1; omega
  have hbd := hid (blk_lens hr)
  have hfl := hid (flat_of hr)
  have htl := tal_le hsh
  have hcons := tal_cons hsh (by omega)
  have hz1 : Hid (sizeS [(talM y : Int)] = (talM y : Int)) := hid (by rw [sizeS_true (shapeB_one (by omega) (by omega)), cnt_one])
  have hz2 : Hid (sizeS (celL y) = (celN y : Int)) := hid (by rw [sizeS_true (celL_ok hsh), celN_eq hsh])
  have hhd : ∀ w T, IntsAt w T sy y.shape → IntsAt w T sy [(talM y : Int)] := fun w T q => by
    have := q.take 1
    rw [hcons] at this
    exact this
  clear hcons
  have hcn := hid (celN_eq hsh)
  have hcl := celN_le hsh
  obtain ⟨so, sc, hr1, hr2, hr3⟩ := cut_tail y sy cy hn hc.1
  have hwr : IntKind.i64.wrap ((y.shape.length : Int) - ((y.shape.length : Int) - 1)) = 1 := by rw [IntWalk.i64_in _ (by omega)]; omega
  have hrb : (rightS y != 0) = false := by simp [hr]
  replace hr := hid hr
  obtain ⟨hc0, hc1, hc2⟩ := hc
  clear h
  go_enter Try.func72, Try.ntmps72
  go_upto_region 1 with (fail)
  generalize hEW : (w).alloc (.cells #[.int .i64 y.kind, .slice sy y.shape.length cy, .slice ny y.nums.length my, .slice iy y.items.length jy] 27) = W
  have E := hid (env1 w S hEW)
  clear hEW
  replace E := hid (E.out.arg h0.out)
  (try simp only [List.cons_append, List.nil_append, List.set_cons_zero, List.set_cons_succ] at E)
  replace E := hid (E.out.addInts (hr2 _ _ (E.out.arr 1 rfl).shape) (fun _ _ h => h))
  (try simp only [List.cons_append, List.nil_append, List.set_cons_zero, List.set_cons_succ] at E)
  replace E := hid (E.out.addInts (hhd _ _ (E.out.arr 1 rfl).shape) (fun _ _ h => h))
  (try simp only [List.cons_append, List.nil_append, List.set_cons_zero, List.set_cons_succ] at E)
  clear hr2 hhd
  obtain ⟨q00, q01, q02, q03⟩ := (E.out.hdr 0 rfl).all
  go_wp2_with fail
  clear q00 q01 q02 q03
  refine (array_Right y _ _ _ _ _ _ _ _ (E.out.arr 1 rfl)).mono ?_
  rintro e w1 ⟨rfl, hb⟩
  replace E := hid (E.out.up hb)
  clear hb
  obtain ⟨q00, q01, q02, q03⟩ := (E.out.hdr 0 rfl).all
  go_upto_region 3 with fail
  obtain ⟨T, hT1, hT2, hT3⟩ := E.out.tw
  refine wp_region_mono (Sees w1 [(⟨w.heap.size, 0, none⟩, .int .i64 y.kind), (⟨w.heap.size, 1, none⟩, .slice sy y.shape.length cy), (⟨w.heap.size, 2, none⟩, .slice ny y.nums.length my), (⟨w.heap.size, 3, none⟩, .slice iy y.items.length jy)]) [7] (fun k v u u' => match k with | 7 => v = .int .i64 ((y.shape.length : Int) - 1) | _ => False) (fun _ _ h e => h.up e) (Sees.start (all_cons ((E.out.hdr 0 rfl).c0) (all_cons ((E.out.hdr 0 rfl).c1) (all_cons ((E.out.hdr 0 rfl).c2) (all_cons ((E.out.hdr 0 rfl).c3) (all_nil)))))) (by kernel_rfl) (by kernel_rfl) ?_
  repeat (first | (refine m_plain (v := ?_) (by rfl) (by rfl) ?_ ?_; rotate_left; (intro wz hSw; obtain ⟨-, hSc⟩ := hSw; (try simp only [List.forall_mem_cons, List.forall_mem_nil, and_true] at hSc); go_simp; (first | done | with_reducible rfl)); (intro K hK; (try simp only [Act.put, List.setIfInBounds_toArray, List.set_cons_zero, List.set_cons_succ]); refine hK _ _ ?_; clear hK K)) | (refine m_skip (by rfl) (by rfl) ?_; (intro K hK; (try simp only [Act.put, List.setIfInBounds_toArray, List.set_cons_zero, List.set_cons_succ]); refine hK _ _ ?_; clear hK K)))
  refine m_make (by rfl) (by rfl) ?_ ?_
  · intro wz hSw hdep R hRz
    obtain ⟨hSe, hSc⟩ := hSw
    (try simp only [List.forall_mem_cons, List.forall_mem_nil, and_true] at hSc)
    unfold does
    (go_simp; refine Calls.mono (cell_Rank k (y.shape.length : Int) wz ⟨⟨by omega, by omega⟩, hk⟩) ?_; rintro e wq ⟨rfl, rfl⟩; exact ⟨_, rfl, hRz.out _ _ ⟨Ext.refl _, rfl⟩⟩)
  intro v7 u7 x7 hG7 K hK
  have hF7 := hG7.fact
  (try dsimp only at hF7)
  subst hF7
  (try simp only [Act.put, List.setIfInBounds_toArray, List.set_cons_zero, List.set_cons_succ]); refine hK _ _ ?_; clear hK K
  repeat (first | (refine m_plain (v := ?_) (by rfl) (by rfl) ?_ ?_; rotate_left; (intro wz hSw; obtain ⟨-, hSc⟩ := hSw; (try simp only [List.forall_mem_cons, List.forall_mem_nil, and_true] at hSc); go_simp; (first | done | with_reducible rfl)); (intro K hK; (try simp only [Act.put, List.setIfInBounds_toArray, List.set_cons_zero, List.set_cons_succ]); refine hK _ _ ?_; clear hK K)) | (refine m_skip (by rfl) (by rfl) ?_; (intro K hK; (try simp only [Act.put, List.setIfInBounds_toArray, List.set_cons_zero, List.set_cons_succ]); refine hK _ _ ?_; clear hK K)))
  refine m_nil ?_
  intro wf hSf hAf
  replace E := hid (E.out.up hSf.1)
  clear hSf hAf
  go_upto_region 4 with fail
  clear q00 q01 q02 q03
  obtain ⟨q00, q01, q02, q03⟩ := (E.out.hdr 0 rfl).all
  have c1 : (1 : Int) ≤ (cy : Int) := by omega
  obtain ⟨T, hT1, hT2, hT3⟩ := E.out.tw
  refine wp_region_mono (Sees wf [(⟨w.heap.size, 0, none⟩, .int .i64 y.kind), (⟨w.heap.size, 1, none⟩, .slice sy y.shape.length cy), (⟨w.heap.size, 2, none⟩, .slice ny y.nums.length my), (⟨w.heap.size, 3, none⟩, .slice iy y.items.length jy)]) [4, 9] (fun k v u u' => match k with | 4 => v = .int .i64 (talM y : Int) | 9 => v = .int .i64 (celN y : Int) | _ => False) (fun _ _ h e => h.up e) (Sees.start (all_cons ((E.out.hdr 0 rfl).c0) (all_cons ((E.out.hdr 0 rfl).c1) (all_cons ((E.out.hdr 0 rfl).c2) (all_cons ((E.out.hdr 0 rfl).c3) (all_nil)))))) (by kernel_rfl) (by kernel_rfl) ?_
  repeat (first | (refine m_plain (v := ?_) (by rfl) (by rfl) ?_ ?_; rotate_left; (intro wz hSw; obtain ⟨-, hSc⟩ := hSw; (try simp only [List.forall_mem_cons, List.forall_mem_nil, and_true] at hSc); go_simp; (first | done | with_reducible rfl)); (intro K hK; (try simp only [Act.put, List.setIfInBounds_toArray, List.set_cons_zero, List.set_cons_succ]); refine hK _ _ ?_; clear hK K)) | (refine m_skip (by rfl) (by rfl) ?_; (intro K hK; (try simp only [Act.put, List.setIfInBounds_toArray, List.set_cons_zero, List.set_cons_succ]); refine hK _ _ ?_; clear hK K)))
  refine m_make (by rfl) (by rfl) ?_ ?_
  · intro wz hSw hdep R hRz
    obtain ⟨hSe, hSc⟩ := hSw
    (try simp only [List.forall_mem_cons, List.forall_mem_nil, and_true] at hSc)
    unfold does
    (go_simp; refine Calls.mono (shape_Size [(talM y : Int)] _ _ _ wz ((E.out.ints 3 rfl).mono (fun b _ h => hT1 b h) |>.up hSe)) ?_; rintro e wq ⟨rfl, rfl⟩; rw [hz1.out]; exact ⟨_, rfl, hRz.out _ _ ⟨Ext.refl _, rfl⟩⟩)
  intro v4 u4 x4 hG4 K hK
  have hF4 := hG4.fact
  (try dsimp only at hF4)
  subst hF4
  (try simp only [Act.put, List.setIfInBounds_toArray, List.set_cons_zero, List.set_cons_succ]); refine hK _ _ ?_; clear hK K
  repeat (first | (refine m_plain (v := ?_) (by rfl) (by rfl) ?_ ?_; rotate_left; (intro wz hSw; obtain ⟨-, hSc⟩ := hSw; (try simp only [List.forall_mem_cons, List.forall_mem_nil, and_true] at hSc); go_simp; (first | done | with_reducible rfl)); (intro K hK; (try simp only [Act.put, List.setIfInBounds_toArray, List.set_cons_zero, List.set_cons_succ]); refine hK _ _ ?_; clear hK K)) | (refine m_skip (by rfl) (by rfl) ?_; (intro K hK; (try simp only [Act.put, List.setIfInBounds_toArray, List.set_cons_zero, List.set_cons_succ]); refine hK _ _ ?_; clear hK K)))
  refine m_make (by rfl) (by rfl) ?_ ?_
  · intro wz hSw hdep R hRz
    obtain ⟨hSe, hSc⟩ := hSw
    (try simp only [List.forall_mem_cons, List.forall_mem_nil, and_true] at hSc)
    unfold does
    (go_simp; refine Calls.mono (shape_Size (celL y) _ _ _ wz ((E.out.ints 2 rfl).mono (fun b _ h => hT1 b h) |>.up hSe)) ?_; rintro e wq ⟨rfl, rfl⟩; rw [hz2.out]; exact ⟨_, rfl, hRz.out _ _ ⟨Ext.refl _, rfl⟩⟩)
  intro v9 u9 x9 hG9 K hK
  have hF9 := hG9.fact
  (try dsimp only at hF9)
  subst hF9
  (try simp only [Act.put, List.setIfInBounds_toArray, List.set_cons_zero, List.set_cons_succ]); refine hK _ _ ?_; clear hK K
  repeat (first | (refine m_plain (v := ?_) (by rfl) (by rfl) ?_ ?_; rotate_left; (intro wz hSw; obtain ⟨-, hSc⟩ := hSw; (try simp only [List.forall_mem_cons, List.forall_mem_nil, and_true] at hSc); go_simp; (first | done | with_reducible rfl)); (intro K hK; (try simp only [Act.put, List.setIfInBounds_toArray, List.set_cons_zero, List.set_cons_succ]); refine hK _ _ ?_; clear hK K)) | (refine m_skip (by rfl) (by rfl) ?_; (intro K hK; (try simp only [Act.put, List.setIfInBounds_toArray, List.set_cons_zero, List.set_cons_succ]); refine hK _ _ ?_; clear hK K)))
  refine m_nil ?_
  intro wf hSf hAf
  replace E := hid (E.out.up hSf.1)
  clear hSf hAf
  clear q00 q01 q02 q03
  have hmk := fun w => run_makeA0 w (talM y) (by omega)
  go_wp2_with fail
  replace E := hid (E.out.alloc (.cells (madeA (talM y)) 27))
  (try simp only [List.cons_append, List.nil_append, List.set_cons_zero, List.set_cons_succ] at E)
  replace E := hid (E.out.row0M 4 rfl (by omega))
  (try simp only [List.cons_append, List.nil_append, List.set_cons_zero, List.set_cons_succ] at E)
  clear hmk c1 hz1 hz2
  go_loopw [8, 35] (fun o i wr => ∃ (m : Nat) (ao : Option Addr) (ac : Nat), m ≤ talM y ∧ o = .slice ao (celsN y m).length ac ∧ i = .int .i64 m ∧ Env w S wr [.obj w.heap.size (.cells #[.int .i64 y.kind, .slice sy y.shape.length cy, .slice ny y.nums.length my, .slice iy y.items.length jy] 27 (0, 0)), .arr y sy ny iy, .ints (celL y) so, .ints [(talM y : Int)] sy, .rowAF ao ac (celsN y m)]) (fun _ i _ => talM y - (intOf i).toNat)
  case atStart => exact ⟨0, _, _, Nat.zero_le _, rfl, rfl, E.out⟩
  case round =>
    clear E
    obtain ⟨m, ao, ac, hm, rfl, rfl, E⟩ := hrel
    replace E := hid E
    by_cases hlt : m < talM y
    case pos =>
      have hsz := sz_tal hr.out
      have hsz6 := szA_le hr.out
      have hmq : m * celN y + celN y ≤ talM y * celN y := by
        rw [← Nat.succ_mul]; exact Nat.mul_le_mul_right _ hlt
      obtain ⟨q, hq⟩ : ∃ q, q = m * celN y := ⟨_, rfl⟩
      have hq6 : q + celN y ≤ 65536 := by rw [hq]; omega
      have hmul : IntKind.i64.wrap ((m : Int) * (celN y : Int)) = (q : Int) := by
        rw [show (m : Int) * (celN y : Int) = ((m * celN y : Nat) : Int) by rw [Int.natCast_mul], ← hq]
        exact IntWalk.i64_in _ (by omega)
      have hb3 : Hid (y.kind = 3 → q + celN y ≤ y.items.length) := hid fun k => by
        have := szA_3 k; omega
      have hb4 : Hid (y.kind ≠ 3 → q + celN y ≤ y.nums.length) := hid fun k => by
        by_cases z : celN y = 0
        · have : q = 0 := by rw [hq, z]; rfl
          omega
        · have := szA_N k (i := q + celN y - 1) (by omega); omega
      obtain ⟨z, hz⟩ : ∃ z, z = celA y m := ⟨_, rfl⟩
      have hzp : Hid (z = .mk y.kind (celL y) ((y.nums.drop q).take (celN y)) ((y.items.drop q).take (celN y))) := hid (by rw [hz, hq]; rfl)
      obtain ⟨cur, hcur⟩ : ∃ c, c = celsN y m := ⟨_, rfl⟩
      have hstep : Hid (celsN y (m + 1) = cur ++ [z]) := hid (by rw [celsN_succ, hcur, hz])
      have hcl9 : cur.length = m := by rw [hcur]; exact celsN_len y m
      have hll : cur.length + [z].length ≤ 1759218604441 := by simp only [List.length_cons, List.length_nil]; omega
      rw [← hcur] at E ⊢
      clear hmq hsz hsz6
      replace hq := hid hq
      replace hz := hid hz
      replace hcur := hid hcur
      replace hcl9 := hid hcl9
      obtain ⟨q00, q01, q02, q03⟩ := (E.out.hdr 0 rfl).all
      go_upto_region 9 with fail
      refine wp_region_mono_tail 12 (Sees wr [(⟨w.heap.size, 0, none⟩, .int .i64 y.kind), (⟨w.heap.size, 1, none⟩, .slice sy y.shape.length cy), (⟨w.heap.size, 2, none⟩, .slice ny y.nums.length my), (⟨w.heap.size, 3, none⟩, .slice iy y.items.length jy)]) [10, 11] (fun k v u u' => match k with | 10 => RetA u (fun b => wr.heap.size ≤ b) z (.returned v) u' | 11 => ∃ sa sc na nc ia ic, v = .slice (some ⟨u.heap.size, 0, none⟩) 1 1 ∧ u' = u.alloc (.cells #[.int .i64 z.kind, .slice sa z.shape.length sc, .slice na z.nums.length nc, .slice ia z.items.length ic] 27) ∧ ArrAt u (fun b => wr.heap.size ≤ b) z sa na ia | _ => False) (fun _ _ h e => h.up e) (Sees.start (all_cons ((E.out.hdr 0 rfl).c0) (all_cons ((E.out.hdr 0 rfl).c1) (all_cons ((E.out.hdr 0 rfl).c2) (all_cons ((E.out.hdr 0 rfl).c3) (all_nil)))))) (by kernel_rfl) (by kernel_rfl) ?_
      simp only [List.take_succ_cons, List.take_zero, List.drop_succ_cons, List.drop_zero]
      repeat (first | (refine m_plain (v := ?_) (by rfl) (by rfl) ?_ ?_; rotate_left; (intro wz hSw; obtain ⟨-, hSc⟩ := hSw; (try simp only [List.forall_mem_cons, List.forall_mem_nil, and_true] at hSc); go_simp; (first | done | with_reducible rfl)); (intro K hK; (try simp only [Act.put, List.setIfInBounds_toArray, List.set_cons_zero, List.set_cons_succ]); refine hK _ _ ?_; clear hK K)) | (refine m_skip (by rfl) (by rfl) ?_; (intro K hK; (try simp only [Act.put, List.setIfInBounds_toArray, List.set_cons_zero, List.set_cons_succ]); refine hK _ _ ?_; clear hK K)))
      refine m_make (by rfl) (by rfl) ?_ ?_
      · intro wz hSw hdep R hRz
        obtain ⟨hSe, hSc⟩ := hSw
        (try simp only [List.forall_mem_cons, List.forall_mem_nil, and_true] at hSc)
        unfold does
        (go_simp; refine Calls.mono (cell_part y _ _ _ _ _ _ q (celN y) (celL y) so sc z _ wz ((E.out.arr 1 rfl).up hSe) ((E.out.ints 2 rfl).up hSe) hfl.out ⟨hc1, hc2⟩ (by omega) hb3.out hb4.out hzp.out) ?_; rintro e wq ⟨ta, tc, tn, tnc, ti, tic, rfl, hq, hqb⟩; exact ⟨_, rfl, hRz.out _ _ ⟨hqb, ta, tc, tn, tnc, ti, tic, rfl, ArrAt.mono (fun b _ hb => Nat.le_trans (Below.size hSe) hb) z hq, hqb⟩⟩)
      intro v10 u10 x10 hG10 K hK
      have hF10 := hG10.fact
      (try dsimp only at hF10)
      obtain ⟨s10, c10, n10, m10, i10, j10, he, hA10, hb10⟩ := hF10
      injection he with he
      subst he
      (try simp only [Act.put, List.setIfInBounds_toArray, List.set_cons_zero, List.set_cons_succ]); refine hK _ _ ?_; clear hK K
      repeat (first | (refine m_plain (v := ?_) (by rfl) (by rfl) ?_ ?_; rotate_left; (intro wz hSw; obtain ⟨-, hSc⟩ := hSw; (try simp only [List.forall_mem_cons, List.forall_mem_nil, and_true] at hSc); go_simp; (first | done | with_reducible rfl)); (intro K hK; (try simp only [Act.put, List.setIfInBounds_toArray, List.set_cons_zero, List.set_cons_succ]); refine hK _ _ ?_; clear hK K)) | (refine m_skip (by rfl) (by rfl) ?_; (intro K hK; (try simp only [Act.put, List.setIfInBounds_toArray, List.set_cons_zero, List.set_cons_succ]); refine hK _ _ ?_; clear hK K)))
      refine m_make (by rfl) (by rfl) ?_ ?_
      · intro wz hSw hdep R hRz
        obtain ⟨hSe, hSc⟩ := hSw
        (try simp only [List.forall_mem_cons, List.forall_mem_nil, and_true] at hSc)
        unfold does
        (go_simp; exact hRz.out _ _ ⟨ext_alloc _ _, s10, c10, n10, m10, i10, j10, rfl, rfl, hA10.up (hdep 10 _ rfl (depB_sound (f := 60) (by kernel_rfl)))⟩)
      intro v11 u11 x11 hG11 K hK
      have hF11 := hG11.fact
      (try dsimp only at hF11)
      obtain ⟨s11, c11, n11, m11, i11, j11, rfl, rfl, hA11⟩ := hF11
      (try simp only [Act.put, List.setIfInBounds_toArray, List.set_cons_zero, List.set_cons_succ]); refine hK _ _ ?_; clear hK K
      repeat (first | (refine m_plain (v := ?_) (by rfl) (by rfl) ?_ ?_; rotate_left; (intro wz hSw; obtain ⟨-, hSc⟩ := hSw; (try simp only [List.forall_mem_cons, List.forall_mem_nil, and_true] at hSc); go_simp; (first | done | with_reducible rfl)); (intro K hK; (try simp only [Act.put, List.setIfInBounds_toArray, List.set_cons_zero, List.set_cons_succ]); refine hK _ _ ?_; clear hK K)) | (refine m_skip (by rfl) (by rfl) ?_; (intro K hK; (try simp only [Act.put, List.setIfInBounds_toArray, List.set_cons_zero, List.set_cons_succ]); refine hK _ _ ?_; clear hK K)))
      refine m_nil ?_
      intro wf2 hSf hAf
      have oF := hid (box_items (hAf 11 _ rfl) (Below.size hG11.s.1) hA11)
      have hfr : Hid (∀ b, b < wf2.heap.size → wr.heap.size ≤ b → Tst w S _ b ∧ w.heap.size ≤ b) := hid (fun b _ hb => ⟨E.out.fresh (Ext.refl _) hb, Nat.le_trans E.out.size hb⟩)
      replace E := hid (E.out.up hSf.1)
      clear hSf hAf hG10 hG11 hA10 hA11 hb10
      clear q00 q01 q02 q03
      refine wplE_appAF E.out 4 rfl rfl (.tmp 38) (.tmp 49) rfl rfl _ _ 1 [z] rfl oF.out hfr.out hll ?_
      intro V na' nc' E'
      clear E oF hfr
      have E := hid E'
      clear E'
      (try simp only [List.cons_append, List.nil_append, List.set_cons_zero, List.set_cons_succ] at E)
      go_wp2_with fail
      go_roundw
      case rel => exact ⟨m + 1, na', nc', by omega, by rw [hstep.out]; simp, by go_num, by rw [hstep.out]; exact E.out⟩
      case measure => simp [intOf]; omega
    case neg =>
      have hmn : m = talM y := by omega
      rw [hmn] at E ⊢
      obtain ⟨cur, hcur⟩ : ∃ c, c = celsN y (talM y) := ⟨_, rfl⟩
      rw [← hcur] at E hR ⊢
      replace hmn := hid hmn
      replace hcur := hid hcur
      have c3 := OwnA.cap (E.out.rowAF 4 rfl)
      replace E := hid (E.out.doneAF 4 rfl)
      (try simp only [List.cons_append, List.nil_append, List.set_cons_zero, List.set_cons_succ] at E)
      go_wp2_with fail
      exact hR.out _ _ ⟨_, _, rfl, c3, (E.out.itemsF 4 rfl).mono fun b _ h => h.2, E.out.ext⟩
end Go.Proofs.Ytdpdcjadedcglaa
