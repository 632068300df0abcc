/- ref19.Gather: a contract. Conditions: the array and the lists are read; the offsets are the array's. -/
import Derived.Test.YtmclggonmekanaaBUILD
import Derived.ArgAppend
import Derived.Deep.RegionHeld3
import Derived.Deep.DrawnRows
set_option linter.unusedVariables false
set_option linter.unusedSimpArgs false
namespace Go.Proofs.Ytmclggonmekanaa
open Go.RowKit Go.Sort
attribute [local go_sem ↓] run_max2 run_min2
attribute [local go_sem] eql_ints_nil eql_arrs_nil
theorem OwnI.ne_hdr {w : World} {base : Nat} {ao : Option Addr} {cap : Nat} {xs : List Int} {b : Nat} {k s n i : Value} (h : OwnI w base ao cap xs) (hh : Hdr w b k s n i) : rowOf ao ≠ some b := by
  intro e
  rcases h.2 with ⟨e1, _⟩ | ⟨g, c, cur, e1, _, hg, _⟩
  · injection e1 with e1; subst e1; simp [rowOf] at e
  · injection e1 with e1; subst e1
    simp [rowOf] at e
    subst e
    unfold Hdr at hh
    rw [hg] at hh
    injection hh with hh
    injection hh with h1 h2
    revert h2
    decide
set_option maxHeartbeats 1000000 in
theorem run_appE (w : World) (ty : TypeId) (base : Nat) (ao : Option Addr) (hown : OwnI w base ao 0 []) (S : Nat → Prop) (so : Option Addr) (sc : Nat) (ys : List Int) (hys : IntsAt w S so ys) (hbase : base ≤ w.heap.size) :
    ∃ ao' cap' w', (Builtin.append_ #[43, 43] ty #[.slice ao 0 0, .slice so ys.length sc]).run Try.prog w = .ok (.slice ao' ys.length cap') w' ∧ OwnI w' base ao' cap' ys ∧ Ext w w' := by
  obtain ⟨i0, hi, hz0, hz1, hz2⟩ := info_parts infoInt
  have hlen := hys.1
  rcases hown.2 with ⟨e1, _⟩ | ⟨g, c, cur, e1, hgb, hg, hnc, _⟩
  · injection e1 with e1; subst e1
    obtain ⟨ao', cap', w', hr, ho, hgr, _⟩ := run_appI w ty base none 0 [] (OwnI.nil _ _) S so sc ys hys (by simpa using hlen) hbase
    exact ⟨ao', cap', w', by simpa using hr, by simpa using ho, below_app0 hgr⟩
  · injection e1 with e1 _ e2; subst e1; subst e2
    cases so with
    | none =>
      have hy : ys = [] := by
        cases ys with
        | nil => rfl
        | cons y l => obtain ⟨_, _, e, _⟩ := hys.2 (by simp); cases e
      subst hy
      exact ⟨_, 0, w, run_append_nothing (P := Try.prog) w base 43 ty 3 i0 1 Try.underlying43 hi _ _ _ hown sc, hown, Ext.refl _⟩
    | some ad =>
      by_cases hy : ys = []
      · subst hy
        refine ⟨_, 0, w, ?_, hown, Ext.refl _⟩
        have := run_append_room_cells (P := Try.prog) (w := w) 43 ty 3 i0 Try.underlying43 hi g 0 0 0 ad 0 sc [] (by simp) (fun j u hu => by simp at hu) (fun u hu => by simp at hu) (Nat.le_refl _) (fun j hj => by simp at hj) (fun j hj => by simp at hj)
        exact this
      · have hpos : 0 < ys.length := List.length_pos_iff.2 hy
        obtain ⟨b, off, e, hS, hlt, hc⟩ := hys.2 hpos
        injection e with e
        subst e
        have hnews : ∀ j u, (ys.map (Value.int .i64))[j]? = some u → w.cell? ((⟨b, off, none⟩ : Addr).add j) = some u := by
          intro j u hu
          have hj : j < ys.length := by have := (List.getElem?_eq_some_iff.1 hu).1; simpa using this
          have := hc j hj
          simp [hj] at hu
          subst hu
          simpa [Addr.add_lit, hj] using this
        obtain ⟨v', w', hr, ho, hgr⟩ := run_append_arg_grows (P := Try.prog) (w := w) 43 ty 3 i0 (.int .i64 0) 1 8 Try.underlying43 hi hz0 hz1 hz2 rfl (by decide) ⟨g, 0, none⟩ 0 0 [] rfl (fun j u hu => by simp at hu) ⟨b, off, none⟩ ys.length sc (ys.map (Value.int .i64)) (by simp) hnews (by omega) (by unfold maxLen; omega) (by omega)
        rw [Nat.zero_add, List.nil_append] at ho
        obtain ⟨ao', cap', rfl⟩ := slice_form ho
        have ho' : OwnI w' w.heap.size ao' cap' ys := ho
        exact ⟨ao', cap', w', hr, ho'.base hbase, below_app0 hgr⟩
theorem does_appE {o : Oper} {a : Act} {w : World} {R : Value → World → Prop} (s x : Operand) (ho : o.op = .call { callee := .builtin .append, args := #[s, x], argTypes := #[43, 43] })
    (base : Nat) (ao : Option Addr) (hs : a.eval s = .slice ao 0 0) (hown : OwnI w base ao 0 []) (S : Nat → Prop) (so : Option Addr) (sc : Nat) (ys : List Int) (hx : a.eval x = .slice so ys.length sc) (hys : IntsAt w S so ys) (hbase : base ≤ w.heap.size)
    (h : ∀ ao' cap' w', OwnI w' base ao' cap' ys → Ext w w' → R (.slice ao' ys.length cap') w') : does Try.prog o a w R := by
  obtain ⟨ao', cap', w', hrun, h1, h2⟩ := run_appE w o.type base ao hown S so sc ys hys hbase
  unfold does
  simp [execOp, ho, resolve, invoke, builtin, hs, hx, hrun, Result.andThen, doesUpon]
  exact h _ _ _ h1 h2
theorem own_empty {w wf : World} {base : Nat} (hb : base ≤ w.heap.size) (e : Ext (w.alloc (.cells #[] 3)) wf) : OwnI wf base (some ⟨w.heap.size, 0, none⟩) 0 [] :=
  ⟨rfl, Or.inr ⟨w.heap.size, 0, #[], rfl, hb, made_blk e, Nat.le_refl _, by decide, rfl, rfl⟩⟩
/-- the offsets of a list are the array's -/
def offsIn (l : List Int) (n : Nat) : Prop := ∀ j, j < l.length → 0 ≤ l.getD j 0 ∧ l.getD j 0 < n
def atL (l : List Int) (k : Int) : Int := l.getD k.toNat 0
set_option maxRecDepth 100000 in
set_option maxHeartbeats 4000000 in
theorem ref19_Gather_N (a : Arr) (sa : Option Addr) (ca : Nat) (na : Option Addr) (ma : Nat) (ia : Option Addr) (ja : Nat) (s l : List Int) (so : Option Addr) (sc : Nat) (lo : Option Addr) (lc : Nat) (S T U : Nat → Prop) (w : World) (h : ArrAt w S a sa na ia) (hs : IntsAt w T so s) (hl : IntsAt w U lo l) (hk : a.kind ≠ 3) (hin : offsIn l a.nums.length) :
    Calls Try.prog 63 #[.agg #[.int .i64 a.kind, .slice sa a.shape.length ca, .slice na a.nums.length ma, .slice ia a.items.length ja], .slice so s.length sc, .slice lo l.length lc] w (RetA w (fun b => S b ∨ w.heap.size ≤ b) (gathS a s (atL l) l.length)) := by
  refine calls_post fun R' hR => ?_
  have hnl := h.nums.1
  have hsl := hs.1
  have hll := hl.1
  have h0 := hid (ArrAt.mono (T := fun b => b < w.heap.size) (fun b hb _ => hb) a h)
  have s0 := hid (IntsAt.mono (T := fun b => b < w.heap.size) hs (fun b hb _ => hb))
  have l0 := hid (IntsAt.mono (T := fun b => b < w.heap.size) hl (fun b hb _ => hb))
  have hk3 : (a.kind == 3) = false := by simpa using hk
  have hk' := hid hk
  have hin' := hid hin
  clear h hs hl hk hin
  go_enter Try.func63, Try.ntmps63
  go_wp2_with fail
  generalize hEW : ((w).alloc (.cells #[.int .i64 a.kind, .slice sa a.shape.length ca, .slice na a.nums.length ma, .slice ia a.items.length ja] 46)).alloc (.cells #[.int .i64 0, .slice none 0 0, .slice none 0 0, .slice none 0 0] 46) = W
  obtain ⟨haW, hZW, heW, zW⟩ := boxes2 w hEW
  clear hEW
  have aW := hid (h0.out.up heW)
  have sW := hid (s0.out.up heW)
  have lW := hid (l0.out.up heW)
  refine wp_region_mono_tail 7 (Sees W [(⟨w.heap.size, 0, none⟩, .int .i64 a.kind)]) [2, 4, 6] (fun k v u u' => match k with | 2 => v = .slice (some ⟨u.heap.size, 0, none⟩) 0 0 ∧ u' = u.alloc (.cells #[] 3) | 4 => ∃ ao cap, v = .slice ao s.length cap ∧ OwnI u' W.heap.size ao cap s | 6 => v = .pointer (some ⟨u.heap.size, 0, none⟩) ∧ u' = u.alloc (.cells #[.int .i64 0, .slice none 0 0, .slice none 0 0, .slice none 0 0] 46) | _ => False) (fun _ _ h e => h.up e) (Sees.start (all_cons (haW.c0) (all_nil))) (by kernel_rfl) (by kernel_rfl) ?_
  simp only [List.take_succ_cons, List.take_zero, List.drop_succ_cons, List.drop_zero]
  repeat (first | (refine m_plain (v := ?_) (by rfl) (by rfl) ?_ ?_; rotate_left; (intro wz hSw; obtain ⟨-, hSc⟩ := hSw; (try simp only [List.forall_mem_cons, List.forall_mem_nil, and_true] at hSc); go_simp; (first | done | with_reducible rfl)); (intro K hK; (try simp only [Act.put, List.setIfInBounds_toArray, List.set_cons_zero, List.set_cons_succ]); refine hK _ _ ?_; clear hK K)) | (refine m_skip (by rfl) (by rfl) ?_; (intro K hK; (try simp only [Act.put, List.setIfInBounds_toArray, List.set_cons_zero, List.set_cons_succ]); refine hK _ _ ?_; clear hK K)))
  refine m_make (by rfl) (by rfl) ?_ ?_
  · intro wz hSw hdep R hRz
    obtain ⟨hSe, hSc⟩ := hSw
    (try simp only [List.forall_mem_cons, List.forall_mem_nil, and_true] at hSc)
    unfold does
    (go_simp; exact hRz.out _ _ ⟨ext_alloc _ _, rfl, rfl⟩)
  intro v2 u2 x2 hG2 K hK
  have hF2 := hG2.fact
  (try dsimp only at hF2)
  obtain ⟨rfl, rfl⟩ := hF2
  (try simp only [Act.put, List.setIfInBounds_toArray, List.set_cons_zero, List.set_cons_succ]); refine hK _ _ ?_; clear hK K
  repeat (first | (refine m_plain (v := ?_) (by rfl) (by rfl) ?_ ?_; rotate_left; (intro wz hSw; obtain ⟨-, hSc⟩ := hSw; (try simp only [List.forall_mem_cons, List.forall_mem_nil, and_true] at hSc); go_simp; (first | done | with_reducible rfl)); (intro K hK; (try simp only [Act.put, List.setIfInBounds_toArray, List.set_cons_zero, List.set_cons_succ]); refine hK _ _ ?_; clear hK K)) | (refine m_skip (by rfl) (by rfl) ?_; (intro K hK; (try simp only [Act.put, List.setIfInBounds_toArray, List.set_cons_zero, List.set_cons_succ]); refine hK _ _ ?_; clear hK K)))
  refine m_make (by rfl) (by rfl) ?_ ?_
  · intro wz hSw hdep R hRz
    obtain ⟨hSe, hSc⟩ := hSw
    (try simp only [List.forall_mem_cons, List.forall_mem_nil, and_true] at hSc)
    (refine does_appE (.tmp 14) (.tmp 15) (by rfl) W.heap.size (some ⟨u2.heap.size, 0, none⟩) (by rfl) (own_empty (Below.size hG2.s.1) (hdep 2 _ rfl (depB_sound (f := 60) (by kernel_rfl)))) _ so sc s (by rfl) (sW.out.up hSe) (Below.size hSe) ?_; intro ao' cap' w' g1 g2; exact hRz.out _ _ ⟨g2, ao', cap', rfl, g1⟩)
  intro v4 u4 x4 hG4 K hK
  have hF4 := hG4.fact
  (try dsimp only at hF4)
  obtain ⟨ta, tc, rfl, ht⟩ := hF4
  (try simp only [Act.put, List.setIfInBounds_toArray, List.set_cons_zero, List.set_cons_succ]); refine hK _ _ ?_; clear hK K
  repeat (first | (refine m_plain (v := ?_) (by rfl) (by rfl) ?_ ?_; rotate_left; (intro wz hSw; obtain ⟨-, hSc⟩ := hSw; (try simp only [List.forall_mem_cons, List.forall_mem_nil, and_true] at hSc); go_simp; (first | done | with_reducible rfl)); (intro K hK; (try simp only [Act.put, List.setIfInBounds_toArray, List.set_cons_zero, List.set_cons_succ]); refine hK _ _ ?_; clear hK K)) | (refine m_skip (by rfl) (by rfl) ?_; (intro K hK; (try simp only [Act.put, List.setIfInBounds_toArray, List.set_cons_zero, List.set_cons_succ]); refine hK _ _ ?_; clear hK K)))
  refine m_make (by rfl) (by rfl) ?_ ?_
  · intro wz hSw hdep R hRz
    obtain ⟨hSe, hSc⟩ := hSw
    (try simp only [List.forall_mem_cons, List.forall_mem_nil, and_true] at hSc)
    unfold does
    (go_simp; exact hRz.out _ _ ⟨ext_alloc _ _, rfl, rfl⟩)
  intro v6 u6 x6 hG6 K hK
  have hF6 := hG6.fact
  (try dsimp only at hF6)
  obtain ⟨rfl, rfl⟩ := hF6
  (try simp only [Act.put, List.setIfInBounds_toArray, List.set_cons_zero, List.set_cons_succ]); refine hK _ _ ?_; clear hK K
  repeat (first | (refine m_plain (v := ?_) (by rfl) (by rfl) ?_ ?_; rotate_left; (intro wz hSw; obtain ⟨-, hSc⟩ := hSw; (try simp only [List.forall_mem_cons, List.forall_mem_nil, and_true] at hSc); go_simp; (first | done | with_reducible rfl)); (intro K hK; (try simp only [Act.put, List.setIfInBounds_toArray, List.set_cons_zero, List.set_cons_succ]); refine hK _ _ ?_; clear hK K)) | (refine m_skip (by rfl) (by rfl) ?_; (intro K hK; (try simp only [Act.put, List.setIfInBounds_toArray, List.set_cons_zero, List.set_cons_succ]); refine hK _ _ ?_; clear hK K)))
  refine m_nil ?_
  intro wf hSf hAf
  have G6 : Hdr wf u6.heap.size _ _ _ _ := made_blk (hAf 6 _ rfl : Ext (u6.alloc _) wf)
  have z6 := Below.size hG6.s.1
  have ef : Ext W wf := hSf.1
  have OS := ht.up (hAf 4 _ rfl)
  have nS := OS.ne_hdr G6
  clear hSf hAf hG2 hG4 hG6 ht
  generalize u6.heap.size = bx at *
  clear u4 x4 u6
  have Ha := haW.up ef
  have HZ := hZW.up ef
  have AF := hid (aW.out.up ef)
  have lF := hid (lW.out.up ef)
  have hbx := G6.lt
  have zf := Below.size ef
  have SF := hid ((OS.ints hsl).mono (T := fun b => w.heap.size + 2 ≤ b ∧ b ≠ bx) (fun b _ hb => ⟨by omega, fun e => nS (by rw [hb.2, e])⟩))
  clear OS nS haW hZW
  go_wp2_with (first
    | (refine wpl_store4 rfl (.tmp 7) (.tmp 17) rfl bx rfl rfl G6 ?_; intro V1 HV C; have Ha1 := C.hdr Ha (by omega))
    | (refine wpl_load4 rfl (.tmp 3) rfl w.heap.size rfl Ha1 ?_)
    | (go_at_call 78; refine (fill_ref03_Fill a _ _ _ _ _ _ V1).mono ?_; rintro e w2 ⟨fa, fc, fn, fnc, fi, fic, rfl, hF, hFb⟩))
  have eX := Ext.trans (show Ext V1 w2 from hFb) (ext_alloc w2 (.cells #[.int .i64 (fillS a).kind, .slice fa (fillS a).shape.length fc, .slice fn (fillS a).nums.length fnc, .slice fi (fillS a).items.length fic] 46))
  have hFH := hdr_new w2 (.int .i64 (fillS a).kind) (.slice fa (fillS a).shape.length fc) (.slice fn (fillS a).nums.length fnc) (.slice fi (fillS a).items.length fic)
  generalize w2.alloc (.cells #[.int .i64 (fillS a).kind, .slice fa (fillS a).shape.length fc, .slice fn (fillS a).nums.length fnc, .slice fi (fillS a).items.length fic] 46) = V at *
  have zV := C.z
  have zX := Below.size eX
  have HaV := Ha1.up eX
  have HZV := (C.hdr HZ (by omega)).up eX
  have AV := hid ((C.arr AF.out (fun q hq => by omega)).up eX)
  have lV := hid ((C.ints lF.out (fun q hq => by omega)).up eX)
  have SV := hid ((C.ints SF.out (fun q hq => hq.2)).up eX)
  have HVV := HV.up eX
  have BV : Hid (Below w.heap.size w V) := hid (Below.trans (C.below (Below.trans heW (Below.mono ef (by omega))) (by omega)) (Below.mono eX (by omega)))
  clear Ha HZ AF lF SF Ha1 hF hFb C eX G6 HV hFH
  go_loopw [9] (fun i wr => ∃ (m : Nat) (ra : Option Addr) (rc : Nat), m ≤ l.length ∧ i = .int .i64 m ∧ BldN V wr bx (.int .i64 a.kind) (.slice ta s.length tc) ra rc (pickN a.nums (atL l) m)) (fun i _ => l.length - (intOf i).toNat)
  case atStart => exact ⟨0, none, 0, Nat.zero_le _, rfl, BldN.new HVV⟩
  case round =>
    obtain ⟨m, ra, rc, hm, rfl, hB⟩ := hrel
    have hB := hid hB
    have hl := hB.out.l
    have zr := hB.out.g.size
    by_cases hlt : m < l.length
    · have H2 := HaV.grown hB.out.g (by simp; omega)
      have AR := hid (AV.out.grown hB.out.g (fun b hb _ => by simp; omega))
      have lR := hid (lV.out.grown hB.out.g (fun b hb _ => by simp; omega))
      obtain ⟨b, off, rfl, hbl, hSb, hc⟩ := lR.out.at hlt
      obtain ⟨i0, i1⟩ := hin'.out m hlt
      have hPs := hid (pickN_succ a.nums (atL l) m)
      have hPl := hid (pickN_len a.nums (atL l) m)
      have hat : Hid (atL l m = l.getD m 0) := by simp [Hid, atL]
      rw [hat.out] at hPs
      generalize l.getD m 0 = x at hc i0 i1 hPs
      obtain ⟨b', off', hna, hbl', hSb', hc'⟩ := AR.out.nums.at (k := x.toNat) (by omega)
      generalize a.nums.getD x.toNat 0 = d at hPs hc'
      obtain ⟨t, rfl⟩ : ∃ t : Nat, x = (t : Int) := ⟨x.toNat, by omega⟩
      simp only [Int.toNat_natCast] at hc'
      have m0 : (0 : Int) ≤ (m : Int) := by omega
      have m1 : (m : Int) < (l.length : Int) := by omega
      subst hna
      go_wp2_with fail
      have r0 := H2.c0
      have r1 := H2.c1
      have r2 := H2.c2
      have r3 := H2.c3
      have hwl : w.heap.size < wr.heap.size := by omega
      go_region_held3 (fun w' => w'.cell? ⟨w.heap.size, 0, none⟩ = some (.int .i64 a.kind) ∧ w'.cell? ⟨w.heap.size, 1, none⟩ = some (.slice sa a.shape.length ca) ∧ w'.cell? ⟨w.heap.size, 2, none⟩ = some (.slice (some ⟨b', off', none⟩) a.nums.length ma) ∧ w'.cell? ⟨w.heap.size, 3, none⟩ = some (.slice ia a.items.length ja) ∧ w'.cell? ⟨b, off + m, none⟩ = some (.int .i64 (t : Nat))) (simp [go_sem, World.cell?_alloc_past, *]) (fail)
      clear r0 r1 r2 r3
      have mm0 : ¬ ((t : Nat) : Int) < 0 := by omega
      go_wp2_with fail
      have H5 : Hdr (wr.alloc (.cells #[.int .i64 a.kind, .slice sa a.shape.length ca, .slice (some ⟨b', off', none⟩) a.nums.length ma, .slice ia a.items.length ja] 46)).drew wr.heap.size _ _ _ _ := (hdr_new wr _ _ _ _).up (ext_drawn _)
      have eD := (ext_alloc wr (.cells #[.int .i64 a.kind, .slice sa a.shape.length ca, .slice (some ⟨b', off', none⟩) a.nums.length ma, .slice ia a.items.length ja] 46)).trans (ext_drawn _)
      generalize (wr.alloc (.cells #[.int .i64 a.kind, .slice sa a.shape.length ca, .slice (some ⟨b', off', none⟩) a.nums.length ma, .slice ia a.items.length ja] 46)).drew = wd at *
      have bD := hid (hB.out.up eD)
      have q5 := bD.out.h.c2
      have q4 := H5.c2
      have q6 := up_cell hc' eD
      have tt0 : (0 : Int) ≤ (t : Int) := by omega
      have tt1 : (t : Int) < (a.nums.length : Int) := by omega
      refine wp_region_mono_tail 8 (Sees wd [(⟨bx, 2, none⟩, .slice ra (pickN a.nums (atL l) m).length rc), (⟨wr.heap.size, 2, none⟩, .slice (some ⟨b', off', none⟩) a.nums.length ma), (⟨b', off' + t, none⟩, .int .i64 d)]) [7] (fun k v u u' => match k with | 7 => v = .slice (some ⟨u.heap.size, 0, none⟩) 1 1 ∧ u' = u.alloc (.cells #[.int .i64 d] 3) | _ => False) (fun _ _ h e => h.up e) (Sees.start (all_cons (q5) (all_cons (q4) (all_cons (q6) (all_nil))))) (by kernel_rfl) (by kernel_rfl) ?_
      simp only [List.take_succ_cons, List.take_zero, List.drop_succ_cons, List.drop_zero]
      repeat (first | (refine m_plain (v := ?_) (by rfl) (by rfl) ?_ ?_; rotate_left; (intro wz hSw; obtain ⟨-, hSc⟩ := hSw; (try simp only [List.forall_mem_cons, List.forall_mem_nil, and_true] at hSc); go_simp; (first | done | with_reducible rfl)); (intro K hK; (try simp only [Act.put, List.setIfInBounds_toArray, List.set_cons_zero, List.set_cons_succ]); refine hK _ _ ?_; clear hK K)) | (refine m_skip (by rfl) (by rfl) ?_; (intro K hK; (try simp only [Act.put, List.setIfInBounds_toArray, List.set_cons_zero, List.set_cons_succ]); refine hK _ _ ?_; clear hK K)))
      refine m_make (by rfl) (by rfl) ?_ ?_
      · intro wz hSw hdep R hRz
        obtain ⟨hSe, hSc⟩ := hSw
        (try simp only [List.forall_mem_cons, List.forall_mem_nil, and_true] at hSc)
        unfold does
        (go_simp; exact hRz.out _ _ ⟨ext_alloc _ _, rfl, rfl⟩)
      intro v7 u7 x7 hG7 K hK
      have hF7 := hG7.fact
      (try dsimp only at hF7)
      obtain ⟨rfl, rfl⟩ := hF7
      (try simp only [Act.put, List.setIfInBounds_toArray, List.set_cons_zero, List.set_cons_succ]); refine hK _ _ ?_; clear hK K
      repeat (first | (refine m_plain (v := ?_) (by rfl) (by rfl) ?_ ?_; rotate_left; (intro wz hSw; obtain ⟨-, hSc⟩ := hSw; (try simp only [List.forall_mem_cons, List.forall_mem_nil, and_true] at hSc); go_simp; (first | done | with_reducible rfl)); (intro K hK; (try simp only [Act.put, List.setIfInBounds_toArray, List.set_cons_zero, List.set_cons_succ]); refine hK _ _ ?_; clear hK K)) | (refine m_skip (by rfl) (by rfl) ?_; (intro K hK; (try simp only [Act.put, List.setIfInBounds_toArray, List.set_cons_zero, List.set_cons_succ]); refine hK _ _ ?_; clear hK K)))
      refine m_nil ?_
      intro wf hSf hAf
      have eF : Ext wd wf := hSf.1
      have oF : Hid (IntsAt wf (fun b => b = u7.heap.size) (some ⟨u7.heap.size, 0, none⟩) [d]) := IntsAt.box rfl (by rw [cell_of_row wf _ 0 _ _ _ (made_blk (hAf 7 _ rfl : Ext (u7.alloc _) wf))]; rfl)
      have bF := hid (bD.out.up eF)
      clear hSf hAf hG7 eF
      refine wpl_addN rfl rfl rfl (.tmp 48) (.tmp 54) (.tmp 7) (.tmp 56) (.tmp 55) rfl rfl rfl bF.out _ _ 1 [d] rfl rfl oF.out (by rw [hPl.out]; simp; omega) (fun _ => rfl) (fun _ _ => rfl) (fun _ _ => rfl) ?_
      intro V' na' nc' hB'
      have hB2 := hid hB'
      clear hB' bF oF
      go_wp2_with fail
      go_roundw
      case rel => exact ⟨m + 1, na', nc', by omega, by go_num, by rw [hPs.out]; exact hB2.out⟩
      case measure => simp [intOf]; omega
    · have hmn : m = l.length := by omega
      subst hmn
      have hHB := hB.out.h
      have HRr := HZV.grown hB.out.g (by simp; omega)
      have AN := hid ((hB.out.o.ints (by rw [pickN_len]; omega)).mono (T := fun b => w.heap.size + 2 ≤ b) (fun b _ hb => by have := hb.1; omega))
      have ASr := hid (SV.out.grown hB.out.g (fun b hb _ => by simpa using hb.2))
      have Bwr := hid (BV.out.grown hB.out.g BV.out.size (fun q hq => by injection hq with hq; omega))
      go_wp2_with (first
        | (refine wpl_load4 rfl (.tmp 7) rfl bx rfl hHB ?_)
        | (refine wpl_store4 rfl (.tmp 6) (.tmp 57) rfl (w.heap.size + 1) rfl rfl HRr ?_; intro V2 H2 C2))
      refine bodyPost_ret (end_arr rfl H2 rfl) rfl (hR.out _ _ ?_)
      refine RetA.of (l := []) (n := pickN a.nums (atL l) l.length) (s := s) (by rw [gathS_N hk'.out]) ?_ ?_ (Nat.zero_le _) (by simp only [ItemsAt]) ?_
      · exact (C2.ints ASr.out (fun q hq => by omega)).mono fun b _ hb => Or.inr (by omega)
      · exact (C2.ints AN.out (fun q hq => by omega)).mono fun b _ hb => Or.inr (by omega)
      · exact C2.below Bwr.out (by omega)
set_option maxRecDepth 100000 in
set_option maxHeartbeats 4000000 in
theorem ref19_Gather_A (a : Arr) (sa : Option Addr) (ca : Nat) (na : Option Addr) (ma : Nat) (ia : Option Addr) (ja : Nat) (s l : List Int) (so : Option Addr) (sc : Nat) (lo : Option Addr) (lc : Nat) (S T U : Nat → Prop) (w : World) (h : ArrAt w S a sa na ia) (hs : IntsAt w T so s) (hl : IntsAt w U lo l) (hk : a.kind = 3) (hin : offsIn l a.items.length) (hll2 : l.length ≤ 1759218604441) :
    Calls Try.prog 63 #[.agg #[.int .i64 a.kind, .slice sa a.shape.length ca, .slice na a.nums.length ma, .slice ia a.items.length ja], .slice so s.length sc, .slice lo l.length lc] w (RetA w (fun b => S b ∨ w.heap.size ≤ b) (gathS a s (atL l) l.length)) := by
  refine calls_post fun R' hR => ?_
  have hnl := h.nums.1
  have hsl := hs.1
  have hll := hl.1
  have h0 := hid (ArrAt.mono (T := fun b => S b ∧ b < w.heap.size) (fun b hb hs => ⟨hs, hb⟩) a h)
  have s0 := hid (IntsAt.mono (T := fun b => b < w.heap.size) hs (fun b hb _ => hb))
  have l0 := hid (IntsAt.mono (T := fun b => b < w.heap.size) hl (fun b hb _ => hb))
  have hil := h0.out.len
  have hk3 : (a.kind == 3) = true := by simpa using hk
  have hk' := hid hk
  have hin' := hid hin
  clear h hs hl hk hin
  go_enter Try.func63, Try.ntmps63
  go_wp2_with fail
  generalize hEW : ((w).alloc (.cells #[.int .i64 a.kind, .slice sa a.shape.length ca, .slice na a.nums.length ma, .slice ia a.items.length ja] 46)).alloc (.cells #[.int .i64 0, .slice none 0 0, .slice none 0 0, .slice none 0 0] 46) = W
  obtain ⟨haW, hZW, heW, zW⟩ := boxes2 w hEW
  clear hEW
  have aW := hid (h0.out.up heW)
  have sW := hid (s0.out.up heW)
  have lW := hid (l0.out.up heW)
  refine wp_region_mono_tail 7 (Sees W [(⟨w.heap.size, 0, none⟩, .int .i64 a.kind)]) [2, 4, 6] (fun k v u u' => match k with | 2 => v = .slice (some ⟨u.heap.size, 0, none⟩) 0 0 ∧ u' = u.alloc (.cells #[] 3) | 4 => ∃ ao cap, v = .slice ao s.length cap ∧ OwnI u' W.heap.size ao cap s | 6 => v = .pointer (some ⟨u.heap.size, 0, none⟩) ∧ u' = u.alloc (.cells #[.int .i64 0, .slice none 0 0, .slice none 0 0, .slice none 0 0] 46) | _ => False) (fun _ _ h e => h.up e) (Sees.start (all_cons (haW.c0) (all_nil))) (by kernel_rfl) (by kernel_rfl) ?_
  simp only [List.take_succ_cons, List.take_zero, List.drop_succ_cons, List.drop_zero]
  repeat (first | (refine m_plain (v := ?_) (by rfl) (by rfl) ?_ ?_; rotate_left; (intro wz hSw; obtain ⟨-, hSc⟩ := hSw; (try simp only [List.forall_mem_cons, List.forall_mem_nil, and_true] at hSc); go_simp; (first | done | with_reducible rfl)); (intro K hK; (try simp only [Act.put, List.setIfInBounds_toArray, List.set_cons_zero, List.set_cons_succ]); refine hK _ _ ?_; clear hK K)) | (refine m_skip (by rfl) (by rfl) ?_; (intro K hK; (try simp only [Act.put, List.setIfInBounds_toArray, List.set_cons_zero, List.set_cons_succ]); refine hK _ _ ?_; clear hK K)))
  refine m_make (by rfl) (by rfl) ?_ ?_
  · intro wz hSw hdep R hRz
    obtain ⟨hSe, hSc⟩ := hSw
    (try simp only [List.forall_mem_cons, List.forall_mem_nil, and_true] at hSc)
    unfold does
    (go_simp; exact hRz.out _ _ ⟨ext_alloc _ _, rfl, rfl⟩)
  intro v2 u2 x2 hG2 K hK
  have hF2 := hG2.fact
  (try dsimp only at hF2)
  obtain ⟨rfl, rfl⟩ := hF2
  (try simp only [Act.put, List.setIfInBounds_toArray, List.set_cons_zero, List.set_cons_succ]); refine hK _ _ ?_; clear hK K
  repeat (first | (refine m_plain (v := ?_) (by rfl) (by rfl) ?_ ?_; rotate_left; (intro wz hSw; obtain ⟨-, hSc⟩ := hSw; (try simp only [List.forall_mem_cons, List.forall_mem_nil, and_true] at hSc); go_simp; (first | done | with_reducible rfl)); (intro K hK; (try simp only [Act.put, List.setIfInBounds_toArray, List.set_cons_zero, List.set_cons_succ]); refine hK _ _ ?_; clear hK K)) | (refine m_skip (by rfl) (by rfl) ?_; (intro K hK; (try simp only [Act.put, List.setIfInBounds_toArray, List.set_cons_zero, List.set_cons_succ]); refine hK _ _ ?_; clear hK K)))
  refine m_make (by rfl) (by rfl) ?_ ?_
  · intro wz hSw hdep R hRz
    obtain ⟨hSe, hSc⟩ := hSw
    (try simp only [List.forall_mem_cons, List.forall_mem_nil, and_true] at hSc)
    (refine does_appE (.tmp 14) (.tmp 15) (by rfl) W.heap.size (some ⟨u2.heap.size, 0, none⟩) (by rfl) (own_empty (Below.size hG2.s.1) (hdep 2 _ rfl (depB_sound (f := 60) (by kernel_rfl)))) _ so sc s (by rfl) (sW.out.up hSe) (Below.size hSe) ?_; intro ao' cap' w' g1 g2; exact hRz.out _ _ ⟨g2, ao', cap', rfl, g1⟩)
  intro v4 u4 x4 hG4 K hK
  have hF4 := hG4.fact
  (try dsimp only at hF4)
  obtain ⟨ta, tc, rfl, ht⟩ := hF4
  (try simp only [Act.put, List.setIfInBounds_toArray, List.set_cons_zero, List.set_cons_succ]); refine hK _ _ ?_; clear hK K
  repeat (first | (refine m_plain (v := ?_) (by rfl) (by rfl) ?_ ?_; rotate_left; (intro wz hSw; obtain ⟨-, hSc⟩ := hSw; (try simp only [List.forall_mem_cons, List.forall_mem_nil, and_true] at hSc); go_simp; (first | done | with_reducible rfl)); (intro K hK; (try simp only [Act.put, List.setIfInBounds_toArray, List.set_cons_zero, List.set_cons_succ]); refine hK _ _ ?_; clear hK K)) | (refine m_skip (by rfl) (by rfl) ?_; (intro K hK; (try simp only [Act.put, List.setIfInBounds_toArray, List.set_cons_zero, List.set_cons_succ]); refine hK _ _ ?_; clear hK K)))
  refine m_make (by rfl) (by rfl) ?_ ?_
  · intro wz hSw hdep R hRz
    obtain ⟨hSe, hSc⟩ := hSw
    (try simp only [List.forall_mem_cons, List.forall_mem_nil, and_true] at hSc)
    unfold does
    (go_simp; exact hRz.out _ _ ⟨ext_alloc _ _, rfl, rfl⟩)
  intro v6 u6 x6 hG6 K hK
  have hF6 := hG6.fact
  (try dsimp only at hF6)
  obtain ⟨rfl, rfl⟩ := hF6
  (try simp only [Act.put, List.setIfInBounds_toArray, List.set_cons_zero, List.set_cons_succ]); refine hK _ _ ?_; clear hK K
  repeat (first | (refine m_plain (v := ?_) (by rfl) (by rfl) ?_ ?_; rotate_left; (intro wz hSw; obtain ⟨-, hSc⟩ := hSw; (try simp only [List.forall_mem_cons, List.forall_mem_nil, and_true] at hSc); go_simp; (first | done | with_reducible rfl)); (intro K hK; (try simp only [Act.put, List.setIfInBounds_toArray, List.set_cons_zero, List.set_cons_succ]); refine hK _ _ ?_; clear hK K)) | (refine m_skip (by rfl) (by rfl) ?_; (intro K hK; (try simp only [Act.put, List.setIfInBounds_toArray, List.set_cons_zero, List.set_cons_succ]); refine hK _ _ ?_; clear hK K)))
  refine m_nil ?_
  intro wf hSf hAf
  have G6 : Hdr wf u6.heap.size _ _ _ _ := made_blk (hAf 6 _ rfl : Ext (u6.alloc _) wf)
  have z6 := Below.size hG6.s.1
  have ef : Ext W wf := hSf.1
  have OS := ht.up (hAf 4 _ rfl)
  have nS := OS.ne_hdr G6
  clear hSf hAf hG2 hG4 hG6 ht
  generalize u6.heap.size = bx at *
  clear u4 x4 u6
  have Ha := haW.up ef
  have HZ := hZW.up ef
  have AF := hid (aW.out.up ef)
  have lF := hid (lW.out.up ef)
  have hbx := G6.lt
  have zf := Below.size ef
  have SF := hid ((OS.ints hsl).mono (T := fun b => w.heap.size + 2 ≤ b ∧ b ≠ bx) (fun b _ hb => ⟨by omega, fun e => nS (by rw [hb.2, e])⟩))
  clear OS nS haW hZW
  go_wp2_with (first
    | (refine wpl_store4 rfl (.tmp 7) (.tmp 17) rfl bx rfl rfl G6 ?_; intro V1 HV C; have Ha1 := C.hdr Ha (by omega))
    | (refine wpl_load4 rfl (.tmp 3) rfl w.heap.size rfl Ha1 ?_)
    | (go_at_call 78; refine (fill_ref03_Fill a _ _ _ _ _ _ V1).mono ?_; rintro e w2 ⟨fa, fc, fn, fnc, fi, fic, rfl, hF, hFb⟩))
  have eX := Ext.trans (show Ext V1 w2 from hFb) (ext_alloc w2 (.cells #[.int .i64 (fillS a).kind, .slice fa (fillS a).shape.length fc, .slice fn (fillS a).nums.length fnc, .slice fi (fillS a).items.length fic] 46))
  have hFH := hdr_new w2 (.int .i64 (fillS a).kind) (.slice fa (fillS a).shape.length fc) (.slice fn (fillS a).nums.length fnc) (.slice fi (fillS a).items.length fic)
  generalize w2.alloc (.cells #[.int .i64 (fillS a).kind, .slice fa (fillS a).shape.length fc, .slice fn (fillS a).nums.length fnc, .slice fi (fillS a).items.length fic] 46) = V at *
  have zV := C.z
  have zX := Below.size eX
  have HaV := Ha1.up eX
  have HZV := (C.hdr HZ (by omega)).up eX
  have AV := hid ((C.arr AF.out (fun q hq => by omega)).up eX)
  have lV := hid ((C.ints lF.out (fun q hq => by omega)).up eX)
  have SV := hid ((C.ints SF.out (fun q hq => hq.2)).up eX)
  have HVV := HV.up eX
  have BV : Hid (Below w.heap.size w V) := hid (Below.trans (C.below (Below.trans heW (Below.mono ef (by omega))) (by omega)) (Below.mono eX (by omega)))
  clear Ha HZ AF lF SF Ha1 hF hFb C eX G6 HV hFH
  go_loopw [9] (fun i wr => ∃ (m : Nat) (ra : Option Addr) (rc : Nat), m ≤ l.length ∧ i = .int .i64 m ∧ BldA V wr bx (.int .i64 a.kind) (.slice ta s.length tc) (fun b => (b ≠ bx ∧ b ≠ w.heap.size + 1) ∧ (S b ∨ w.heap.size ≤ b)) ra rc (pickA a.items (atL l) m)) (fun i _ => l.length - (intOf i).toNat)
  case atStart => exact ⟨0, none, 0, Nat.zero_le _, rfl, BldA.new HVV (fun b hb => hb.1.1)⟩
  case round =>
    obtain ⟨m, ra, rc, hm, rfl, hB⟩ := hrel
    have hB := hid hB
    have hl := hB.out.l
    have zr := hB.out.g.size
    by_cases hlt : m < l.length
    · have H2 := HaV.grown hB.out.g (by simp; omega)
      have AR := hid (AV.out.grown hB.out.g (fun b hb _ => by simp; omega))
      have lR := hid (lV.out.grown hB.out.g (fun b hb _ => by simp; omega))
      obtain ⟨b, off, rfl, hbl, hSb, hc⟩ := lR.out.at hlt
      obtain ⟨i0, i1⟩ := hin'.out m hlt
      have hPs := hid (pickA_succ a.items (atL l) m)
      have hPl := hid (pickA_len a.items (atL l) m)
      have hat : Hid (atL l m = l.getD m 0) := by simp [Hid, atL]
      rw [hat.out] at hPs
      generalize l.getD m 0 = x at hc i0 i1 hPs
      have hat3 : x.toNat < a.items.length := by omega
      obtain ⟨b', off', sx', cx', nx', mx', ix', jx', hna, hSb', hbl', e0, e1, e2, e3, hx⟩ := AR.out.items.at hat3
      have hgd : a.items.getD x.toNat .zero = a.items[x.toNat] := by simp [hat3]
      rw [hgd] at hPs
      generalize a.items[x.toNat] = y at hPs e0 e1 e2 e3 hx
      obtain ⟨t, rfl⟩ : ∃ t : Nat, x = (t : Int) := ⟨x.toNat, by omega⟩
      simp only [Int.toNat_natCast] at e0 e1 e2 e3
      have HX := hid hx
      clear hgd hx
      have m0 : (0 : Int) ≤ (m : Int) := by omega
      have m1 : (m : Int) < (l.length : Int) := by omega
      subst hna
      go_wp2_with fail
      have r0 := H2.c0
      have r1 := H2.c1
      have r2 := H2.c2
      have r3 := H2.c3
      have hwl : w.heap.size < wr.heap.size := by omega
      go_region_held3 (fun w' => w'.cell? ⟨w.heap.size, 0, none⟩ = some (.int .i64 a.kind) ∧ w'.cell? ⟨w.heap.size, 1, none⟩ = some (.slice sa a.shape.length ca) ∧ w'.cell? ⟨w.heap.size, 2, none⟩ = some (.slice na a.nums.length ma) ∧ w'.cell? ⟨w.heap.size, 3, none⟩ = some (.slice (some ⟨b', off', none⟩) a.items.length ja) ∧ w'.cell? ⟨b, off + m, none⟩ = some (.int .i64 (t : Nat))) (simp [go_sem, World.cell?_alloc_past, *]) (fail)
      clear r0 r1 r2 r3
      have mm0 : ¬ ((t : Nat) : Int) < 0 := by omega
      go_wp2_with fail
      have H5 : Hdr (wr.alloc (.cells #[.int .i64 a.kind, .slice sa a.shape.length ca, .slice na a.nums.length ma, .slice (some ⟨b', off', none⟩) a.items.length ja] 46)).drew wr.heap.size _ _ _ _ := (hdr_new wr _ _ _ _).up (ext_drawn _)
      have eD := (ext_alloc wr (.cells #[.int .i64 a.kind, .slice sa a.shape.length ca, .slice na a.nums.length ma, .slice (some ⟨b', off', none⟩) a.items.length ja] 46)).trans (ext_drawn _)
      generalize (wr.alloc (.cells #[.int .i64 a.kind, .slice sa a.shape.length ca, .slice na a.nums.length ma, .slice (some ⟨b', off', none⟩) a.items.length ja] 46)).drew = wd at *
      have bD := hid (hB.out.up eD)
      have q5 := bD.out.h.c3
      have q4 := H5.c3
      have f0 := up_cell e0 eD
      have f1 := up_cell e1 eD
      have f2 := up_cell e2 eD
      have f3 := up_cell e3 eD
      have HXd := hid (HX.out.up eD)
      have zd := Below.size eD
      have tt0 : (0 : Int) ≤ (t : Int) := by omega
      have tt1 : (t : Int) < (a.items.length : Int) := by omega
      clear e0 e1 e2 e3
      refine wp_region_mono_tail 8 (Sees wd [(⟨bx, 3, none⟩, .slice ra (pickA a.items (atL l) m).length rc), (⟨wr.heap.size, 3, none⟩, .slice (some ⟨b', off', none⟩) a.items.length ja), (⟨b', off' + t * 4, none⟩, .int .i64 y.kind), (⟨b', off' + t * 4 + 1, none⟩, .slice sx' y.shape.length cx'), (⟨b', off' + t * 4 + 2, none⟩, .slice nx' y.nums.length mx'), (⟨b', off' + t * 4 + 3, none⟩, .slice ix' y.items.length jx')]) [7] (fun k v u u' => match k with | 7 => v = .slice (some ⟨u.heap.size, 0, none⟩) 1 1 ∧ u' = u.alloc (.cells #[.int .i64 y.kind, .slice sx' y.shape.length cx', .slice nx' y.nums.length mx', .slice ix' y.items.length jx'] 46) | _ => False) (fun _ _ h e => h.up e) (Sees.start (all_cons (q5) (all_cons (q4) (all_cons (f0) (all_cons (f1) (all_cons (f2) (all_cons (f3) (all_nil)))))))) (by kernel_rfl) (by kernel_rfl) ?_
      simp only [List.take_succ_cons, List.take_zero, List.drop_succ_cons, List.drop_zero]
      repeat (first | (refine m_plain (v := ?_) (by rfl) (by rfl) ?_ ?_; rotate_left; (intro wz hSw; obtain ⟨-, hSc⟩ := hSw; (try simp only [List.forall_mem_cons, List.forall_mem_nil, and_true] at hSc); go_simp; (first | done | with_reducible rfl)); (intro K hK; (try simp only [Act.put, List.setIfInBounds_toArray, List.set_cons_zero, List.set_cons_succ]); refine hK _ _ ?_; clear hK K)) | (refine m_skip (by rfl) (by rfl) ?_; (intro K hK; (try simp only [Act.put, List.setIfInBounds_toArray, List.set_cons_zero, List.set_cons_succ]); refine hK _ _ ?_; clear hK K)))
      refine m_make (by rfl) (by rfl) ?_ ?_
      · intro wz hSw hdep R hRz
        obtain ⟨hSe, hSc⟩ := hSw
        (try simp only [List.forall_mem_cons, List.forall_mem_nil, and_true] at hSc)
        unfold does
        (go_simp; exact hRz.out _ _ ⟨ext_alloc _ _, rfl, rfl⟩)
      intro v7 u7 x7 hG7 K hK
      have hF7 := hG7.fact
      (try dsimp only at hF7)
      obtain ⟨rfl, rfl⟩ := hF7
      (try simp only [Act.put, List.setIfInBounds_toArray, List.set_cons_zero, List.set_cons_succ]); refine hK _ _ ?_; clear hK K
      repeat (first | (refine m_plain (v := ?_) (by rfl) (by rfl) ?_ ?_; rotate_left; (intro wz hSw; obtain ⟨-, hSc⟩ := hSw; (try simp only [List.forall_mem_cons, List.forall_mem_nil, and_true] at hSc); go_simp; (first | done | with_reducible rfl)); (intro K hK; (try simp only [Act.put, List.setIfInBounds_toArray, List.set_cons_zero, List.set_cons_succ]); refine hK _ _ ?_; clear hK K)) | (refine m_skip (by rfl) (by rfl) ?_; (intro K hK; (try simp only [Act.put, List.setIfInBounds_toArray, List.set_cons_zero, List.set_cons_succ]); refine hK _ _ ?_; clear hK K)))
      refine m_nil ?_
      intro wf hSf hAf
      have eF : Ext wd wf := hSf.1
      have e7 : Ext (u7.alloc _) wf := hAf 7 _ rfl
      have h7 : Hdr wf u7.heap.size _ _ _ _ := made_blk e7
      have z7 := Below.size hG7.s.1
      have oF := hid (items_one (sc := cx') (nc := mx') (jc := jx') (S := fun b => (S b ∧ b < w.heap.size) ∨ b = u7.heap.size) (Or.inr rfl) h7.c0 h7.c1 h7.c2 h7.c3 (ArrAt.mono (T := fun b => (S b ∧ b < w.heap.size) ∨ b = u7.heap.size) (fun b _ hb => Or.inl hb) y (HXd.out.up eF)))
      have bF := hid (bD.out.up eF)
      have hrw : ∀ k, rowOf ra = some k → V.heap.size ≤ k ∧ k < wr.heap.size := fun k hk => hB.out.o.row k hk
      clear hSf hAf hG7 eF e7 h7
      refine wpl_addA rfl rfl rfl (.tmp 38) (.tmp 44) (.tmp 7) (.tmp 46) (.tmp 45) rfl rfl rfl bF.out _ _ 1 [y] rfl rfl oF.out (fun b _ hb => ⟨⟨by have := hB.out.l; rcases hb with ⟨_, hb⟩ | hb <;> (constructor <;> omega), by rcases hb with hb | hb; exact Or.inl hb.1; exact Or.inr (by omega)⟩, fun e => by have := hrw b e.symm; rcases hb with ⟨_, hb⟩ | hb <;> omega⟩) (by rw [hPl.out]; simp; omega) (fun _ => rfl) (fun _ _ => rfl) (fun _ _ => rfl) ?_
      intro V' na' nc' hB'
      have hB2 := hid hB'
      clear hB' bF oF
      go_wp2_with fail
      go_roundw
      case rel => exact ⟨m + 1, na', nc', by omega, by go_num, by rw [hPs.out]; exact hB2.out⟩
      case measure => simp [intOf]; omega
    · have hmn : m = l.length := by omega
      subst hmn
      have hHB := hB.out.h
      have HRr := HZV.grown hB.out.g (by simp; omega)
      have AN := hid ((hB.out.o.items).mono (T := fun b => b ≠ w.heap.size + 1 ∧ (S b ∨ w.heap.size ≤ b)) (fun b _ hb => by rcases hb with hb | hb; exact ⟨hb.1.2, hb.2⟩; exact ⟨by omega, Or.inr (by omega)⟩))
      have ASr := hid (SV.out.grown hB.out.g (fun b hb _ => by simpa using hb.2))
      have Bwr := hid (BV.out.grown hB.out.g BV.out.size (fun q hq => by injection hq with hq; omega))
      go_wp2_with (first
        | (refine wpl_load4 rfl (.tmp 7) rfl bx rfl hHB ?_)
        | (refine wpl_store4 rfl (.tmp 6) (.tmp 57) rfl (w.heap.size + 1) rfl rfl HRr ?_; intro V2 H2 C2))
      refine bodyPost_ret (end_arr rfl H2 rfl) rfl (hR.out _ _ ?_)
      refine RetA.of (k := a.kind) (l := pickA a.items (atL l) l.length) (n := []) (s := s) (by rw [gathS_A hk'.out, hk'.out]) ?_ (IntsAt.nil _ _ _) (by rw [pickA_len]; omega) ?_ ?_
      · exact (C2.ints ASr.out (fun q hq => by omega)).mono fun b _ hb => Or.inr (by omega)
      · exact (C2.items AN.out (fun q hq => hq.1)).mono fun b _ hb => hb.2
      · exact C2.below Bwr.out (by omega)
end Go.Proofs.Ytmclggonmekanaa
