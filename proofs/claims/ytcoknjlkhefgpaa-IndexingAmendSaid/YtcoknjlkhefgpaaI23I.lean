/- indexing.values and its functions: contracts. Conditions: the arrays and the list are read. -/
import Derived.Test.YtcoknjlkhefgpaaI23H
import Derived.Test.YtcoknjlkhefgpaaCELL1
import Derived.Test.YtcoknjlkhefgpaaCONC
import Derived.Test.YtcoknjlkhefgpaaSLEQ
set_option linter.unusedVariables false
set_option linter.unusedSimpArgs false
namespace Go.Proofs.Ytcoknjlkhefgpaa
open Go.RowKit Go.Sort
attribute [local go_sem ↓] run_max2 run_min2
attribute [local go_sem] eql_ints_nil eql_arrs_nil
theorem Env.addObj {w0 w w' : World} {S : Nat → Prop} {L : List Fact} (E : Env w0 S w L) (hb : Ext w w') {b : Nat} {o : Obj} (h1 : w.heap.size ≤ b) (h2 : w'.heap[b]? = some o) : Env w0 S w' (L ++ [.obj b o]) := by
  have E' := E.up hb
  have hlt := lt_of_block h2
  have hbk : blks (L ++ [.obj b o]) = blks L ++ [b] := by rw [blks_append]; simp [blks, Fact.blk]
  refine ⟨E'.ext, ?_, ?_, ?_⟩
  · rw [hbk, List.nodup_append]
    refine ⟨E.nd, by simp, fun a ha c hc => ?_⟩
    have := (E.lo a ha).2
    simp only [List.mem_singleton] at hc
    omega
  · intro c h
    rw [hbk, List.mem_append] at h
    rcases h with h | h
    · exact E'.lo c h
    · simp only [List.mem_singleton] at h
      subst h
      exact ⟨Nat.le_trans E.size h1, hlt⟩
  · intro f hf
    rw [List.mem_append] at hf
    rcases hf with hf | hf
    · have := Fact.keep (E.h f hf) (w' := w) (T' := Tst w0 S (L ++ [.obj b o])) (fun _ _ => rfl) (fun _ _ _ => rfl) (fun c hlt h => by
        refine ⟨h.1, ?_⟩
        rw [hbk, List.mem_append]
        rintro (h' | h')
        · exact h.2 h'
        · simp only [List.mem_singleton] at h'
          omega)
      exact Fact.keep this (fun b hb' => hb.block b (E.lo b (mem_blks.2 ⟨f, hf, hb'⟩)).2) (fun b _ hlt => hb.block b hlt) (fun _ _ h => h)
    · simp only [List.mem_singleton] at hf; subst hf
      exact h2
theorem values_1 (k j ps : Nat) (n : Nat) (w : World) (h : w.cell? ⟨ps, 0, none⟩ = some (.int .i64 (n : Int))) (hk : k * n + j ≤ 1000000) : Calls Try.prog 66 #[.int .i64 (k : Int), .int .i64 (j : Int), .pointer (some ⟨ps, 0, none⟩)] w fun e w' => e = .returned (.int .i64 ((k * n + j : Nat) : Int)) ∧ w = w' := by
  refine calls_post fun R' hR => ?_
  obtain ⟨q, hq⟩ : ∃ q, q = k * n := ⟨_, rfl⟩
  rw [← hq] at hk hR
  have hw1 : IntKind.i64.wrap ((k : Int) * (n : Int)) = (q : Int) := by rw [← Int.natCast_mul, ← hq]; exact IntWalk.i64_in _ (by omega)
  have hw2 : IntKind.i64.wrap ((q : Int) + (j : Int)) = ((q + j : Nat) : Int) := by rw [Int.natCast_add]; exact IntWalk.i64_in _ (by omega)
  replace hq := hid hq
  go_enter Try.func66, Try.ntmps66
  go_wp2_with fail
  exact hR.out _ _ ⟨rfl, rfl⟩
theorem values_2 (k j : Nat) (w : World) : Calls Try.prog 67 #[.int .i64 (k : Int), .int .i64 (j : Int)] w fun e w' => e = .returned (.int .i64 (j : Int)) ∧ w = w' := by
  refine calls_post fun R' hR => ?_
  go_enter Try.func67, Try.ntmps67
  go_wp2_with fail
  exact hR.out _ _ ⟨rfl, rfl⟩
theorem values_3 (k j : Nat) (w : World) : Calls Try.prog 68 #[.int .i64 (k : Int), .int .i64 (j : Int)] w fun e w' => e = .returned (.int .i64 0) ∧ w = w' := by
  refine calls_post fun R' hR => ?_
  go_enter Try.func68, Try.ntmps68
  go_wp2_with fail
  exact hR.out _ _ ⟨rfl, rfl⟩
def valM (p z : Arr) (cl : List Int) : Nat := if z.shape = p.shape ++ cl then 0 else if z.shape = cl then 1 else 2
def RetVals (w : World) (p z : Arr) (cl : List Int) (e : Ending) (w' : World) : Prop :=
  ∃ (ps : Nat) (f : Value) (b : Bool), e = .returned (.tuple #[f, .bool b]) ∧ w.heap.size ≤ ps ∧ w'.heap[ps]? = some (.cells #[.int .i64 (cnt cl)] 3 (0, 0)) ∧ Ext w w' ∧
    ((valM p z cl = 0 ∧ f = .func (.func 66) #[] #[.pointer (some ⟨ps, 0, none⟩)] ∧ b = true) ∨ (valM p z cl = 1 ∧ f = .func (.func 67) #[] #[] ∧ b = true) ∨ (valM p z cl = 2 ∧ f = .func (.func 68) #[] #[] ∧ b = decide (z.shape.length = 0)))
theorem shape_Same (s t : List Int) (ao : Option Addr) (cap : Nat) (bo : Option Addr) (bcap : Nat) (S T : Nat → Prop) (w : World) (h : IntsAt w S ao s) (g : IntsAt w T bo t) :
    Calls Try.prog 65 #[.slice ao s.length cap, .slice bo t.length bcap] w fun e w' => e = .returned (.bool (eqI s t)) ∧ ∃ n, w' = w.drewN n := by
  refine calls_post fun R' hR => ?_
  have h0 := hid h
  have g0 := hid g
  clear h g
  go_enter Try.func65, Try.ntmps65
  go_wp2_with fail
  refine (slices_Equal s t _ _ _ _ _ _ _ h0.out g0.out).mono ?_
  rintro e w' ⟨rfl, n, rfl⟩
  go_wp2_with fail
  exact hR.out _ _ ⟨rfl, n, rfl⟩
set_option maxHeartbeats 8000000 in
theorem indexing_values (p : Arr) (sp : Option Addr) (cp : Nat) (np : Option Addr) (mp : Nat) (ip : Option Addr) (jp : Nat) (z : Arr) (sz : Option Addr) (cz : Nat) (nz : Option Addr) (mz : Nat) (iz : Option Addr) (jz : Nat) (cl : List Int) (co : Option Addr) (cc : Nat) (S : Nat → Prop) (w : World) (h : ArrAt w S p sp np ip) (g : ArrAt w S z sz nz iz) (f : IntsAt w S co cl) (hp : p.shape.length ≤ 10000) (hcl : cl.length ≤ 10000) (hsC : shapeB cl = true) :
    Calls Try.prog 41 #[.agg #[.int .i64 p.kind, .slice sp p.shape.length cp, .slice np p.nums.length mp, .slice ip p.items.length jp], .agg #[.int .i64 z.kind, .slice sz z.shape.length cz, .slice nz z.nums.length mz, .slice iz z.items.length jz], .slice co cl.length cc] w (RetVals w p z cl) := by
  refine calls_post fun R' hR => ?_
  have h0 := hid h
  have g0 := hid g
  have f0 := hid f
  have hzs := g.shape.1
  clear h g f
  obtain ⟨s, hss⟩ : ∃ s, s = p.shape ++ cl := ⟨_, rfl⟩
  have hsl : s.length ≤ 20000 := by rw [hss, List.length_append]; omega
  have hM0 : Hid (z.shape = s → valM p z cl = 0) := hid (fun q => if_pos (q.trans hss))
  have hM1 : Hid (z.shape ≠ s → z.shape = cl → valM p z cl = 1) := hid (fun q r => by unfold valM; rw [← hss, if_neg q, if_pos r])
  have hM2 : Hid (z.shape ≠ s → z.shape ≠ cl → valM p z cl = 2) := hid (fun q r => by unfold valM; rw [← hss, if_neg q, if_neg r])
  replace hss := hid hss
  go_enter Try.func41, Try.ntmps41
  go_upto_region 1 with (fail)
  generalize hEW : ((w).alloc (.cells #[.int .i64 p.kind, .slice sp p.shape.length cp, .slice np p.nums.length mp, .slice ip p.items.length jp] 26)).alloc (.cells #[.int .i64 z.kind, .slice sz z.shape.length cz, .slice nz z.nums.length mz, .slice iz z.items.length jz] 26) = W
  have E := hid (env2 w S hEW)
  clear hEW
  replace E := hid (((E.out.arg h0.out).arg g0.out).argI f0.out)
  (try simp only [List.cons_append, List.nil_append, List.set_cons_zero, List.set_cons_succ] at E)
  go_wp2_with fail
  refine (shape_Size cl _ _ _ _ (E.out.ints 4 rfl)).mono ?_
  rintro e w1 ⟨rfl, rfl⟩
  rw [sizeS_true hsC]
  replace hsC := hid hsC
  obtain ⟨nz, hnz⟩ : ∃ n, n = cnt cl := ⟨_, rfl⟩
  rw [← hnz]
  replace hnz := hid hnz
  go_upto_region 2 with (refine wpl_cell1I rfl (.tmp 8) (.tmp 10) rfl _ rfl rfl ((E.out.alloc _).obj 5 rfl) ?_; intro V1 HV CV; replace E := hid ((E.out.alloc _).chg 5 rfl CV HV); clear CV HV; (try simp only [List.cons_append, List.nil_append, List.set_cons_zero, List.set_cons_succ] at E))
  have hps := E.out.lt 5 rfl
  generalize W.heap.size = ps at E hps ⊢
  obtain ⟨q00, q01, q02, q03⟩ := (E.out.hdr 0 rfl).all
  obtain ⟨q10, q11, q12, q13⟩ := (E.out.hdr 1 rfl).all
  refine wp_region_mono_tail 8 (Sees V1 [(⟨w.heap.size, 1, none⟩, .slice sp p.shape.length cp), (⟨w.heap.size + 1, 1, none⟩, .slice sz z.shape.length cz)]) [5, 6, 7] (fun k v u u' => match k with | 5 => v = .slice (some ⟨u.heap.size, 0, none⟩) 2 2 ∧ u' = u.alloc (.cells #[.slice sp p.shape.length cp, .slice co cl.length cc] 23) | 6 => ∃ oa oc, v = .slice oa s.length oc ∧ OwnI u' u.heap.size oa oc s | 7 => v = .bool (eqI z.shape s) | _ => False) (fun _ _ h e => h.up e) (Sees.start (all_cons (q01) (all_cons (q11) (all_nil)))) (by kernel_rfl) (by kernel_rfl) ?_
  simp only [List.take_succ_cons, List.take_zero, List.drop_succ_cons, List.drop_zero]
  repeat (first | (refine m_plain (v := ?_) (by rfl) (by rfl) ?_ ?_; rotate_left; (intro wz hSw; obtain ⟨-, hSc⟩ := hSw; (try simp only [List.forall_mem_cons, List.forall_mem_nil, and_true] at hSc); go_simp; (first | done | with_reducible rfl)); (intro K hK; (try simp only [Act.put, List.setIfInBounds_toArray, List.set_cons_zero, List.set_cons_succ]); refine hK _ _ ?_; clear hK K)) | (refine m_skip (by rfl) (by rfl) ?_; (intro K hK; (try simp only [Act.put, List.setIfInBounds_toArray, List.set_cons_zero, List.set_cons_succ]); refine hK _ _ ?_; clear hK K)))
  refine m_make (by rfl) (by rfl) ?_ ?_
  · intro wz hSw hdep R hRz
    obtain ⟨hSe, hSc⟩ := hSw
    (try simp only [List.forall_mem_cons, List.forall_mem_nil, and_true] at hSc)
    unfold does
    (go_simp; exact hRz.out _ _ ⟨ext_alloc _ _, rfl, rfl⟩)
  intro v5 u5 x5 hG5 K hK
  have hF5 := hG5.fact
  (try dsimp only at hF5)
  obtain ⟨rfl, rfl⟩ := hF5
  (try simp only [Act.put, List.setIfInBounds_toArray, List.set_cons_zero, List.set_cons_succ]); refine hK _ _ ?_; clear hK K
  repeat (first | (refine m_plain (v := ?_) (by rfl) (by rfl) ?_ ?_; rotate_left; (intro wz hSw; obtain ⟨-, hSc⟩ := hSw; (try simp only [List.forall_mem_cons, List.forall_mem_nil, and_true] at hSc); go_simp; (first | done | with_reducible rfl)); (intro K hK; (try simp only [Act.put, List.setIfInBounds_toArray, List.set_cons_zero, List.set_cons_succ]); refine hK _ _ ?_; clear hK K)) | (refine m_skip (by rfl) (by rfl) ?_; (intro K hK; (try simp only [Act.put, List.setIfInBounds_toArray, List.set_cons_zero, List.set_cons_succ]); refine hK _ _ ?_; clear hK K)))
  refine m_make (by rfl) (by rfl) ?_ ?_
  · intro wz hSw hdep R hRz
    obtain ⟨hSe, hSc⟩ := hSw
    (try simp only [List.forall_mem_cons, List.forall_mem_nil, and_true] at hSc)
    unfold does
    (go_simp; refine Calls.mono (slices_Concat2 p.shape cl _ _ _ _ _ (fun _ => True) wz (((E.out.arr 2 rfl).shape.mono (fun _ _ _ => trivial)).up hSe) (((E.out.ints 4 rfl).mono (fun _ _ _ => trivial)).up hSe) (row2 (made_blk (hdep 5 _ rfl (depB_sound (f := 4) (by kernel_rfl))))).1 (row2 (made_blk (hdep 5 _ rfl (depB_sound (f := 4) (by kernel_rfl))))).2 (by omega)) ?_; rw [← hss.out]; rintro e' wq ⟨oa, oc, rfl, hO, hb⟩; exact ⟨_, rfl, hRz.out _ _ ⟨hb, oa, oc, rfl, hO⟩⟩)
  intro v6 u6 x6 hG6 K hK
  have hF6 := hG6.fact
  (try dsimp only at hF6)
  obtain ⟨oa, oc, rfl, hO⟩ := hF6
  (try simp only [Act.put, List.setIfInBounds_toArray, List.set_cons_zero, List.set_cons_succ]); refine hK _ _ ?_; clear hK K
  repeat (first | (refine m_plain (v := ?_) (by rfl) (by rfl) ?_ ?_; rotate_left; (intro wz hSw; obtain ⟨-, hSc⟩ := hSw; (try simp only [List.forall_mem_cons, List.forall_mem_nil, and_true] at hSc); go_simp; (first | done | with_reducible rfl)); (intro K hK; (try simp only [Act.put, List.setIfInBounds_toArray, List.set_cons_zero, List.set_cons_succ]); refine hK _ _ ?_; clear hK K)) | (refine m_skip (by rfl) (by rfl) ?_; (intro K hK; (try simp only [Act.put, List.setIfInBounds_toArray, List.set_cons_zero, List.set_cons_succ]); refine hK _ _ ?_; clear hK K)))
  refine m_make (by rfl) (by rfl) ?_ ?_
  · intro wz hSw hdep R hRz
    obtain ⟨hSe, hSc⟩ := hSw
    (try simp only [List.forall_mem_cons, List.forall_mem_nil, and_true] at hSc)
    unfold does
    (go_simp; refine Calls.mono (shape_Same z.shape s _ _ _ _ _ _ wz ((E.out.arr 3 rfl).shape.up hSe) ((hO.ints (by omega)).up (hdep 6 _ rfl (depB_sound (f := 4) (by kernel_rfl))))) ?_; rintro e' wq ⟨rfl, n, rfl⟩; exact ⟨_, rfl, hRz.out _ _ ⟨ext_drewN _ _, rfl⟩⟩)
  intro v7 u7 x7 hG7 K hK
  have hF7 := hG7.fact
  (try dsimp only at hF7)
  subst hF7
  (try simp only [Act.put, List.setIfInBounds_toArray, List.set_cons_zero, List.set_cons_succ]); refine hK _ _ ?_; clear hK K
  repeat (first | (refine m_plain (v := ?_) (by rfl) (by rfl) ?_ ?_; rotate_left; (intro wz hSw; obtain ⟨-, hSc⟩ := hSw; (try simp only [List.forall_mem_cons, List.forall_mem_nil, and_true] at hSc); go_simp; (first | done | with_reducible rfl)); (intro K hK; (try simp only [Act.put, List.setIfInBounds_toArray, List.set_cons_zero, List.set_cons_succ]); refine hK _ _ ?_; clear hK K)) | (refine m_skip (by rfl) (by rfl) ?_; (intro K hK; (try simp only [Act.put, List.setIfInBounds_toArray, List.set_cons_zero, List.set_cons_succ]); refine hK _ _ ?_; clear hK K)))
  refine m_nil ?_
  intro wf hSf hAf
  replace E := hid (E.out.up hSf.1)
  clear hSf hAf hG5 hG6 hG7 hO
  clear q00 q01 q02 q03 q10 q11 q12 q13
  by_cases c : z.shape = s
  case pos =>
    have cb : eqI z.shape s = true := by simp [eqI, c]
    rw [cb]
    have hM := hid (hM0.out c)
    replace c := hid c
    replace cb := hid cb
    go_wp2_with fail
    exact hR.out _ _ ⟨ps, _, true, rfl, hps.1, by rw [← hnz.out]; exact E.out.obj 5 rfl, E.out.ext, Or.inl ⟨hM.out, rfl, rfl⟩⟩
  have cb : eqI z.shape s = false := by simp [eqI, c]
  rw [cb]
  replace cb := hid cb
  obtain ⟨q10, q11, q12, q13⟩ := (E.out.hdr 1 rfl).all
  go_wp2_with fail
  clear q10 q11 q12 q13
  refine (shape_Same z.shape cl _ _ _ _ _ _ _ (E.out.arr 3 rfl).shape (E.out.ints 4 rfl)).mono ?_
  rintro e w5 ⟨rfl, n, rfl⟩
  replace E := hid (E.out.up (ext_drewN _ n))
  by_cases d : z.shape = cl
  case pos =>
    have db : eqI z.shape cl = true := by simp [eqI, d]
    rw [db]
    have hM := hid (hM1.out c d)
    replace c := hid c
    replace d := hid d
    replace db := hid db
    go_wp2_with fail
    exact hR.out _ _ ⟨ps, _, true, rfl, hps.1, by rw [← hnz.out]; exact E.out.obj 5 rfl, E.out.ext, Or.inr (Or.inl ⟨hM.out, rfl, rfl⟩)⟩
  have db : eqI z.shape cl = false := by simp [eqI, d]
  rw [db]
  have hM := hid (hM2.out c d)
  replace c := hid c
  replace d := hid d
  replace db := hid db
  generalize World.drewN _ n = wr at E ⊢
  go_upto_region 6 with (fail)
  obtain ⟨q10, q11, q12, q13⟩ := (E.out.hdr 1 rfl).all
  refine wp_region_mono (Sees wr [(⟨w.heap.size + 1, 1, none⟩, .slice sz z.shape.length cz)]) [] (fun k v u u' => match k with  | _ => False) (fun _ _ h e => h.up e) (Sees.start (all_cons (q11) (all_nil))) (by kernel_rfl) (by kernel_rfl) ?_
  repeat (first | (refine m_plain (v := ?_) (by rfl) (by rfl) ?_ ?_; rotate_left; (intro wz hSw; obtain ⟨-, hSc⟩ := hSw; (try simp only [List.forall_mem_cons, List.forall_mem_nil, and_true] at hSc); go_simp; (first | done | with_reducible rfl)); (intro K hK; (try simp only [Act.put, List.setIfInBounds_toArray, List.set_cons_zero, List.set_cons_succ]); refine hK _ _ ?_; clear hK K)) | (refine m_skip (by rfl) (by rfl) ?_; (intro K hK; (try simp only [Act.put, List.setIfInBounds_toArray, List.set_cons_zero, List.set_cons_succ]); refine hK _ _ ?_; clear hK K)))
  refine m_nil ?_
  intro wg hSf hAf
  replace E := hid (E.out.up hSf.1)
  clear hSf hAf
  clear q10 q11 q12 q13
  go_wp2_with fail
  have hbl : decide (z.shape.length = 0) = ((z.shape.length : Int) == 0) := Bool.eq_iff_iff.2 (by simp)
  refine hR.out _ _ ⟨ps, _, decide (z.shape.length = 0), ?_, hps.1, by rw [← hnz.out]; exact E.out.obj 5 rfl, E.out.ext, Or.inr (Or.inr ⟨hM.out, rfl, rfl⟩)⟩
  rw [hbl]
  rfl
end Go.Proofs.Ytcoknjlkhefgpaa
