/- A group of texts (GF), each with its own conditions: those of each lemma. -/
import Derived.Test.YtolnbmmkpmajdaaGE
import Derived.Deep.DeepCutAuto
import Derived.Outline
import Derived.Test.YtolnbmmkpmajdaaGD
import Derived.Test.YtolnbmmkpmajdaaGB
import Derived.ArgAppend
import Derived.Deep.RegionHeld3
import Derived.Deep.DrawnRows
set_option linter.unusedVariables false
set_option maxRecDepth 20000
set_option linter.unusedSimpArgs false
namespace Go.Proofs.Ytolnbmmkpmajdaa
open Go.RowKit Go.Sort
attribute [local go_sem ↓] run_max2 run_min2
attribute [local go_sem] eql_ints_nil eql_arrs_nil
set_option maxRecDepth 100000 in
set_option maxHeartbeats 4000000 in
theorem array_Clone (a : Arr) : ∀ (sa : Option Addr) (sc : Nat) (na : Option Addr) (nc : Nat) (ia : Option Addr) (ic : Nat) (S : Nat → Prop) (w : World), ArrAt w S a sa na ia →
    Calls Try.prog 35 #[.agg #[.int .i64 a.kind, .slice sa a.shape.length sc, .slice na a.nums.length nc, .slice ia a.items.length ic]] w (RetA w (fun b => w.heap.size ≤ b) a) := by
  induction a using Arr.ind with
  | h a IH =>
    intro sa sc na nc ia ic S w h
    have IH := hid IH
    refine calls_post fun R' hR => ?_
    have hil := h.len
    have hsl := h.shape.1
    have hnl := h.nums.1
    have h0 := hid h
    clear h
    go_enter Try.func35, Try.ntmps35
    go_wp2_with fail
    have hx := hdr_new w (.int .i64 a.kind) (.slice sa a.shape.length sc) (.slice na a.nums.length nc) (.slice ia a.items.length ic)
    have hw := ext_alloc w (.cells #[.int .i64 a.kind, .slice sa a.shape.length sc, .slice na a.nums.length nc, .slice ia a.items.length ic] 26)
    generalize hW : (w.alloc (.cells #[.int .i64 a.kind, .slice sa a.shape.length sc, .slice na a.nums.length nc, .slice ia a.items.length ic] 26)).alloc (.cells #[.int .i64 0, .slice none 0 0, .slice none 0 0, .slice none 0 0] 26) = W
    have hxW : Hdr W w.heap.size (.int .i64 a.kind) (.slice sa a.shape.length sc) (.slice na a.nums.length nc) (.slice ia a.items.length ic) := by rw [← hW]; exact hx.up (ext_alloc _ _)
    have hrW : Hdr W (w.heap.size + 1) (.int .i64 0) (.slice none 0 0) (.slice none 0 0) (.slice none 0 0) := by rw [← hW]; have := hdr_new (w.alloc (.cells #[.int .i64 a.kind, .slice sa a.shape.length sc, .slice na a.nums.length nc, .slice ia a.items.length ic] 26)) (.int .i64 0) (.slice none 0 0) (.slice none 0 0) (.slice none 0 0); simpa using this
    have heW : Ext w W := by rw [← hW]; exact hw.trans (ext_alloc _ _)
    clear hx hw
    replace hW := hid hW
    have mS := fun w => run_makeI w a.shape.length hsl
    have mN := fun w => run_makeI w a.nums.length hnl
    have mI := fun w => run_makeA w a.items.length hil
    refine wp_region_mono_tail 16 (Sees W [(⟨w.heap.size, 0, none⟩, .int .i64 a.kind), (⟨w.heap.size, 1, none⟩, .slice sa a.shape.length sc), (⟨w.heap.size, 2, none⟩, .slice na a.nums.length nc), (⟨w.heap.size, 3, none⟩, .slice ia a.items.length ic)]) [5, 9, 13, 15] (fun k v u u' => match k with | 5 => v = .slice (some ⟨u.heap.size, 0, none⟩) a.shape.length a.shape.length ∧ u' = u.alloc (.cells (madeI a.shape.length) 3) | 9 => v = .slice (some ⟨u.heap.size, 0, none⟩) a.nums.length a.nums.length ∧ u' = u.alloc (.cells (madeI a.nums.length) 3) | 13 => v = .slice (some ⟨u.heap.size, 0, none⟩) a.items.length a.items.length ∧ u' = u.alloc (.cells (madeA a.items.length) 26) | 15 => v = .pointer (some ⟨u.heap.size, 0, none⟩) ∧ u' = u.alloc (.cells #[.int .i64 0, .slice none 0 0, .slice none 0 0, .slice none 0 0] 26) | _ => False) (fun _ _ h e => h.up e) (Sees.start (all_cons (hxW.c0) (all_cons (hxW.c1) (all_cons (hxW.c2) (all_cons (hxW.c3) (all_nil)))))) (by kernel_rfl) (by kernel_rfl) ?_
    simp only [List.take_succ_cons, List.take_zero, List.drop_succ_cons, List.drop_zero]
    repeat (first | (refine m_plain (v := ?_) (by rfl) (by rfl) ?_ ?_; rotate_left; (intro wz hSw; obtain ⟨-, hSc⟩ := hSw; (try simp only [List.forall_mem_cons, List.forall_mem_nil, and_true] at hSc); go_simp; (first | done | with_reducible rfl)); (intro K hK; (try simp only [Act.put, List.setIfInBounds_toArray, List.set_cons_zero, List.set_cons_succ]); refine hK _ _ ?_; clear hK K)) | (refine m_skip (by rfl) (by rfl) ?_; (intro K hK; (try simp only [Act.put, List.setIfInBounds_toArray, List.set_cons_zero, List.set_cons_succ]); refine hK _ _ ?_; clear hK K)))
    refine m_make (by rfl) (by rfl) ?_ ?_
    · intro wz hSw hdep R hRz
      obtain ⟨hSe, hSc⟩ := hSw
      (try simp only [List.forall_mem_cons, List.forall_mem_nil, and_true] at hSc)
      unfold does
      (go_simp; exact hRz.out _ _ ⟨ext_alloc _ _, rfl, rfl⟩)
    intro v5 u5 x5 hG5 K hK
    have hF5 := hG5.fact
    (try dsimp only at hF5)
    obtain ⟨rfl, rfl⟩ := hF5
    (try simp only [Act.put, List.setIfInBounds_toArray, List.set_cons_zero, List.set_cons_succ]); refine hK _ _ ?_; clear hK K
    repeat (first | (refine m_plain (v := ?_) (by rfl) (by rfl) ?_ ?_; rotate_left; (intro wz hSw; obtain ⟨-, hSc⟩ := hSw; (try simp only [List.forall_mem_cons, List.forall_mem_nil, and_true] at hSc); go_simp; (first | done | with_reducible rfl)); (intro K hK; (try simp only [Act.put, List.setIfInBounds_toArray, List.set_cons_zero, List.set_cons_succ]); refine hK _ _ ?_; clear hK K)) | (refine m_skip (by rfl) (by rfl) ?_; (intro K hK; (try simp only [Act.put, List.setIfInBounds_toArray, List.set_cons_zero, List.set_cons_succ]); refine hK _ _ ?_; clear hK K)))
    refine m_make (by rfl) (by rfl) ?_ ?_
    · intro wz hSw hdep R hRz
      obtain ⟨hSe, hSc⟩ := hSw
      (try simp only [List.forall_mem_cons, List.forall_mem_nil, and_true] at hSc)
      unfold does
      (go_simp; exact hRz.out _ _ ⟨ext_alloc _ _, rfl, rfl⟩)
    intro v9 u9 x9 hG9 K hK
    have hF9 := hG9.fact
    (try dsimp only at hF9)
    obtain ⟨rfl, rfl⟩ := hF9
    (try simp only [Act.put, List.setIfInBounds_toArray, List.set_cons_zero, List.set_cons_succ]); refine hK _ _ ?_; clear hK K
    repeat (first | (refine m_plain (v := ?_) (by rfl) (by rfl) ?_ ?_; rotate_left; (intro wz hSw; obtain ⟨-, hSc⟩ := hSw; (try simp only [List.forall_mem_cons, List.forall_mem_nil, and_true] at hSc); go_simp; (first | done | with_reducible rfl)); (intro K hK; (try simp only [Act.put, List.setIfInBounds_toArray, List.set_cons_zero, List.set_cons_succ]); refine hK _ _ ?_; clear hK K)) | (refine m_skip (by rfl) (by rfl) ?_; (intro K hK; (try simp only [Act.put, List.setIfInBounds_toArray, List.set_cons_zero, List.set_cons_succ]); refine hK _ _ ?_; clear hK K)))
    refine m_make (by rfl) (by rfl) ?_ ?_
    · intro wz hSw hdep R hRz
      obtain ⟨hSe, hSc⟩ := hSw
      (try simp only [List.forall_mem_cons, List.forall_mem_nil, and_true] at hSc)
      unfold does
      (go_simp; exact hRz.out _ _ ⟨ext_alloc _ _, rfl, rfl⟩)
    intro v13 u13 x13 hG13 K hK
    have hF13 := hG13.fact
    (try dsimp only at hF13)
    obtain ⟨rfl, rfl⟩ := hF13
    (try simp only [Act.put, List.setIfInBounds_toArray, List.set_cons_zero, List.set_cons_succ]); refine hK _ _ ?_; clear hK K
    repeat (first | (refine m_plain (v := ?_) (by rfl) (by rfl) ?_ ?_; rotate_left; (intro wz hSw; obtain ⟨-, hSc⟩ := hSw; (try simp only [List.forall_mem_cons, List.forall_mem_nil, and_true] at hSc); go_simp; (first | done | with_reducible rfl)); (intro K hK; (try simp only [Act.put, List.setIfInBounds_toArray, List.set_cons_zero, List.set_cons_succ]); refine hK _ _ ?_; clear hK K)) | (refine m_skip (by rfl) (by rfl) ?_; (intro K hK; (try simp only [Act.put, List.setIfInBounds_toArray, List.set_cons_zero, List.set_cons_succ]); refine hK _ _ ?_; clear hK K)))
    refine m_make (by rfl) (by rfl) ?_ ?_
    · intro wz hSw hdep R hRz
      obtain ⟨hSe, hSc⟩ := hSw
      (try simp only [List.forall_mem_cons, List.forall_mem_nil, and_true] at hSc)
      unfold does
      (go_simp; exact hRz.out _ _ ⟨ext_alloc _ _, rfl, rfl⟩)
    intro v15 u15 x15 hG15 K hK
    have hF15 := hG15.fact
    (try dsimp only at hF15)
    obtain ⟨rfl, rfl⟩ := hF15
    (try simp only [Act.put, List.setIfInBounds_toArray, List.set_cons_zero, List.set_cons_succ]); refine hK _ _ ?_; clear hK K
    repeat (first | (refine m_plain (v := ?_) (by rfl) (by rfl) ?_ ?_; rotate_left; (intro wz hSw; obtain ⟨-, hSc⟩ := hSw; (try simp only [List.forall_mem_cons, List.forall_mem_nil, and_true] at hSc); go_simp; (first | done | with_reducible rfl)); (intro K hK; (try simp only [Act.put, List.setIfInBounds_toArray, List.set_cons_zero, List.set_cons_succ]); refine hK _ _ ?_; clear hK K)) | (refine m_skip (by rfl) (by rfl) ?_; (intro K hK; (try simp only [Act.put, List.setIfInBounds_toArray, List.set_cons_zero, List.set_cons_succ]); refine hK _ _ ?_; clear hK K)))
    refine m_nil ?_
    intro wf hSf hAf
    have G1 := made_blk (hAf 5 _ rfl : Ext (u5.alloc _) wf)
    have G2 := made_blk (hAf 9 _ rfl : Ext (u9.alloc _) wf)
    have G3 := made_blk (hAf 13 _ rfl : Ext (u13.alloc _) wf)
    have G4 : Hdr wf u15.heap.size _ _ _ _ := made_blk (hAf 15 _ rfl : Ext (u15.alloc _) wf)
    have n1 := ord_ne (hG9.order 5 _ rfl)
    have n2 := ord_ne (hG13.order 5 _ rfl)
    have n3 := ord_ne (hG13.order 9 _ rfl)
    have n4 := ord_ne (hG15.order 5 _ rfl)
    have n5 := ord_ne (hG15.order 9 _ rfl)
    have n6 := ord_ne (hG15.order 13 _ rfl)
    have z1 := Below.size hG5.s.1
    have z2 := Below.size hG9.s.1
    have z3 := Below.size hG13.s.1
    have z4 := Below.size hG15.s.1
    have zW : w.heap.size + 2 ≤ W.heap.size := by rw [← hW.out]; simp
    have ef : Ext W wf := hSf.1
    clear hSf hAf hG5 hG9 hG13 hG15
    generalize u5.heap.size = g1 at *
    generalize u9.heap.size = g2 at *
    generalize u13.heap.size = g3 at *
    generalize u15.heap.size = g4 at *
    clear u5 u9 u13 u15
    have HA := hxW.up ef
    have HR := hrW.up ef
    have AA : Hid (ArrAt wf (fun b => b < w.heap.size) a sa na ia) := (ArrAt.later (ArrAt.mono (fun b hb _ => hb) a h0.out) (Below.trans heW (Below.mono ef (by omega))))
    have BB : Below w.heap.size w wf := Below.trans heW (Below.mono ef (by omega))
    go_wp2_with (first
      | (refine wpl_store4 rfl (.tmp 3) (.tmp 20) rfl g4 rfl rfl G4 ?_; intro V1 HX1 C1; have q0 := HX1.c1; have q1 := HX1.c2; have HA1 := C1.hdr HA (by omega); have r0 := HA1.c1; have r1 := HA1.c2)
      | (refine wpl_copyI rfl (.tmp 22) (.tmp 24) rfl g1 _ _ (fun b => b < w.heap.size) sa sc a.shape.length a.shape rfl rfl (C1.row G1 (by omega)) (madeI_size _) (C1.arr AA.out (fun q hq => by omega)).shape ?_; intro V2 R2 C2; have HX2 := C2.hdr HX1 (by omega); have HA2 := C2.hdr HA1 (by omega); have s0 := HX2.c2; have s1 := HA2.c2; clear q0 q1 r0 r1)
      | (refine wpl_copyI rfl (.tmp 27) (.tmp 29) rfl g2 _ _ (fun b => b < w.heap.size) na nc a.nums.length a.nums rfl rfl (C2.row (C1.row G2 (by omega)) (by omega)) (madeI_size _) (C2.arr (C1.arr AA.out (fun q hq => by omega)) (fun q hq => by omega)).nums ?_; intro V3 R3 C3; have HX3 := C3.hdr HX2 (by omega); have HA3 := C3.hdr HA2 (by omega); have p0 := HX3.c3; have p1 := HA3.c3; clear s0 s1))
    have hz3 : V3.heap.size = wf.heap.size := by rw [C3.z, C2.z, C1.z]
    have hzf := Below.size ef
    have l1 := lt_of_block G1
    have l2 := lt_of_block G2
    have l3 := lt_of_block G3
    have l4 := lt_of_block G4
    have B3 : Below w.heap.size w V3 := C3.below (C2.below (C1.below BB (by omega)) (by omega)) (by omega)
    have G13 := C3.row R2 (by omega)
    have G33 := C3.row (C2.row (C1.row G3 (by omega)) (by omega)) (by omega)
    have A3 := hid (C3.arr (C2.arr (C1.arr AA.out (fun q hq => by omega)) (fun q hq => by omega)) (fun q hq => by omega)).items
    have HR3 := C3.hdr (C2.hdr (C1.hdr HR (by omega)) (by omega)) (by omega)
    have P0 : PartA V3 (fun b => V3.heap.size ≤ b) g3 a.items.length [] := partA_made G33 (fun b hb => by omega)
    have m1 : g3 < V3.heap.size := by omega
    have m4 : g4 < V3.heap.size := by omega
    have mw : w.heap.size + 1 < V3.heap.size := by omega
    have mg1 : g1 < V3.heap.size := by omega
    have mg2 : g2 < V3.heap.size := by omega
    have mg : w.heap.size + 2 ≤ g1 ∧ w.heap.size + 2 ≤ g2 ∧ w.heap.size + 2 ≤ g3 ∧ w.heap.size + 2 ≤ g4 := by omega
    clear G1 G2 G3 G4 z1 z2 z3 z4 l1 l2 l3 l4 zW ef BB HX1 HX2 HA1 HA2 C1 C2 C3 R2 AA HA HR hxW hrW heW hz3 hzf mS mN mI hW
    replace n1 := hid n1
    replace n2 := hid n2
    replace n3 := hid n3
    replace n4 := hid n4
    replace n5 := hid n5
    replace n6 := hid n6
    replace B3 := hid B3
    go_loopw [34] (fun i wr => ∃ k : Nat, k ≤ a.items.length ∧ i = .int .i64 k ∧ PartA wr (fun b => V3.heap.size ≤ b) g3 a.items.length (a.items.take k) ∧ V3.grownBy wr (some g3)) (fun i _ => a.items.length - (intOf i).toNat)
    case atStart => exact ⟨0, Nat.zero_le _, rfl, by simpa using P0, World.grownBy.refl _ _⟩
    case round =>
      obtain ⟨k, hk, rfl, hp, hg⟩ := hrel
      have hp := hid hp
      have hs := hg.size
      by_cases hlt : k < a.items.length
      · obtain ⟨b, off, sa', sc', na', nc', ja', jc', rfl, hS, hbl, e0, e1, e2, e3, hx⟩ := (A3.out.grown hg (fun b hb _ => by simp; omega)).at hlt
        have hmem := hid (List.getElem_mem hlt)
        have hT : Hid (a.items.take (k + 1) = a.items.take k ++ [a.items[k]]) := (List.take_append_getElem hlt).symm
        have hL : Hid ((a.items.take k).length = k) := by simp only [Hid, List.length_take]; omega
        generalize a.items[k] = x at e0 e1 e2 e3 hx hmem hT
        generalize a.items.take k = l at hT hL hp
        have HX := hid hx
        have ki0 : (0 : Int) ≤ (k : Int) := Int.natCast_nonneg _
        have ki1 : (k : Int) < (a.items.length : Int) := by omega
        have d3 := (HX3.grown hg (by have := n6.out; simp; omega)).c3
        clear hx p0 p1
        go_wp2_with fail
        have hy := hdr_new wr (.int .i64 x.kind) (.slice sa' x.shape.length sc') (.slice na' x.nums.length nc') (.slice ja' x.items.length jc')
        have d3' := (Hdr.up (HX3.grown hg (by have := n6.out; simp; omega)) (ext_alloc wr (.cells #[.int .i64 x.kind, .slice sa' x.shape.length sc', .slice na' x.nums.length nc', .slice ja' x.items.length jc'] 26))).c3
        have HX' := hid (HX.out.alloc (.cells #[.int .i64 x.kind, .slice sa' x.shape.length sc', .slice na' x.nums.length nc', .slice ja' x.items.length jc'] 26))
        have eY := ext_alloc wr (.cells #[.int .i64 x.kind, .slice sa' x.shape.length sc', .slice na' x.nums.length nc', .slice ja' x.items.length jc'] 26)
        generalize wr.alloc (.cells #[.int .i64 x.kind, .slice sa' x.shape.length sc', .slice na' x.nums.length nc', .slice ja' x.items.length jc'] 26) = wy at *
        clear d3 e0 e1 e2 e3
        refine wp_region_mono_tail 6 (Sees wy [(⟨g4, 3, none⟩, .slice (some ⟨g3, 0, none⟩) a.items.length a.items.length), (⟨wr.heap.size, 0, none⟩, .int .i64 x.kind), (⟨wr.heap.size, 1, none⟩, .slice sa' x.shape.length sc'), (⟨wr.heap.size, 2, none⟩, .slice na' x.nums.length nc'), (⟨wr.heap.size, 3, none⟩, .slice ja' x.items.length jc')]) [4] (fun k v u u' => match k with | 4 => RetA u (fun b => u.heap.size ≤ b) x (.returned v) u' | _ => False) (fun _ _ h e => h.up e) (Sees.start (all_cons (d3') (all_cons (hy.c0) (all_cons (hy.c1) (all_cons (hy.c2) (all_cons (hy.c3) (all_nil))))))) (by kernel_rfl) (by kernel_rfl) ?_
        simp only [List.take_succ_cons, List.take_zero, List.drop_succ_cons, List.drop_zero]
        repeat (first | (refine m_plain (v := ?_) (by rfl) (by rfl) ?_ ?_; rotate_left; (intro wz hSw; obtain ⟨-, hSc⟩ := hSw; (try simp only [List.forall_mem_cons, List.forall_mem_nil, and_true] at hSc); go_simp; (first | done | with_reducible rfl)); (intro K hK; (try simp only [Act.put, List.setIfInBounds_toArray, List.set_cons_zero, List.set_cons_succ]); refine hK _ _ ?_; clear hK K)) | (refine m_skip (by rfl) (by rfl) ?_; (intro K hK; (try simp only [Act.put, List.setIfInBounds_toArray, List.set_cons_zero, List.set_cons_succ]); refine hK _ _ ?_; clear hK K)))
        refine m_make (by rfl) (by rfl) ?_ ?_
        · intro wz hSw hdep R hRz
          obtain ⟨hSe, hSc⟩ := hSw
          (try simp only [List.forall_mem_cons, List.forall_mem_nil, and_true] at hSc)
          unfold does
          (go_simp; refine Calls.mono (IH.out x hmem.out sa' sc' na' nc' ja' jc' _ wz (HX'.out.later hSe)) ?_; rintro e wq ⟨ta, tc, tn, tnc, ti, tic, rfl, hq, hqb⟩; exact ⟨_, rfl, hRz.out _ _ ⟨hqb, ta, tc, tn, tnc, ti, tic, rfl, hq, hqb⟩⟩)
        intro v4 u4 x4 hG4 K hK
        have hF4 := hG4.fact
        (try dsimp only at hF4)
        obtain ⟨ta, tc, tn, tnc, ti, tic, he, hq, hqb⟩ := hF4
        injection he with he
        subst he
        (try simp only [Act.put, List.setIfInBounds_toArray, List.set_cons_zero, List.set_cons_succ]); refine hK _ _ ?_; clear hK K
        repeat (first | (refine m_plain (v := ?_) (by rfl) (by rfl) ?_ ?_; rotate_left; (intro wz hSw; obtain ⟨-, hSc⟩ := hSw; (try simp only [List.forall_mem_cons, List.forall_mem_nil, and_true] at hSc); go_simp; (first | done | with_reducible rfl)); (intro K hK; (try simp only [Act.put, List.setIfInBounds_toArray, List.set_cons_zero, List.set_cons_succ]); refine hK _ _ ?_; clear hK K)) | (refine m_skip (by rfl) (by rfl) ?_; (intro K hK; (try simp only [Act.put, List.setIfInBounds_toArray, List.set_cons_zero, List.set_cons_succ]); refine hK _ _ ?_; clear hK K)))
        refine m_nil ?_
        intro wf hSf hAf
        have e4 : Ext x4 wf := hAf 4 _ rfl
        have eu : Ext wr u4 := eY.trans hG4.s.1
        have zu := Below.size eu
        have HQ := hid (ArrAt.mono (T := fun b => V3.heap.size ≤ b) (fun b _ hb => by omega) x (hq.later e4))
        have gF := grown_ext hg (eY.trans hSf.1)
        have ef := eY.trans hSf.1
        have pF := PartA.keep hp.out (Ext.blk' ef (by omega)) (fun q hq hlt => Below.block ef q hlt)
        clear hSf hAf hG4 hq hqb e4 eu eY hy d3'
        go_wp2_with (refine wpl_storeAt rfl (.tmp 44) (.tmp 43) rfl g3 a.items.length (by rw [hL.out]; rfl) rfl pF (by rw [hL.out]; exact hlt) HQ.out ?_; intro V hV hC)
        have hV' := hid hV
        have gV := grown_chg gF hC
        clear hV hC pF gF ef
        go_wp2_with fail
        go_roundw
        case rel => exact ⟨k + 1, by omega, by go_num, by rw [hT.out]; exact hV'.out, gV⟩
        case measure => simp [intOf]; omega
      · have hke : a.items.take k = a.items := List.take_of_length_le (by omega)
        have hp' := hp.out
        rw [hke] at hp'
        have HP := hid hp'
        have H3 := HX3.grown hg (by have := n6.out; simp; omega)
        have HR' := HR3.grown hg (by simp; omega)
        have AS : Hid (IntsAt wr (fun b => b = g1) (some ⟨g1, 0, none⟩) a.shape) := (row_ints (S := fun b => b = g1) (G13) hsl rfl).grown hg (fun b hb _ => by have := n2.out; simp; omega)
        have AN : Hid (IntsAt wr (fun b => b = g2) (some ⟨g2, 0, none⟩) a.nums) := (row_ints (S := fun b => b = g2) R3 hnl rfl).grown hg (fun b hb _ => by have := n3.out; simp; omega)
        have Bw := hid (B3.out.grown hg B3.out.size (fun q hq => by injection hq with hq; omega))
        clear hke hp' hp hg p0 p1 HX3 HA3 HR3 G13 G33 R3 P0 hk
        go_wp2_with (first
          | (refine wpl_load4 rfl (.tmp 3) rfl g4 rfl H3 ?_)
          | (refine wpl_store4 rfl (.tmp 2) (.tmp 46) rfl (w.heap.size + 1) rfl rfl HR' ?_; intro V hV hC))
        refine bodyPost_ret (end_arr rfl hV rfl) rfl (hR.out _ _ ?_)
        refine RetA.mk (Arr.eta a).symm (some ⟨g1, 0, none⟩) _ (some ⟨g2, 0, none⟩) _ (some ⟨g3, 0, none⟩) _ rfl rfl rfl ?_ ?_ hil ?_ ?_
        · exact (hC.ints AS.out (fun q hq => by omega)).mono fun b _ hb => by omega
        · exact (hC.ints AN.out (fun q hq => by omega)).mono fun b _ hb => by omega
        · exact hC.items (HP.out.items (T := fun b => w.heap.size + 2 ≤ b) (fun b hb => by omega) (by omega)) (fun q hq => by omega) |>.mono fun b _ hb => by omega
        · exact hC.below Bw.out (by omega)
end Go.Proofs.Ytolnbmmkpmajdaa
namespace Go.Proofs.Ytolnbmmkpmajdaa
open Go.RowKit Go.Sort
theorem OwnI.up {w w' : World} {base : Nat} {ao : Option Addr} {cap : Nat} {xs : List Int} (h : OwnI w base ao cap xs) (e : Ext w w') : OwnI w' base ao cap xs := h.keep fun k hk => Below.block e k (h.row k hk).2
theorem OwnA.up {w w' : World} {base : Nat} {S : Nat → Prop} {ao : Option Addr} {cap : Nat} {l : List Arr} (h : OwnA w base S ao cap l) (e : Ext w w') : OwnA w' base S ao cap l := h.keep (fun k hk => Below.block e k (h.row k hk).2) fun b _ hlt => Below.block e b hlt
theorem ArrAt.up {w w' : World} {S : Nat → Prop} {a : Arr} {sa na ia : Option Addr} (h : ArrAt w S a sa na ia) (e : Ext w w') : ArrAt w' S a sa na ia := h.later e
theorem IntsAt.up {w w' : World} {S : Nat → Prop} {ao : Option Addr} {xs : List Int} (h : IntsAt w S ao xs) (e : Ext w w') : IntsAt w' S ao xs := h.later e
theorem ItemsAt.up {w w' : World} {S : Nat → Prop} {ao : Option Addr} {l : List Arr} (h : ItemsAt w S ao 0 l) (e : Ext w w') : ItemsAt w' S ao 0 l := h.later e
/-- numbers -/
structure BldN (wc w : World) (bx : Nat) (kd sv : Value) (na : Option Addr) (nc : Nat) (nums : List Int) : Prop where
  h : Hdr w bx kd sv (.slice na nums.length nc) (.slice none 0 0)
  o : OwnI w wc.heap.size na nc nums
  g : wc.grownBy w (some bx)
  l : bx < wc.heap.size
/-- items; T: where their contents lie -/
structure BldA (wc w : World) (bx : Nat) (kd sv : Value) (T : Nat → Prop) (ia : Option Addr) (ic : Nat) (items : List Arr) : Prop where
  h : Hdr w bx kd sv (.slice none 0 0) (.slice ia items.length ic)
  o : OwnA w wc.heap.size T ia ic items
  g : wc.grownBy w (some bx)
  l : bx < wc.heap.size
  t : ∀ b, T b → b ≠ bx
section
variable {wc w w' : World} {bx : Nat} {kd sv : Value} {na ia : Option Addr} {nc ic : Nat} {nums : List Int} {items : List Arr} {T : Nat → Prop}
theorem BldN.up (h : BldN wc w bx kd sv na nc nums) (e : Ext w w') : BldN wc w' bx kd sv na nc nums := ⟨h.h.up e, h.o.up e, grown_ext h.g e, h.l⟩
theorem BldA.up (h : BldA wc w bx kd sv T ia ic items) (e : Ext w w') : BldA wc w' bx kd sv T ia ic items := ⟨h.h.up e, h.o.up e, grown_ext h.g e, h.l, h.t⟩
theorem BldN.new (h : Hdr w bx kd sv (.slice none 0 0) (.slice none 0 0)) : BldN w w bx kd sv none 0 [] := ⟨h, OwnI.nil _ _, World.grownBy.refl _ _, h.lt⟩
theorem BldA.new (h : Hdr w bx kd sv (.slice none 0 0) (.slice none 0 0)) (ht : ∀ b, T b → b ≠ bx) : BldA w w bx kd sv T none 0 [] := ⟨h, OwnA.nil _ _ _, World.grownBy.refl _ _, h.lt, ht⟩
theorem grown_row {w1 : World} {row : Option Nat} (h : wc.grownBy w (some bx)) (g : w.grownBy w1 row) (hr : ∀ k, row = some k → wc.heap.size ≤ k) : wc.grownBy w1 (some bx) :=
  ⟨g.os.trans h.os, g.tape.trans h.tape, g.output.trans h.output, Nat.le_trans h.size g.size, fun k hk hne => (g.block k (Nat.lt_of_lt_of_le hk h.size) (fun e => by have := hr k e.symm; omega)).trans (h.block k hk hne)⟩
end
section
variable {ops : Array Oper} {rest : List Oper} {o1 o2 o3 : Oper} {a : Act} {Q : Exit → Act → World → Prop} {wc w : World} {bx : Nat} {kd sv : Value} {na ia : Option Addr} {nc ic : Nat} {nums : List Int} {items : List Arr} {T : Nat → Prop}
theorem wpl_addN (g1 : o1.guard = none) (g2 : o2.guard = none) (g3 : o3.guard = none) (s x p q r : Operand) (h1 : o1.op = .call { callee := .builtin .append, args := #[s, x], argTypes := #[23, 23] }) (h2 : o2.op = .fieldAddr 26 p 2) (h3 : o3.op = .store 23 q r)
    (B : BldN wc w bx kd sv na nc nums) (S : Nat → Prop) (so : Option Addr) (sc : Nat) (ys : List Int) (hs : a.eval s = .slice na nums.length nc) (hx : a.eval x = .slice so ys.length sc) (hy : IntsAt w S so ys) (hlen : nums.length + ys.length ≤ 17592186044416)
    (hp : ∀ v, (a.put o1.dst v).eval p = .pointer (some ⟨bx, 0, none⟩)) (hq : ∀ v u, ((a.put o1.dst v).put o2.dst u).eval q = u) (hr : ∀ v u, ((a.put o1.dst v).put o2.dst u).eval r = v)
    (h : ∀ V na' nc', BldN wc V bx kd sv na' nc' (nums ++ ys) → wpList Try.prog ops Q rest (((a.put o1.dst (.slice na' (nums ++ ys).length nc')).put o2.dst (.pointer (some ⟨bx, 2, none⟩))).put o3.dst undef) V) :
    wpList Try.prog ops Q (o1 :: o2 :: o3 :: rest) a w := by
  refine wpList_appI w g1 s x h1 wc.heap.size na nc nums hs B.o S so sc ys hx hy hlen B.g.size ?_
  intro ao' cap' w4 hown hg hrow
  have hb : rowOf na ≠ some bx := fun e => by have := (B.o.row bx e).1; have := B.l; omega
  have H4 : Hdr w4 bx kd sv (.slice na nums.length nc) (.slice none 0 0) := B.h.grown hg (fun e => hb e.symm)
  have G4 : wc.grownBy w4 (some bx) := grown_row B.g hg (fun k hk => (B.o.row k hk).1)
  refine wpList_plain g2 fun K hK => ?_
  have step := fun h => hK ((a.put o1.dst (.slice ao' (nums ++ ys).length cap')).put o2.dst (.pointer (some ⟨bx, 2, none⟩))) w4 h
  have hfin : wpList Try.prog ops Q (o3 :: rest) ((a.put o1.dst (.slice ao' (nums ++ ys).length cap')).put o2.dst (.pointer (some ⟨bx, 2, none⟩))) w4 := by
    refine wpl_store2 g3 q r h3 bx (hq _ _) (hr _ _) H4 ?_
    intro V HV C
    have hb' : rowOf ao' ≠ some bx := fun e => by have := (hown.row bx e).1; have := B.l; omega
    exact h V ao' cap' ⟨HV, hown.keep (fun k hk => C.blk (hown.row k hk).2 (fun e => hb' (e ▸ hk))), grown_chg G4 C, B.l⟩
  have := step hfin
  unfold Oper.wp execOp
  simp only [h2, hp]
  simpa [go_sem] using this
theorem wpl_addA (g1 : o1.guard = none) (g2 : o2.guard = none) (g3 : o3.guard = none) (s x p q r : Operand) (h1 : o1.op = .call { callee := .builtin .append, args := #[s, x], argTypes := #[24, 24] }) (h2 : o2.op = .fieldAddr 26 p 3) (h3 : o3.op = .store 24 q r)
    (B : BldA wc w bx kd sv T ia ic items) (S : Nat → Prop) (so : Option Addr) (sc : Nat) (ys : List Arr) (hs : a.eval s = .slice ia items.length ic) (hx : a.eval x = .slice so ys.length sc) (hy : ItemsAt w S so 0 ys) (hST : ∀ b, b < w.heap.size → S b → T b ∧ some b ≠ rowOf ia) (hlen : items.length + ys.length ≤ 1759218604441)
    (hp : ∀ v, (a.put o1.dst v).eval p = .pointer (some ⟨bx, 0, none⟩)) (hq : ∀ v u, ((a.put o1.dst v).put o2.dst u).eval q = u) (hr : ∀ v u, ((a.put o1.dst v).put o2.dst u).eval r = v)
    (h : ∀ V ia' ic', BldA wc V bx kd sv T ia' ic' (items ++ ys) → wpList Try.prog ops Q rest (((a.put o1.dst (.slice ia' (items ++ ys).length ic')).put o2.dst (.pointer (some ⟨bx, 3, none⟩))).put o3.dst undef) V) :
    wpList Try.prog ops Q (o1 :: o2 :: o3 :: rest) a w := by
  refine wpList_appA w g1 s x h1 wc.heap.size T ia ic items hs B.o S so sc ys hx hy hST hlen B.g.size ?_
  intro ao' cap' w4 hown hg hrow
  have hb : rowOf ia ≠ some bx := fun e => by have := (B.o.row bx e).1; have := B.l; omega
  have H4 : Hdr w4 bx kd sv (.slice none 0 0) (.slice ia items.length ic) := B.h.grown hg (fun e => hb e.symm)
  have G4 : wc.grownBy w4 (some bx) := grown_row B.g hg (fun k hk => (B.o.row k hk).1)
  refine wpList_plain g2 fun K hK => ?_
  have step := fun h => hK ((a.put o1.dst (.slice ao' (items ++ ys).length cap')).put o2.dst (.pointer (some ⟨bx, 3, none⟩))) w4 h
  have hfin : wpList Try.prog ops Q (o3 :: rest) ((a.put o1.dst (.slice ao' (items ++ ys).length cap')).put o2.dst (.pointer (some ⟨bx, 3, none⟩))) w4 := by
    refine wpl_store3 g3 q r h3 bx (hq _ _) (hr _ _) H4 ?_
    intro V HV C
    have hb' : rowOf ao' ≠ some bx := fun e => by have := (hown.row bx e).1; have := B.l; omega
    have hown' := hown.mono (T := T) fun b _ hs => hs.1
    exact h V ao' cap' ⟨HV, hown'.keep (fun k hk => C.blk (hown.row k hk).2 (fun e => hb' (e ▸ hk))) (fun b hs hlt => C.blk hlt (B.t b hs)), grown_chg G4 C, B.l, B.t⟩
  have := step hfin
  unfold Oper.wp execOp
  simp only [h2, hp]
  simpa [go_sem] using this
end
theorem OwnI.set {w : World} {base : Nat} {ao : Option Addr} {cap : Nat} {xs : List Int} (h : OwnI w base ao cap xs) {j : Nat} (hj : j < xs.length) : ∃ g, ao = some ⟨g, 0, none⟩ ∧ base ≤ g ∧ g < w.heap.size ∧ (∃ u, w.cell? ⟨g, j, none⟩ = some u) ∧ w.frozen? ⟨g, j, none⟩ = false ∧ ∀ v : Int, OwnI (w.setCell ⟨g, j, none⟩ (.int .i64 v)) base ao cap (xs.set j v) := by
  obtain ⟨h1, h2⟩ := h
  rcases h2 with ⟨_, hn⟩ | ⟨g, c, cur, e, hb, hg, hnc, hcm, hcs, htk⟩
  · omega
  · injection e with e1 e2 e3
    subst e1
    subst e3
    have hc : j < cur.size := by omega
    refine ⟨g, rfl, hb, lt_of_block hg, ⟨cur[j], by rw [cell_of_row w g j _ _ _ hg]; simp [hc]⟩, frozen_of_row w g j _ _ hg, fun v => ⟨by simp, Or.inr ⟨g, cap, cur.setIfInBounds j (.int .i64 v), by simp, hb, heap_setCell_same w g j _ _ _ hg, by simpa using hnc, hcm, by simpa using hcs, ?_⟩⟩⟩
    simp only [Nat.mul_one, List.length_set] at htk ⊢
    rw [Array.toList_setIfInBounds, List.take_set, htk]
    apply List.ext_getElem
    · simp
    · intro i h1 h2
      simp only [List.getElem_set, List.getElem_map]
      split <;> rfl
section
variable {ops : Array Oper} {rest : List Oper} {o : Oper} {a : Act} {Q : Exit → Act → World → Prop} {w : World}
/-- an element of a slice of the call's own is stored -/
theorem wpl_setI (hgd : o.guard = none) (p x : Operand) (ho : o.op = .store 3 p x) (base : Nat) (ao : Option Addr) (cap : Nat) (xs : List Int) (h : OwnI w base ao cap xs) (j : Nat) (hj : j < xs.length) (v : Int)
    (hp : ∀ g, ao = some ⟨g, 0, none⟩ → a.eval p = .pointer (some ⟨g, j, none⟩)) (hx : a.eval x = .int .i64 v)
    (hh : ∀ V g, ao = some ⟨g, 0, none⟩ → base ≤ g → OwnI V base ao cap (xs.set j v) → Chg w V g → wpList Try.prog ops Q rest (a.put o.dst undef) V) : wpList Try.prog ops Q (o :: rest) a w := by
  obtain ⟨g, e, hb, hl, ⟨u, hu⟩, hf, hset⟩ := h.set hj
  refine wpList_plain hgd fun K hK => ?_
  have := hK _ _ (hh _ g e hb (hset v) (chg_setCell w g j _))
  unfold Oper.wp execOp
  simp only [ho, hp g e, hx]
  simp [go_sem, hu, hf]
  exact this
end
/-- the result of a function that built it -/
theorem RetA.of {w V : World} {S : Nat → Prop} {a : Arr} {k : Int} {s n : List Int} {l : List Arr} {sa na ia : Option Addr} {sc nc ic : Nat} (E : a = .mk k s n l) (h1 : IntsAt V S sa s) (h2 : IntsAt V S na n) (hl : l.length ≤ 1759218604441) (h3 : ItemsAt V S ia 0 l) (hb : Below w.heap.size w V) :
    RetA w S a (.returned (.agg #[.int .i64 k, .slice sa s.length sc, .slice na n.length nc, .slice ia l.length ic])) V := RetA.mk E sa sc na nc ia ic rfl rfl rfl h1 h2 hl h3 hb
end Go.Proofs.Ytolnbmmkpmajdaa
namespace Go.Proofs.Ytolnbmmkpmajdaa
open Go.RowKit Go.Sort
attribute [local go_sem ↓] run_max2 run_min2
attribute [local go_sem] eql_ints_nil eql_arrs_nil
/-- an index, each number turned by its axis' own rule -/
def turnI (f : Int → Int → Int) (l : List Int) : List Int := (List.range l.length).map fun (j : Nat) => f j (l.getD j 0)
def turnP (f : Int → Int → Int) (l : List Int) (j : Nat) : List Int := (turnI f l).take j ++ l.drop j
def keeps (f : Int → Int → Int) (s : List Int) : Prop := ∀ (j : Nat) (n : Int), j < s.length → 0 ≤ n → n < s.getD j 0 → 0 ≤ f j n ∧ f j n < s.getD j 0
theorem turnI_len (f : Int → Int → Int) (l : List Int) : (turnI f l).length = l.length := by simp [turnI]
theorem turnI_getD {f : Int → Int → Int} {l : List Int} {j : Nat} (h : j < l.length) : (turnI f l).getD j 0 = f j (l.getD j 0) := by simp [turnI, h]
theorem turnI_in {f : Int → Int → Int} {s l : List Int} (hf : keeps f s) (h : inS s l) : inS s (turnI f l) :=
  ⟨by rw [turnI_len, h.1], fun i hi => by rw [turnI_getD (by rw [h.1]; exact hi)]; exact hf i _ hi (h.2 i hi).1 (h.2 i hi).2⟩
theorem turnP_zero (f : Int → Int → Int) (l : List Int) : turnP f l 0 = l := by simp [turnP]
theorem turnP_all (f : Int → Int → Int) (l : List Int) : turnP f l l.length = turnI f l := by simp [turnP, List.take_of_length_le, turnI_len]
theorem turnP_len (f : Int → Int → Int) (l : List Int) {j : Nat} (h : j ≤ l.length) : (turnP f l j).length = l.length := by simp [turnP, turnI_len]; omega
theorem turnP_at (f : Int → Int → Int) (l : List Int) {j : Nat} (h : j < l.length) : (turnP f l j).getD j 0 = l.getD j 0 := by
  unfold turnP
  have e : ((turnI f l).take j).length = j := by simp [turnI_len]; omega
  simp only [List.getD_eq_getElem?_getD]
  rw [List.getElem?_append_right (by omega), e, List.getElem?_drop]
  simp
theorem turnP_set (f : Int → Int → Int) (l : List Int) {j : Nat} (h : j < l.length) : (turnP f l j).set j (f j (l.getD j 0)) = turnP f l (j + 1) := by
  unfold turnP
  have e : ((turnI f l).take j).length = j := by simp [turnI_len]; omega
  rw [List.set_append_right _ _ (by omega), e, Nat.sub_self, List.drop_eq_getElem_cons h, List.set_cons_zero]
  rw [← List.take_append_getElem (by rw [turnI_len]; exact h)]
  have e2 : (turnI f l)[j]'(by rw [turnI_len]; exact h) = f j (l.getD j 0) := by simp [turnI, h]
  rw [e2]
  simp
/-- where element k comes from -/
def srcS (f : Int → Int → Int) (s : List Int) (k : Int) : Int := offS s (turnI f (digs s k))
theorem srcS_bd {f : Int → Int → Int} {s : List Int} (hf : keeps f s) (hs : shapeB s = true) {k : Int} (h0 : 0 ≤ k) (h1 : k < cnt s) : 0 ≤ srcS f s k ∧ srcS f s k < cnt s :=
  offS_bd (turnI_in hf (digs_in (posB_of hs h0 h1) k))
def pickN (n : List Int) (g : Int → Int) (m : Nat) : List Int := (List.range m).map fun (k : Nat) => n.getD (g k).toNat 0
def pickA (l : List Arr) (g : Int → Int) (m : Nat) : List Arr := (List.range m).map fun (k : Nat) => l.getD (g k).toNat .zero
theorem pickN_len (n : List Int) (g : Int → Int) (m : Nat) : (pickN n g m).length = m := by simp [pickN]
theorem pickA_len (n : List Arr) (g : Int → Int) (m : Nat) : (pickA n g m).length = m := by simp [pickA]
theorem pickN_succ (n : List Int) (g : Int → Int) (m : Nat) : pickN n g (m + 1) = pickN n g m ++ [n.getD (g m).toNat 0] := by simp [pickN, List.range_succ]
theorem pickA_succ (n : List Arr) (g : Int → Int) (m : Nat) : pickA n g (m + 1) = pickA n g m ++ [n.getD (g m).toNat .zero] := by simp [pickA, List.range_succ]
/-- the array of y's shape whose element k is y's element g k -/
def gathS (y : Arr) (s : List Int) (g : Int → Int) (m : Nat) : Arr := .mk y.kind s (if y.kind = 3 then [] else pickN y.nums g m) (if y.kind = 3 then pickA y.items g m else [])
theorem gathS_N {y : Arr} (h : y.kind ≠ 3) (s : List Int) (g : Int → Int) (m : Nat) : gathS y s g m = .mk y.kind s (pickN y.nums g m) [] := by simp [gathS, h]
theorem gathS_A {y : Arr} (h : y.kind = 3) (s : List Int) (g : Int → Int) (m : Nat) : gathS y s g m = .mk 3 s [] (pickA y.items g m) := by simp [gathS, h]
set_option maxRecDepth 100000 in
set_option maxHeartbeats 4000000 in
theorem rotating_build_N (f : Int → Int → Int) (K : FuncId) (caps : Array Value) (a : Arr) (sa : Option Addr) (sc : Nat) (na : Option Addr) (nc : Nat) (ia : Option Addr) (ic : Nat) (S : Nat → Prop) (w : World) (h : ArrAt w S a sa na ia)
    (hs : shapeB a.shape = true) (hk : a.kind ≠ 3) (hn : (a.nums.length : Int) = cnt a.shape) (hkf : keeps f a.shape) (hK : ∀ (args : Array Value) (wz : World), (callFunc K args).run Try.prog wz = .ok (.enter K args) wz)
    (hf : ∀ (j : Nat) (n : Int) (wz : World), Ext w wz → j < a.shape.length → 0 ≤ n → n < a.shape.getD j 0 → Calls Try.prog K (#[.int .i64 (j : Nat), .int .i64 n] ++ caps) wz fun e w' => e = .returned (.int .i64 (f j n)) ∧ Ext wz w') :
    Calls Try.prog 43 #[.agg #[.int .i64 a.kind, .slice sa a.shape.length sc, .slice na a.nums.length nc, .slice ia a.items.length ic], .func (.func K) #[] caps] w (RetA w (fun b => w.heap.size ≤ b) (gathS a a.shape (srcS f a.shape) (cnt a.shape).toNat)) := by
  refine calls_post fun R' hR => ?_
  have hil := h.len
  have hsl := h.shape.1
  have hnl := h.nums.1
  have h0 : Hid (ArrAt w (fun b => b < w.heap.size) a sa na ia) := hid (ArrAt.mono (fun b hb _ => hb) a h)
  have hs' := hid hs
  have hf' := hid hf
  have hkf' := hid hkf
  have hn' := hid hn
  have hk3 : (a.kind == 3) = false := by simpa using hk
  have hk' := hid hk
  clear h hs hf hkf hn hk
  go_enter Try.func43, Try.ntmps43
  go_wp2_with fail
  have hx := hdr_new w (.int .i64 a.kind) (.slice sa a.shape.length sc) (.slice na a.nums.length nc) (.slice ia a.items.length ic)
  have hw := ext_alloc w (.cells #[.int .i64 a.kind, .slice sa a.shape.length sc, .slice na a.nums.length nc, .slice ia a.items.length ic] 26)
  generalize hW : (w.alloc (.cells #[.int .i64 a.kind, .slice sa a.shape.length sc, .slice na a.nums.length nc, .slice ia a.items.length ic] 26)).alloc (.cells #[.int .i64 0, .slice none 0 0, .slice none 0 0, .slice none 0 0] 26) = W
  have hxW : Hdr W w.heap.size (.int .i64 a.kind) (.slice sa a.shape.length sc) (.slice na a.nums.length nc) (.slice ia a.items.length ic) := by rw [← hW]; exact hx.up (ext_alloc _ _)
  have hrW : Hdr W (w.heap.size + 1) (.int .i64 0) (.slice none 0 0) (.slice none 0 0) (.slice none 0 0) := by rw [← hW]; have := hdr_new (w.alloc (.cells #[.int .i64 a.kind, .slice sa a.shape.length sc, .slice na a.nums.length nc, .slice ia a.items.length ic] 26)) (.int .i64 0) (.slice none 0 0) (.slice none 0 0) (.slice none 0 0); simpa using this
  have heW : Ext w W := by rw [← hW]; exact hw.trans (ext_alloc _ _)
  have zW : W.heap.size = w.heap.size + 2 := by rw [← hW]; simp
  clear hx hw hW
  have aW := hid (h0.out.up heW)
  refine wp_region_mono_tail 7 (Sees W [(⟨w.heap.size, 0, none⟩, .int .i64 a.kind), (⟨w.heap.size, 1, none⟩, .slice sa a.shape.length sc)]) [4, 6] (fun k v u u' => match k with | 4 => ClonedI u a.shape (.returned v) u' | 6 => v = .pointer (some ⟨u.heap.size, 0, none⟩) ∧ u' = u.alloc (.cells #[.int .i64 0, .slice none 0 0, .slice none 0 0, .slice none 0 0] 26) | _ => False) (fun _ _ h e => h.up e) (Sees.start (all_cons (hxW.c0) (all_cons (hxW.c1) (all_nil)))) (by kernel_rfl) (by kernel_rfl) ?_
  simp only [List.take_succ_cons, List.take_zero, List.drop_succ_cons, List.drop_zero]
  repeat (first | (refine m_plain (v := ?_) (by rfl) (by rfl) ?_ ?_; rotate_left; (intro wz hSw; obtain ⟨-, hSc⟩ := hSw; (try simp only [List.forall_mem_cons, List.forall_mem_nil, and_true] at hSc); go_simp; (first | done | with_reducible rfl)); (intro K hK; (try simp only [Act.put, List.setIfInBounds_toArray, List.set_cons_zero, List.set_cons_succ]); refine hK _ _ ?_; clear hK K)) | (refine m_skip (by rfl) (by rfl) ?_; (intro K hK; (try simp only [Act.put, List.setIfInBounds_toArray, List.set_cons_zero, List.set_cons_succ]); refine hK _ _ ?_; clear hK K)))
  refine m_make (by rfl) (by rfl) ?_ ?_
  · intro wz hSw hdep R hRz
    obtain ⟨hSe, hSc⟩ := hSw
    (try simp only [List.forall_mem_cons, List.forall_mem_nil, and_true] at hSc)
    unfold does
    (go_simp; refine Calls.mono (slices_Clone a.shape _ _ _ wz (aW.out.up hSe).shape) ?_; rintro e wq ⟨ta, tc, rfl, hq, hqb⟩; exact ⟨_, rfl, hRz.out _ _ ⟨hqb, ta, tc, rfl, hq, hqb⟩⟩)
  intro v4 u4 x4 hG4 K hK
  have hF4 := hG4.fact
  (try dsimp only at hF4)
  obtain ⟨ta, tc, he, hq, hqb⟩ := hF4
  injection he with he
  subst he
  (try simp only [Act.put, List.setIfInBounds_toArray, List.set_cons_zero, List.set_cons_succ]); refine hK _ _ ?_; clear hK K
  repeat (first | (refine m_plain (v := ?_) (by rfl) (by rfl) ?_ ?_; rotate_left; (intro wz hSw; obtain ⟨-, hSc⟩ := hSw; (try simp only [List.forall_mem_cons, List.forall_mem_nil, and_true] at hSc); go_simp; (first | done | with_reducible rfl)); (intro K hK; (try simp only [Act.put, List.setIfInBounds_toArray, List.set_cons_zero, List.set_cons_succ]); refine hK _ _ ?_; clear hK K)) | (refine m_skip (by rfl) (by rfl) ?_; (intro K hK; (try simp only [Act.put, List.setIfInBounds_toArray, List.set_cons_zero, List.set_cons_succ]); refine hK _ _ ?_; clear hK K)))
  refine m_make (by rfl) (by rfl) ?_ ?_
  · intro wz hSw hdep R hRz
    obtain ⟨hSe, hSc⟩ := hSw
    (try simp only [List.forall_mem_cons, List.forall_mem_nil, and_true] at hSc)
    unfold does
    (go_simp; exact hRz.out _ _ ⟨ext_alloc _ _, rfl, rfl⟩)
  intro v6 u6 x6 hG6 K hK
  have hF6 := hG6.fact
  (try dsimp only at hF6)
  obtain ⟨rfl, rfl⟩ := hF6
  (try simp only [Act.put, List.setIfInBounds_toArray, List.set_cons_zero, List.set_cons_succ]); refine hK _ _ ?_; clear hK K
  repeat (first | (refine m_plain (v := ?_) (by rfl) (by rfl) ?_ ?_; rotate_left; (intro wz hSw; obtain ⟨-, hSc⟩ := hSw; (try simp only [List.forall_mem_cons, List.forall_mem_nil, and_true] at hSc); go_simp; (first | done | with_reducible rfl)); (intro K hK; (try simp only [Act.put, List.setIfInBounds_toArray, List.set_cons_zero, List.set_cons_succ]); refine hK _ _ ?_; clear hK K)) | (refine m_skip (by rfl) (by rfl) ?_; (intro K hK; (try simp only [Act.put, List.setIfInBounds_toArray, List.set_cons_zero, List.set_cons_succ]); refine hK _ _ ?_; clear hK K)))
  refine m_nil ?_
  intro wf hSf hAf
  have G6 : Hdr wf u6.heap.size _ _ _ _ := made_blk (hAf 6 _ rfl : Ext (u6.alloc _) wf)
  have zu := Below.size hG6.s.1
  have zu4 := Below.size hG4.s.1
  have ef : Ext W wf := hSf.1
  have AS : Hid (IntsAt wf (fun b => w.heap.size + 2 ≤ b ∧ b ≠ u6.heap.size) ta a.shape) := by
    have h1 := (hq.ints hsl).mono (T := fun b => w.heap.size + 2 ≤ b ∧ b ≠ u6.heap.size) (fun b hb hh => ⟨by omega, ord_out (hG6.order 4 _ rfl).symm.symm hh.1 hb⟩)
    exact h1.up (hAf 4 _ rfl)
  clear hSf hAf hG4 hG6 hq hqb
  generalize u6.heap.size = bx at *
  clear zu4 u4 x4 u6
  have H2 := hxW.up ef
  have HR := hrW.up ef
  have Aw := hid (aW.out.up ef)
  have hbx := G6.lt
  have Bw : Below w.heap.size w wf := Below.trans heW (Below.mono ef (by omega))
  have hcn := cnt_le hs'.out
  have hsz := hid (sizeS_true hs'.out)
  go_wp2_with (first
    | (refine wpl_store4 rfl (.tmp 5) (.tmp 18) rfl bx rfl rfl G6 ?_; intro V HV C; have HV2 := C.hdr H2 (by omega); have q1 := HV2.c1)
    | (go_at_call 33; refine (shape_Size a.shape _ _ _ V (C.arr Aw.out (fun q hq => by omega)).shape).mono ?_; rintro e w' ⟨rfl, rfl⟩; rw [hsz.out]))
  have zV := C.z
  have AV := hid (C.arr Aw.out (fun q hq => by omega))
  have AS := hid (C.ints AS.out (fun q hq => hq.2))
  have HRV := C.hdr HR (by omega)
  have BV := hid (C.below Bw (by omega))
  have zf := Below.size ef
  obtain ⟨n, hnn⟩ : ∃ n : Nat, cnt a.shape = (n : Int) := ⟨(cnt a.shape).toNat, by omega⟩
  have hnn' := hid hnn
  rw [hnn]
  rw [hnn] at hcn
  clear C G6 H2 HR Aw Bw hxW hrW heW aW hnn q1
  go_loopw [22] (fun i wr => ∃ (m : Nat) (ra : Option Addr) (rc : Nat), m ≤ n ∧ i = .int .i64 m ∧ BldN V wr bx (.int .i64 a.kind) (.slice ta a.shape.length tc) ra rc (pickN a.nums (srcS f a.shape) m)) (fun i _ => n - (intOf i).toNat)
  case atStart => exact ⟨0, none, 0, Nat.zero_le _, rfl, BldN.new HV⟩
  case round =>
    obtain ⟨m, ra, rc, hm, rfl, hB⟩ := hrel
    have hB := hid hB
    have hl := hB.out.l
    have zr := hB.out.g.size
    by_cases hlt : m < n
    · have hm1 : (m : Int) < cnt a.shape := by rw [hnn'.out]; omega
      have H2 := HV2.grown hB.out.g (by simp; omega)
      have q1 := H2.c1
      have AR := hid (AV.out.grown hB.out.g (fun b hb _ => by simp; omega))
      have hI := hid (shape_Index a.shape m _ sc _ wr AR.out.shape hs'.out (by omega) hm1 (fun b hb => by omega))
      have hdl := hid (digs_len a.shape m)
      have hdi := hid (digs_in (posB_of hs'.out (by omega) hm1) m)
      have hsb := hid (srcS_bd hkf'.out hs'.out (k := m) (by omega) hm1)
      replace hm1 := hid hm1
      go_wp2_with (go_at_call 81; refine hI.out.mono ?_; rintro e w1 ⟨io, icap, rfl, hio, hb1⟩)
      have z1 := hb1.size
      have hdl' : (digs a.shape m).length = a.shape.length := hdl.out
      have hll : (digs a.shape m).length ≤ 17592186044416 := by omega
      generalize hdd : digs a.shape m = l at *
      replace hdd := hid hdd
      replace hio := hid hio
      replace hb1 := hid hb1
      replace hdl' := hid hdl'
      have Bwr := hid (BV.out.grown hB.out.g BV.out.size (fun q hq => by injection hq with hq; omega))
      obtain ⟨wo, rfl⟩ : ∃ wo : World, wo = wr := ⟨_, rfl⟩
      go_loopw [34] (fun i wi => ∃ j : Nat, j ≤ l.length ∧ i = .int .i64 j ∧ OwnI wi wo.heap.size io icap (turnP f l j) ∧ Ext wo wi) (fun i _ => l.length - (intOf i).toNat)
      case atStart => exact ⟨0, Nat.zero_le _, rfl, by rw [turnP_zero]; exact hio.out, hb1.out⟩
      case round =>
        obtain ⟨j, hj, rfl, hoj, hej⟩ := hrel
        have hoj := hid hoj
        have hej := hid hej
        have zj := Below.size hej.out
        by_cases hjl : j < l.length
        · have hpl := turnP_len f l hj
          have hat := hid (turnP_at f l hjl)
          have hst := hid (turnP_set f l hjl)
          have hI2 := hoj.out.ints (by rw [hpl]; exact hll)
          have hp2 : j < (turnP f l j).length := by rw [hpl]; exact hjl
          obtain ⟨b, off, hio2, hbl, hSb, hc⟩ := hI2.at hp2
          obtain ⟨g, hg0, _, _, _⟩ := hoj.out.set hp2
          rw [hg0] at hio2
          injection hio2 with hio2
          injection hio2 with hb0 ho0
          subst hb0
          subst ho0
          rw [hat.out, Nat.zero_add] at hc
          have hjs : j < a.shape.length := by rw [hdl'.out] at hjl; exact hjl
          obtain ⟨i1, i2⟩ := hdi.out.2 j hjs
          have hcl := hid (hf'.out j (l.getD j 0) wr (Below.trans Bwr.out (Below.mono hej.out Bwr.out.size)) hjs i1 i2)
          subst hg0
          generalize l.getD j 0 = d at hc hst hcl i1 i2
          replace hpl := hid hpl
          replace hat := hid hat
          clear hI2 hSb
          go_wp2_with fail
          refine hcl.out.mono ?_
          rintro e w3 ⟨rfl, he3⟩
          have ho3 := hid (hoj.out.up he3)
          have e3' := hid (hej.out.trans he3)
          go_wp2_with (refine wpl_setI rfl (.tmp 45) (.tmp 44) rfl wo.heap.size (some ⟨g, 0, none⟩) icap (turnP f l j) ho3.out j hp2 (f j d) (by intro g e; injection e with e; injection e with e1 e2; subst e1; rfl) rfl ?_; intro V4 g4 hg4 hg4' ho4 C4; injection hg4 with hg4; injection hg4 with hg4; subst hg4)
          have ho4' : Hid (OwnI V4 wo.heap.size (some ⟨g, 0, none⟩) icap (turnP f l (j + 1))) := by rw [← hst.out]; exact ho4
          have e4 := hid (C4.below e3'.out hg4')
          clear ho4 C4 hg4'
          go_wp2_with fail
          go_roundw
          case rel => exact ⟨j + 1, by omega, by go_num, ho4'.out, e4.out⟩
          case measure => simp [intOf]; omega
        · have hje : turnP f l j = turnI f l := by rw [show j = l.length by omega, turnP_all]
          have hoj' := hoj.out
          rw [hje] at hoj'
          have HO := hid hoj'
          have hTi := turnI_len f l
          have hTin := hid (turnI_in hkf'.out hdi.out)
          have hBe := hid (hB.out.up hej.out)
          have H3 := H2.up hej.out
          have q2 := H3.c0
          have q3 := H3.c1
          have q4 := H3.c2
          have q5 := hBe.out.h.c2
          have AE := hid (AR.out.up hej.out)
          have hof := shape_Offset a.shape (turnI f l) sa sc io icap _ _ wr AE.out.shape (HO.out.ints (by rw [hTi]; exact hll)) hs'.out hTin.out
          rw [hTi, ← hdd.out] at hof
          have hof' : Hid (Calls Try.prog 82 #[.slice sa a.shape.length sc, .slice io (digs a.shape m).length icap] wr fun e w' => e = .returned (.tuple #[.int .i64 (srcS f a.shape m), .bool true]) ∧ wr = w') := hof
          rw [hdd.out] at hof'
          have hsv := hsb.out
          rw [hnn'.out] at hsv
          obtain ⟨s0, s1⟩ := hsv
          have hPs := hid (pickN_succ a.nums (srcS f a.shape) m)
          have hPl := hid (pickN_len a.nums (srcS f a.shape) m)
          generalize srcS f a.shape m = at' at hof' s0 s1 hPs
          have hnl2 : (a.nums.length : Int) = n := by rw [hn'.out, hnn'.out]
          obtain ⟨b', off', rfl, hbl', hSb', hc'⟩ := AE.out.nums.at (k := at'.toNat) (by omega)
          have hat' : (at'.toNat : Int) = at' := by omega
          generalize a.nums.getD at'.toNat 0 = d at hPs hc'
          obtain ⟨t, ht⟩ : ∃ t : Nat, at' = (t : Int) := ⟨at'.toNat, by omega⟩
          subst ht
          simp only [Int.toNat_natCast] at hc'
          have hnl3 : (t : Int) < (a.nums.length : Int) := by omega
          replace hnl2 := hid hnl2
          clear hof hje hoj' hoj hTi hSb' hat'
          go_wp2_with (go_at_call 82; refine hof'.out.mono ?_; rintro e w' ⟨rfl, rfl⟩)
          refine wp_region_mono_tail 8 (Sees wr [(⟨bx, 2, none⟩, .slice ra (pickN a.nums (srcS f a.shape) m).length rc), (⟨w.heap.size, 2, none⟩, .slice (some ⟨b', off', none⟩) a.nums.length nc), (⟨b', off' + t, none⟩, .int .i64 d)]) [7] (fun k v u u' => match k with | 7 => v = .slice (some ⟨u.heap.size, 0, none⟩) 1 1 ∧ u' = u.alloc (.cells #[.int .i64 d] 3) | _ => False) (fun _ _ h e => h.up e) (Sees.start (all_cons (q5) (all_cons (q4) (all_cons (hc') (all_nil))))) (by kernel_rfl) (by kernel_rfl) ?_
          simp only [List.take_succ_cons, List.take_zero, List.drop_succ_cons, List.drop_zero]
          repeat (first | (refine m_plain (v := ?_) (by rfl) (by rfl) ?_ ?_; rotate_left; (intro wz hSw; obtain ⟨-, hSc⟩ := hSw; (try simp only [List.forall_mem_cons, List.forall_mem_nil, and_true] at hSc); go_simp; (first | done | with_reducible rfl)); (intro K hK; (try simp only [Act.put, List.setIfInBounds_toArray, List.set_cons_zero, List.set_cons_succ]); refine hK _ _ ?_; clear hK K)) | (refine m_skip (by rfl) (by rfl) ?_; (intro K hK; (try simp only [Act.put, List.setIfInBounds_toArray, List.set_cons_zero, List.set_cons_succ]); refine hK _ _ ?_; clear hK K)))
          refine m_make (by rfl) (by rfl) ?_ ?_
          · intro wz hSw hdep R hRz
            obtain ⟨hSe, hSc⟩ := hSw
            (try simp only [List.forall_mem_cons, List.forall_mem_nil, and_true] at hSc)
            unfold does
            (go_simp; exact hRz.out _ _ ⟨ext_alloc _ _, rfl, rfl⟩)
          intro v7 u7 x7 hG7 K hK
          have hF7 := hG7.fact
          (try dsimp only at hF7)
          obtain ⟨rfl, rfl⟩ := hF7
          (try simp only [Act.put, List.setIfInBounds_toArray, List.set_cons_zero, List.set_cons_succ]); refine hK _ _ ?_; clear hK K
          repeat (first | (refine m_plain (v := ?_) (by rfl) (by rfl) ?_ ?_; rotate_left; (intro wz hSw; obtain ⟨-, hSc⟩ := hSw; (try simp only [List.forall_mem_cons, List.forall_mem_nil, and_true] at hSc); go_simp; (first | done | with_reducible rfl)); (intro K hK; (try simp only [Act.put, List.setIfInBounds_toArray, List.set_cons_zero, List.set_cons_succ]); refine hK _ _ ?_; clear hK K)) | (refine m_skip (by rfl) (by rfl) ?_; (intro K hK; (try simp only [Act.put, List.setIfInBounds_toArray, List.set_cons_zero, List.set_cons_succ]); refine hK _ _ ?_; clear hK K)))
          refine m_nil ?_
          intro wf hSf hAf
          have eF : Ext wr wf := hSf.1
          have oF : Hid (IntsAt wf (fun b => b = u7.heap.size) (some ⟨u7.heap.size, 0, none⟩) [d]) := IntsAt.box rfl (by rw [cell_of_row wf _ 0 _ _ _ (made_blk (hAf 7 _ rfl : Ext (u7.alloc _) wf))]; rfl)
          have bF := hid (hBe.out.up eF)
          clear hSf hAf hG7 eF
          refine wpl_addN rfl rfl rfl (.tmp 69) (.tmp 75) (.tmp 5) (.tmp 77) (.tmp 76) rfl rfl rfl bF.out _ _ 1 [d] rfl rfl oF.out (by rw [hPl.out]; simp; omega) (fun _ => rfl) (fun _ _ => rfl) (fun _ _ => rfl) ?_
          intro V' na' nc' hB'
          have hB2 := hid hB'
          clear hB' bF oF
          go_wp2_with fail
          go_roundw
          case rel => exact ⟨m + 1, na', nc', by omega, by go_num, by rw [hPs.out]; exact hB2.out⟩
          case measure => simp [intOf]; omega
    · have hmn : m = n := by omega
      subst hmn
      have hHB := hB.out.h
      have HRr := HRV.grown hB.out.g (by simp; omega)
      have AN := hid ((hB.out.o.ints (by rw [pickN_len]; omega)).mono (T := fun b => w.heap.size + 2 ≤ b) (fun b _ hb => by have := hb.1; omega))
      have ASr := hid (AS.out.grown hB.out.g (fun b hb _ => by simpa using hb.2))
      have Bwr := hid (BV.out.grown hB.out.g BV.out.size (fun q hq => by injection hq with hq; omega))
      go_wp2_with (first
        | (refine wpl_load4 rfl (.tmp 5) rfl bx rfl hHB ?_)
        | (refine wpl_store4 rfl (.tmp 4) (.tmp 79) rfl (w.heap.size + 1) rfl rfl HRr ?_; intro V2 H2 C2))
      refine bodyPost_ret (end_arr rfl H2 rfl) rfl (hR.out _ _ ?_)
      refine RetA.of (l := []) (n := pickN a.nums (srcS f a.shape) m) (s := a.shape) (by rw [gathS_N hk'.out, hnn'.out]; rfl) ?_ ?_ (Nat.zero_le _) (by simp only [ItemsAt]) ?_
      · exact (C2.ints ASr.out (fun q hq => by omega)).mono fun b _ hb => by omega
      · exact (C2.ints AN.out (fun q hq => by omega)).mono fun b _ hb => by omega
      · exact C2.below Bwr.out (by omega)
set_option maxRecDepth 100000 in
set_option maxHeartbeats 4000000 in
theorem rotating_build_A (f : Int → Int → Int) (K : FuncId) (caps : Array Value) (a : Arr) (sa : Option Addr) (sc : Nat) (na : Option Addr) (nc : Nat) (ia : Option Addr) (ic : Nat) (S : Nat → Prop) (w : World) (h : ArrAt w S a sa na ia)
    (hs : shapeB a.shape = true) (hk : a.kind = 3) (hn : (a.items.length : Int) = cnt a.shape) (hkf : keeps f a.shape) (hK : ∀ (args : Array Value) (wz : World), (callFunc K args).run Try.prog wz = .ok (.enter K args) wz)
    (hf : ∀ (j : Nat) (n : Int) (wz : World), Ext w wz → j < a.shape.length → 0 ≤ n → n < a.shape.getD j 0 → Calls Try.prog K (#[.int .i64 (j : Nat), .int .i64 n] ++ caps) wz fun e w' => e = .returned (.int .i64 (f j n)) ∧ Ext wz w') :
    Calls Try.prog 43 #[.agg #[.int .i64 a.kind, .slice sa a.shape.length sc, .slice na a.nums.length nc, .slice ia a.items.length ic], .func (.func K) #[] caps] w (RetA w (fun b => w.heap.size ≤ b) (gathS a a.shape (srcS f a.shape) (cnt a.shape).toNat)) := by
  refine calls_post fun R' hR => ?_
  have hil := h.len
  have hsl := h.shape.1
  have hnl := h.nums.1
  have h0 : Hid (ArrAt w (fun b => b < w.heap.size) a sa na ia) := hid (ArrAt.mono (fun b hb _ => hb) a h)
  have hs' := hid hs
  have hf' := hid hf
  have hkf' := hid hkf
  have hn' := hid hn
  have hk3 : (a.kind == 3) = true := by simpa using hk
  have hk' := hid hk
  clear h hs hf hkf hn hk
  go_enter Try.func43, Try.ntmps43
  go_wp2_with fail
  have hx := hdr_new w (.int .i64 a.kind) (.slice sa a.shape.length sc) (.slice na a.nums.length nc) (.slice ia a.items.length ic)
  have hw := ext_alloc w (.cells #[.int .i64 a.kind, .slice sa a.shape.length sc, .slice na a.nums.length nc, .slice ia a.items.length ic] 26)
  generalize hW : (w.alloc (.cells #[.int .i64 a.kind, .slice sa a.shape.length sc, .slice na a.nums.length nc, .slice ia a.items.length ic] 26)).alloc (.cells #[.int .i64 0, .slice none 0 0, .slice none 0 0, .slice none 0 0] 26) = W
  have hxW : Hdr W w.heap.size (.int .i64 a.kind) (.slice sa a.shape.length sc) (.slice na a.nums.length nc) (.slice ia a.items.length ic) := by rw [← hW]; exact hx.up (ext_alloc _ _)
  have hrW : Hdr W (w.heap.size + 1) (.int .i64 0) (.slice none 0 0) (.slice none 0 0) (.slice none 0 0) := by rw [← hW]; have := hdr_new (w.alloc (.cells #[.int .i64 a.kind, .slice sa a.shape.length sc, .slice na a.nums.length nc, .slice ia a.items.length ic] 26)) (.int .i64 0) (.slice none 0 0) (.slice none 0 0) (.slice none 0 0); simpa using this
  have heW : Ext w W := by rw [← hW]; exact hw.trans (ext_alloc _ _)
  have zW : W.heap.size = w.heap.size + 2 := by rw [← hW]; simp
  clear hx hw hW
  have aW := hid (h0.out.up heW)
  refine wp_region_mono_tail 7 (Sees W [(⟨w.heap.size, 0, none⟩, .int .i64 a.kind), (⟨w.heap.size, 1, none⟩, .slice sa a.shape.length sc)]) [4, 6] (fun k v u u' => match k with | 4 => ClonedI u a.shape (.returned v) u' | 6 => v = .pointer (some ⟨u.heap.size, 0, none⟩) ∧ u' = u.alloc (.cells #[.int .i64 0, .slice none 0 0, .slice none 0 0, .slice none 0 0] 26) | _ => False) (fun _ _ h e => h.up e) (Sees.start (all_cons (hxW.c0) (all_cons (hxW.c1) (all_nil)))) (by kernel_rfl) (by kernel_rfl) ?_
  simp only [List.take_succ_cons, List.take_zero, List.drop_succ_cons, List.drop_zero]
  repeat (first | (refine m_plain (v := ?_) (by rfl) (by rfl) ?_ ?_; rotate_left; (intro wz hSw; obtain ⟨-, hSc⟩ := hSw; (try simp only [List.forall_mem_cons, List.forall_mem_nil, and_true] at hSc); go_simp; (first | done | with_reducible rfl)); (intro K hK; (try simp only [Act.put, List.setIfInBounds_toArray, List.set_cons_zero, List.set_cons_succ]); refine hK _ _ ?_; clear hK K)) | (refine m_skip (by rfl) (by rfl) ?_; (intro K hK; (try simp only [Act.put, List.setIfInBounds_toArray, List.set_cons_zero, List.set_cons_succ]); refine hK _ _ ?_; clear hK K)))
  refine m_make (by rfl) (by rfl) ?_ ?_
  · intro wz hSw hdep R hRz
    obtain ⟨hSe, hSc⟩ := hSw
    (try simp only [List.forall_mem_cons, List.forall_mem_nil, and_true] at hSc)
    unfold does
    (go_simp; refine Calls.mono (slices_Clone a.shape _ _ _ wz (aW.out.up hSe).shape) ?_; rintro e wq ⟨ta, tc, rfl, hq, hqb⟩; exact ⟨_, rfl, hRz.out _ _ ⟨hqb, ta, tc, rfl, hq, hqb⟩⟩)
  intro v4 u4 x4 hG4 K hK
  have hF4 := hG4.fact
  (try dsimp only at hF4)
  obtain ⟨ta, tc, he, hq, hqb⟩ := hF4
  injection he with he
  subst he
  (try simp only [Act.put, List.setIfInBounds_toArray, List.set_cons_zero, List.set_cons_succ]); refine hK _ _ ?_; clear hK K
  repeat (first | (refine m_plain (v := ?_) (by rfl) (by rfl) ?_ ?_; rotate_left; (intro wz hSw; obtain ⟨-, hSc⟩ := hSw; (try simp only [List.forall_mem_cons, List.forall_mem_nil, and_true] at hSc); go_simp; (first | done | with_reducible rfl)); (intro K hK; (try simp only [Act.put, List.setIfInBounds_toArray, List.set_cons_zero, List.set_cons_succ]); refine hK _ _ ?_; clear hK K)) | (refine m_skip (by rfl) (by rfl) ?_; (intro K hK; (try simp only [Act.put, List.setIfInBounds_toArray, List.set_cons_zero, List.set_cons_succ]); refine hK _ _ ?_; clear hK K)))
  refine m_make (by rfl) (by rfl) ?_ ?_
  · intro wz hSw hdep R hRz
    obtain ⟨hSe, hSc⟩ := hSw
    (try simp only [List.forall_mem_cons, List.forall_mem_nil, and_true] at hSc)
    unfold does
    (go_simp; exact hRz.out _ _ ⟨ext_alloc _ _, rfl, rfl⟩)
  intro v6 u6 x6 hG6 K hK
  have hF6 := hG6.fact
  (try dsimp only at hF6)
  obtain ⟨rfl, rfl⟩ := hF6
  (try simp only [Act.put, List.setIfInBounds_toArray, List.set_cons_zero, List.set_cons_succ]); refine hK _ _ ?_; clear hK K
  repeat (first | (refine m_plain (v := ?_) (by rfl) (by rfl) ?_ ?_; rotate_left; (intro wz hSw; obtain ⟨-, hSc⟩ := hSw; (try simp only [List.forall_mem_cons, List.forall_mem_nil, and_true] at hSc); go_simp; (first | done | with_reducible rfl)); (intro K hK; (try simp only [Act.put, List.setIfInBounds_toArray, List.set_cons_zero, List.set_cons_succ]); refine hK _ _ ?_; clear hK K)) | (refine m_skip (by rfl) (by rfl) ?_; (intro K hK; (try simp only [Act.put, List.setIfInBounds_toArray, List.set_cons_zero, List.set_cons_succ]); refine hK _ _ ?_; clear hK K)))
  refine m_nil ?_
  intro wf hSf hAf
  have G6 : Hdr wf u6.heap.size _ _ _ _ := made_blk (hAf 6 _ rfl : Ext (u6.alloc _) wf)
  have zu := Below.size hG6.s.1
  have zu4 := Below.size hG4.s.1
  have ef : Ext W wf := hSf.1
  have AS : Hid (IntsAt wf (fun b => w.heap.size + 2 ≤ b ∧ b ≠ u6.heap.size) ta a.shape) := by
    have h1 := (hq.ints hsl).mono (T := fun b => w.heap.size + 2 ≤ b ∧ b ≠ u6.heap.size) (fun b hb hh => ⟨by omega, ord_out (hG6.order 4 _ rfl).symm.symm hh.1 hb⟩)
    exact h1.up (hAf 4 _ rfl)
  clear hSf hAf hG4 hG6 hq hqb
  generalize u6.heap.size = bx at *
  clear zu4 u4 x4 u6
  have H2 := hxW.up ef
  have HR := hrW.up ef
  have Aw := hid (aW.out.up ef)
  have hbx := G6.lt
  have Bw : Below w.heap.size w wf := Below.trans heW (Below.mono ef (by omega))
  have hcn := cnt_le hs'.out
  have hsz := hid (sizeS_true hs'.out)
  go_wp2_with (first
    | (refine wpl_store4 rfl (.tmp 5) (.tmp 18) rfl bx rfl rfl G6 ?_; intro V HV C; have HV2 := C.hdr H2 (by omega); have q1 := HV2.c1)
    | (go_at_call 33; refine (shape_Size a.shape _ _ _ V (C.arr Aw.out (fun q hq => by omega)).shape).mono ?_; rintro e w' ⟨rfl, rfl⟩; rw [hsz.out]))
  have zV := C.z
  have AV := hid (C.arr Aw.out (fun q hq => by omega))
  have AS := hid (C.ints AS.out (fun q hq => hq.2))
  have HRV := C.hdr HR (by omega)
  have BV := hid (C.below Bw (by omega))
  have zf := Below.size ef
  obtain ⟨n, hnn⟩ : ∃ n : Nat, cnt a.shape = (n : Int) := ⟨(cnt a.shape).toNat, by omega⟩
  have hnn' := hid hnn
  rw [hnn]
  rw [hnn] at hcn
  clear C G6 H2 HR Aw Bw hxW hrW heW aW hnn q1
  go_loopw [22] (fun i wr => ∃ (m : Nat) (ra : Option Addr) (rc : Nat), m ≤ n ∧ i = .int .i64 m ∧ BldA V wr bx (.int .i64 a.kind) (.slice ta a.shape.length tc) (fun b => V.heap.size ≤ b) ra rc (pickA a.items (srcS f a.shape) m)) (fun i _ => n - (intOf i).toNat)
  case atStart => exact ⟨0, none, 0, Nat.zero_le _, rfl, BldA.new HV (fun b hb => by have := HV.lt; omega)⟩
  case round =>
    obtain ⟨m, ra, rc, hm, rfl, hB⟩ := hrel
    have hB := hid hB
    have hl := hB.out.l
    have zr := hB.out.g.size
    by_cases hlt : m < n
    · have hm1 : (m : Int) < cnt a.shape := by rw [hnn'.out]; omega
      have H2 := HV2.grown hB.out.g (by simp; omega)
      have q1 := H2.c1
      have AR := hid (AV.out.grown hB.out.g (fun b hb _ => by simp; omega))
      have hI := hid (shape_Index a.shape m _ sc _ wr AR.out.shape hs'.out (by omega) hm1 (fun b hb => by omega))
      have hdl := hid (digs_len a.shape m)
      have hdi := hid (digs_in (posB_of hs'.out (by omega) hm1) m)
      have hsb := hid (srcS_bd hkf'.out hs'.out (k := m) (by omega) hm1)
      replace hm1 := hid hm1
      go_wp2_with (go_at_call 81; refine hI.out.mono ?_; rintro e w1 ⟨io, icap, rfl, hio, hb1⟩)
      have z1 := hb1.size
      have hdl' : (digs a.shape m).length = a.shape.length := hdl.out
      have hll : (digs a.shape m).length ≤ 17592186044416 := by omega
      generalize hdd : digs a.shape m = l at *
      replace hdd := hid hdd
      replace hio := hid hio
      replace hb1 := hid hb1
      replace hdl' := hid hdl'
      have Bwr := hid (BV.out.grown hB.out.g BV.out.size (fun q hq => by injection hq with hq; omega))
      obtain ⟨wo, rfl⟩ : ∃ wo : World, wo = wr := ⟨_, rfl⟩
      go_loopw [34] (fun i wi => ∃ j : Nat, j ≤ l.length ∧ i = .int .i64 j ∧ OwnI wi wo.heap.size io icap (turnP f l j) ∧ Ext wo wi) (fun i _ => l.length - (intOf i).toNat)
      case atStart => exact ⟨0, Nat.zero_le _, rfl, by rw [turnP_zero]; exact hio.out, hb1.out⟩
      case round =>
        obtain ⟨j, hj, rfl, hoj, hej⟩ := hrel
        have hoj := hid hoj
        have hej := hid hej
        have zj := Below.size hej.out
        by_cases hjl : j < l.length
        · have hpl := turnP_len f l hj
          have hat := hid (turnP_at f l hjl)
          have hst := hid (turnP_set f l hjl)
          have hI2 := hoj.out.ints (by rw [hpl]; exact hll)
          have hp2 : j < (turnP f l j).length := by rw [hpl]; exact hjl
          obtain ⟨b, off, hio2, hbl, hSb, hc⟩ := hI2.at hp2
          obtain ⟨g, hg0, _, _, _⟩ := hoj.out.set hp2
          rw [hg0] at hio2
          injection hio2 with hio2
          injection hio2 with hb0 ho0
          subst hb0
          subst ho0
          rw [hat.out, Nat.zero_add] at hc
          have hjs : j < a.shape.length := by rw [hdl'.out] at hjl; exact hjl
          obtain ⟨i1, i2⟩ := hdi.out.2 j hjs
          have hcl := hid (hf'.out j (l.getD j 0) wr (Below.trans Bwr.out (Below.mono hej.out Bwr.out.size)) hjs i1 i2)
          subst hg0
          generalize l.getD j 0 = d at hc hst hcl i1 i2
          replace hpl := hid hpl
          replace hat := hid hat
          clear hI2 hSb
          go_wp2_with fail
          refine hcl.out.mono ?_
          rintro e w3 ⟨rfl, he3⟩
          have ho3 := hid (hoj.out.up he3)
          have e3' := hid (hej.out.trans he3)
          go_wp2_with (refine wpl_setI rfl (.tmp 45) (.tmp 44) rfl wo.heap.size (some ⟨g, 0, none⟩) icap (turnP f l j) ho3.out j hp2 (f j d) (by intro g e; injection e with e; injection e with e1 e2; subst e1; rfl) rfl ?_; intro V4 g4 hg4 hg4' ho4 C4; injection hg4 with hg4; injection hg4 with hg4; subst hg4)
          have ho4' : Hid (OwnI V4 wo.heap.size (some ⟨g, 0, none⟩) icap (turnP f l (j + 1))) := by rw [← hst.out]; exact ho4
          have e4 := hid (C4.below e3'.out hg4')
          clear ho4 C4 hg4'
          go_wp2_with fail
          go_roundw
          case rel => exact ⟨j + 1, by omega, by go_num, ho4'.out, e4.out⟩
          case measure => simp [intOf]; omega
        · have hje : turnP f l j = turnI f l := by rw [show j = l.length by omega, turnP_all]
          have hoj' := hoj.out
          rw [hje] at hoj'
          have HO := hid hoj'
          have hTi := turnI_len f l
          have hTin := hid (turnI_in hkf'.out hdi.out)
          have hBe := hid (hB.out.up hej.out)
          have H3 := H2.up hej.out
          have q2 := H3.c0
          have q3 := H3.c1
          have q4 := H3.c3
          have q5 := hBe.out.h.c3
          have AE := hid (AR.out.up hej.out)
          have hof := shape_Offset a.shape (turnI f l) sa sc io icap _ _ wr AE.out.shape (HO.out.ints (by rw [hTi]; exact hll)) hs'.out hTin.out
          rw [hTi, ← hdd.out] at hof
          have hof' : Hid (Calls Try.prog 82 #[.slice sa a.shape.length sc, .slice io (digs a.shape m).length icap] wr fun e w' => e = .returned (.tuple #[.int .i64 (srcS f a.shape m), .bool true]) ∧ wr = w') := hof
          rw [hdd.out] at hof'
          have hsv := hsb.out
          rw [hnn'.out] at hsv
          obtain ⟨s0, s1⟩ := hsv
          have hPs := hid (pickA_succ a.items (srcS f a.shape) m)
          have hPl := hid (pickA_len a.items (srcS f a.shape) m)
          generalize srcS f a.shape m = at' at hof' s0 s1 hPs
          have hnl2 : (a.items.length : Int) = n := by rw [hn'.out, hnn'.out]
          have hat3 : at'.toNat < a.items.length := by omega
          obtain ⟨b', off', sa', sc', na', nc', ja', jc', rfl, hSb', hbl', e0, e1, e2, e3, hx⟩ := AE.out.items.at hat3
          have hgd : a.items.getD at'.toNat .zero = a.items[at'.toNat] := by simp [hat3]
          rw [hgd] at hPs
          have hat' : (at'.toNat : Int) = at' := by omega
          generalize a.items[at'.toNat] = x at hPs e0 e1 e2 e3 hx
          obtain ⟨t, ht⟩ : ∃ t : Nat, at' = (t : Int) := ⟨at'.toNat, by omega⟩
          subst ht
          simp only [Int.toNat_natCast] at e0 e1 e2 e3
          have hnl3 : (t : Int) < (a.items.length : Int) := by omega
          replace hnl2 := hid hnl2
          have HX := hid hx
          have zwr := hid (Nat.le_trans zr zj)
          clear hof hje hoj' hoj hTi hSb' hat' hgd hx
          go_wp2_with (go_at_call 82; refine hof'.out.mono ?_; rintro e w' ⟨rfl, rfl⟩)
          refine wp_region_mono_tail 9 (Sees wr [(⟨bx, 3, none⟩, .slice ra (pickA a.items (srcS f a.shape) m).length rc), (⟨w.heap.size, 3, none⟩, .slice (some ⟨b', off', none⟩) a.items.length ic), (⟨b', off' + t * 4, none⟩, .int .i64 x.kind), (⟨b', off' + t * 4 + 1, none⟩, .slice sa' x.shape.length sc'), (⟨b', off' + t * 4 + 2, none⟩, .slice na' x.nums.length nc'), (⟨b', off' + t * 4 + 3, none⟩, .slice ja' x.items.length jc')]) [7, 8] (fun k v u u' => match k with | 7 => RetA u (fun b => wr.heap.size ≤ b) x (.returned v) u' | 8 => ∃ sa sc na nc ia ic, v = .slice (some ⟨u.heap.size, 0, none⟩) 1 1 ∧ u' = u.alloc (.cells #[.int .i64 x.kind, .slice sa x.shape.length sc, .slice na x.nums.length nc, .slice ia x.items.length ic] 26) ∧ ArrAt u (fun b => wr.heap.size ≤ b) x sa na ia | _ => False) (fun _ _ h e => h.up e) (Sees.start (all_cons (q5) (all_cons (q4) (all_cons (e0) (all_cons (e1) (all_cons (e2) (all_cons (e3) (all_nil)))))))) (by kernel_rfl) (by kernel_rfl) ?_
          simp only [List.take_succ_cons, List.take_zero, List.drop_succ_cons, List.drop_zero]
          repeat (first | (refine m_plain (v := ?_) (by rfl) (by rfl) ?_ ?_; rotate_left; (intro wz hSw; obtain ⟨-, hSc⟩ := hSw; (try simp only [List.forall_mem_cons, List.forall_mem_nil, and_true] at hSc); go_simp; (first | done | with_reducible rfl)); (intro K hK; (try simp only [Act.put, List.setIfInBounds_toArray, List.set_cons_zero, List.set_cons_succ]); refine hK _ _ ?_; clear hK K)) | (refine m_skip (by rfl) (by rfl) ?_; (intro K hK; (try simp only [Act.put, List.setIfInBounds_toArray, List.set_cons_zero, List.set_cons_succ]); refine hK _ _ ?_; clear hK K)))
          refine m_make (by rfl) (by rfl) ?_ ?_
          · intro wz hSw hdep R hRz
            obtain ⟨hSe, hSc⟩ := hSw
            (try simp only [List.forall_mem_cons, List.forall_mem_nil, and_true] at hSc)
            unfold does
            (go_simp; refine Calls.mono (array_Clone x sa' sc' na' nc' ja' jc' _ wz (HX.out.up hSe)) ?_; rintro e wq ⟨ta, tc, tn, tnc, ti, tic, rfl, hq, hqb⟩; exact ⟨_, rfl, hRz.out _ _ ⟨hqb, ta, tc, tn, tnc, ti, tic, rfl, ArrAt.mono (fun b _ hb => Nat.le_trans (Below.size hSe) hb) x hq, hqb⟩⟩)
          intro v7 u7 x7 hG7 K hK
          have hF7 := hG7.fact
          (try dsimp only at hF7)
          obtain ⟨xa, xc, xn, xnc, xi, xic, he, hq, hqb⟩ := hF7
          injection he with he
          subst he
          (try simp only [Act.put, List.setIfInBounds_toArray, List.set_cons_zero, List.set_cons_succ]); refine hK _ _ ?_; clear hK K
          repeat (first | (refine m_plain (v := ?_) (by rfl) (by rfl) ?_ ?_; rotate_left; (intro wz hSw; obtain ⟨-, hSc⟩ := hSw; (try simp only [List.forall_mem_cons, List.forall_mem_nil, and_true] at hSc); go_simp; (first | done | with_reducible rfl)); (intro K hK; (try simp only [Act.put, List.setIfInBounds_toArray, List.set_cons_zero, List.set_cons_succ]); refine hK _ _ ?_; clear hK K)) | (refine m_skip (by rfl) (by rfl) ?_; (intro K hK; (try simp only [Act.put, List.setIfInBounds_toArray, List.set_cons_zero, List.set_cons_succ]); refine hK _ _ ?_; clear hK K)))
          refine m_make (by rfl) (by rfl) ?_ ?_
          · intro wz hSw hdep R hRz
            obtain ⟨hSe, hSc⟩ := hSw
            (try simp only [List.forall_mem_cons, List.forall_mem_nil, and_true] at hSc)
            unfold does
            (go_simp; exact hRz.out _ _ ⟨ext_alloc _ _, xa, xc, xn, xnc, xi, xic, rfl, rfl, hq.up (hdep 7 _ rfl (depB_sound (f := 40) (by kernel_rfl)))⟩)
          intro v8 u8 x8 hG8 K hK
          have hF8 := hG8.fact
          (try dsimp only at hF8)
          obtain ⟨ya, yc, yn, ync, yi, yic, rfl, rfl, hy⟩ := hF8
          (try simp only [Act.put, List.setIfInBounds_toArray, List.set_cons_zero, List.set_cons_succ]); refine hK _ _ ?_; clear hK K
          repeat (first | (refine m_plain (v := ?_) (by rfl) (by rfl) ?_ ?_; rotate_left; (intro wz hSw; obtain ⟨-, hSc⟩ := hSw; (try simp only [List.forall_mem_cons, List.forall_mem_nil, and_true] at hSc); go_simp; (first | done | with_reducible rfl)); (intro K hK; (try simp only [Act.put, List.setIfInBounds_toArray, List.set_cons_zero, List.set_cons_succ]); refine hK _ _ ?_; clear hK K)) | (refine m_skip (by rfl) (by rfl) ?_; (intro K hK; (try simp only [Act.put, List.setIfInBounds_toArray, List.set_cons_zero, List.set_cons_succ]); refine hK _ _ ?_; clear hK K)))
          refine m_nil ?_
          intro wf hSf hAf
          have eF : Ext wr wf := hSf.1
          have e8 : Ext (u8.alloc _) wf := hAf 8 _ rfl
          have h8 : Hdr wf u8.heap.size _ _ _ _ := made_blk e8
          have z8 := Below.size hG8.s.1
          have oF := hid (items_one (sc := yc) (nc := ync) (jc := yic) (S := fun b => wr.heap.size ≤ b) z8 h8.c0 h8.c1 h8.c2 h8.c3 ((hy.up (ext_alloc _ _)).up e8))
          have bF := hid (hBe.out.up eF)
          have hrw : ∀ k, rowOf ra = some k → k < wr.heap.size := fun k hk => (hBe.out.o.row k hk).2
          clear hSf hAf hG7 hG8 eF e8 h8 z8 hy hq hqb
          refine wpl_addA rfl rfl rfl (.tmp 58) (.tmp 65) (.tmp 5) (.tmp 67) (.tmp 66) rfl rfl rfl bF.out _ _ 1 [x] rfl rfl oF.out (fun b _ hb => ⟨Nat.le_trans zwr.out hb, fun e => by have := hrw b e.symm; omega⟩) (by rw [hPl.out]; simp; omega) (fun _ => rfl) (fun _ _ => rfl) (fun _ _ => rfl) ?_
          intro V' na' nc' hB'
          have hB2 := hid hB'
          clear hB' bF oF
          go_wp2_with fail
          go_roundw
          case rel => exact ⟨m + 1, na', nc', by omega, by go_num, by rw [hPs.out]; exact hB2.out⟩
          case measure => simp [intOf]; omega
    · have hmn : m = n := by omega
      subst hmn
      have hHB := hB.out.h
      have HRr := HRV.grown hB.out.g (by simp; omega)
      have AN := hid ((hB.out.o.items).mono (T := fun b => w.heap.size + 2 ≤ b) (fun b _ hb => by rcases hb with hb | hb <;> omega))
      have ASr := hid (AS.out.grown hB.out.g (fun b hb _ => by simpa using hb.2))
      have Bwr := hid (BV.out.grown hB.out.g BV.out.size (fun q hq => by injection hq with hq; omega))
      go_wp2_with (first
        | (refine wpl_load4 rfl (.tmp 5) rfl bx rfl hHB ?_)
        | (refine wpl_store4 rfl (.tmp 4) (.tmp 79) rfl (w.heap.size + 1) rfl rfl HRr ?_; intro V2 H2 C2))
      refine bodyPost_ret (end_arr rfl H2 rfl) rfl (hR.out _ _ ?_)
      refine RetA.of (k := a.kind) (l := pickA a.items (srcS f a.shape) m) (n := []) (s := a.shape) (by rw [gathS_A hk'.out, hnn'.out, hk'.out]; rfl) ?_ (IntsAt.nil _ _ _) (by rw [pickA_len]; omega) ?_ ?_
      · exact (C2.ints ASr.out (fun q hq => by omega)).mono fun b _ hb => by omega
      · exact (C2.items AN.out (fun q hq => by omega)).mono fun b _ hb => by omega
      · exact C2.below Bwr.out (by omega)
end Go.Proofs.Ytolnbmmkpmajdaa
namespace Go.Proofs.Ytolnbmmkpmajdaa
open Go.RowKit Go.Sort
attribute [local go_sem ↓] run_max2 run_min2
attribute [local go_sem] eql_ints_nil eql_arrs_nil
theorem right_ok {a : Arr} (h : rightS a = 0) : (a.kind = 1 ∨ a.kind = 2 ∨ a.kind = 3) ∧ shapeB a.shape = true ∧ ((a.kind = 3 ∧ (a.items.length : Int) = cnt a.shape ∧ a.nums.length = 0) ∨ (a.kind ≠ 3 ∧ (a.nums.length : Int) = cnt a.shape ∧ a.items.length = 0)) :=
  formE_zero (chk_ok h).1
/-- an array and an error number -/
def RetAE (w : World) (S : Nat → Prop) (a : Arr) (n : Int) (e : Ending) (w' : World) : Prop :=
  ∃ sa sc na nc ia ic, e = .returned (.tuple #[.agg #[.int .i64 a.kind, .slice sa a.shape.length sc, .slice na a.nums.length nc, .slice ia a.items.length ic], .int .i64 n]) ∧ ArrAt w' S a sa na ia ∧ Below w.heap.size w w'
theorem end_arr2 {fn : Func} {p q : Tmp} (hres : fn.results = #[.cell p 26, .tmp q]) {w : World} {b : Nat} {tmps : Array Value} {k s n i : Value} (h : Hdr w b k s n i) (hp : tmps.getD p undef = .pointer (some ⟨b, 0, none⟩)) {v : Value} (hq : tmps.getD q undef = v) :
    (results fn tmps).run Try.prog w = .ok (.tuple #[.agg #[k, s, n, i], v]) w := by
  have hp' : tmps[p]?.getD undef = .pointer (some ⟨b, 0, none⟩) := by simpa using hp
  have hq' : tmps[q]?.getD undef = v := by simpa using hq
  simp [results, hres, hp', hq', asAddr, run_loadVar_row w b _ _ _ _ _ h Try.underlying26 rfl (by kernel_rfl)]
def revF (s : List Int) (j n : Int) : Int := if j = 0 then s.getD 0 0 - 1 - n else n
theorem RetA.to {w V : World} {S : Nat → Prop} {a b : Arr} {sa na ia : Option Addr} {sc nc ic : Nat} (E : a = b) (h : ArrAt V S b sa na ia) (hb : Below w.heap.size w V) : RetA w S a (.returned (.agg #[.int .i64 b.kind, .slice sa b.shape.length sc, .slice na b.nums.length nc, .slice ia b.items.length ic])) V := by
  subst E; exact ⟨sa, sc, na, nc, ia, ic, rfl, h, hb⟩
theorem RetA.zero {w V : World} {S : Nat → Prop} {a : Arr} (E : a = .zero) (hb : Below w.heap.size w V) : RetA w S a (.returned (.agg #[.int .i64 0, .slice none 0 0, .slice none 0 0, .slice none 0 0])) V := by
  subst E; exact ⟨none, 0, none, 0, none, 0, rfl, zero_at _ _ _ _ _, hb⟩
theorem RetAE.to {w V : World} {S : Nat → Prop} {a b : Arr} {n m : Int} {sa na ia : Option Addr} {sc nc ic : Nat} (E : a = b) (E2 : n = m) (h : ArrAt V S b sa na ia) (hb : Below w.heap.size w V) : RetAE w S a n (.returned (.tuple #[.agg #[.int .i64 b.kind, .slice sa b.shape.length sc, .slice na b.nums.length nc, .slice ia b.items.length ic], .int .i64 m])) V := by
  subst E; subst E2; exact ⟨sa, sc, na, nc, ia, ic, rfl, h, hb⟩
theorem RetAE.zero {w V : World} {S : Nat → Prop} {a : Arr} {n m : Int} (E : a = .zero) (E2 : n = m) (hb : Below w.heap.size w V) : RetAE w S a n (.returned (.tuple #[.agg #[.int .i64 0, .slice none 0 0, .slice none 0 0, .slice none 0 0], .int .i64 m])) V := by
  subst E; subst E2; exact ⟨none, 0, none, 0, none, 0, rfl, zero_at _ _ _ _ _, hb⟩
theorem revF_keeps (s : List Int) : keeps (revF s) s := fun j n hj h0 h1 => by
  unfold revF
  by_cases e : (j : Int) = 0
  · rw [if_pos e]
    have : j = 0 := by omega
    subst this
    omega
  · rw [if_neg e]; exact ⟨h0, h1⟩
def revS (a : Arr) : Arr := if rightS a = 0 then gathS a a.shape (srcS (revF a.shape) a.shape) (cnt a.shape).toNat else .zero
theorem rotating_build (f : Int → Int → Int) (K : FuncId) (caps : Array Value) (a : Arr) (sa : Option Addr) (ca : Nat) (na : Option Addr) (ma : Nat) (ia : Option Addr) (ja : Nat) (S : Nat → Prop) (w : World) (h : ArrAt w S a sa na ia) (hr : rightS a = 0) (hkf : keeps f a.shape) (hK : ∀ (args : Array Value) (wz : World), (callFunc K args).run Try.prog wz = .ok (.enter K args) wz)
    (hf : ∀ (j : Nat) (n : Int) (wz : World), Ext w wz → j < a.shape.length → 0 ≤ n → n < a.shape.getD j 0 → Calls Try.prog K (#[.int .i64 (j : Nat), .int .i64 n] ++ caps) wz fun e w' => e = .returned (.int .i64 (f j n)) ∧ Ext wz w') :
    Calls Try.prog 43 #[.agg #[.int .i64 a.kind, .slice sa a.shape.length ca, .slice na a.nums.length ma, .slice ia a.items.length ja], .func (.func K) #[] caps] w (RetA w (fun b => w.heap.size ≤ b) (gathS a a.shape (srcS f a.shape) (cnt a.shape).toNat)) := by
  obtain ⟨_, hs, ⟨h3, hn, _⟩ | ⟨h3, hn, _⟩⟩ := right_ok hr
  · exact rotating_build_A f K caps a _ _ _ _ _ _ S w h hs h3 hn hkf hK hf
  · exact rotating_build_N f K caps a _ _ _ _ _ _ S w h hs h3 hn hkf hK hf
theorem shape_bds {s : List Int} (h : shapeB s = true) : ∀ d ∈ s, 0 ≤ d ∧ d ≤ 65536 := fun d hd => by
  obtain ⟨_, h1, h2⟩ := shapeB_iff.1 h
  exact ⟨h1 d hd, Int.le_trans (prodNZ_ge_mem h1 hd) h2⟩
/-- the rotated place -/
def rotF (xs s : List Int) (j n : Int) : Int := if (xs.length : Int) ≤ j then n else (n + xs.getD j.toNat 0) % s.getD j.toNat 0
theorem rotF_keeps (xs s : List Int) : keeps (rotF xs s) s := fun j n hj h0 h1 => by
  unfold rotF
  split
  · exact ⟨h0, h1⟩
  · simp only [Int.toNat_natCast]
    exact ⟨Int.emod_nonneg _ (by omega), Int.emod_lt_of_pos _ (by omega)⟩
theorem tmod_bd (x d : Int) (hd : 0 < d) : -d < x.tmod d ∧ x.tmod d < d := by
  have h1 := Int.tmod_lt_of_pos x hd
  have h2 : -d < x.tmod d := by
    have h3 := Int.tmod_lt_of_pos (-x) hd
    rw [Int.neg_tmod] at h3
    omega
  exact ⟨h2, h1⟩
theorem rot_mod (n x d : Int) (hd : 0 < d) : (n + x.tmod d + d) % d = (n + x) % d := by
  have e : x.tmod d = x - d * x.tdiv d := by have := Int.mul_tdiv_add_tmod x d; omega
  rw [e, Int.add_emod_right]
  have e2 : n + (x - d * x.tdiv d) = (n + x) + d * (-(x.tdiv d)) := by rw [Int.mul_neg]; omega
  rw [e2, Int.add_mul_emod_self_left]
def rotE (x y : Arr) : Int := if rightS x ≠ 0 ∨ rightS y ≠ 0 then 1 else if x.kind ≠ 1 then 14 else if 1 < x.shape.length then 15 else if y.shape.length < x.nums.length then 16 else 0
def rotS (x y : Arr) : Arr := if rotE x y = 0 then gathS y y.shape (srcS (rotF x.nums y.shape) y.shape) (cnt y.shape).toNat else .zero
set_option maxHeartbeats 1000000 in
theorem rotate_1 (xs s : List Int) (xo : Option Addr) (xc : Nat) (so : Option Addr) (sc : Nat) (p q : Nat) (S T : Nat → Prop) (w : World) (g : IntsAt w T xo xs) (h : IntsAt w S so s) (hs : ∀ d ∈ s, 0 ≤ d ∧ d ≤ 65536) (hx : ∀ d ∈ xs, -4611686018427387904 ≤ d ∧ d ≤ 4611686018427387904)
    (hp : w.cell? ⟨p, 2, none⟩ = some (.slice xo xs.length xc)) (hq : w.cell? ⟨q, 1, none⟩ = some (.slice so s.length sc)) (j : Nat) (n : Int) (hj : j < s.length) (h0 : 0 ≤ n) (h1 : n < s.getD j 0) :
    Calls Try.prog 44 #[.int .i64 (j : Nat), .int .i64 n, .pointer (some ⟨p, 0, none⟩), .pointer (some ⟨q, 0, none⟩)] w fun e w' => e = .returned (.int .i64 (rotF xs s j n)) ∧ Ext w w' := by
  refine calls_post fun R' hR => ?_
  by_cases e : j < xs.length
  · have hb := hs _ (getD_mem hj)
    have hb2 := hx _ (getD_mem e)
    obtain ⟨b, off, rfl, hbl, hS, hc⟩ := h.at hj
    obtain ⟨b', off', rfl, hbl', hS', hc'⟩ := g.at e
    have E : Hid (rotF xs s (j : Nat) n = (n + xs.getD j 0) % s.getD j 0) := by unfold Hid rotF; rw [if_neg (by omega)]; simp only [Int.toNat_natCast]
    generalize s.getD j 0 = d at hc hb E h1
    generalize xs.getD j 0 = x at hc' hb2 E
    have hd : 0 < d := by omega
    have hM := hid (rot_mod n x d hd)
    obtain ⟨t1, t2⟩ := tmod_bd x d hd
    have jj0 : (0 : Int) ≤ (j : Int) := by omega
    have jj1 : (j : Int) < (s.length : Int) := by omega
    have jj2 : (j : Int) < (xs.length : Int) := by omega
    have hxl := g.1
    clear hs hx
    go_enter Try.func44, Try.ntmps44
    go_wp2_with fail
    exact hR.out _ _ ⟨by rw [E.out, ← hM.out] <;> rfl, Ext.refl _⟩
  · have E : Hid (rotF xs s (j : Nat) n = n) := by unfold Hid rotF; rw [if_pos (by omega)]
    have e1 : xs.length ≤ j := by omega
    clear hs hx
    go_enter Try.func44, Try.ntmps44
    go_wp2_with fail
    exact hR.out _ _ ⟨by rw [E.out] <;> rfl, Ext.refl _⟩
theorem num_bds {a : Arr} (h : rightS a = 0) (hk : a.kind = 1) : ∀ d ∈ a.nums, -4611686018427387904 ≤ d ∧ d ≤ 4611686018427387904 := fun d hd => by
  have h1 := (chk_ok h).2.1
  rw [List.any_eq_false] at h1
  have := h1 d hd
  simp [elemB, hk, numB] at this
  omega
set_option maxHeartbeats 4000000 in
theorem rotating_Rotate (x : Arr) (sx : Option Addr) (cx : Nat) (nx : Option Addr) (mx : Nat) (ix : Option Addr) (jx : Nat) (y : Arr) (sy : Option Addr) (cy : Nat) (ny : Option Addr) (my : Nat) (iy : Option Addr) (jy : Nat) (S T : Nat → Prop) (w : World) (h : ArrAt w S x sx nx ix) (g : ArrAt w T y sy ny iy) :
    Calls Try.prog 19 #[.agg #[.int .i64 x.kind, .slice sx x.shape.length cx, .slice nx x.nums.length mx, .slice ix x.items.length jx], .agg #[.int .i64 y.kind, .slice sy y.shape.length cy, .slice ny y.nums.length my, .slice iy y.items.length jy]] w (RetAE w (fun b => w.heap.size ≤ b) (rotS x y) (rotE x y)) := by
  refine calls_post fun R' hR => ?_
  have h0 := hid (ArrAt.mono (T := fun b => b < w.heap.size) (fun b hb _ => hb) x h)
  have g0 := hid (ArrAt.mono (T := fun b => b < w.heap.size) (fun b hb _ => hb) y g)
  have xnl := h.nums.1
  have xsl := h.shape.1
  have ysl := g.shape.1
  clear h g
  by_cases c : rightS x = 0
  case neg =>
    have cb : (rightS x != 0) = true := by simp [c]
    have E : Hid (rotE x y = 1) := if_pos (Or.inl c)
    have E2 : Hid (rotS x y = .zero) := if_neg (by rw [E.out]; omega)
    replace c := hid c
    go_enter Try.func19, Try.ntmps19
    go_wp2_with fail
    generalize hEW : (((w).alloc (.cells #[.int .i64 x.kind, .slice sx x.shape.length cx, .slice nx x.nums.length mx, .slice ix x.items.length jx] 26)).alloc (.cells #[.int .i64 y.kind, .slice sy y.shape.length cy, .slice ny y.nums.length my, .slice iy y.items.length jy] 26)).alloc (.cells #[.int .i64 0, .slice none 0 0, .slice none 0 0, .slice none 0 0] 26) = W
    obtain ⟨hxW, hyW, hZW, heW, zW⟩ := boxes3 w hEW
    clear hEW
    refine (array_Right x _ _ _ _ _ _ _ W (h0.out.up heW)).mono ?_
    rintro e w1 ⟨rfl, hb1⟩
    have HZ := hZW.up hb1
    have e1 := heW.trans hb1
    clear hb1 hxW hyW hZW
    go_wp2_with (refine wpl_store4 rfl (.tmp 4) (.tmp 15) rfl (w.heap.size + 1 + 1) rfl rfl HZ ?_; intro V HV C)
    exact bodyPost_ret (end_arr2 rfl HV rfl rfl) rfl (hR.out _ _ (RetAE.zero E2.out E.out (C.below e1 (by omega))))
  have cb : (rightS x != 0) = false := by simp [c]
  by_cases d : rightS y = 0
  case neg =>
    have db : (rightS y != 0) = true := by simp [d]
    have E : Hid (rotE x y = 1) := if_pos (Or.inr d)
    have E2 : Hid (rotS x y = .zero) := if_neg (by rw [E.out]; omega)
    replace c := hid c
    replace d := hid d
    go_enter Try.func19, Try.ntmps19
    go_wp2_with fail
    generalize hEW : (((w).alloc (.cells #[.int .i64 x.kind, .slice sx x.shape.length cx, .slice nx x.nums.length mx, .slice ix x.items.length jx] 26)).alloc (.cells #[.int .i64 y.kind, .slice sy y.shape.length cy, .slice ny y.nums.length my, .slice iy y.items.length jy] 26)).alloc (.cells #[.int .i64 0, .slice none 0 0, .slice none 0 0, .slice none 0 0] 26) = W
    obtain ⟨hxW, hyW, hZW, heW, zW⟩ := boxes3 w hEW
    clear hEW
    refine (array_Right x _ _ _ _ _ _ _ W (h0.out.up heW)).mono ?_
    rintro e w1 ⟨rfl, hb1⟩
    have e1 := heW.trans hb1
    obtain ⟨y0, y1, y2, y3⟩ := (hyW.up hb1).all
    go_wp2_with fail
    refine (array_Right y _ _ _ _ _ _ _ w1 (g0.out.up e1)).mono ?_
    rintro e w2 ⟨rfl, hb2⟩
    have eX := Ext.trans hb1 hb2
    have e2 := heW.trans eX
    have HX2 := hxW.up eX
    have HY2 := hyW.up eX
    have HZ2 := hZW.up eX
    obtain ⟨x0, x1, x2, x3⟩ := HX2.all
    replace y1 := HY2.c1
    clear hb1 hb2 hxW hyW hZW y0 y2 y3
    go_wp2_with (refine wpl_store4 rfl (.tmp 4) (.tmp 15) rfl (w.heap.size + 1 + 1) rfl rfl HZ2 ?_; intro V HV C)
    exact bodyPost_ret (end_arr2 rfl HV rfl rfl) rfl (hR.out _ _ (RetAE.zero E2.out E.out (C.below e2 (by omega))))
  have db : (rightS y != 0) = false := by simp [d]
  by_cases k : x.kind = 1
  case neg =>
    have kb : (x.kind != 1) = true := by simp [k]
    have E : Hid (rotE x y = 14) := by unfold Hid rotE; rw [if_neg (by simp [c, d]), if_pos k]
    have E2 : Hid (rotS x y = .zero) := if_neg (by rw [E.out]; omega)
    replace c := hid c
    replace d := hid d
    replace k := hid k
    go_enter Try.func19, Try.ntmps19
    go_wp2_with fail
    generalize hEW : (((w).alloc (.cells #[.int .i64 x.kind, .slice sx x.shape.length cx, .slice nx x.nums.length mx, .slice ix x.items.length jx] 26)).alloc (.cells #[.int .i64 y.kind, .slice sy y.shape.length cy, .slice ny y.nums.length my, .slice iy y.items.length jy] 26)).alloc (.cells #[.int .i64 0, .slice none 0 0, .slice none 0 0, .slice none 0 0] 26) = W
    obtain ⟨hxW, hyW, hZW, heW, zW⟩ := boxes3 w hEW
    clear hEW
    refine (array_Right x _ _ _ _ _ _ _ W (h0.out.up heW)).mono ?_
    rintro e w1 ⟨rfl, hb1⟩
    have e1 := heW.trans hb1
    obtain ⟨y0, y1, y2, y3⟩ := (hyW.up hb1).all
    go_wp2_with fail
    refine (array_Right y _ _ _ _ _ _ _ w1 (g0.out.up e1)).mono ?_
    rintro e w2 ⟨rfl, hb2⟩
    have eX := Ext.trans hb1 hb2
    have e2 := heW.trans eX
    have HX2 := hxW.up eX
    have HY2 := hyW.up eX
    have HZ2 := hZW.up eX
    obtain ⟨x0, x1, x2, x3⟩ := HX2.all
    replace y1 := HY2.c1
    clear hb1 hb2 hxW hyW hZW y0 y2 y3
    go_wp2_with (refine wpl_store4 rfl (.tmp 4) (.tmp 20) rfl (w.heap.size + 1 + 1) rfl rfl HZ2 ?_; intro V HV C)
    exact bodyPost_ret (end_arr2 rfl HV rfl rfl) rfl (hR.out _ _ (RetAE.zero E2.out E.out (C.below e2 (by omega))))
  have kb : (x.kind != 1) = false := by simp [k]
  by_cases r : 1 < x.shape.length
  case pos =>
    have E : Hid (rotE x y = 15) := by unfold Hid rotE; rw [if_neg (by simp [c, d]), if_neg (by simp [k]), if_pos r]
    have E2 : Hid (rotS x y = .zero) := if_neg (by rw [E.out]; omega)
    replace c := hid c
    replace d := hid d
    replace k := hid k
    go_enter Try.func19, Try.ntmps19
    go_wp2_with fail
    generalize hEW : (((w).alloc (.cells #[.int .i64 x.kind, .slice sx x.shape.length cx, .slice nx x.nums.length mx, .slice ix x.items.length jx] 26)).alloc (.cells #[.int .i64 y.kind, .slice sy y.shape.length cy, .slice ny y.nums.length my, .slice iy y.items.length jy] 26)).alloc (.cells #[.int .i64 0, .slice none 0 0, .slice none 0 0, .slice none 0 0] 26) = W
    obtain ⟨hxW, hyW, hZW, heW, zW⟩ := boxes3 w hEW
    clear hEW
    refine (array_Right x _ _ _ _ _ _ _ W (h0.out.up heW)).mono ?_
    rintro e w1 ⟨rfl, hb1⟩
    have e1 := heW.trans hb1
    obtain ⟨y0, y1, y2, y3⟩ := (hyW.up hb1).all
    go_wp2_with fail
    refine (array_Right y _ _ _ _ _ _ _ w1 (g0.out.up e1)).mono ?_
    rintro e w2 ⟨rfl, hb2⟩
    have eX := Ext.trans hb1 hb2
    have e2 := heW.trans eX
    have HX2 := hxW.up eX
    have HY2 := hyW.up eX
    have HZ2 := hZW.up eX
    obtain ⟨x0, x1, x2, x3⟩ := HX2.all
    replace y1 := HY2.c1
    clear hb1 hb2 hxW hyW hZW y0 y2 y3
    go_wp2_with (refine wpl_store4 rfl (.tmp 4) (.tmp 26) rfl (w.heap.size + 1 + 1) rfl rfl HZ2 ?_; intro V HV C)
    exact bodyPost_ret (end_arr2 rfl HV rfl rfl) rfl (hR.out _ _ (RetAE.zero E2.out E.out (C.below e2 (by omega))))
  by_cases l : y.shape.length < x.nums.length
  case pos =>
    have E : Hid (rotE x y = 16) := by unfold Hid rotE; rw [if_neg (by simp [c, d]), if_neg (by simp [k]), if_neg r, if_pos l]
    have E2 : Hid (rotS x y = .zero) := if_neg (by rw [E.out]; omega)
    replace c := hid c
    replace d := hid d
    replace k := hid k
    go_enter Try.func19, Try.ntmps19
    go_wp2_with fail
    generalize hEW : (((w).alloc (.cells #[.int .i64 x.kind, .slice sx x.shape.length cx, .slice nx x.nums.length mx, .slice ix x.items.length jx] 26)).alloc (.cells #[.int .i64 y.kind, .slice sy y.shape.length cy, .slice ny y.nums.length my, .slice iy y.items.length jy] 26)).alloc (.cells #[.int .i64 0, .slice none 0 0, .slice none 0 0, .slice none 0 0] 26) = W
    obtain ⟨hxW, hyW, hZW, heW, zW⟩ := boxes3 w hEW
    clear hEW
    refine (array_Right x _ _ _ _ _ _ _ W (h0.out.up heW)).mono ?_
    rintro e w1 ⟨rfl, hb1⟩
    have e1 := heW.trans hb1
    obtain ⟨y0, y1, y2, y3⟩ := (hyW.up hb1).all
    go_wp2_with fail
    refine (array_Right y _ _ _ _ _ _ _ w1 (g0.out.up e1)).mono ?_
    rintro e w2 ⟨rfl, hb2⟩
    have eX := Ext.trans hb1 hb2
    have e2 := heW.trans eX
    have HX2 := hxW.up eX
    have HY2 := hyW.up eX
    have HZ2 := hZW.up eX
    obtain ⟨x0, x1, x2, x3⟩ := HX2.all
    replace y1 := HY2.c1
    clear hb1 hb2 hxW hyW hZW y0 y2 y3
    go_wp2_with (refine wpl_store4 rfl (.tmp 4) (.tmp 35) rfl (w.heap.size + 1 + 1) rfl rfl HZ2 ?_; intro V HV C)
    exact bodyPost_ret (end_arr2 rfl HV rfl rfl) rfl (hR.out _ _ (RetAE.zero E2.out E.out (C.below e2 (by omega))))
  case neg =>
    have E : Hid (rotE x y = 0) := by unfold Hid rotE; rw [if_neg (by simp [c, d]), if_neg (by simp [k]), if_neg r, if_neg l]
    have E2 : Hid (rotS x y = gathS y y.shape (srcS (rotF x.nums y.shape) y.shape) (cnt y.shape).toNat) := if_pos E.out
    have hsb := hid (shape_bds (right_ok d).2.1)
    have hxb := hid (num_bds c k)
    replace c := hid c
    replace d := hid d
    replace k := hid k
    go_enter Try.func19, Try.ntmps19
    go_wp2_with fail
    generalize hEW : (((w).alloc (.cells #[.int .i64 x.kind, .slice sx x.shape.length cx, .slice nx x.nums.length mx, .slice ix x.items.length jx] 26)).alloc (.cells #[.int .i64 y.kind, .slice sy y.shape.length cy, .slice ny y.nums.length my, .slice iy y.items.length jy] 26)).alloc (.cells #[.int .i64 0, .slice none 0 0, .slice none 0 0, .slice none 0 0] 26) = W
    obtain ⟨hxW, hyW, hZW, heW, zW⟩ := boxes3 w hEW
    clear hEW
    refine (array_Right x _ _ _ _ _ _ _ W (h0.out.up heW)).mono ?_
    rintro e w1 ⟨rfl, hb1⟩
    have e1 := heW.trans hb1
    obtain ⟨y0, y1, y2, y3⟩ := (hyW.up hb1).all
    go_wp2_with fail
    refine (array_Right y _ _ _ _ _ _ _ w1 (g0.out.up e1)).mono ?_
    rintro e w2 ⟨rfl, hb2⟩
    have eX := Ext.trans hb1 hb2
    have e2 := heW.trans eX
    have HX2 := hxW.up eX
    have HY2 := hyW.up eX
    have HZ2 := hZW.up eX
    obtain ⟨x0, x1, x2, x3⟩ := HX2.all
    replace y1 := HY2.c1
    clear hb1 hb2 hxW hyW hZW y0 y2 y3
    have AX := hid (h0.out.up e2)
    have AY := hid (g0.out.up e2)
    have hK : ∀ (args : Array Value) (wz : World), (callFunc 44 args).run Try.prog wz = .ok (.enter 44 args) wz := fun args wz => by kernel_rfl
    have hb := hid (rotating_build (rotF x.nums y.shape) 44 #[.pointer (some ⟨w.heap.size, 0, none⟩), .pointer (some ⟨w.heap.size + 1, 0, none⟩)] y _ cy _ my _ jy _ w2 AY.out d.out (rotF_keeps _ _) hK (fun j n wz hz hj h0 h1 => rotate_1 x.nums y.shape _ _ _ _ _ _ _ _ wz (AX.out.up hz).nums (AY.out.up hz).shape hsb.out hxb.out ((HX2.up hz).c2) ((HY2.up hz).c1) j n hj h0 h1))
    have z2 := Below.size eX
    go_wp2_with (first
      | (refine wpl_load4 rfl (.tmp 3) rfl (w.heap.size + 1) rfl HY2 ?_)
      | (go_at_call 43; refine hb.out.mono ?_; rintro e w3 ⟨ta, tc, tn, tnc, ti, tic, rfl, hA3, hb3⟩; have HZ3 := HZ2.up hb3)
      | (refine wpl_store4 rfl (.tmp 4) (.tmp 38) rfl (w.heap.size + 1 + 1) rfl rfl HZ3 ?_; intro V HV C))
    exact bodyPost_ret (end_arr2 rfl HV rfl rfl) rfl (hR.out _ _ (RetAE.to E2.out E.out (ArrAt.mono (fun b _ hb => by omega) _ (C.arr hA3 (fun q hq => by omega))) (C.below (Below.trans e2 (Below.mono hb3 (by omega))) (by omega))))
end Go.Proofs.Ytolnbmmkpmajdaa
namespace Go.Proofs.Ytolnbmmkpmajdaa
open Go.RowKit Go.Sort
attribute [local go_sem ↓] run_max2 run_min2
attribute [local go_sem] eql_ints_nil eql_arrs_nil
theorem OwnI.ne_hdr {w : World} {base : Nat} {ao : Option Addr} {cap : Nat} {xs : List Int} {b : Nat} {k s n i : Value} (h : OwnI w base ao cap xs) (hh : Hdr w b k s n i) : rowOf ao ≠ some b := by
  intro e
  rcases h.2 with ⟨e1, _⟩ | ⟨g, c, cur, e1, _, hg, _⟩
  · injection e1 with e1; subst e1; simp [rowOf] at e
  · injection e1 with e1; subst e1
    simp [rowOf] at e
    subst e
    unfold Hdr at hh
    rw [hg] at hh
    injection hh with hh
    injection hh with h1 h2
    revert h2
    decide
set_option maxHeartbeats 1000000 in
theorem run_appE (w : World) (ty : TypeId) (base : Nat) (ao : Option Addr) (hown : OwnI w base ao 0 []) (S : Nat → Prop) (so : Option Addr) (sc : Nat) (ys : List Int) (hys : IntsAt w S so ys) (hbase : base ≤ w.heap.size) :
    ∃ ao' cap' w', (Builtin.append_ #[23, 23] ty #[.slice ao 0 0, .slice so ys.length sc]).run Try.prog w = .ok (.slice ao' ys.length cap') w' ∧ OwnI w' base ao' cap' ys ∧ Ext w w' := by
  obtain ⟨i0, hi, hz0, hz1, hz2⟩ := info_parts infoInt
  have hlen := hys.1
  rcases hown.2 with ⟨e1, _⟩ | ⟨g, c, cur, e1, hgb, hg, hnc, _⟩
  · injection e1 with e1; subst e1
    obtain ⟨ao', cap', w', hr, ho, hgr, _⟩ := run_appI w ty base none 0 [] (OwnI.nil _ _) S so sc ys hys (by simpa using hlen) hbase
    exact ⟨ao', cap', w', by simpa using hr, by simpa using ho, below_app0 hgr⟩
  · injection e1 with e1 _ e2; subst e1; subst e2
    cases so with
    | none =>
      have hy : ys = [] := by
        cases ys with
        | nil => rfl
        | cons y l => obtain ⟨_, _, e, _⟩ := hys.2 (by simp); cases e
      subst hy
      exact ⟨_, 0, w, run_append_nothing (P := Try.prog) w base 23 ty 3 i0 1 Try.underlying23 hi _ _ _ hown sc, hown, Ext.refl _⟩
    | some ad =>
      by_cases hy : ys = []
      · subst hy
        refine ⟨_, 0, w, ?_, hown, Ext.refl _⟩
        have := run_append_room_cells (P := Try.prog) (w := w) 23 ty 3 i0 Try.underlying23 hi g 0 0 0 ad 0 sc [] (by simp) (fun j u hu => by simp at hu) (fun u hu => by simp at hu) (Nat.le_refl _) (fun j hj => by simp at hj) (fun j hj => by simp at hj)
        exact this
      · have hpos : 0 < ys.length := List.length_pos_iff.2 hy
        obtain ⟨b, off, e, hS, hlt, hc⟩ := hys.2 hpos
        injection e with e
        subst e
        have hnews : ∀ j u, (ys.map (Value.int .i64))[j]? = some u → w.cell? ((⟨b, off, none⟩ : Addr).add j) = some u := by
          intro j u hu
          have hj : j < ys.length := by have := (List.getElem?_eq_some_iff.1 hu).1; simpa using this
          have := hc j hj
          simp [hj] at hu
          subst hu
          simpa [Addr.add_lit, hj] using this
        obtain ⟨v', w', hr, ho, hgr⟩ := run_append_arg_grows (P := Try.prog) (w := w) 23 ty 3 i0 (.int .i64 0) 1 8 Try.underlying23 hi hz0 hz1 hz2 rfl (by decide) ⟨g, 0, none⟩ 0 0 [] rfl (fun j u hu => by simp at hu) ⟨b, off, none⟩ ys.length sc (ys.map (Value.int .i64)) (by simp) hnews (by omega) (by unfold maxLen; omega) (by omega)
        rw [Nat.zero_add, List.nil_append] at ho
        obtain ⟨ao', cap', rfl⟩ := slice_form ho
        have ho' : OwnI w' w.heap.size ao' cap' ys := ho
        exact ⟨ao', cap', w', hr, ho'.base hbase, below_app0 hgr⟩
theorem does_appE {o : Oper} {a : Act} {w : World} {R : Value → World → Prop} (s x : Operand) (ho : o.op = .call { callee := .builtin .append, args := #[s, x], argTypes := #[23, 23] })
    (base : Nat) (ao : Option Addr) (hs : a.eval s = .slice ao 0 0) (hown : OwnI w base ao 0 []) (S : Nat → Prop) (so : Option Addr) (sc : Nat) (ys : List Int) (hx : a.eval x = .slice so ys.length sc) (hys : IntsAt w S so ys) (hbase : base ≤ w.heap.size)
    (h : ∀ ao' cap' w', OwnI w' base ao' cap' ys → Ext w w' → R (.slice ao' ys.length cap') w') : does Try.prog o a w R := by
  obtain ⟨ao', cap', w', hrun, h1, h2⟩ := run_appE w o.type base ao hown S so sc ys hys hbase
  unfold does
  simp [execOp, ho, resolve, invoke, builtin, hs, hx, hrun, Result.andThen, doesUpon]
  exact h _ _ _ h1 h2
theorem own_empty {w wf : World} {base : Nat} (hb : base ≤ w.heap.size) (e : Ext (w.alloc (.cells #[] 3)) wf) : OwnI wf base (some ⟨w.heap.size, 0, none⟩) 0 [] :=
  ⟨rfl, Or.inr ⟨w.heap.size, 0, #[], rfl, hb, made_blk e, Nat.le_refl _, by decide, rfl, rfl⟩⟩
end Go.Proofs.Ytolnbmmkpmajdaa
