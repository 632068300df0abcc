/- A group of texts (GF), each with its own conditions: those of each lemma. -/
import Derived.Test.YtdpdcjadedcglaaGE
import Derived.Deep.DeepCutAuto
import Derived.Outline
import Derived.Test.YtdpdcjadedcglaaGD
import Derived.Test.YtdpdcjadedcglaaGB
import Derived.ArgAppend
import Derived.Deep.RegionHeld3
import Derived.Deep.DrawnRows
set_option linter.unusedVariables false
set_option maxRecDepth 20000
set_option linter.unusedSimpArgs false
namespace Go.Proofs.Ytdpdcjadedcglaa
open Go.RowKit Go.Sort
attribute [local go_sem ↓] run_max2 run_min2
attribute [local go_sem] eql_ints_nil eql_arrs_nil
set_option maxRecDepth 100000 in
set_option maxHeartbeats 4000000 in
theorem array_Clone (a : Arr) : ∀ (sa : Option Addr) (sc : Nat) (na : Option Addr) (nc : Nat) (ia : Option Addr) (ic : Nat) (S : Nat → Prop) (w : World), ArrAt w S a sa na ia →
    Calls Try.prog 61 #[.agg #[.int .i64 a.kind, .slice sa a.shape.length sc, .slice na a.nums.length nc, .slice ia a.items.length ic]] w (RetA w (fun b => w.heap.size ≤ b) a) := by
  induction a using Arr.ind with
  | h a IH =>
    intro sa sc na nc ia ic S w h
    have IH := hid IH
    refine calls_post fun R' hR => ?_
    have hil := h.len
    have hsl := h.shape.1
    have hnl := h.nums.1
    have h0 := hid h
    clear h
    go_enter Try.func61, Try.ntmps61
    go_wp2_with fail
    have hx := hdr_new w (.int .i64 a.kind) (.slice sa a.shape.length sc) (.slice na a.nums.length nc) (.slice ia a.items.length ic)
    have hw := ext_alloc w (.cells #[.int .i64 a.kind, .slice sa a.shape.length sc, .slice na a.nums.length nc, .slice ia a.items.length ic] 27)
    generalize hW : (w.alloc (.cells #[.int .i64 a.kind, .slice sa a.shape.length sc, .slice na a.nums.length nc, .slice ia a.items.length ic] 27)).alloc (.cells #[.int .i64 0, .slice none 0 0, .slice none 0 0, .slice none 0 0] 27) = W
    have hxW : Hdr W w.heap.size (.int .i64 a.kind) (.slice sa a.shape.length sc) (.slice na a.nums.length nc) (.slice ia a.items.length ic) := by rw [← hW]; exact hx.up (ext_alloc _ _)
    have hrW : Hdr W (w.heap.size + 1) (.int .i64 0) (.slice none 0 0) (.slice none 0 0) (.slice none 0 0) := by rw [← hW]; have := hdr_new (w.alloc (.cells #[.int .i64 a.kind, .slice sa a.shape.length sc, .slice na a.nums.length nc, .slice ia a.items.length ic] 27)) (.int .i64 0) (.slice none 0 0) (.slice none 0 0) (.slice none 0 0); simpa using this
    have heW : Ext w W := by rw [← hW]; exact hw.trans (ext_alloc _ _)
    clear hx hw
    replace hW := hid hW
    have mS := fun w => run_makeI w a.shape.length hsl
    have mN := fun w => run_makeI w a.nums.length hnl
    have mI := fun w => run_makeA w a.items.length hil
    refine wp_region_mono_tail 16 (Sees W [(⟨w.heap.size, 0, none⟩, .int .i64 a.kind), (⟨w.heap.size, 1, none⟩, .slice sa a.shape.length sc), (⟨w.heap.size, 2, none⟩, .slice na a.nums.length nc), (⟨w.heap.size, 3, none⟩, .slice ia a.items.length ic)]) [5, 9, 13, 15] (fun k v u u' => match k with | 5 => v = .slice (some ⟨u.heap.size, 0, none⟩) a.shape.length a.shape.length ∧ u' = u.alloc (.cells (madeI a.shape.length) 3) | 9 => v = .slice (some ⟨u.heap.size, 0, none⟩) a.nums.length a.nums.length ∧ u' = u.alloc (.cells (madeI a.nums.length) 3) | 13 => v = .slice (some ⟨u.heap.size, 0, none⟩) a.items.length a.items.length ∧ u' = u.alloc (.cells (madeA a.items.length) 27) | 15 => v = .pointer (some ⟨u.heap.size, 0, none⟩) ∧ u' = u.alloc (.cells #[.int .i64 0, .slice none 0 0, .slice none 0 0, .slice none 0 0] 27) | _ => False) (fun _ _ h e => h.up e) (Sees.start (all_cons (hxW.c0) (all_cons (hxW.c1) (all_cons (hxW.c2) (all_cons (hxW.c3) (all_nil)))))) (by kernel_rfl) (by kernel_rfl) ?_
    simp only [List.take_succ_cons, List.take_zero, List.drop_succ_cons, List.drop_zero]
    repeat (first | (refine m_plain (v := ?_) (by rfl) (by rfl) ?_ ?_; rotate_left; (intro wz hSw; obtain ⟨-, hSc⟩ := hSw; (try simp only [List.forall_mem_cons, List.forall_mem_nil, and_true] at hSc); go_simp; (first | done | with_reducible rfl)); (intro K hK; (try simp only [Act.put, List.setIfInBounds_toArray, List.set_cons_zero, List.set_cons_succ]); refine hK _ _ ?_; clear hK K)) | (refine m_skip (by rfl) (by rfl) ?_; (intro K hK; (try simp only [Act.put, List.setIfInBounds_toArray, List.set_cons_zero, List.set_cons_succ]); refine hK _ _ ?_; clear hK K)))
    refine m_make (by rfl) (by rfl) ?_ ?_
    · intro wz hSw hdep R hRz
      obtain ⟨hSe, hSc⟩ := hSw
      (try simp only [List.forall_mem_cons, List.forall_mem_nil, and_true] at hSc)
      unfold does
      (go_simp; exact hRz.out _ _ ⟨ext_alloc _ _, rfl, rfl⟩)
    intro v5 u5 x5 hG5 K hK
    have hF5 := hG5.fact
    (try dsimp only at hF5)
    obtain ⟨rfl, rfl⟩ := hF5
    (try simp only [Act.put, List.setIfInBounds_toArray, List.set_cons_zero, List.set_cons_succ]); refine hK _ _ ?_; clear hK K
    repeat (first | (refine m_plain (v := ?_) (by rfl) (by rfl) ?_ ?_; rotate_left; (intro wz hSw; obtain ⟨-, hSc⟩ := hSw; (try simp only [List.forall_mem_cons, List.forall_mem_nil, and_true] at hSc); go_simp; (first | done | with_reducible rfl)); (intro K hK; (try simp only [Act.put, List.setIfInBounds_toArray, List.set_cons_zero, List.set_cons_succ]); refine hK _ _ ?_; clear hK K)) | (refine m_skip (by rfl) (by rfl) ?_; (intro K hK; (try simp only [Act.put, List.setIfInBounds_toArray, List.set_cons_zero, List.set_cons_succ]); refine hK _ _ ?_; clear hK K)))
    refine m_make (by rfl) (by rfl) ?_ ?_
    · intro wz hSw hdep R hRz
      obtain ⟨hSe, hSc⟩ := hSw
      (try simp only [List.forall_mem_cons, List.forall_mem_nil, and_true] at hSc)
      unfold does
      (go_simp; exact hRz.out _ _ ⟨ext_alloc _ _, rfl, rfl⟩)
    intro v9 u9 x9 hG9 K hK
    have hF9 := hG9.fact
    (try dsimp only at hF9)
    obtain ⟨rfl, rfl⟩ := hF9
    (try simp only [Act.put, List.setIfInBounds_toArray, List.set_cons_zero, List.set_cons_succ]); refine hK _ _ ?_; clear hK K
    repeat (first | (refine m_plain (v := ?_) (by rfl) (by rfl) ?_ ?_; rotate_left; (intro wz hSw; obtain ⟨-, hSc⟩ := hSw; (try simp only [List.forall_mem_cons, List.forall_mem_nil, and_true] at hSc); go_simp; (first | done | with_reducible rfl)); (intro K hK; (try simp only [Act.put, List.setIfInBounds_toArray, List.set_cons_zero, List.set_cons_succ]); refine hK _ _ ?_; clear hK K)) | (refine m_skip (by rfl) (by rfl) ?_; (intro K hK; (try simp only [Act.put, List.setIfInBounds_toArray, List.set_cons_zero, List.set_cons_succ]); refine hK _ _ ?_; clear hK K)))
    refine m_make (by rfl) (by rfl) ?_ ?_
    · intro wz hSw hdep R hRz
      obtain ⟨hSe, hSc⟩ := hSw
      (try simp only [List.forall_mem_cons, List.forall_mem_nil, and_true] at hSc)
      unfold does
      (go_simp; exact hRz.out _ _ ⟨ext_alloc _ _, rfl, rfl⟩)
    intro v13 u13 x13 hG13 K hK
    have hF13 := hG13.fact
    (try dsimp only at hF13)
    obtain ⟨rfl, rfl⟩ := hF13
    (try simp only [Act.put, List.setIfInBounds_toArray, List.set_cons_zero, List.set_cons_succ]); refine hK _ _ ?_; clear hK K
    repeat (first | (refine m_plain (v := ?_) (by rfl) (by rfl) ?_ ?_; rotate_left; (intro wz hSw; obtain ⟨-, hSc⟩ := hSw; (try simp only [List.forall_mem_cons, List.forall_mem_nil, and_true] at hSc); go_simp; (first | done | with_reducible rfl)); (intro K hK; (try simp only [Act.put, List.setIfInBounds_toArray, List.set_cons_zero, List.set_cons_succ]); refine hK _ _ ?_; clear hK K)) | (refine m_skip (by rfl) (by rfl) ?_; (intro K hK; (try simp only [Act.put, List.setIfInBounds_toArray, List.set_cons_zero, List.set_cons_succ]); refine hK _ _ ?_; clear hK K)))
    refine m_make (by rfl) (by rfl) ?_ ?_
    · intro wz hSw hdep R hRz
      obtain ⟨hSe, hSc⟩ := hSw
      (try simp only [List.forall_mem_cons, List.forall_mem_nil, and_true] at hSc)
      unfold does
      (go_simp; exact hRz.out _ _ ⟨ext_alloc _ _, rfl, rfl⟩)
    intro v15 u15 x15 hG15 K hK
    have hF15 := hG15.fact
    (try dsimp only at hF15)
    obtain ⟨rfl, rfl⟩ := hF15
    (try simp only [Act.put, List.setIfInBounds_toArray, List.set_cons_zero, List.set_cons_succ]); refine hK _ _ ?_; clear hK K
    repeat (first | (refine m_plain (v := ?_) (by rfl) (by rfl) ?_ ?_; rotate_left; (intro wz hSw; obtain ⟨-, hSc⟩ := hSw; (try simp only [List.forall_mem_cons, List.forall_mem_nil, and_true] at hSc); go_simp; (first | done | with_reducible rfl)); (intro K hK; (try simp only [Act.put, List.setIfInBounds_toArray, List.set_cons_zero, List.set_cons_succ]); refine hK _ _ ?_; clear hK K)) | (refine m_skip (by rfl) (by rfl) ?_; (intro K hK; (try simp only [Act.put, List.setIfInBounds_toArray, List.set_cons_zero, List.set_cons_succ]); refine hK _ _ ?_; clear hK K)))
    refine m_nil ?_
    intro wf hSf hAf
    have G1 := made_blk (hAf 5 _ rfl : Ext (u5.alloc _) wf)
    have G2 := made_blk (hAf 9 _ rfl : Ext (u9.alloc _) wf)
    have G3 := made_blk (hAf 13 _ rfl : Ext (u13.alloc _) wf)
    have G4 : Hdr wf u15.heap.size _ _ _ _ := made_blk (hAf 15 _ rfl : Ext (u15.alloc _) wf)
    have n1 := ord_ne (hG9.order 5 _ rfl)
    have n2 := ord_ne (hG13.order 5 _ rfl)
    have n3 := ord_ne (hG13.order 9 _ rfl)
    have n4 := ord_ne (hG15.order 5 _ rfl)
    have n5 := ord_ne (hG15.order 9 _ rfl)
    have n6 := ord_ne (hG15.order 13 _ rfl)
    have z1 := Below.size hG5.s.1
    have z2 := Below.size hG9.s.1
    have z3 := Below.size hG13.s.1
    have z4 := Below.size hG15.s.1
    have zW : w.heap.size + 2 ≤ W.heap.size := by rw [← hW.out]; simp
    have ef : Ext W wf := hSf.1
    clear hSf hAf hG5 hG9 hG13 hG15
    generalize u5.heap.size = g1 at *
    generalize u9.heap.size = g2 at *
    generalize u13.heap.size = g3 at *
    generalize u15.heap.size = g4 at *
    clear u5 u9 u13 u15
    have HA := hxW.up ef
    have HR := hrW.up ef
    have AA : Hid (ArrAt wf (fun b => b < w.heap.size) a sa na ia) := (ArrAt.later (ArrAt.mono (fun b hb _ => hb) a h0.out) (Below.trans heW (Below.mono ef (by omega))))
    have BB : Below w.heap.size w wf := Below.trans heW (Below.mono ef (by omega))
    go_wp2_with (first
      | (refine wpl_store4 rfl (.tmp 3) (.tmp 20) rfl g4 rfl rfl G4 ?_; intro V1 HX1 C1; have q0 := HX1.c1; have q1 := HX1.c2; have HA1 := C1.hdr HA (by omega); have r0 := HA1.c1; have r1 := HA1.c2)
      | (refine wpl_copyI rfl (.tmp 22) (.tmp 24) rfl g1 _ _ (fun b => b < w.heap.size) sa sc a.shape.length a.shape rfl rfl (C1.row G1 (by omega)) (madeI_size _) (C1.arr AA.out (fun q hq => by omega)).shape ?_; intro V2 R2 C2; have HX2 := C2.hdr HX1 (by omega); have HA2 := C2.hdr HA1 (by omega); have s0 := HX2.c2; have s1 := HA2.c2; clear q0 q1 r0 r1)
      | (refine wpl_copyI rfl (.tmp 27) (.tmp 29) rfl g2 _ _ (fun b => b < w.heap.size) na nc a.nums.length a.nums rfl rfl (C2.row (C1.row G2 (by omega)) (by omega)) (madeI_size _) (C2.arr (C1.arr AA.out (fun q hq => by omega)) (fun q hq => by omega)).nums ?_; intro V3 R3 C3; have HX3 := C3.hdr HX2 (by omega); have HA3 := C3.hdr HA2 (by omega); have p0 := HX3.c3; have p1 := HA3.c3; clear s0 s1))
    have hz3 : V3.heap.size = wf.heap.size := by rw [C3.z, C2.z, C1.z]
    have hzf := Below.size ef
    have l1 := lt_of_block G1
    have l2 := lt_of_block G2
    have l3 := lt_of_block G3
    have l4 := lt_of_block G4
    have B3 : Below w.heap.size w V3 := C3.below (C2.below (C1.below BB (by omega)) (by omega)) (by omega)
    have G13 := C3.row R2 (by omega)
    have G33 := C3.row (C2.row (C1.row G3 (by omega)) (by omega)) (by omega)
    have A3 := hid (C3.arr (C2.arr (C1.arr AA.out (fun q hq => by omega)) (fun q hq => by omega)) (fun q hq => by omega)).items
    have HR3 := C3.hdr (C2.hdr (C1.hdr HR (by omega)) (by omega)) (by omega)
    have P0 : PartA V3 (fun b => V3.heap.size ≤ b) g3 a.items.length [] := partA_made G33 (fun b hb => by omega)
    have m1 : g3 < V3.heap.size := by omega
    have m4 : g4 < V3.heap.size := by omega
    have mw : w.heap.size + 1 < V3.heap.size := by omega
    have mg1 : g1 < V3.heap.size := by omega
    have mg2 : g2 < V3.heap.size := by omega
    have mg : w.heap.size + 2 ≤ g1 ∧ w.heap.size + 2 ≤ g2 ∧ w.heap.size + 2 ≤ g3 ∧ w.heap.size + 2 ≤ g4 := by omega
    clear G1 G2 G3 G4 z1 z2 z3 z4 l1 l2 l3 l4 zW ef BB HX1 HX2 HA1 HA2 C1 C2 C3 R2 AA HA HR hxW hrW heW hz3 hzf mS mN mI hW
    replace n1 := hid n1
    replace n2 := hid n2
    replace n3 := hid n3
    replace n4 := hid n4
    replace n5 := hid n5
    replace n6 := hid n6
    replace B3 := hid B3
    go_loopw [34] (fun i wr => ∃ k : Nat, k ≤ a.items.length ∧ i = .int .i64 k ∧ PartA wr (fun b => V3.heap.size ≤ b) g3 a.items.length (a.items.take k) ∧ V3.grownBy wr (some g3)) (fun i _ => a.items.length - (intOf i).toNat)
    case atStart => exact ⟨0, Nat.zero_le _, rfl, by simpa using P0, World.grownBy.refl _ _⟩
    case round =>
      obtain ⟨k, hk, rfl, hp, hg⟩ := hrel
      have hp := hid hp
      have hs := hg.size
      by_cases hlt : k < a.items.length
      · obtain ⟨b, off, sa', sc', na', nc', ja', jc', rfl, hS, hbl, e0, e1, e2, e3, hx⟩ := (A3.out.grown hg (fun b hb _ => by simp; omega)).at hlt
        have hmem := hid (List.getElem_mem hlt)
        have hT : Hid (a.items.take (k + 1) = a.items.take k ++ [a.items[k]]) := (List.take_append_getElem hlt).symm
        have hL : Hid ((a.items.take k).length = k) := by simp only [Hid, List.length_take]; omega
        generalize a.items[k] = x at e0 e1 e2 e3 hx hmem hT
        generalize a.items.take k = l at hT hL hp
        have HX := hid hx
        have ki0 : (0 : Int) ≤ (k : Int) := Int.natCast_nonneg _
        have ki1 : (k : Int) < (a.items.length : Int) := by omega
        have d3 := (HX3.grown hg (by have := n6.out; simp; omega)).c3
        clear hx p0 p1
        go_wp2_with fail
        have hy := hdr_new wr (.int .i64 x.kind) (.slice sa' x.shape.length sc') (.slice na' x.nums.length nc') (.slice ja' x.items.length jc')
        have d3' := (Hdr.up (HX3.grown hg (by have := n6.out; simp; omega)) (ext_alloc wr (.cells #[.int .i64 x.kind, .slice sa' x.shape.length sc', .slice na' x.nums.length nc', .slice ja' x.items.length jc'] 27))).c3
        have HX' := hid (HX.out.alloc (.cells #[.int .i64 x.kind, .slice sa' x.shape.length sc', .slice na' x.nums.length nc', .slice ja' x.items.length jc'] 27))
        have eY := ext_alloc wr (.cells #[.int .i64 x.kind, .slice sa' x.shape.length sc', .slice na' x.nums.length nc', .slice ja' x.items.length jc'] 27)
        generalize wr.alloc (.cells #[.int .i64 x.kind, .slice sa' x.shape.length sc', .slice na' x.nums.length nc', .slice ja' x.items.length jc'] 27) = wy at *
        clear d3 e0 e1 e2 e3
        refine wp_region_mono_tail 6 (Sees wy [(⟨g4, 3, none⟩, .slice (some ⟨g3, 0, none⟩) a.items.length a.items.length), (⟨wr.heap.size, 0, none⟩, .int .i64 x.kind), (⟨wr.heap.size, 1, none⟩, .slice sa' x.shape.length sc'), (⟨wr.heap.size, 2, none⟩, .slice na' x.nums.length nc'), (⟨wr.heap.size, 3, none⟩, .slice ja' x.items.length jc')]) [4] (fun k v u u' => match k with | 4 => RetA u (fun b => u.heap.size ≤ b) x (.returned v) u' | _ => False) (fun _ _ h e => h.up e) (Sees.start (all_cons (d3') (all_cons (hy.c0) (all_cons (hy.c1) (all_cons (hy.c2) (all_cons (hy.c3) (all_nil))))))) (by kernel_rfl) (by kernel_rfl) ?_
        simp only [List.take_succ_cons, List.take_zero, List.drop_succ_cons, List.drop_zero]
        repeat (first | (refine m_plain (v := ?_) (by rfl) (by rfl) ?_ ?_; rotate_left; (intro wz hSw; obtain ⟨-, hSc⟩ := hSw; (try simp only [List.forall_mem_cons, List.forall_mem_nil, and_true] at hSc); go_simp; (first | done | with_reducible rfl)); (intro K hK; (try simp only [Act.put, List.setIfInBounds_toArray, List.set_cons_zero, List.set_cons_succ]); refine hK _ _ ?_; clear hK K)) | (refine m_skip (by rfl) (by rfl) ?_; (intro K hK; (try simp only [Act.put, List.setIfInBounds_toArray, List.set_cons_zero, List.set_cons_succ]); refine hK _ _ ?_; clear hK K)))
        refine m_make (by rfl) (by rfl) ?_ ?_
        · intro wz hSw hdep R hRz
          obtain ⟨hSe, hSc⟩ := hSw
          (try simp only [List.forall_mem_cons, List.forall_mem_nil, and_true] at hSc)
          unfold does
          (go_simp; refine Calls.mono (IH.out x hmem.out sa' sc' na' nc' ja' jc' _ wz (HX'.out.later hSe)) ?_; rintro e wq ⟨ta, tc, tn, tnc, ti, tic, rfl, hq, hqb⟩; exact ⟨_, rfl, hRz.out _ _ ⟨hqb, ta, tc, tn, tnc, ti, tic, rfl, hq, hqb⟩⟩)
        intro v4 u4 x4 hG4 K hK
        have hF4 := hG4.fact
        (try dsimp only at hF4)
        obtain ⟨ta, tc, tn, tnc, ti, tic, he, hq, hqb⟩ := hF4
        injection he with he
        subst he
        (try simp only [Act.put, List.setIfInBounds_toArray, List.set_cons_zero, List.set_cons_succ]); refine hK _ _ ?_; clear hK K
        repeat (first | (refine m_plain (v := ?_) (by rfl) (by rfl) ?_ ?_; rotate_left; (intro wz hSw; obtain ⟨-, hSc⟩ := hSw; (try simp only [List.forall_mem_cons, List.forall_mem_nil, and_true] at hSc); go_simp; (first | done | with_reducible rfl)); (intro K hK; (try simp only [Act.put, List.setIfInBounds_toArray, List.set_cons_zero, List.set_cons_succ]); refine hK _ _ ?_; clear hK K)) | (refine m_skip (by rfl) (by rfl) ?_; (intro K hK; (try simp only [Act.put, List.setIfInBounds_toArray, List.set_cons_zero, List.set_cons_succ]); refine hK _ _ ?_; clear hK K)))
        refine m_nil ?_
        intro wf hSf hAf
        have e4 : Ext x4 wf := hAf 4 _ rfl
        have eu : Ext wr u4 := eY.trans hG4.s.1
        have zu := Below.size eu
        have HQ := hid (ArrAt.mono (T := fun b => V3.heap.size ≤ b) (fun b _ hb => by omega) x (hq.later e4))
        have gF := grown_ext hg (eY.trans hSf.1)
        have ef := eY.trans hSf.1
        have pF := PartA.keep hp.out (Ext.blk' ef (by omega)) (fun q hq hlt => Below.block ef q hlt)
        clear hSf hAf hG4 hq hqb e4 eu eY hy d3'
        go_wp2_with (refine wpl_storeAt rfl (.tmp 44) (.tmp 43) rfl g3 a.items.length (by rw [hL.out]; rfl) rfl pF (by rw [hL.out]; exact hlt) HQ.out ?_; intro V hV hC)
        have hV' := hid hV
        have gV := grown_chg gF hC
        clear hV hC pF gF ef
        go_wp2_with fail
        go_roundw
        case rel => exact ⟨k + 1, by omega, by go_num, by rw [hT.out]; exact hV'.out, gV⟩
        case measure => simp [intOf]; omega
      · have hke : a.items.take k = a.items := List.take_of_length_le (by omega)
        have hp' := hp.out
        rw [hke] at hp'
        have HP := hid hp'
        have H3 := HX3.grown hg (by have := n6.out; simp; omega)
        have HR' := HR3.grown hg (by simp; omega)
        have AS : Hid (IntsAt wr (fun b => b = g1) (some ⟨g1, 0, none⟩) a.shape) := (row_ints (S := fun b => b = g1) (G13) hsl rfl).grown hg (fun b hb _ => by have := n2.out; simp; omega)
        have AN : Hid (IntsAt wr (fun b => b = g2) (some ⟨g2, 0, none⟩) a.nums) := (row_ints (S := fun b => b = g2) R3 hnl rfl).grown hg (fun b hb _ => by have := n3.out; simp; omega)
        have Bw := hid (B3.out.grown hg B3.out.size (fun q hq => by injection hq with hq; omega))
        clear hke hp' hp hg p0 p1 HX3 HA3 HR3 G13 G33 R3 P0 hk
        go_wp2_with (first
          | (refine wpl_load4 rfl (.tmp 3) rfl g4 rfl H3 ?_)
          | (refine wpl_store4 rfl (.tmp 2) (.tmp 46) rfl (w.heap.size + 1) rfl rfl HR' ?_; intro V hV hC))
        refine bodyPost_ret (end_arr rfl hV rfl) rfl (hR.out _ _ ?_)
        refine RetA.mk (Arr.eta a).symm (some ⟨g1, 0, none⟩) _ (some ⟨g2, 0, none⟩) _ (some ⟨g3, 0, none⟩) _ rfl rfl rfl ?_ ?_ hil ?_ ?_
        · exact (hC.ints AS.out (fun q hq => by omega)).mono fun b _ hb => by omega
        · exact (hC.ints AN.out (fun q hq => by omega)).mono fun b _ hb => by omega
        · exact hC.items (HP.out.items (T := fun b => w.heap.size + 2 ≤ b) (fun b hb => by omega) (by omega)) (fun q hq => by omega) |>.mono fun b _ hb => by omega
        · exact hC.below Bw.out (by omega)
end Go.Proofs.Ytdpdcjadedcglaa
namespace Go.Proofs.Ytdpdcjadedcglaa
open Go.RowKit Go.Sort
theorem OwnI.up {w w' : World} {base : Nat} {ao : Option Addr} {cap : Nat} {xs : List Int} (h : OwnI w base ao cap xs) (e : Ext w w') : OwnI w' base ao cap xs := h.keep fun k hk => Below.block e k (h.row k hk).2
theorem OwnA.up {w w' : World} {base : Nat} {S : Nat → Prop} {ao : Option Addr} {cap : Nat} {l : List Arr} (h : OwnA w base S ao cap l) (e : Ext w w') : OwnA w' base S ao cap l := h.keep (fun k hk => Below.block e k (h.row k hk).2) fun b _ hlt => Below.block e b hlt
theorem ArrAt.up {w w' : World} {S : Nat → Prop} {a : Arr} {sa na ia : Option Addr} (h : ArrAt w S a sa na ia) (e : Ext w w') : ArrAt w' S a sa na ia := h.later e
theorem IntsAt.up {w w' : World} {S : Nat → Prop} {ao : Option Addr} {xs : List Int} (h : IntsAt w S ao xs) (e : Ext w w') : IntsAt w' S ao xs := h.later e
theorem ItemsAt.up {w w' : World} {S : Nat → Prop} {ao : Option Addr} {l : List Arr} (h : ItemsAt w S ao 0 l) (e : Ext w w') : ItemsAt w' S ao 0 l := h.later e
/-- numbers -/
structure BldN (wc w : World) (bx : Nat) (kd sv : Value) (na : Option Addr) (nc : Nat) (nums : List Int) : Prop where
  h : Hdr w bx kd sv (.slice na nums.length nc) (.slice none 0 0)
  o : OwnI w wc.heap.size na nc nums
  g : wc.grownBy w (some bx)
  l : bx < wc.heap.size
/-- items; T: where their contents lie -/
structure BldA (wc w : World) (bx : Nat) (kd sv : Value) (T : Nat → Prop) (ia : Option Addr) (ic : Nat) (items : List Arr) : Prop where
  h : Hdr w bx kd sv (.slice none 0 0) (.slice ia items.length ic)
  o : OwnA w wc.heap.size T ia ic items
  g : wc.grownBy w (some bx)
  l : bx < wc.heap.size
  t : ∀ b, T b → b ≠ bx
section
variable {wc w w' : World} {bx : Nat} {kd sv : Value} {na ia : Option Addr} {nc ic : Nat} {nums : List Int} {items : List Arr} {T : Nat → Prop}
theorem BldN.up (h : BldN wc w bx kd sv na nc nums) (e : Ext w w') : BldN wc w' bx kd sv na nc nums := ⟨h.h.up e, h.o.up e, grown_ext h.g e, h.l⟩
theorem BldA.up (h : BldA wc w bx kd sv T ia ic items) (e : Ext w w') : BldA wc w' bx kd sv T ia ic items := ⟨h.h.up e, h.o.up e, grown_ext h.g e, h.l, h.t⟩
theorem BldN.new (h : Hdr w bx kd sv (.slice none 0 0) (.slice none 0 0)) : BldN w w bx kd sv none 0 [] := ⟨h, OwnI.nil _ _, World.grownBy.refl _ _, h.lt⟩
theorem BldA.new (h : Hdr w bx kd sv (.slice none 0 0) (.slice none 0 0)) (ht : ∀ b, T b → b ≠ bx) : BldA w w bx kd sv T none 0 [] := ⟨h, OwnA.nil _ _ _, World.grownBy.refl _ _, h.lt, ht⟩
theorem grown_row {w1 : World} {row : Option Nat} (h : wc.grownBy w (some bx)) (g : w.grownBy w1 row) (hr : ∀ k, row = some k → wc.heap.size ≤ k) : wc.grownBy w1 (some bx) :=
  ⟨g.os.trans h.os, g.tape.trans h.tape, g.output.trans h.output, Nat.le_trans h.size g.size, fun k hk hne => (g.block k (Nat.lt_of_lt_of_le hk h.size) (fun e => by have := hr k e.symm; omega)).trans (h.block k hk hne)⟩
end
section
variable {ops : Array Oper} {rest : List Oper} {o1 o2 o3 : Oper} {a : Act} {Q : Exit → Act → World → Prop} {wc w : World} {bx : Nat} {kd sv : Value} {na ia : Option Addr} {nc ic : Nat} {nums : List Int} {items : List Arr} {T : Nat → Prop}
theorem wpl_addN (g1 : o1.guard = none) (g2 : o2.guard = none) (g3 : o3.guard = none) (s x p q r : Operand) (h1 : o1.op = .call { callee := .builtin .append, args := #[s, x], argTypes := #[24, 24] }) (h2 : o2.op = .fieldAddr 27 p 2) (h3 : o3.op = .store 24 q r)
    (B : BldN wc w bx kd sv na nc nums) (S : Nat → Prop) (so : Option Addr) (sc : Nat) (ys : List Int) (hs : a.eval s = .slice na nums.length nc) (hx : a.eval x = .slice so ys.length sc) (hy : IntsAt w S so ys) (hlen : nums.length + ys.length ≤ 17592186044416)
    (hp : ∀ v, (a.put o1.dst v).eval p = .pointer (some ⟨bx, 0, none⟩)) (hq : ∀ v u, ((a.put o1.dst v).put o2.dst u).eval q = u) (hr : ∀ v u, ((a.put o1.dst v).put o2.dst u).eval r = v)
    (h : ∀ V na' nc', BldN wc V bx kd sv na' nc' (nums ++ ys) → wpList Try.prog ops Q rest (((a.put o1.dst (.slice na' (nums ++ ys).length nc')).put o2.dst (.pointer (some ⟨bx, 2, none⟩))).put o3.dst undef) V) :
    wpList Try.prog ops Q (o1 :: o2 :: o3 :: rest) a w := by
  refine wpList_appI w g1 s x h1 wc.heap.size na nc nums hs B.o S so sc ys hx hy hlen B.g.size ?_
  intro ao' cap' w4 hown hg hrow
  have hb : rowOf na ≠ some bx := fun e => by have := (B.o.row bx e).1; have := B.l; omega
  have H4 : Hdr w4 bx kd sv (.slice na nums.length nc) (.slice none 0 0) := B.h.grown hg (fun e => hb e.symm)
  have G4 : wc.grownBy w4 (some bx) := grown_row B.g hg (fun k hk => (B.o.row k hk).1)
  refine wpList_plain g2 fun K hK => ?_
  have step := fun h => hK ((a.put o1.dst (.slice ao' (nums ++ ys).length cap')).put o2.dst (.pointer (some ⟨bx, 2, none⟩))) w4 h
  have hfin : wpList Try.prog ops Q (o3 :: rest) ((a.put o1.dst (.slice ao' (nums ++ ys).length cap')).put o2.dst (.pointer (some ⟨bx, 2, none⟩))) w4 := by
    refine wpl_store2 g3 q r h3 bx (hq _ _) (hr _ _) H4 ?_
    intro V HV C
    have hb' : rowOf ao' ≠ some bx := fun e => by have := (hown.row bx e).1; have := B.l; omega
    exact h V ao' cap' ⟨HV, hown.keep (fun k hk => C.blk (hown.row k hk).2 (fun e => hb' (e ▸ hk))), grown_chg G4 C, B.l⟩
  have := step hfin
  unfold Oper.wp execOp
  simp only [h2, hp]
  simpa [go_sem] using this
theorem wpl_addA (g1 : o1.guard = none) (g2 : o2.guard = none) (g3 : o3.guard = none) (s x p q r : Operand) (h1 : o1.op = .call { callee := .builtin .append, args := #[s, x], argTypes := #[25, 25] }) (h2 : o2.op = .fieldAddr 27 p 3) (h3 : o3.op = .store 25 q r)
    (B : BldA wc w bx kd sv T ia ic items) (S : Nat → Prop) (so : Option Addr) (sc : Nat) (ys : List Arr) (hs : a.eval s = .slice ia items.length ic) (hx : a.eval x = .slice so ys.length sc) (hy : ItemsAt w S so 0 ys) (hST : ∀ b, b < w.heap.size → S b → T b ∧ some b ≠ rowOf ia) (hlen : items.length + ys.length ≤ 1759218604441)
    (hp : ∀ v, (a.put o1.dst v).eval p = .pointer (some ⟨bx, 0, none⟩)) (hq : ∀ v u, ((a.put o1.dst v).put o2.dst u).eval q = u) (hr : ∀ v u, ((a.put o1.dst v).put o2.dst u).eval r = v)
    (h : ∀ V ia' ic', BldA wc V bx kd sv T ia' ic' (items ++ ys) → wpList Try.prog ops Q rest (((a.put o1.dst (.slice ia' (items ++ ys).length ic')).put o2.dst (.pointer (some ⟨bx, 3, none⟩))).put o3.dst undef) V) :
    wpList Try.prog ops Q (o1 :: o2 :: o3 :: rest) a w := by
  refine wpList_appA w g1 s x h1 wc.heap.size T ia ic items hs B.o S so sc ys hx hy hST hlen B.g.size ?_
  intro ao' cap' w4 hown hg hrow
  have hb : rowOf ia ≠ some bx := fun e => by have := (B.o.row bx e).1; have := B.l; omega
  have H4 : Hdr w4 bx kd sv (.slice none 0 0) (.slice ia items.length ic) := B.h.grown hg (fun e => hb e.symm)
  have G4 : wc.grownBy w4 (some bx) := grown_row B.g hg (fun k hk => (B.o.row k hk).1)
  refine wpList_plain g2 fun K hK => ?_
  have step := fun h => hK ((a.put o1.dst (.slice ao' (items ++ ys).length cap')).put o2.dst (.pointer (some ⟨bx, 3, none⟩))) w4 h
  have hfin : wpList Try.prog ops Q (o3 :: rest) ((a.put o1.dst (.slice ao' (items ++ ys).length cap')).put o2.dst (.pointer (some ⟨bx, 3, none⟩))) w4 := by
    refine wpl_store3 g3 q r h3 bx (hq _ _) (hr _ _) H4 ?_
    intro V HV C
    have hb' : rowOf ao' ≠ some bx := fun e => by have := (hown.row bx e).1; have := B.l; omega
    have hown' := hown.mono (T := T) fun b _ hs => hs.1
    exact h V ao' cap' ⟨HV, hown'.keep (fun k hk => C.blk (hown.row k hk).2 (fun e => hb' (e ▸ hk))) (fun b hs hlt => C.blk hlt (B.t b hs)), grown_chg G4 C, B.l, B.t⟩
  have := step hfin
  unfold Oper.wp execOp
  simp only [h2, hp]
  simpa [go_sem] using this
end
theorem OwnI.set {w : World} {base : Nat} {ao : Option Addr} {cap : Nat} {xs : List Int} (h : OwnI w base ao cap xs) {j : Nat} (hj : j < xs.length) : ∃ g, ao = some ⟨g, 0, none⟩ ∧ base ≤ g ∧ g < w.heap.size ∧ (∃ u, w.cell? ⟨g, j, none⟩ = some u) ∧ w.frozen? ⟨g, j, none⟩ = false ∧ ∀ v : Int, OwnI (w.setCell ⟨g, j, none⟩ (.int .i64 v)) base ao cap (xs.set j v) := by
  obtain ⟨h1, h2⟩ := h
  rcases h2 with ⟨_, hn⟩ | ⟨g, c, cur, e, hb, hg, hnc, hcm, hcs, htk⟩
  · omega
  · injection e with e1 e2 e3
    subst e1
    subst e3
    have hc : j < cur.size := by omega
    refine ⟨g, rfl, hb, lt_of_block hg, ⟨cur[j], by rw [cell_of_row w g j _ _ _ hg]; simp [hc]⟩, frozen_of_row w g j _ _ hg, fun v => ⟨by simp, Or.inr ⟨g, cap, cur.setIfInBounds j (.int .i64 v), by simp, hb, heap_setCell_same w g j _ _ _ hg, by simpa using hnc, hcm, by simpa using hcs, ?_⟩⟩⟩
    simp only [Nat.mul_one, List.length_set] at htk ⊢
    rw [Array.toList_setIfInBounds, List.take_set, htk]
    apply List.ext_getElem
    · simp
    · intro i h1 h2
      simp only [List.getElem_set, List.getElem_map]
      split <;> rfl
section
variable {ops : Array Oper} {rest : List Oper} {o : Oper} {a : Act} {Q : Exit → Act → World → Prop} {w : World}
/-- an element of a slice of the call's own is stored -/
theorem wpl_setI (hgd : o.guard = none) (p x : Operand) (ho : o.op = .store 3 p x) (base : Nat) (ao : Option Addr) (cap : Nat) (xs : List Int) (h : OwnI w base ao cap xs) (j : Nat) (hj : j < xs.length) (v : Int)
    (hp : ∀ g, ao = some ⟨g, 0, none⟩ → a.eval p = .pointer (some ⟨g, j, none⟩)) (hx : a.eval x = .int .i64 v)
    (hh : ∀ V g, ao = some ⟨g, 0, none⟩ → base ≤ g → OwnI V base ao cap (xs.set j v) → Chg w V g → wpList Try.prog ops Q rest (a.put o.dst undef) V) : wpList Try.prog ops Q (o :: rest) a w := by
  obtain ⟨g, e, hb, hl, ⟨u, hu⟩, hf, hset⟩ := h.set hj
  refine wpList_plain hgd fun K hK => ?_
  have := hK _ _ (hh _ g e hb (hset v) (chg_setCell w g j _))
  unfold Oper.wp execOp
  simp only [ho, hp g e, hx]
  simp [go_sem, hu, hf]
  exact this
end
/-- the result of a function that built it -/
theorem RetA.of {w V : World} {S : Nat → Prop} {a : Arr} {k : Int} {s n : List Int} {l : List Arr} {sa na ia : Option Addr} {sc nc ic : Nat} (E : a = .mk k s n l) (h1 : IntsAt V S sa s) (h2 : IntsAt V S na n) (hl : l.length ≤ 1759218604441) (h3 : ItemsAt V S ia 0 l) (hb : Below w.heap.size w V) :
    RetA w S a (.returned (.agg #[.int .i64 k, .slice sa s.length sc, .slice na n.length nc, .slice ia l.length ic])) V := RetA.mk E sa sc na nc ia ic rfl rfl rfl h1 h2 hl h3 hb
end Go.Proofs.Ytdpdcjadedcglaa
namespace Go.Proofs.Ytdpdcjadedcglaa
open Go.RowKit Go.Sort
attribute [local go_sem ↓] run_max2 run_min2
attribute [local go_sem] eql_ints_nil eql_arrs_nil
/-- an index, each number turned by its axis' own rule -/
def turnI (f : Int → Int → Int) (l : List Int) : List Int := (List.range l.length).map fun (j : Nat) => f j (l.getD j 0)
def turnP (f : Int → Int → Int) (l : List Int) (j : Nat) : List Int := (turnI f l).take j ++ l.drop j
def keeps (f : Int → Int → Int) (s : List Int) : Prop := ∀ (j : Nat) (n : Int), j < s.length → 0 ≤ n → n < s.getD j 0 → 0 ≤ f j n ∧ f j n < s.getD j 0
theorem turnI_len (f : Int → Int → Int) (l : List Int) : (turnI f l).length = l.length := by simp [turnI]
theorem turnI_getD {f : Int → Int → Int} {l : List Int} {j : Nat} (h : j < l.length) : (turnI f l).getD j 0 = f j (l.getD j 0) := by simp [turnI, h]
theorem turnI_in {f : Int → Int → Int} {s l : List Int} (hf : keeps f s) (h : inS s l) : inS s (turnI f l) :=
  ⟨by rw [turnI_len, h.1], fun i hi => by rw [turnI_getD (by rw [h.1]; exact hi)]; exact hf i _ hi (h.2 i hi).1 (h.2 i hi).2⟩
theorem turnP_zero (f : Int → Int → Int) (l : List Int) : turnP f l 0 = l := by simp [turnP]
theorem turnP_all (f : Int → Int → Int) (l : List Int) : turnP f l l.length = turnI f l := by simp [turnP, List.take_of_length_le, turnI_len]
theorem turnP_len (f : Int → Int → Int) (l : List Int) {j : Nat} (h : j ≤ l.length) : (turnP f l j).length = l.length := by simp [turnP, turnI_len]; omega
theorem turnP_at (f : Int → Int → Int) (l : List Int) {j : Nat} (h : j < l.length) : (turnP f l j).getD j 0 = l.getD j 0 := by
  unfold turnP
  have e : ((turnI f l).take j).length = j := by simp [turnI_len]; omega
  simp only [List.getD_eq_getElem?_getD]
  rw [List.getElem?_append_right (by omega), e, List.getElem?_drop]
  simp
theorem turnP_set (f : Int → Int → Int) (l : List Int) {j : Nat} (h : j < l.length) : (turnP f l j).set j (f j (l.getD j 0)) = turnP f l (j + 1) := by
  unfold turnP
  have e : ((turnI f l).take j).length = j := by simp [turnI_len]; omega
  rw [List.set_append_right _ _ (by omega), e, Nat.sub_self, List.drop_eq_getElem_cons h, List.set_cons_zero]
  rw [← List.take_append_getElem (by rw [turnI_len]; exact h)]
  have e2 : (turnI f l)[j]'(by rw [turnI_len]; exact h) = f j (l.getD j 0) := by simp [turnI, h]
  rw [e2]
  simp
/-- where element k comes from -/
def srcS (f : Int → Int → Int) (s : List Int) (k : Int) : Int := offS s (turnI f (digs s k))
theorem srcS_bd {f : Int → Int → Int} {s : List Int} (hf : keeps f s) (hs : shapeB s = true) {k : Int} (h0 : 0 ≤ k) (h1 : k < cnt s) : 0 ≤ srcS f s k ∧ srcS f s k < cnt s :=
  offS_bd (turnI_in hf (digs_in (posB_of hs h0 h1) k))
def pickN (n : List Int) (g : Int → Int) (m : Nat) : List Int := (List.range m).map fun (k : Nat) => n.getD (g k).toNat 0
def pickA (l : List Arr) (g : Int → Int) (m : Nat) : List Arr := (List.range m).map fun (k : Nat) => l.getD (g k).toNat .zero
theorem pickN_len (n : List Int) (g : Int → Int) (m : Nat) : (pickN n g m).length = m := by simp [pickN]
theorem pickA_len (n : List Arr) (g : Int → Int) (m : Nat) : (pickA n g m).length = m := by simp [pickA]
theorem pickN_succ (n : List Int) (g : Int → Int) (m : Nat) : pickN n g (m + 1) = pickN n g m ++ [n.getD (g m).toNat 0] := by simp [pickN, List.range_succ]
theorem pickA_succ (n : List Arr) (g : Int → Int) (m : Nat) : pickA n g (m + 1) = pickA n g m ++ [n.getD (g m).toNat .zero] := by simp [pickA, List.range_succ]
/-- the array of y's shape whose element k is y's element g k -/
def gathS (y : Arr) (s : List Int) (g : Int → Int) (m : Nat) : Arr := .mk y.kind s (if y.kind = 3 then [] else pickN y.nums g m) (if y.kind = 3 then pickA y.items g m else [])
theorem gathS_N {y : Arr} (h : y.kind ≠ 3) (s : List Int) (g : Int → Int) (m : Nat) : gathS y s g m = .mk y.kind s (pickN y.nums g m) [] := by simp [gathS, h]
theorem gathS_A {y : Arr} (h : y.kind = 3) (s : List Int) (g : Int → Int) (m : Nat) : gathS y s g m = .mk 3 s [] (pickA y.items g m) := by simp [gathS, h]
end Go.Proofs.Ytdpdcjadedcglaa
namespace Go.Proofs.Ytdpdcjadedcglaa
open Go.RowKit Go.Sort
attribute [local go_sem ↓] run_max2 run_min2
attribute [local go_sem] eql_ints_nil eql_arrs_nil
theorem right_ok {a : Arr} (h : rightS a = 0) : (a.kind = 1 ∨ a.kind = 2 ∨ a.kind = 3) ∧ shapeB a.shape = true ∧ ((a.kind = 3 ∧ (a.items.length : Int) = cnt a.shape ∧ a.nums.length = 0) ∨ (a.kind ≠ 3 ∧ (a.nums.length : Int) = cnt a.shape ∧ a.items.length = 0)) :=
  formE_zero (chk_ok h).1
/-- an array and an error number -/
def RetAE (w : World) (S : Nat → Prop) (a : Arr) (n : Int) (e : Ending) (w' : World) : Prop :=
  ∃ sa sc na nc ia ic, e = .returned (.tuple #[.agg #[.int .i64 a.kind, .slice sa a.shape.length sc, .slice na a.nums.length nc, .slice ia a.items.length ic], .int .i64 n]) ∧ ArrAt w' S a sa na ia ∧ Below w.heap.size w w'
theorem end_arr2 {fn : Func} {p q : Tmp} (hres : fn.results = #[.cell p 27, .tmp q]) {w : World} {b : Nat} {tmps : Array Value} {k s n i : Value} (h : Hdr w b k s n i) (hp : tmps.getD p undef = .pointer (some ⟨b, 0, none⟩)) {v : Value} (hq : tmps.getD q undef = v) :
    (results fn tmps).run Try.prog w = .ok (.tuple #[.agg #[k, s, n, i], v]) w := by
  have hp' : tmps[p]?.getD undef = .pointer (some ⟨b, 0, none⟩) := by simpa using hp
  have hq' : tmps[q]?.getD undef = v := by simpa using hq
  simp [results, hres, hp', hq', asAddr, run_loadVar_row w b _ _ _ _ _ h Try.underlying27 rfl (by kernel_rfl)]
def revF (s : List Int) (j n : Int) : Int := if j = 0 then s.getD 0 0 - 1 - n else n
theorem RetA.to {w V : World} {S : Nat → Prop} {a b : Arr} {sa na ia : Option Addr} {sc nc ic : Nat} (E : a = b) (h : ArrAt V S b sa na ia) (hb : Below w.heap.size w V) : RetA w S a (.returned (.agg #[.int .i64 b.kind, .slice sa b.shape.length sc, .slice na b.nums.length nc, .slice ia b.items.length ic])) V := by
  subst E; exact ⟨sa, sc, na, nc, ia, ic, rfl, h, hb⟩
theorem RetA.zero {w V : World} {S : Nat → Prop} {a : Arr} (E : a = .zero) (hb : Below w.heap.size w V) : RetA w S a (.returned (.agg #[.int .i64 0, .slice none 0 0, .slice none 0 0, .slice none 0 0])) V := by
  subst E; exact ⟨none, 0, none, 0, none, 0, rfl, zero_at _ _ _ _ _, hb⟩
theorem RetAE.to {w V : World} {S : Nat → Prop} {a b : Arr} {n m : Int} {sa na ia : Option Addr} {sc nc ic : Nat} (E : a = b) (E2 : n = m) (h : ArrAt V S b sa na ia) (hb : Below w.heap.size w V) : RetAE w S a n (.returned (.tuple #[.agg #[.int .i64 b.kind, .slice sa b.shape.length sc, .slice na b.nums.length nc, .slice ia b.items.length ic], .int .i64 m])) V := by
  subst E; subst E2; exact ⟨sa, sc, na, nc, ia, ic, rfl, h, hb⟩
theorem RetAE.zero {w V : World} {S : Nat → Prop} {a : Arr} {n m : Int} (E : a = .zero) (E2 : n = m) (hb : Below w.heap.size w V) : RetAE w S a n (.returned (.tuple #[.agg #[.int .i64 0, .slice none 0 0, .slice none 0 0, .slice none 0 0], .int .i64 m])) V := by
  subst E; subst E2; exact ⟨none, 0, none, 0, none, 0, rfl, zero_at _ _ _ _ _, hb⟩
theorem revF_keeps (s : List Int) : keeps (revF s) s := fun j n hj h0 h1 => by
  unfold revF
  by_cases e : (j : Int) = 0
  · rw [if_pos e]
    have : j = 0 := by omega
    subst this
    omega
  · rw [if_neg e]; exact ⟨h0, h1⟩
def revS (a : Arr) : Arr := if rightS a = 0 then gathS a a.shape (srcS (revF a.shape) a.shape) (cnt a.shape).toNat else .zero
theorem shape_bds {s : List Int} (h : shapeB s = true) : ∀ d ∈ s, 0 ≤ d ∧ d ≤ 65536 := fun d hd => by
  obtain ⟨_, h1, h2⟩ := shapeB_iff.1 h
  exact ⟨h1 d hd, Int.le_trans (prodNZ_ge_mem h1 hd) h2⟩
/-- the rotated place -/
def rotF (xs s : List Int) (j n : Int) : Int := if (xs.length : Int) ≤ j then n else (n + xs.getD j.toNat 0) % s.getD j.toNat 0
theorem rotF_keeps (xs s : List Int) : keeps (rotF xs s) s := fun j n hj h0 h1 => by
  unfold rotF
  split
  · exact ⟨h0, h1⟩
  · simp only [Int.toNat_natCast]
    exact ⟨Int.emod_nonneg _ (by omega), Int.emod_lt_of_pos _ (by omega)⟩
theorem tmod_bd (x d : Int) (hd : 0 < d) : -d < x.tmod d ∧ x.tmod d < d := by
  have h1 := Int.tmod_lt_of_pos x hd
  have h2 : -d < x.tmod d := by
    have h3 := Int.tmod_lt_of_pos (-x) hd
    rw [Int.neg_tmod] at h3
    omega
  exact ⟨h2, h1⟩
theorem rot_mod (n x d : Int) (hd : 0 < d) : (n + x.tmod d + d) % d = (n + x) % d := by
  have e : x.tmod d = x - d * x.tdiv d := by have := Int.mul_tdiv_add_tmod x d; omega
  rw [e, Int.add_emod_right]
  have e2 : n + (x - d * x.tdiv d) = (n + x) + d * (-(x.tdiv d)) := by rw [Int.mul_neg]; omega
  rw [e2, Int.add_mul_emod_self_left]
def rotE (x y : Arr) : Int := if rightS x ≠ 0 ∨ rightS y ≠ 0 then 1 else if x.kind ≠ 1 then 14 else if 1 < x.shape.length then 15 else if y.shape.length < x.nums.length then 16 else 0
def rotS (x y : Arr) : Arr := if rotE x y = 0 then gathS y y.shape (srcS (rotF x.nums y.shape) y.shape) (cnt y.shape).toNat else .zero
end Go.Proofs.Ytdpdcjadedcglaa
namespace Go.Proofs.Ytdpdcjadedcglaa
open Go.RowKit Go.Sort
attribute [local go_sem ↓] run_max2 run_min2
attribute [local go_sem] eql_ints_nil eql_arrs_nil
theorem OwnI.ne_hdr {w : World} {base : Nat} {ao : Option Addr} {cap : Nat} {xs : List Int} {b : Nat} {k s n i : Value} (h : OwnI w base ao cap xs) (hh : Hdr w b k s n i) : rowOf ao ≠ some b := by
  intro e
  rcases h.2 with ⟨e1, _⟩ | ⟨g, c, cur, e1, _, hg, _⟩
  · injection e1 with e1; subst e1; simp [rowOf] at e
  · injection e1 with e1; subst e1
    simp [rowOf] at e
    subst e
    unfold Hdr at hh
    rw [hg] at hh
    injection hh with hh
    injection hh with h1 h2
    revert h2
    decide
set_option maxHeartbeats 1000000 in
theorem run_appE (w : World) (ty : TypeId) (base : Nat) (ao : Option Addr) (hown : OwnI w base ao 0 []) (S : Nat → Prop) (so : Option Addr) (sc : Nat) (ys : List Int) (hys : IntsAt w S so ys) (hbase : base ≤ w.heap.size) :
    ∃ ao' cap' w', (Builtin.append_ #[24, 24] ty #[.slice ao 0 0, .slice so ys.length sc]).run Try.prog w = .ok (.slice ao' ys.length cap') w' ∧ OwnI w' base ao' cap' ys ∧ Ext w w' := by
  obtain ⟨i0, hi, hz0, hz1, hz2⟩ := info_parts infoInt
  have hlen := hys.1
  rcases hown.2 with ⟨e1, _⟩ | ⟨g, c, cur, e1, hgb, hg, hnc, _⟩
  · injection e1 with e1; subst e1
    obtain ⟨ao', cap', w', hr, ho, hgr, _⟩ := run_appI w ty base none 0 [] (OwnI.nil _ _) S so sc ys hys (by simpa using hlen) hbase
    exact ⟨ao', cap', w', by simpa using hr, by simpa using ho, below_app0 hgr⟩
  · injection e1 with e1 _ e2; subst e1; subst e2
    cases so with
    | none =>
      have hy : ys = [] := by
        cases ys with
        | nil => rfl
        | cons y l => obtain ⟨_, _, e, _⟩ := hys.2 (by simp); cases e
      subst hy
      exact ⟨_, 0, w, run_append_nothing (P := Try.prog) w base 24 ty 3 i0 1 Try.underlying24 hi _ _ _ hown sc, hown, Ext.refl _⟩
    | some ad =>
      by_cases hy : ys = []
      · subst hy
        refine ⟨_, 0, w, ?_, hown, Ext.refl _⟩
        have := run_append_room_cells (P := Try.prog) (w := w) 24 ty 3 i0 Try.underlying24 hi g 0 0 0 ad 0 sc [] (by simp) (fun j u hu => by simp at hu) (fun u hu => by simp at hu) (Nat.le_refl _) (fun j hj => by simp at hj) (fun j hj => by simp at hj)
        exact this
      · have hpos : 0 < ys.length := List.length_pos_iff.2 hy
        obtain ⟨b, off, e, hS, hlt, hc⟩ := hys.2 hpos
        injection e with e
        subst e
        have hnews : ∀ j u, (ys.map (Value.int .i64))[j]? = some u → w.cell? ((⟨b, off, none⟩ : Addr).add j) = some u := by
          intro j u hu
          have hj : j < ys.length := by have := (List.getElem?_eq_some_iff.1 hu).1; simpa using this
          have := hc j hj
          simp [hj] at hu
          subst hu
          simpa [Addr.add_lit, hj] using this
        obtain ⟨v', w', hr, ho, hgr⟩ := run_append_arg_grows (P := Try.prog) (w := w) 24 ty 3 i0 (.int .i64 0) 1 8 Try.underlying24 hi hz0 hz1 hz2 rfl (by decide) ⟨g, 0, none⟩ 0 0 [] rfl (fun j u hu => by simp at hu) ⟨b, off, none⟩ ys.length sc (ys.map (Value.int .i64)) (by simp) hnews (by omega) (by unfold maxLen; omega) (by omega)
        rw [Nat.zero_add, List.nil_append] at ho
        obtain ⟨ao', cap', rfl⟩ := slice_form ho
        have ho' : OwnI w' w.heap.size ao' cap' ys := ho
        exact ⟨ao', cap', w', hr, ho'.base hbase, below_app0 hgr⟩
theorem does_appE {o : Oper} {a : Act} {w : World} {R : Value → World → Prop} (s x : Operand) (ho : o.op = .call { callee := .builtin .append, args := #[s, x], argTypes := #[24, 24] })
    (base : Nat) (ao : Option Addr) (hs : a.eval s = .slice ao 0 0) (hown : OwnI w base ao 0 []) (S : Nat → Prop) (so : Option Addr) (sc : Nat) (ys : List Int) (hx : a.eval x = .slice so ys.length sc) (hys : IntsAt w S so ys) (hbase : base ≤ w.heap.size)
    (h : ∀ ao' cap' w', OwnI w' base ao' cap' ys → Ext w w' → R (.slice ao' ys.length cap') w') : does Try.prog o a w R := by
  obtain ⟨ao', cap', w', hrun, h1, h2⟩ := run_appE w o.type base ao hown S so sc ys hys hbase
  unfold does
  simp [execOp, ho, resolve, invoke, builtin, hs, hx, hrun, Result.andThen, doesUpon]
  exact h _ _ _ h1 h2
theorem own_empty {w wf : World} {base : Nat} (hb : base ≤ w.heap.size) (e : Ext (w.alloc (.cells #[] 3)) wf) : OwnI wf base (some ⟨w.heap.size, 0, none⟩) 0 [] :=
  ⟨rfl, Or.inr ⟨w.heap.size, 0, #[], rfl, hb, made_blk e, Nat.le_refl _, by decide, rfl, rfl⟩⟩
end Go.Proofs.Ytdpdcjadedcglaa
