/- array.Clone: a contract that tells that no block of the copy is frozen. Condition: the array is read. -/
import Derived.Test.YtdobnkbmjkcpoaaDoorGG
set_option linter.unusedVariables false
set_option linter.unusedSimpArgs false
namespace Go.Proofs.YtdobnkbmjkcpoaaDoor
open Go.RowKit Go.Sort
attribute [local go_sem ↓] run_max2 run_min2
attribute [local go_sem] eql_ints_nil eql_arrs_nil
/-- no cell of the block is frozen -/
def Unf (w : World) (b : Nat) : Prop := ∀ o, w.frozen? ⟨b, o, none⟩ = false
theorem Unf.keep {w w' : World} {b : Nat} (h : Unf w b) (e : w'.heap[b]? = w.heap[b]?) : Unf w' b := fun o => (World.frozen?_of_block (a := ⟨b, o, none⟩) e).trans (h o)
theorem unf_row {w : World} {b : Nat} {cs : Array Value} {t : TypeId} (h : w.heap[b]? = some (.cells cs t (0, 0))) : Unf w b := fun o => frozen_of_row w b o _ _ h
theorem unfAt_turn {w w' : World} {B B' : Nat} {a : Arr} {sa na ia : Option Addr} (h : ArrAt w (fun b => B ≤ b ∧ Unf w b) a sa na ia) (hk : ∀ b, B ≤ b → b < w.heap.size → w'.heap[b]? = w.heap[b]?) (hB : B' ≤ B) : ArrAt w' (fun b => B' ≤ b ∧ Unf w' b) a sa na ia :=
  ArrAt.turn h (fun b hb hlt => hk b hb.1 hlt) (fun b hlt hb => ⟨Nat.le_trans hB hb.1, hb.2.keep (hk b hb.1 hlt)⟩)
theorem PartA.turn {w w' : World} {S S' : Nat → Prop} {g n : Nat} {l : List Arr} (h : PartA w S g n l) (hg : w'.heap[g]? = w.heap[g]?) (hk : ∀ b, S b → b < w.heap.size → w'.heap[b]? = w.heap[b]?) (hne : ∀ b, S' b → b ≠ g) (hT : ∀ b, b < w.heap.size → S b → S' b) : PartA w' S' g n l := by
  have hc : ∀ o, w'.cell? ⟨g, o, none⟩ = w.cell? ⟨g, o, none⟩ := fun o => World.cell?_of_block (a := ⟨g, o, none⟩) hg
  have hf : ∀ o, w'.frozen? ⟨g, o, none⟩ = w.frozen? ⟨g, o, none⟩ := fun o => World.frozen?_of_block (a := ⟨g, o, none⟩) hg
  refine ⟨fun o ho => by rw [hc]; exact h.1 o ho, fun o => by rw [hf]; exact h.2.1 o, hne, fun j x hx => ?_⟩
  obtain ⟨sa, sc, na, nc, ja, jc, e0, e1, e2, e3, e4⟩ := h.2.2.2 j x hx
  exact ⟨sa, sc, na, nc, ja, jc, (hc _).trans e0, (hc _).trans e1, (hc _).trans e2, (hc _).trans e3, ArrAt.turn e4 hk hT⟩
def RetAU (w : World) (a : Arr) (e : Ending) (w' : World) : Prop :=
  ∃ sa sc na nc ia ic, e = .returned (.agg #[.int .i64 a.kind, .slice sa a.shape.length sc, .slice na a.nums.length nc, .slice ia a.items.length ic]) ∧ ArrAt w' (fun b => w.heap.size ≤ b ∧ Unf w' b) a sa na ia ∧ Below w.heap.size w w'
set_option maxRecDepth 100000 in
set_option maxHeartbeats 4000000 in
theorem array_CloneU (a : Arr) : ∀ (sa : Option Addr) (sc : Nat) (na : Option Addr) (nc : Nat) (ia : Option Addr) (ic : Nat) (S : Nat → Prop) (w : World), ArrAt w S a sa na ia →
    Calls Tryd.prog 20 #[.agg #[.int .i64 a.kind, .slice sa a.shape.length sc, .slice na a.nums.length nc, .slice ia a.items.length ic]] w (RetAU w a) := by
  induction a using Arr.ind with
  | h a IH =>
    intro sa sc na nc ia ic S w h
    have IH := hid IH
    refine calls_post fun R' hR => ?_
    have hil := h.len
    have hsl := h.shape.1
    have hnl := h.nums.1
    have h0 := hid h
    clear h
    go_enter Tryd.func20, Tryd.ntmps20
    go_wp2_with fail
    have hx := hdr_new w (.int .i64 a.kind) (.slice sa a.shape.length sc) (.slice na a.nums.length nc) (.slice ia a.items.length ic)
    have hw := ext_alloc w (.cells #[.int .i64 a.kind, .slice sa a.shape.length sc, .slice na a.nums.length nc, .slice ia a.items.length ic] 26)
    generalize hW : (w.alloc (.cells #[.int .i64 a.kind, .slice sa a.shape.length sc, .slice na a.nums.length nc, .slice ia a.items.length ic] 26)).alloc (.cells #[.int .i64 0, .slice none 0 0, .slice none 0 0, .slice none 0 0] 26) = W
    have hxW : Hdr W w.heap.size (.int .i64 a.kind) (.slice sa a.shape.length sc) (.slice na a.nums.length nc) (.slice ia a.items.length ic) := by rw [← hW]; exact hx.up (ext_alloc _ _)
    have hrW : Hdr W (w.heap.size + 1) (.int .i64 0) (.slice none 0 0) (.slice none 0 0) (.slice none 0 0) := by rw [← hW]; have := hdr_new (w.alloc (.cells #[.int .i64 a.kind, .slice sa a.shape.length sc, .slice na a.nums.length nc, .slice ia a.items.length ic] 26)) (.int .i64 0) (.slice none 0 0) (.slice none 0 0) (.slice none 0 0); simpa using this
    have heW : Ext w W := by rw [← hW]; exact hw.trans (ext_alloc _ _)
    clear hx hw
    replace hW := hid hW
    have mS := fun w => run_makeI w a.shape.length hsl
    have mN := fun w => run_makeI w a.nums.length hnl
    have mI := fun w => run_makeA w a.items.length hil
    refine wp_region_mono_tail 16 (Sees W [(⟨w.heap.size, 0, none⟩, .int .i64 a.kind), (⟨w.heap.size, 1, none⟩, .slice sa a.shape.length sc), (⟨w.heap.size, 2, none⟩, .slice na a.nums.length nc), (⟨w.heap.size, 3, none⟩, .slice ia a.items.length ic)]) [5, 9, 13, 15] (fun k v u u' => match k with | 5 => v = .slice (some ⟨u.heap.size, 0, none⟩) a.shape.length a.shape.length ∧ u' = u.alloc (.cells (madeI a.shape.length) 3) | 9 => v = .slice (some ⟨u.heap.size, 0, none⟩) a.nums.length a.nums.length ∧ u' = u.alloc (.cells (madeI a.nums.length) 3) | 13 => v = .slice (some ⟨u.heap.size, 0, none⟩) a.items.length a.items.length ∧ u' = u.alloc (.cells (madeA a.items.length) 26) | 15 => v = .pointer (some ⟨u.heap.size, 0, none⟩) ∧ u' = u.alloc (.cells #[.int .i64 0, .slice none 0 0, .slice none 0 0, .slice none 0 0] 26) | _ => False) (fun _ _ h e => h.up e) (Sees.start (all_cons (hxW.c0) (all_cons (hxW.c1) (all_cons (hxW.c2) (all_cons (hxW.c3) (all_nil)))))) (by kernel_rfl) (by kernel_rfl) ?_
    simp only [List.take_succ_cons, List.take_zero, List.drop_succ_cons, List.drop_zero]
    repeat (first | (refine m_plain (v := ?_) (by rfl) (by rfl) ?_ ?_; rotate_left; (intro wz hSw; obtain ⟨-, hSc⟩ := hSw; (try simp only [List.forall_mem_cons, List.forall_mem_nil, and_true] at hSc); go_simp; (first | done | with_reducible rfl)); (intro K hK; (try simp only [Act.put, List.setIfInBounds_toArray, List.set_cons_zero, List.set_cons_succ]); refine hK _ _ ?_; clear hK K)) | (refine m_skip (by rfl) (by rfl) ?_; (intro K hK; (try simp only [Act.put, List.setIfInBounds_toArray, List.set_cons_zero, List.set_cons_succ]); refine hK _ _ ?_; clear hK K)))
    refine m_make (by rfl) (by rfl) ?_ ?_
    · intro wz hSw hdep R hRz
      obtain ⟨hSe, hSc⟩ := hSw
      (try simp only [List.forall_mem_cons, List.forall_mem_nil, and_true] at hSc)
      unfold does
      (go_simp; exact hRz.out _ _ ⟨ext_alloc _ _, rfl, rfl⟩)
    intro v5 u5 x5 hG5 K hK
    have hF5 := hG5.fact
    (try dsimp only at hF5)
    obtain ⟨rfl, rfl⟩ := hF5
    (try simp only [Act.put, List.setIfInBounds_toArray, List.set_cons_zero, List.set_cons_succ]); refine hK _ _ ?_; clear hK K
    repeat (first | (refine m_plain (v := ?_) (by rfl) (by rfl) ?_ ?_; rotate_left; (intro wz hSw; obtain ⟨-, hSc⟩ := hSw; (try simp only [List.forall_mem_cons, List.forall_mem_nil, and_true] at hSc); go_simp; (first | done | with_reducible rfl)); (intro K hK; (try simp only [Act.put, List.setIfInBounds_toArray, List.set_cons_zero, List.set_cons_succ]); refine hK _ _ ?_; clear hK K)) | (refine m_skip (by rfl) (by rfl) ?_; (intro K hK; (try simp only [Act.put, List.setIfInBounds_toArray, List.set_cons_zero, List.set_cons_succ]); refine hK _ _ ?_; clear hK K)))
    refine m_make (by rfl) (by rfl) ?_ ?_
    · intro wz hSw hdep R hRz
      obtain ⟨hSe, hSc⟩ := hSw
      (try simp only [List.forall_mem_cons, List.forall_mem_nil, and_true] at hSc)
      unfold does
      (go_simp; exact hRz.out _ _ ⟨ext_alloc _ _, rfl, rfl⟩)
    intro v9 u9 x9 hG9 K hK
    have hF9 := hG9.fact
    (try dsimp only at hF9)
    obtain ⟨rfl, rfl⟩ := hF9
    (try simp only [Act.put, List.setIfInBounds_toArray, List.set_cons_zero, List.set_cons_succ]); refine hK _ _ ?_; clear hK K
    repeat (first | (refine m_plain (v := ?_) (by rfl) (by rfl) ?_ ?_; rotate_left; (intro wz hSw; obtain ⟨-, hSc⟩ := hSw; (try simp only [List.forall_mem_cons, List.forall_mem_nil, and_true] at hSc); go_simp; (first | done | with_reducible rfl)); (intro K hK; (try simp only [Act.put, List.setIfInBounds_toArray, List.set_cons_zero, List.set_cons_succ]); refine hK _ _ ?_; clear hK K)) | (refine m_skip (by rfl) (by rfl) ?_; (intro K hK; (try simp only [Act.put, List.setIfInBounds_toArray, List.set_cons_zero, List.set_cons_succ]); refine hK _ _ ?_; clear hK K)))
    refine m_make (by rfl) (by rfl) ?_ ?_
    · intro wz hSw hdep R hRz
      obtain ⟨hSe, hSc⟩ := hSw
      (try simp only [List.forall_mem_cons, List.forall_mem_nil, and_true] at hSc)
      unfold does
      (go_simp; exact hRz.out _ _ ⟨ext_alloc _ _, rfl, rfl⟩)
    intro v13 u13 x13 hG13 K hK
    have hF13 := hG13.fact
    (try dsimp only at hF13)
    obtain ⟨rfl, rfl⟩ := hF13
    (try simp only [Act.put, List.setIfInBounds_toArray, List.set_cons_zero, List.set_cons_succ]); refine hK _ _ ?_; clear hK K
    repeat (first | (refine m_plain (v := ?_) (by rfl) (by rfl) ?_ ?_; rotate_left; (intro wz hSw; obtain ⟨-, hSc⟩ := hSw; (try simp only [List.forall_mem_cons, List.forall_mem_nil, and_true] at hSc); go_simp; (first | done | with_reducible rfl)); (intro K hK; (try simp only [Act.put, List.setIfInBounds_toArray, List.set_cons_zero, List.set_cons_succ]); refine hK _ _ ?_; clear hK K)) | (refine m_skip (by rfl) (by rfl) ?_; (intro K hK; (try simp only [Act.put, List.setIfInBounds_toArray, List.set_cons_zero, List.set_cons_succ]); refine hK _ _ ?_; clear hK K)))
    refine m_make (by rfl) (by rfl) ?_ ?_
    · intro wz hSw hdep R hRz
      obtain ⟨hSe, hSc⟩ := hSw
      (try simp only [List.forall_mem_cons, List.forall_mem_nil, and_true] at hSc)
      unfold does
      (go_simp; exact hRz.out _ _ ⟨ext_alloc _ _, rfl, rfl⟩)
    intro v15 u15 x15 hG15 K hK
    have hF15 := hG15.fact
    (try dsimp only at hF15)
    obtain ⟨rfl, rfl⟩ := hF15
    (try simp only [Act.put, List.setIfInBounds_toArray, List.set_cons_zero, List.set_cons_succ]); refine hK _ _ ?_; clear hK K
    repeat (first | (refine m_plain (v := ?_) (by rfl) (by rfl) ?_ ?_; rotate_left; (intro wz hSw; obtain ⟨-, hSc⟩ := hSw; (try simp only [List.forall_mem_cons, List.forall_mem_nil, and_true] at hSc); go_simp; (first | done | with_reducible rfl)); (intro K hK; (try simp only [Act.put, List.setIfInBounds_toArray, List.set_cons_zero, List.set_cons_succ]); refine hK _ _ ?_; clear hK K)) | (refine m_skip (by rfl) (by rfl) ?_; (intro K hK; (try simp only [Act.put, List.setIfInBounds_toArray, List.set_cons_zero, List.set_cons_succ]); refine hK _ _ ?_; clear hK K)))
    refine m_nil ?_
    intro wf hSf hAf
    have G1 := made_blk (hAf 5 _ rfl : Ext (u5.alloc _) wf)
    have G2 := made_blk (hAf 9 _ rfl : Ext (u9.alloc _) wf)
    have G3 := made_blk (hAf 13 _ rfl : Ext (u13.alloc _) wf)
    have G4 : Hdr wf u15.heap.size _ _ _ _ := made_blk (hAf 15 _ rfl : Ext (u15.alloc _) wf)
    have n1 := ord_ne (hG9.order 5 _ rfl)
    have n2 := ord_ne (hG13.order 5 _ rfl)
    have n3 := ord_ne (hG13.order 9 _ rfl)
    have n4 := ord_ne (hG15.order 5 _ rfl)
    have n5 := ord_ne (hG15.order 9 _ rfl)
    have n6 := ord_ne (hG15.order 13 _ rfl)
    have z1 := Below.size hG5.s.1
    have z2 := Below.size hG9.s.1
    have z3 := Below.size hG13.s.1
    have z4 := Below.size hG15.s.1
    have zW : w.heap.size + 2 ≤ W.heap.size := by rw [← hW.out]; simp
    have ef : Ext W wf := hSf.1
    clear hSf hAf hG5 hG9 hG13 hG15
    generalize u5.heap.size = g1 at *
    generalize u9.heap.size = g2 at *
    generalize u13.heap.size = g3 at *
    generalize u15.heap.size = g4 at *
    clear u5 u9 u13 u15
    have HA := hxW.up ef
    have HR := hrW.up ef
    have AA : Hid (ArrAt wf (fun b => b < w.heap.size) a sa na ia) := (ArrAt.later (ArrAt.mono (fun b hb _ => hb) a h0.out) (Below.trans heW (Below.mono ef (by omega))))
    have BB : Below w.heap.size w wf := Below.trans heW (Below.mono ef (by omega))
    go_wp2_with (first
      | (refine wpl_store4 rfl (.tmp 3) (.tmp 20) rfl g4 rfl rfl G4 ?_; intro V1 HX1 C1; have q0 := HX1.c1; have q1 := HX1.c2; have HA1 := C1.hdr HA (by omega); have r0 := HA1.c1; have r1 := HA1.c2)
      | (refine wpl_copyI rfl (.tmp 22) (.tmp 24) rfl g1 _ _ (fun b => b < w.heap.size) sa sc a.shape.length a.shape rfl rfl (C1.row G1 (by omega)) (madeI_size _) (C1.arr AA.out (fun q hq => by omega)).shape ?_; intro V2 R2 C2; have HX2 := C2.hdr HX1 (by omega); have HA2 := C2.hdr HA1 (by omega); have s0 := HX2.c2; have s1 := HA2.c2; clear q0 q1 r0 r1)
      | (refine wpl_copyI rfl (.tmp 27) (.tmp 29) rfl g2 _ _ (fun b => b < w.heap.size) na nc a.nums.length a.nums rfl rfl (C2.row (C1.row G2 (by omega)) (by omega)) (madeI_size _) (C2.arr (C1.arr AA.out (fun q hq => by omega)) (fun q hq => by omega)).nums ?_; intro V3 R3 C3; have HX3 := C3.hdr HX2 (by omega); have HA3 := C3.hdr HA2 (by omega); have p0 := HX3.c3; have p1 := HA3.c3; clear s0 s1))
    have hz3 : V3.heap.size = wf.heap.size := by rw [C3.z, C2.z, C1.z]
    have hzf := Below.size ef
    have l1 := lt_of_block G1
    have l2 := lt_of_block G2
    have l3 := lt_of_block G3
    have l4 := lt_of_block G4
    have B3 : Below w.heap.size w V3 := C3.below (C2.below (C1.below BB (by omega)) (by omega)) (by omega)
    have G13 := C3.row R2 (by omega)
    have G33 := C3.row (C2.row (C1.row G3 (by omega)) (by omega)) (by omega)
    have A3 := hid (C3.arr (C2.arr (C1.arr AA.out (fun q hq => by omega)) (fun q hq => by omega)) (fun q hq => by omega)).items
    have HR3 := C3.hdr (C2.hdr (C1.hdr HR (by omega)) (by omega)) (by omega)
    have P0 : PartA V3 (fun b => V3.heap.size ≤ b ∧ Unf V3 b) g3 a.items.length [] := partA_made G33 (fun b hb => by omega)
    have m1 : g3 < V3.heap.size := by omega
    have m4 : g4 < V3.heap.size := by omega
    have mw : w.heap.size + 1 < V3.heap.size := by omega
    have mg1 : g1 < V3.heap.size := by omega
    have mg2 : g2 < V3.heap.size := by omega
    have mg : w.heap.size + 2 ≤ g1 ∧ w.heap.size + 2 ≤ g2 ∧ w.heap.size + 2 ≤ g3 ∧ w.heap.size + 2 ≤ g4 := by omega
    clear G1 G2 G3 G4 z1 z2 z3 z4 l1 l2 l3 l4 zW ef BB HX1 HX2 HA1 HA2 C1 C2 C3 R2 AA HA HR hxW hrW heW hz3 hzf mS mN mI hW
    replace n1 := hid n1
    replace n2 := hid n2
    replace n3 := hid n3
    replace n4 := hid n4
    replace n5 := hid n5
    replace n6 := hid n6
    replace B3 := hid B3
    go_loopw [34] (fun i wr => ∃ k : Nat, k ≤ a.items.length ∧ i = .int .i64 k ∧ PartA wr (fun b => V3.heap.size ≤ b ∧ Unf wr b) g3 a.items.length (a.items.take k) ∧ V3.grownBy wr (some g3)) (fun i _ => a.items.length - (intOf i).toNat)
    case atStart => exact ⟨0, Nat.zero_le _, rfl, by simpa using P0, World.grownBy.refl _ _⟩
    case round =>
      obtain ⟨k, hk, rfl, hp, hg⟩ := hrel
      have hp := hid hp
      have hs := hg.size
      by_cases hlt : k < a.items.length
      · obtain ⟨b, off, sa', sc', na', nc', ja', jc', rfl, hS, hbl, e0, e1, e2, e3, hx⟩ := (A3.out.grown hg (fun b hb _ => by simp; omega)).at hlt
        have hmem := hid (List.getElem_mem hlt)
        have hT : Hid (a.items.take (k + 1) = a.items.take k ++ [a.items[k]]) := (List.take_append_getElem hlt).symm
        have hL : Hid ((a.items.take k).length = k) := by simp only [Hid, List.length_take]; omega
        generalize a.items[k] = x at e0 e1 e2 e3 hx hmem hT
        generalize a.items.take k = l at hT hL hp
        have HX := hid hx
        have ki0 : (0 : Int) ≤ (k : Int) := Int.natCast_nonneg _
        have ki1 : (k : Int) < (a.items.length : Int) := by omega
        have d3 := (HX3.grown hg (by have := n6.out; simp; omega)).c3
        clear hx p0 p1
        go_wp2_with fail
        have hy := hdr_new wr (.int .i64 x.kind) (.slice sa' x.shape.length sc') (.slice na' x.nums.length nc') (.slice ja' x.items.length jc')
        have d3' := (Hdr.up (HX3.grown hg (by have := n6.out; simp; omega)) (ext_alloc wr (.cells #[.int .i64 x.kind, .slice sa' x.shape.length sc', .slice na' x.nums.length nc', .slice ja' x.items.length jc'] 26))).c3
        have HX' := hid (HX.out.alloc (.cells #[.int .i64 x.kind, .slice sa' x.shape.length sc', .slice na' x.nums.length nc', .slice ja' x.items.length jc'] 26))
        have eY := ext_alloc wr (.cells #[.int .i64 x.kind, .slice sa' x.shape.length sc', .slice na' x.nums.length nc', .slice ja' x.items.length jc'] 26)
        generalize wr.alloc (.cells #[.int .i64 x.kind, .slice sa' x.shape.length sc', .slice na' x.nums.length nc', .slice ja' x.items.length jc'] 26) = wy at *
        clear d3 e0 e1 e2 e3
        refine wp_region_mono_tail 6 (Sees wy [(⟨g4, 3, none⟩, .slice (some ⟨g3, 0, none⟩) a.items.length a.items.length), (⟨wr.heap.size, 0, none⟩, .int .i64 x.kind), (⟨wr.heap.size, 1, none⟩, .slice sa' x.shape.length sc'), (⟨wr.heap.size, 2, none⟩, .slice na' x.nums.length nc'), (⟨wr.heap.size, 3, none⟩, .slice ja' x.items.length jc')]) [4] (fun k v u u' => match k with | 4 => RetAU u x (.returned v) u' | _ => False) (fun _ _ h e => h.up e) (Sees.start (all_cons (d3') (all_cons (hy.c0) (all_cons (hy.c1) (all_cons (hy.c2) (all_cons (hy.c3) (all_nil))))))) (by kernel_rfl) (by kernel_rfl) ?_
        simp only [List.take_succ_cons, List.take_zero, List.drop_succ_cons, List.drop_zero]
        repeat (first | (refine m_plain (v := ?_) (by rfl) (by rfl) ?_ ?_; rotate_left; (intro wz hSw; obtain ⟨-, hSc⟩ := hSw; (try simp only [List.forall_mem_cons, List.forall_mem_nil, and_true] at hSc); go_simp; (first | done | with_reducible rfl)); (intro K hK; (try simp only [Act.put, List.setIfInBounds_toArray, List.set_cons_zero, List.set_cons_succ]); refine hK _ _ ?_; clear hK K)) | (refine m_skip (by rfl) (by rfl) ?_; (intro K hK; (try simp only [Act.put, List.setIfInBounds_toArray, List.set_cons_zero, List.set_cons_succ]); refine hK _ _ ?_; clear hK K)))
        refine m_make (by rfl) (by rfl) ?_ ?_
        · intro wz hSw hdep R hRz
          obtain ⟨hSe, hSc⟩ := hSw
          (try simp only [List.forall_mem_cons, List.forall_mem_nil, and_true] at hSc)
          unfold does
          (go_simp; refine Calls.mono (IH.out x hmem.out sa' sc' na' nc' ja' jc' _ wz (HX'.out.later hSe)) ?_; rintro e wq ⟨ta, tc, tn, tnc, ti, tic, rfl, hq, hqb⟩; exact ⟨_, rfl, hRz.out _ _ ⟨hqb, ta, tc, tn, tnc, ti, tic, rfl, hq, hqb⟩⟩)
        intro v4 u4 x4 hG4 K hK
        have hF4 := hG4.fact
        (try dsimp only at hF4)
        obtain ⟨ta, tc, tn, tnc, ti, tic, he, hq, hqb⟩ := hF4
        injection he with he
        subst he
        (try simp only [Act.put, List.setIfInBounds_toArray, List.set_cons_zero, List.set_cons_succ]); refine hK _ _ ?_; clear hK K
        repeat (first | (refine m_plain (v := ?_) (by rfl) (by rfl) ?_ ?_; rotate_left; (intro wz hSw; obtain ⟨-, hSc⟩ := hSw; (try simp only [List.forall_mem_cons, List.forall_mem_nil, and_true] at hSc); go_simp; (first | done | with_reducible rfl)); (intro K hK; (try simp only [Act.put, List.setIfInBounds_toArray, List.set_cons_zero, List.set_cons_succ]); refine hK _ _ ?_; clear hK K)) | (refine m_skip (by rfl) (by rfl) ?_; (intro K hK; (try simp only [Act.put, List.setIfInBounds_toArray, List.set_cons_zero, List.set_cons_succ]); refine hK _ _ ?_; clear hK K)))
        refine m_nil ?_
        intro wf hSf hAf
        have e4 : Ext x4 wf := hAf 4 _ rfl
        have eu : Ext wr u4 := eY.trans hG4.s.1
        have zu := Below.size eu
        have HQ := hid (unfAt_turn (B' := V3.heap.size) hq (fun b _ hlt => Below.block e4 b hlt) (by omega))
        have gF := grown_ext hg (eY.trans hSf.1)
        have ef := eY.trans hSf.1
        have pF : PartA wf (fun b => V3.heap.size ≤ b ∧ Unf wf b) g3 a.items.length l := PartA.turn hp.out (Ext.blk' ef (by omega)) (fun q hq hlt => Below.block ef q hlt) (fun b hb => by omega) (fun b hlt hb => ⟨hb.1, hb.2.keep (Below.block ef b hlt)⟩)
        clear hSf hAf hG4 hq hqb e4 eu eY hy d3'
        go_wp2_with (refine wpl_storeAt rfl (.tmp 44) (.tmp 43) rfl g3 a.items.length (by rw [hL.out]; rfl) rfl pF (by rw [hL.out]; exact hlt) HQ.out ?_; intro V hV hC)
        have hV' : Hid (PartA V (fun b => V3.heap.size ≤ b ∧ Unf V b) g3 a.items.length (l ++ [x])) := hid (PartA.turn hV rfl (fun _ _ _ => rfl) (fun b hb => by omega) (fun b hlt hb => ⟨hb.1, hb.2.keep (hC.blk (by have := hC.z; omega) (by omega))⟩))
        have gV := grown_chg gF hC
        clear hV hC pF gF ef
        go_wp2_with fail
        go_roundw
        case rel => exact ⟨k + 1, by omega, by go_num, by rw [hT.out]; exact hV'.out, gV⟩
        case measure => simp [intOf]; omega
      · have hke : a.items.take k = a.items := List.take_of_length_le (by omega)
        have hp' := hp.out
        rw [hke] at hp'
        have HP := hid hp'
        have H3 := HX3.grown hg (by have := n6.out; simp; omega)
        have HR' := HR3.grown hg (by simp; omega)
        have AS : Hid (IntsAt wr (fun b => b = g1) (some ⟨g1, 0, none⟩) a.shape) := (row_ints (S := fun b => b = g1) (G13) hsl rfl).grown hg (fun b hb _ => by have := n2.out; simp; omega)
        have AN : Hid (IntsAt wr (fun b => b = g2) (some ⟨g2, 0, none⟩) a.nums) := (row_ints (S := fun b => b = g2) R3 hnl rfl).grown hg (fun b hb _ => by have := n3.out; simp; omega)
        have U1 : Unf wr g1 := (unf_row G13).keep (hg.block g1 mg1 (by have := n2.out; simp; omega))
        have U2 : Unf wr g2 := (unf_row R3).keep (hg.block g2 mg2 (by have := n3.out; simp; omega))
        have U3 : Unf wr g3 := HP.out.2.1
        have Bw := hid (B3.out.grown hg B3.out.size (fun q hq => by injection hq with hq; omega))
        replace U1 := hid U1
        replace U2 := hid U2
        replace U3 := hid U3
        clear hke hp' hp hg p0 p1 HX3 HA3 HR3 G13 G33 R3 P0 hk
        go_wp2_with (first
          | (refine wpl_load4 rfl (.tmp 3) rfl g4 rfl H3 ?_)
          | (refine wpl_store4 rfl (.tmp 2) (.tmp 46) rfl (w.heap.size + 1) rfl rfl HR' ?_; intro V hV hC))
        refine bodyPost_ret (end_arr rfl hV rfl) rfl (hR.out _ _ ?_)
        have hk : ∀ b, b < wr.heap.size → b ≠ w.heap.size + 1 → Unf wr b → Unf V b := fun b hb hne h => h.keep (hC.blk hb hne)
        have hzw := hs
        refine ⟨some ⟨g1, 0, none⟩, _, some ⟨g2, 0, none⟩, _, some ⟨g3, 0, none⟩, _, rfl, ArrAt.iff.2 ⟨?_, ?_, hil, ?_⟩, ?_⟩
        · exact (hC.ints AS.out (fun q hq => by omega)).mono fun b hlt hb => ⟨by omega, by subst hb; exact hk _ (by omega) (by omega) U1.out⟩
        · exact (hC.ints AN.out (fun q hq => by omega)).mono fun b hlt hb => ⟨by omega, by subst hb; exact hk _ (by omega) (by omega) U2.out⟩
        · have hI := HP.out.items (T := fun b => (w.heap.size + 2 ≤ b ∧ Unf wr b)) (fun b hb => ⟨by omega, hb.2⟩) ⟨by omega, U3.out⟩
          exact (hC.items hI (fun q hq => by omega)).mono fun b hlt hb => ⟨by omega, hk b (by have := hC.z; omega) (by omega) hb.2⟩
        · exact hC.below Bw.out (by omega)
end Go.Proofs.YtdobnkbmjkcpoaaDoor
