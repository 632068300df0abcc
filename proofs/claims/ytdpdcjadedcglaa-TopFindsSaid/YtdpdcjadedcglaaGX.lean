/- A group of texts (GX), each with its own conditions: those of each lemma. -/
import Derived.Test.YtdpdcjadedcglaaGG
import Derived.Test.YtdpdcjadedcglaaCUT
import Derived.Test.YtdpdcjadedcglaaAPF
import Derived.Test.YtdpdcjadedcglaaGN
import Derived.Test.YtdpdcjadedcglaaOWNC
set_option linter.unusedVariables false
set_option maxRecDepth 20000
set_option linter.unusedSimpArgs false
namespace Go.Proofs.Ytdpdcjadedcglaa
open Go.RowKit
def CapB (w : World) (b : Nat) : Prop := ∀ o ao n c, w.cell? ⟨b, o, none⟩ = some (.slice ao n c) → n ≤ c
theorem CapB.keep {w w' : World} {b : Nat} (h : CapB w b) (e : w'.heap[b]? = w.heap[b]?) : CapB w' b := fun o ao n c hc => h o ao n c ((World.cell?_of_block (a := ⟨b, o, none⟩) e).symm.trans hc)
/-- an array, all of whose parts lie in such blocks -/
def ArrG (w : World) (S : Nat → Prop) (a : Arr) (sa na ia : Option Addr) : Prop := ArrAt w (fun b => S b ∧ CapB w b) a sa na ia
section
variable {w w' : World} {S T : Nat → Prop} {a : Arr} {sa na ia : Option Addr}
theorem ArrG.turn (h : ArrG w S a sa na ia) (hk : ∀ b, S b → b < w.heap.size → w'.heap[b]? = w.heap[b]?) (hT : ∀ b, b < w.heap.size → S b → T b) : ArrG w' T a sa na ia :=
  ArrAt.turn h (fun b hb hlt => hk b hb.1 hlt) (fun b hlt hb => ⟨hT b hlt hb.1, hb.2.keep (hk b hb.1 hlt)⟩)
theorem ArrG.up (h : ArrG w S a sa na ia) (e : Ext w w') : ArrG w' S a sa na ia := ArrG.turn h (fun b _ hlt => e.block b hlt) (fun _ _ h => h)
theorem ArrG.mono (h : ArrG w S a sa na ia) (hT : ∀ b, b < w.heap.size → S b → T b) : ArrG w T a sa na ia := ArrG.turn h (fun _ _ _ => rfl) hT
theorem ArrG.arr (h : ArrG w S a sa na ia) : ArrAt w S a sa na ia := ArrAt.mono (fun b _ hb => hb.1) a h
theorem ArrG.item (h : ArrG w S a sa na ia) {j : Nat} {x : Arr} (hx : a.items[j]? = some x) : ∃ b off s' sc n' nc i' ic, ia = some ⟨b, off, none⟩ ∧ w.cell? ⟨b, off + j * 4, none⟩ = some (.int .i64 x.kind) ∧ w.cell? ⟨b, off + j * 4 + 1, none⟩ = some (.slice s' x.shape.length sc) ∧
    w.cell? ⟨b, off + j * 4 + 2, none⟩ = some (.slice n' x.nums.length nc) ∧ w.cell? ⟨b, off + j * 4 + 3, none⟩ = some (.slice i' x.items.length ic) ∧ (x.shape.length ≤ sc ∧ x.nums.length ≤ nc ∧ x.items.length ≤ ic) ∧ ArrG w S x s' n' i' := by
  obtain ⟨b, off, s', sc, n', nc, i', ic, e, hS, hlt, c0, c1, c2, c3, hxx⟩ := (ArrAt.items h).get j x hx
  simp only [Nat.zero_add] at c0 c1 c2 c3
  exact ⟨b, off, s', sc, n', nc, i', ic, e, c0, c1, c2, c3, ⟨hS.2 _ _ _ _ c1, hS.2 _ _ _ _ c2, hS.2 _ _ _ _ c3⟩, hxx⟩
end
/-- a slice of numbers, from place k on -/
theorem cut_at (s : List Int) (so : Option Addr) (cc k : Nat) (h1 : k ≤ s.length) (hc : s.length ≤ cc) :
    ∃ ao ac, (∀ w, (Instr.sliceAt 24 (.slice so s.length cc) (some (.int .i64 (k : Int))) none none).run Try.prog w = .ok (.slice ao (s.drop k).length ac) w) ∧ (∀ w T, IntsAt w T so s → IntsAt w T ao (s.drop k)) := by
  refine ⟨if cc = k then so else so.map fun x => x.add k, cc - k, fun w => ?_, ?_⟩
  · have := run_cutI so s.length cc k h1 w
    rw [List.length_drop]
    exact this
  · intro w T hI
    split
    · exact hI.cut0 (by omega)
    · exact hI.cut k
end Go.Proofs.Ytdpdcjadedcglaa
namespace Go.Proofs.Ytdpdcjadedcglaa
open Go.RowKit Go.Sort
attribute [local go_sem ↓] run_max2 run_min2
attribute [local go_sem] eql_ints_nil eql_arrs_nil
theorem capB_ints {w : World} {b : Nat} {ys : List Int} {t : TypeId} (h : w.heap[b]? = some (.cells (ys.map (Value.int .i64)).toArray t (0, 0))) : CapB w b := fun o ao n c hc => by
  rw [cell_of_row w b o _ _ _ h] at hc
  simp only [List.getElem?_toArray, List.getElem?_map] at hc
  cases e : ys[o]? with
  | none => rw [e] at hc; cases hc
  | some y => rw [e] at hc; simp at hc
theorem capAt_turn {w w' : World} {B B' : Nat} {a : Arr} {sa na ia : Option Addr} (h : ArrAt w (fun b => B ≤ b ∧ CapB w b) a sa na ia) (hk : ∀ b, B ≤ b → b < w.heap.size → w'.heap[b]? = w.heap[b]?) (hB : B' ≤ B) : ArrAt w' (fun b => B' ≤ b ∧ CapB w' b) a sa na ia :=
  ArrAt.turn h (fun b hb hlt => hk b hb.1 hlt) (fun b hlt hb => ⟨Nat.le_trans hB hb.1, hb.2.keep (hk b hb.1 hlt)⟩)
theorem PartA.turnG {w w' : World} {S S' : Nat → Prop} {g n : Nat} {l : List Arr} (h : PartA w S g n l) (hg : w'.heap[g]? = w.heap[g]?) (hk : ∀ b, S b → b < w.heap.size → w'.heap[b]? = w.heap[b]?) (hne : ∀ b, S' b → b ≠ g) (hT : ∀ b, b < w.heap.size → S b → S' b) : PartA w' S' g n l := by
  have hc : ∀ o, w'.cell? ⟨g, o, none⟩ = w.cell? ⟨g, o, none⟩ := fun o => World.cell?_of_block (a := ⟨g, o, none⟩) hg
  have hf : ∀ o, w'.frozen? ⟨g, o, none⟩ = w.frozen? ⟨g, o, none⟩ := fun o => World.frozen?_of_block (a := ⟨g, o, none⟩) hg
  refine ⟨fun o ho => by rw [hc]; exact h.1 o ho, fun o => by rw [hf]; exact h.2.1 o, hne, fun j x hx => ?_⟩
  obtain ⟨sa, sc, na, nc, ja, jc, e0, e1, e2, e3, e4⟩ := h.2.2.2 j x hx
  exact ⟨sa, sc, na, nc, ja, jc, (hc _).trans e0, (hc _).trans e1, (hc _).trans e2, (hc _).trans e3, ArrAt.turn e4 hk hT⟩
/-- the first k arrays of a row of n are as they should be -/
def FillB (w : World) (g k n : Nat) : Prop := (∀ o ao m c, o < k * 4 → w.cell? ⟨g, o, none⟩ = some (.slice ao m c) → m ≤ c) ∧ ∀ o, n * 4 ≤ o → w.cell? ⟨g, o, none⟩ = none
theorem FillB.keep {w w' : World} {g k n : Nat} (h : FillB w g k n) (e : w'.heap[g]? = w.heap[g]?) : FillB w' g k n := by
  have hc : ∀ o, w'.cell? ⟨g, o, none⟩ = w.cell? ⟨g, o, none⟩ := fun o => World.cell?_of_block (a := ⟨g, o, none⟩) e
  exact ⟨fun o ao m c ho h1 => h.1 o ao m c ho (by rw [← hc]; exact h1), fun o ho => by rw [hc]; exact h.2 o ho⟩
theorem FillB.start {w : World} {g n : Nat} {cs : Array Value} {t : TypeId} (h : w.heap[g]? = some (.cells cs t (0, 0))) (hz : cs.size = n * 4) : FillB w g 0 n :=
  ⟨fun o ao m c ho => by omega, fun o ho => by rw [cell_of_row w g o _ _ _ h]; exact Array.getElem?_eq_none (by omega)⟩
theorem FillB.done {w : World} {g n : Nat} (h : FillB w g n n) : CapB w g := fun o ao m c hc => by
  rcases Nat.lt_or_ge o (n * 4) with q | q
  · exact h.1 o ao m c q hc
  · rw [h.2 o q] at hc; cases hc
theorem FillB.store {w : World} {g k n : Nat} (h : FillB w g k n) (hk : k < n) (hs : ∀ o, o < n * 4 → (w.cell? ⟨g, o, none⟩).isSome = true) {v0 : Int} {s m i : Option Addr} {p q r pc qc rc : Nat} (h1 : p ≤ pc) (h2 : q ≤ qc) (h3 : r ≤ rc) :
    FillB ((((w.setCell ⟨g, k * 4, none⟩ (.int .i64 v0)).setCell ⟨g, k * 4 + 1, none⟩ (.slice s p pc)).setCell ⟨g, k * 4 + 2, none⟩ (.slice m q qc)).setCell ⟨g, k * 4 + 3, none⟩ (.slice i r rc)) g (k + 1) n := by
  have hne : ∀ {x y : Nat}, x ≠ y → (⟨g, x, none⟩ : Addr) ≠ ⟨g, y, none⟩ := fun hxy e => hxy (by injection e)
  have same : ∀ (W : World) (o : Nat) (v : Value), (W.cell? ⟨g, o, none⟩).isSome = true → (W.setCell ⟨g, o, none⟩ v).cell? ⟨g, o, none⟩ = some v := fun W o v hw => by
    obtain ⟨u, hu⟩ := Option.isSome_iff_exists.1 hw
    exact World.cell?_setCell_same _ _ _ hu
  have oth : ∀ (W : World) (o o' : Nat) (v : Value), o' ≠ o → (W.setCell ⟨g, o', none⟩ v).cell? ⟨g, o, none⟩ = W.cell? ⟨g, o, none⟩ := fun W o o' v e => World.cell?_setCell_other _ _ _ _ (hne e)
  refine ⟨fun o ao a c ho hc => ?_, fun o ho => ?_⟩
  · by_cases e3 : o = k * 4 + 3
    · subst e3
      rw [same _ _ _ (isSome_set (isSome_set (isSome_set (hs _ (by omega)))))] at hc
      injection hc with hc; injection hc with _ e1 e2; omega
    · rw [oth _ _ _ _ (by omega)] at hc
      by_cases e2 : o = k * 4 + 2
      · subst e2
        rw [same _ _ _ (isSome_set (isSome_set (hs _ (by omega))))] at hc
        injection hc with hc; injection hc with _ e1 e2; omega
      · rw [oth _ _ _ _ (by omega)] at hc
        by_cases e1 : o = k * 4 + 1
        · subst e1
          rw [same _ _ _ (isSome_set (hs _ (by omega)))] at hc
          injection hc with hc; injection hc with _ e1 e2; omega
        · rw [oth _ _ _ _ (by omega)] at hc
          by_cases e0 : o = k * 4
          · subst e0
            rw [same _ _ _ (hs _ (by omega))] at hc
            injection hc with hc; cases hc
          · rw [oth _ _ _ _ (by omega)] at hc
            exact h.1 o ao a c (by omega) hc
  · rw [oth _ _ _ _ (by omega), oth _ _ _ _ (by omega), oth _ _ _ _ (by omega), oth _ _ _ _ (by omega)]
    exact h.2 o ho
section
variable {ops : Array Oper} {rest : List Oper} {o : Oper} {a : Act} {Q : Exit → Act → World → Prop} {w : World}
theorem wpl_storeG (hgd : o.guard = none) (p x : Operand) (ho : o.op = .store 27 p x) (g n : Nat) {S : Nat → Prop} {l : List Arr} {y : Arr} {s m i : Option Addr} {sc mc ic : Nat} (hp : a.eval p = .pointer (some ⟨g, l.length * 4, none⟩))
    (hx : a.eval x = .agg #[.int .i64 y.kind, .slice s y.shape.length sc, .slice m y.nums.length mc, .slice i y.items.length ic]) (hh : PartA w S g n l) (hl : l.length < n) (hy : ArrAt w S y s m i) (hF : FillB w g l.length n) (h1 : y.shape.length ≤ sc) (h2 : y.nums.length ≤ mc) (h3 : y.items.length ≤ ic)
    (h : ∀ V, PartA V S g n (l ++ [y]) → FillB V g (l.length + 1) n → Chg w V g → wpList Try.prog ops Q rest (a.put o.dst undef) V) : wpList Try.prog ops Q (o :: rest) a w := by
  refine wpList_plain hgd fun K hK => ?_
  have := hK _ _ (h _ (hh.store (sc := sc) (nc := mc) (jc := ic) hy hl) (hF.store hl hh.1 h1 h2 h3) ((((chg_setCell _ _ _ _).trans (chg_setCell _ _ _ _)).trans (chg_setCell _ _ _ _)).trans (chg_setCell _ _ _ _)))
  unfold Oper.wp execOp
  simp only [ho, hp, hx]
  obtain ⟨v0, d0⟩ := Option.isSome_iff_exists.1 (hh.1 (l.length * 4) (by omega))
  obtain ⟨v1, d1⟩ := Option.isSome_iff_exists.1 (hh.1 (l.length * 4 + 1) (by omega))
  obtain ⟨v2, d2⟩ := Option.isSome_iff_exists.1 (hh.1 (l.length * 4 + 2) (by omega))
  obtain ⟨v3, d3⟩ := Option.isSome_iff_exists.1 (hh.1 (l.length * 4 + 3) (by omega))
  have f := hh.2.1
  simp [go_sem, d0, d1, d2, d3, f]
  exact this
end
/-- a copy whose slices all have room for what they hold -/
def RetAG (w : World) (a : Arr) (e : Ending) (w' : World) : Prop :=
  ∃ sa na ia, e = .returned (.agg #[.int .i64 a.kind, .slice sa a.shape.length a.shape.length, .slice na a.nums.length a.nums.length, .slice ia a.items.length a.items.length]) ∧ ArrG w' (fun b => w.heap.size ≤ b) a sa na ia ∧ Below w.heap.size w w'
set_option maxRecDepth 100000 in
set_option maxHeartbeats 4000000 in
theorem array_CloneG (a : Arr) : ∀ (sa : Option Addr) (sc : Nat) (na : Option Addr) (nc : Nat) (ia : Option Addr) (ic : Nat) (S : Nat → Prop) (w : World), ArrAt w S a sa na ia →
    Calls Try.prog 61 #[.agg #[.int .i64 a.kind, .slice sa a.shape.length sc, .slice na a.nums.length nc, .slice ia a.items.length ic]] w (RetAG w a) := by
  induction a using Arr.ind with
  | h a IH =>
    intro sa sc na nc ia ic S w h
    have IH := hid IH
    refine calls_post fun R' hR => ?_
    have hil := h.len
    have hsl := h.shape.1
    have hnl := h.nums.1
    have h0 := hid h
    clear h
    go_enter Try.func61, Try.ntmps61
    go_wp2_with fail
    have hx := hdr_new w (.int .i64 a.kind) (.slice sa a.shape.length sc) (.slice na a.nums.length nc) (.slice ia a.items.length ic)
    have hw := ext_alloc w (.cells #[.int .i64 a.kind, .slice sa a.shape.length sc, .slice na a.nums.length nc, .slice ia a.items.length ic] 27)
    generalize hW : (w.alloc (.cells #[.int .i64 a.kind, .slice sa a.shape.length sc, .slice na a.nums.length nc, .slice ia a.items.length ic] 27)).alloc (.cells #[.int .i64 0, .slice none 0 0, .slice none 0 0, .slice none 0 0] 27) = W
    have hxW : Hdr W w.heap.size (.int .i64 a.kind) (.slice sa a.shape.length sc) (.slice na a.nums.length nc) (.slice ia a.items.length ic) := by rw [← hW]; exact hx.up (ext_alloc _ _)
    have hrW : Hdr W (w.heap.size + 1) (.int .i64 0) (.slice none 0 0) (.slice none 0 0) (.slice none 0 0) := by rw [← hW]; have := hdr_new (w.alloc (.cells #[.int .i64 a.kind, .slice sa a.shape.length sc, .slice na a.nums.length nc, .slice ia a.items.length ic] 27)) (.int .i64 0) (.slice none 0 0) (.slice none 0 0) (.slice none 0 0); simpa using this
    have heW : Ext w W := by rw [← hW]; exact hw.trans (ext_alloc _ _)
    clear hx hw
    replace hW := hid hW
    have mS := fun w => run_makeI w a.shape.length hsl
    have mN := fun w => run_makeI w a.nums.length hnl
    have mI := fun w => run_makeA w a.items.length hil
    refine wp_region_mono_tail 16 (Sees W [(⟨w.heap.size, 0, none⟩, .int .i64 a.kind), (⟨w.heap.size, 1, none⟩, .slice sa a.shape.length sc), (⟨w.heap.size, 2, none⟩, .slice na a.nums.length nc), (⟨w.heap.size, 3, none⟩, .slice ia a.items.length ic)]) [5, 9, 13, 15] (fun k v u u' => match k with | 5 => v = .slice (some ⟨u.heap.size, 0, none⟩) a.shape.length a.shape.length ∧ u' = u.alloc (.cells (madeI a.shape.length) 3) | 9 => v = .slice (some ⟨u.heap.size, 0, none⟩) a.nums.length a.nums.length ∧ u' = u.alloc (.cells (madeI a.nums.length) 3) | 13 => v = .slice (some ⟨u.heap.size, 0, none⟩) a.items.length a.items.length ∧ u' = u.alloc (.cells (madeA a.items.length) 27) | 15 => v = .pointer (some ⟨u.heap.size, 0, none⟩) ∧ u' = u.alloc (.cells #[.int .i64 0, .slice none 0 0, .slice none 0 0, .slice none 0 0] 27) | _ => False) (fun _ _ h e => h.up e) (Sees.start (all_cons (hxW.c0) (all_cons (hxW.c1) (all_cons (hxW.c2) (all_cons (hxW.c3) (all_nil)))))) (by kernel_rfl) (by kernel_rfl) ?_
    simp only [List.take_succ_cons, List.take_zero, List.drop_succ_cons, List.drop_zero]
    repeat (first | (refine m_plain (v := ?_) (by rfl) (by rfl) ?_ ?_; rotate_left; (intro wz hSw; obtain ⟨-, hSc⟩ := hSw; (try simp only [List.forall_mem_cons, List.forall_mem_nil, and_true] at hSc); go_simp; (first | done | with_reducible rfl)); (intro K hK; (try simp only [Act.put, List.setIfInBounds_toArray, List.set_cons_zero, List.set_cons_succ]); refine hK _ _ ?_; clear hK K)) | (refine m_skip (by rfl) (by rfl) ?_; (intro K hK; (try simp only [Act.put, List.setIfInBounds_toArray, List.set_cons_zero, List.set_cons_succ]); refine hK _ _ ?_; clear hK K)))
    refine m_make (by rfl) (by rfl) ?_ ?_
    · intro wz hSw hdep R hRz
      obtain ⟨hSe, hSc⟩ := hSw
      (try simp only [List.forall_mem_cons, List.forall_mem_nil, and_true] at hSc)
      unfold does
      (go_simp; exact hRz.out _ _ ⟨ext_alloc _ _, rfl, rfl⟩)
    intro v5 u5 x5 hG5 K hK
    have hF5 := hG5.fact
    (try dsimp only at hF5)
    obtain ⟨rfl, rfl⟩ := hF5
    (try simp only [Act.put, List.setIfInBounds_toArray, List.set_cons_zero, List.set_cons_succ]); refine hK _ _ ?_; clear hK K
    repeat (first | (refine m_plain (v := ?_) (by rfl) (by rfl) ?_ ?_; rotate_left; (intro wz hSw; obtain ⟨-, hSc⟩ := hSw; (try simp only [List.forall_mem_cons, List.forall_mem_nil, and_true] at hSc); go_simp; (first | done | with_reducible rfl)); (intro K hK; (try simp only [Act.put, List.setIfInBounds_toArray, List.set_cons_zero, List.set_cons_succ]); refine hK _ _ ?_; clear hK K)) | (refine m_skip (by rfl) (by rfl) ?_; (intro K hK; (try simp only [Act.put, List.setIfInBounds_toArray, List.set_cons_zero, List.set_cons_succ]); refine hK _ _ ?_; clear hK K)))
    refine m_make (by rfl) (by rfl) ?_ ?_
    · intro wz hSw hdep R hRz
      obtain ⟨hSe, hSc⟩ := hSw
      (try simp only [List.forall_mem_cons, List.forall_mem_nil, and_true] at hSc)
      unfold does
      (go_simp; exact hRz.out _ _ ⟨ext_alloc _ _, rfl, rfl⟩)
    intro v9 u9 x9 hG9 K hK
    have hF9 := hG9.fact
    (try dsimp only at hF9)
    obtain ⟨rfl, rfl⟩ := hF9
    (try simp only [Act.put, List.setIfInBounds_toArray, List.set_cons_zero, List.set_cons_succ]); refine hK _ _ ?_; clear hK K
    repeat (first | (refine m_plain (v := ?_) (by rfl) (by rfl) ?_ ?_; rotate_left; (intro wz hSw; obtain ⟨-, hSc⟩ := hSw; (try simp only [List.forall_mem_cons, List.forall_mem_nil, and_true] at hSc); go_simp; (first | done | with_reducible rfl)); (intro K hK; (try simp only [Act.put, List.setIfInBounds_toArray, List.set_cons_zero, List.set_cons_succ]); refine hK _ _ ?_; clear hK K)) | (refine m_skip (by rfl) (by rfl) ?_; (intro K hK; (try simp only [Act.put, List.setIfInBounds_toArray, List.set_cons_zero, List.set_cons_succ]); refine hK _ _ ?_; clear hK K)))
    refine m_make (by rfl) (by rfl) ?_ ?_
    · intro wz hSw hdep R hRz
      obtain ⟨hSe, hSc⟩ := hSw
      (try simp only [List.forall_mem_cons, List.forall_mem_nil, and_true] at hSc)
      unfold does
      (go_simp; exact hRz.out _ _ ⟨ext_alloc _ _, rfl, rfl⟩)
    intro v13 u13 x13 hG13 K hK
    have hF13 := hG13.fact
    (try dsimp only at hF13)
    obtain ⟨rfl, rfl⟩ := hF13
    (try simp only [Act.put, List.setIfInBounds_toArray, List.set_cons_zero, List.set_cons_succ]); refine hK _ _ ?_; clear hK K
    repeat (first | (refine m_plain (v := ?_) (by rfl) (by rfl) ?_ ?_; rotate_left; (intro wz hSw; obtain ⟨-, hSc⟩ := hSw; (try simp only [List.forall_mem_cons, List.forall_mem_nil, and_true] at hSc); go_simp; (first | done | with_reducible rfl)); (intro K hK; (try simp only [Act.put, List.setIfInBounds_toArray, List.set_cons_zero, List.set_cons_succ]); refine hK _ _ ?_; clear hK K)) | (refine m_skip (by rfl) (by rfl) ?_; (intro K hK; (try simp only [Act.put, List.setIfInBounds_toArray, List.set_cons_zero, List.set_cons_succ]); refine hK _ _ ?_; clear hK K)))
    refine m_make (by rfl) (by rfl) ?_ ?_
    · intro wz hSw hdep R hRz
      obtain ⟨hSe, hSc⟩ := hSw
      (try simp only [List.forall_mem_cons, List.forall_mem_nil, and_true] at hSc)
      unfold does
      (go_simp; exact hRz.out _ _ ⟨ext_alloc _ _, rfl, rfl⟩)
    intro v15 u15 x15 hG15 K hK
    have hF15 := hG15.fact
    (try dsimp only at hF15)
    obtain ⟨rfl, rfl⟩ := hF15
    (try simp only [Act.put, List.setIfInBounds_toArray, List.set_cons_zero, List.set_cons_succ]); refine hK _ _ ?_; clear hK K
    repeat (first | (refine m_plain (v := ?_) (by rfl) (by rfl) ?_ ?_; rotate_left; (intro wz hSw; obtain ⟨-, hSc⟩ := hSw; (try simp only [List.forall_mem_cons, List.forall_mem_nil, and_true] at hSc); go_simp; (first | done | with_reducible rfl)); (intro K hK; (try simp only [Act.put, List.setIfInBounds_toArray, List.set_cons_zero, List.set_cons_succ]); refine hK _ _ ?_; clear hK K)) | (refine m_skip (by rfl) (by rfl) ?_; (intro K hK; (try simp only [Act.put, List.setIfInBounds_toArray, List.set_cons_zero, List.set_cons_succ]); refine hK _ _ ?_; clear hK K)))
    refine m_nil ?_
    intro wf hSf hAf
    have G1 := made_blk (hAf 5 _ rfl : Ext (u5.alloc _) wf)
    have G2 := made_blk (hAf 9 _ rfl : Ext (u9.alloc _) wf)
    have G3 := made_blk (hAf 13 _ rfl : Ext (u13.alloc _) wf)
    have G4 : Hdr wf u15.heap.size _ _ _ _ := made_blk (hAf 15 _ rfl : Ext (u15.alloc _) wf)
    have n1 := ord_ne (hG9.order 5 _ rfl)
    have n2 := ord_ne (hG13.order 5 _ rfl)
    have n3 := ord_ne (hG13.order 9 _ rfl)
    have n4 := ord_ne (hG15.order 5 _ rfl)
    have n5 := ord_ne (hG15.order 9 _ rfl)
    have n6 := ord_ne (hG15.order 13 _ rfl)
    have z1 := Below.size hG5.s.1
    have z2 := Below.size hG9.s.1
    have z3 := Below.size hG13.s.1
    have z4 := Below.size hG15.s.1
    have zW : w.heap.size + 2 ≤ W.heap.size := by rw [← hW.out]; simp
    have ef : Ext W wf := hSf.1
    clear hSf hAf hG5 hG9 hG13 hG15
    generalize u5.heap.size = g1 at *
    generalize u9.heap.size = g2 at *
    generalize u13.heap.size = g3 at *
    generalize u15.heap.size = g4 at *
    clear u5 u9 u13 u15
    have HA := hxW.up ef
    have HR := hrW.up ef
    have AA : Hid (ArrAt wf (fun b => b < w.heap.size) a sa na ia) := (ArrAt.later (ArrAt.mono (fun b hb _ => hb) a h0.out) (Below.trans heW (Below.mono ef (by omega))))
    have BB : Below w.heap.size w wf := Below.trans heW (Below.mono ef (by omega))
    go_wp2_with (first
      | (refine wpl_store4 rfl (.tmp 3) (.tmp 20) rfl g4 rfl rfl G4 ?_; intro V1 HX1 C1; have q0 := HX1.c1; have q1 := HX1.c2; have HA1 := C1.hdr HA (by omega); have r0 := HA1.c1; have r1 := HA1.c2)
      | (refine wpl_copyI rfl (.tmp 22) (.tmp 24) rfl g1 _ _ (fun b => b < w.heap.size) sa sc a.shape.length a.shape rfl rfl (C1.row G1 (by omega)) (madeI_size _) (C1.arr AA.out (fun q hq => by omega)).shape ?_; intro V2 R2 C2; have HX2 := C2.hdr HX1 (by omega); have HA2 := C2.hdr HA1 (by omega); have s0 := HX2.c2; have s1 := HA2.c2; clear q0 q1 r0 r1)
      | (refine wpl_copyI rfl (.tmp 27) (.tmp 29) rfl g2 _ _ (fun b => b < w.heap.size) na nc a.nums.length a.nums rfl rfl (C2.row (C1.row G2 (by omega)) (by omega)) (madeI_size _) (C2.arr (C1.arr AA.out (fun q hq => by omega)) (fun q hq => by omega)).nums ?_; intro V3 R3 C3; have HX3 := C3.hdr HX2 (by omega); have HA3 := C3.hdr HA2 (by omega); have p0 := HX3.c3; have p1 := HA3.c3; clear s0 s1))
    have hz3 : V3.heap.size = wf.heap.size := by rw [C3.z, C2.z, C1.z]
    have hzf := Below.size ef
    have l1 := lt_of_block G1
    have l2 := lt_of_block G2
    have l3 := lt_of_block G3
    have l4 := lt_of_block G4
    have B3 : Below w.heap.size w V3 := C3.below (C2.below (C1.below BB (by omega)) (by omega)) (by omega)
    have G13 := C3.row R2 (by omega)
    have G33 := C3.row (C2.row (C1.row G3 (by omega)) (by omega)) (by omega)
    have A3 := hid (C3.arr (C2.arr (C1.arr AA.out (fun q hq => by omega)) (fun q hq => by omega)) (fun q hq => by omega)).items
    have HR3 := C3.hdr (C2.hdr (C1.hdr HR (by omega)) (by omega)) (by omega)
    have P0 : PartA V3 (fun b => V3.heap.size ≤ b ∧ CapB V3 b) g3 a.items.length [] := partA_made G33 (fun b hb => by omega)
    have F0 : FillB V3 g3 0 a.items.length := FillB.start G33 (madeA_size _)
    have m1 : g3 < V3.heap.size := by omega
    have m4 : g4 < V3.heap.size := by omega
    have mw : w.heap.size + 1 < V3.heap.size := by omega
    have mg1 : g1 < V3.heap.size := by omega
    have mg2 : g2 < V3.heap.size := by omega
    have mg : w.heap.size + 2 ≤ g1 ∧ w.heap.size + 2 ≤ g2 ∧ w.heap.size + 2 ≤ g3 ∧ w.heap.size + 2 ≤ g4 := by omega
    clear G1 G2 G3 G4 z1 z2 z3 z4 l1 l2 l3 l4 zW ef BB HX1 HX2 HA1 HA2 C1 C2 C3 R2 AA HA HR hxW hrW heW hz3 hzf mS mN mI hW
    replace n1 := hid n1
    replace n2 := hid n2
    replace n3 := hid n3
    replace n4 := hid n4
    replace n5 := hid n5
    replace n6 := hid n6
    replace B3 := hid B3
    go_loopw [34] (fun i wr => ∃ k : Nat, k ≤ a.items.length ∧ i = .int .i64 k ∧ PartA wr (fun b => V3.heap.size ≤ b ∧ CapB wr b) g3 a.items.length (a.items.take k) ∧ FillB wr g3 k a.items.length ∧ V3.grownBy wr (some g3)) (fun i _ => a.items.length - (intOf i).toNat)
    case atStart => exact ⟨0, Nat.zero_le _, rfl, by simpa using P0, F0, World.grownBy.refl _ _⟩
    case round =>
      obtain ⟨k, hk, rfl, hp, hf, hg⟩ := hrel
      replace hf := hid hf
      have hp := hid hp
      have hs := hg.size
      by_cases hlt : k < a.items.length
      · obtain ⟨b, off, sa', sc', na', nc', ja', jc', rfl, hS, hbl, e0, e1, e2, e3, hx⟩ := (A3.out.grown hg (fun b hb _ => by simp; omega)).at hlt
        have hmem := hid (List.getElem_mem hlt)
        have hT : Hid (a.items.take (k + 1) = a.items.take k ++ [a.items[k]]) := (List.take_append_getElem hlt).symm
        have hL : Hid ((a.items.take k).length = k) := by simp only [Hid, List.length_take]; omega
        generalize a.items[k] = x at e0 e1 e2 e3 hx hmem hT
        generalize a.items.take k = l at hT hL hp
        have HX := hid hx
        have ki0 : (0 : Int) ≤ (k : Int) := Int.natCast_nonneg _
        have ki1 : (k : Int) < (a.items.length : Int) := by omega
        have d3 := (HX3.grown hg (by have := n6.out; simp; omega)).c3
        clear hx p0 p1
        go_wp2_with fail
        have hy := hdr_new wr (.int .i64 x.kind) (.slice sa' x.shape.length sc') (.slice na' x.nums.length nc') (.slice ja' x.items.length jc')
        have d3' := (Hdr.up (HX3.grown hg (by have := n6.out; simp; omega)) (ext_alloc wr (.cells #[.int .i64 x.kind, .slice sa' x.shape.length sc', .slice na' x.nums.length nc', .slice ja' x.items.length jc'] 27))).c3
        have HX' := hid (HX.out.alloc (.cells #[.int .i64 x.kind, .slice sa' x.shape.length sc', .slice na' x.nums.length nc', .slice ja' x.items.length jc'] 27))
        have eY := ext_alloc wr (.cells #[.int .i64 x.kind, .slice sa' x.shape.length sc', .slice na' x.nums.length nc', .slice ja' x.items.length jc'] 27)
        generalize wr.alloc (.cells #[.int .i64 x.kind, .slice sa' x.shape.length sc', .slice na' x.nums.length nc', .slice ja' x.items.length jc'] 27) = wy at *
        clear d3 e0 e1 e2 e3
        refine wp_region_mono_tail 6 (Sees wy [(⟨g4, 3, none⟩, .slice (some ⟨g3, 0, none⟩) a.items.length a.items.length), (⟨wr.heap.size, 0, none⟩, .int .i64 x.kind), (⟨wr.heap.size, 1, none⟩, .slice sa' x.shape.length sc'), (⟨wr.heap.size, 2, none⟩, .slice na' x.nums.length nc'), (⟨wr.heap.size, 3, none⟩, .slice ja' x.items.length jc')]) [4] (fun k v u u' => match k with | 4 => RetAG u x (.returned v) u' | _ => False) (fun _ _ h e => h.up e) (Sees.start (all_cons (d3') (all_cons (hy.c0) (all_cons (hy.c1) (all_cons (hy.c2) (all_cons (hy.c3) (all_nil))))))) (by kernel_rfl) (by kernel_rfl) ?_
        simp only [List.take_succ_cons, List.take_zero, List.drop_succ_cons, List.drop_zero]
        repeat (first | (refine m_plain (v := ?_) (by rfl) (by rfl) ?_ ?_; rotate_left; (intro wz hSw; obtain ⟨-, hSc⟩ := hSw; (try simp only [List.forall_mem_cons, List.forall_mem_nil, and_true] at hSc); go_simp; (first | done | with_reducible rfl)); (intro K hK; (try simp only [Act.put, List.setIfInBounds_toArray, List.set_cons_zero, List.set_cons_succ]); refine hK _ _ ?_; clear hK K)) | (refine m_skip (by rfl) (by rfl) ?_; (intro K hK; (try simp only [Act.put, List.setIfInBounds_toArray, List.set_cons_zero, List.set_cons_succ]); refine hK _ _ ?_; clear hK K)))
        refine m_make (by rfl) (by rfl) ?_ ?_
        · intro wz hSw hdep R hRz
          obtain ⟨hSe, hSc⟩ := hSw
          (try simp only [List.forall_mem_cons, List.forall_mem_nil, and_true] at hSc)
          unfold does
          (go_simp; refine Calls.mono (IH.out x hmem.out sa' sc' na' nc' ja' jc' _ wz (HX'.out.later hSe)) ?_; rintro e wq ⟨ta, tn, ti, rfl, hq, hqb⟩; exact ⟨_, rfl, hRz.out _ _ ⟨hqb, ta, tn, ti, rfl, hq, hqb⟩⟩)
        intro v4 u4 x4 hG4 K hK
        have hF4 := hG4.fact
        (try dsimp only at hF4)
        obtain ⟨ta, tn, ti, he, hq, hqb⟩ := hF4
        injection he with he
        subst he
        (try simp only [Act.put, List.setIfInBounds_toArray, List.set_cons_zero, List.set_cons_succ]); refine hK _ _ ?_; clear hK K
        repeat (first | (refine m_plain (v := ?_) (by rfl) (by rfl) ?_ ?_; rotate_left; (intro wz hSw; obtain ⟨-, hSc⟩ := hSw; (try simp only [List.forall_mem_cons, List.forall_mem_nil, and_true] at hSc); go_simp; (first | done | with_reducible rfl)); (intro K hK; (try simp only [Act.put, List.setIfInBounds_toArray, List.set_cons_zero, List.set_cons_succ]); refine hK _ _ ?_; clear hK K)) | (refine m_skip (by rfl) (by rfl) ?_; (intro K hK; (try simp only [Act.put, List.setIfInBounds_toArray, List.set_cons_zero, List.set_cons_succ]); refine hK _ _ ?_; clear hK K)))
        refine m_nil ?_
        intro wf hSf hAf
        have e4 : Ext x4 wf := hAf 4 _ rfl
        have eu : Ext wr u4 := eY.trans hG4.s.1
        have zu := Below.size eu
        have HQ := hid (capAt_turn (B' := V3.heap.size) hq (fun b _ hlt => Below.block e4 b hlt) (by omega))
        have gF := grown_ext hg (eY.trans hSf.1)
        have ef := eY.trans hSf.1
        have pF : PartA wf (fun b => V3.heap.size ≤ b ∧ CapB wf b) g3 a.items.length l := PartA.turnG hp.out (Ext.blk' ef (by omega)) (fun q hq hlt => Below.block ef q hlt) (fun b hb => by omega) (fun b hlt hb => ⟨hb.1, hb.2.keep (Below.block ef b hlt)⟩)
        have fF : FillB wf g3 l.length a.items.length := by rw [hL.out]; exact hf.out.keep (Ext.blk' ef (by omega))
        clear hSf hAf hG4 hq hqb e4 eu eY hy d3'
        go_wp2_with (refine wpl_storeG rfl (.tmp 44) (.tmp 43) rfl g3 a.items.length (by rw [hL.out]; rfl) rfl pF (by rw [hL.out]; exact hlt) HQ.out fF (Nat.le_refl _) (Nat.le_refl _) (Nat.le_refl _) ?_; intro V hV hfV hC)
        rw [hL.out] at hfV
        replace hfV := hid hfV
        have hV' : Hid (PartA V (fun b => V3.heap.size ≤ b ∧ CapB V b) g3 a.items.length (l ++ [x])) := hid (PartA.turnG hV rfl (fun _ _ _ => rfl) (fun b hb => by omega) (fun b hlt hb => ⟨hb.1, hb.2.keep (hC.blk (by have := hC.z; omega) (by omega))⟩))
        have gV := grown_chg gF hC
        clear hV hC pF gF ef fF
        go_wp2_with fail
        go_roundw
        case rel => exact ⟨k + 1, by omega, by go_num, by rw [hT.out]; exact hV'.out, hfV.out, gV⟩
        case measure => simp [intOf]; omega
      · have hke : a.items.take k = a.items := List.take_of_length_le (by omega)
        have hp' := hp.out
        rw [hke] at hp'
        have HP := hid hp'
        have H3 := HX3.grown hg (by have := n6.out; simp; omega)
        have HR' := HR3.grown hg (by simp; omega)
        have AS : Hid (IntsAt wr (fun b => b = g1) (some ⟨g1, 0, none⟩) a.shape) := (row_ints (S := fun b => b = g1) (G13) hsl rfl).grown hg (fun b hb _ => by have := n2.out; simp; omega)
        have AN : Hid (IntsAt wr (fun b => b = g2) (some ⟨g2, 0, none⟩) a.nums) := (row_ints (S := fun b => b = g2) R3 hnl rfl).grown hg (fun b hb _ => by have := n3.out; simp; omega)
        have U1 : CapB wr g1 := (capB_ints G13).keep (hg.block g1 mg1 (by have := n2.out; simp; omega))
        have U2 : CapB wr g2 := (capB_ints R3).keep (hg.block g2 mg2 (by have := n3.out; simp; omega))
        have U3 : CapB wr g3 := FillB.done (by have := hf.out; rw [show k = a.items.length by omega] at this; exact this)
        have Bw := hid (B3.out.grown hg B3.out.size (fun q hq => by injection hq with hq; omega))
        replace U1 := hid U1
        replace U2 := hid U2
        replace U3 := hid U3
        clear hke hp' hp hg p0 p1 HX3 HA3 HR3 G13 G33 R3 P0 hk
        go_wp2_with (first
          | (refine wpl_load4 rfl (.tmp 3) rfl g4 rfl H3 ?_)
          | (refine wpl_store4 rfl (.tmp 2) (.tmp 46) rfl (w.heap.size + 1) rfl rfl HR' ?_; intro V hV hC))
        refine bodyPost_ret (end_arr rfl hV rfl) rfl (hR.out _ _ ?_)
        have hk : ∀ b, b < wr.heap.size → b ≠ w.heap.size + 1 → CapB wr b → CapB V b := fun b hb hne h => h.keep (hC.blk hb hne)
        have hzw := hs
        refine ⟨some ⟨g1, 0, none⟩, some ⟨g2, 0, none⟩, some ⟨g3, 0, none⟩, rfl, ArrAt.iff.2 ⟨?_, ?_, hil, ?_⟩, ?_⟩
        · exact (hC.ints AS.out (fun q hq => by omega)).mono fun b hlt hb => ⟨by omega, by subst hb; exact hk _ (by omega) (by omega) U1.out⟩
        · exact (hC.ints AN.out (fun q hq => by omega)).mono fun b hlt hb => ⟨by omega, by subst hb; exact hk _ (by omega) (by omega) U2.out⟩
        · have hI := HP.out.items (T := fun b => (w.heap.size + 2 ≤ b ∧ CapB wr b)) (fun b hb => ⟨by omega, hb.2⟩) ⟨by omega, U3.out⟩
          exact (hC.items hI (fun q hq => by omega)).mono fun b hlt hb => ⟨by omega, hk b (by have := hC.z; omega) (by omega) hb.2⟩
        · exact hC.below Bw.out (by omega)
end Go.Proofs.Ytdpdcjadedcglaa
namespace Go.Proofs.Ytdpdcjadedcglaa
open Go.RowKit Go.Sort
/-- a new array whose slices have room -/
@[reducible] def arrG (a : Arr) (sa na ia : Option Addr) : Fact := .gen [] (fun B T w => ArrG w (fun b => T b ∧ B ≤ b) a sa na ia) (fun B T T' w w' h hb hk hT => ArrG.turn h (fun b hb' hlt => hk b hb'.1 hlt) (fun b hlt hb' => ⟨hT b hlt hb'.1, hb'.2⟩))
theorem Env.addArrG {w0 w : World} {S : Nat → Prop} {L : List Fact} (E : Env w0 S w L) {u : World} {a : Arr} {sa na ia : Option Addr} (h : ArrG w (fun b => u.heap.size ≤ b) a sa na ia) (hb : ∀ b ∈ blks L, b < u.heap.size) (hu : w0.heap.size ≤ u.heap.size) : Env w0 S w (L ++ [Go.Proofs.Ytdpdcjadedcglaa.arrG a sa na ia]) :=
  E.add rfl (ArrG.mono h (fun b _ hs => ⟨⟨Or.inr (Nat.le_trans hu hs), fun q => absurd (hb b q) (by omega)⟩, Nat.le_trans hu hs⟩))
theorem Env.arrG {w0 w : World} {S : Nat → Prop} {L : List Fact} (E : Env w0 S w L) (j : Nat) {a : Arr} {sa na ia : Option Addr} (h : L[j]? = some (Go.Proofs.Ytdpdcjadedcglaa.arrG a sa na ia)) : ArrG w (fun b => Tst w0 S L b ∧ w0.heap.size ≤ b) a sa na ia := E.get j h
theorem RetAG.eq {w w' : World} {a b : Arr} {e : Ending} (h : RetAG w a e w') (q : b = a) : RetAG w b e w' := q ▸ h
/-- a row as it lies in memory -/
structure CelV where
  x : Arr
  s : Option Addr
  n : Option Addr
  i : Option Addr
def CelV.enc (r : CelV) : List Value := [.int .i64 r.x.kind, .slice r.s r.x.shape.length r.x.shape.length, .slice r.n r.x.nums.length r.x.nums.length, .slice r.i r.x.items.length r.x.items.length]
def encC (l : List CelV) : List Value := l.flatMap CelV.enc
theorem encC_len (l : List CelV) : (encC l).length = l.length * 4 := by
  induction l with
  | nil => rfl
  | cons r l ih => rw [encC, List.flatMap_cons, List.length_append, ← encC, ih]; simp [CelV.enc]; omega
theorem encC_app (l m : List CelV) : encC (l ++ m) = encC l ++ encC m := by simp [encC]
theorem encC_one (l : List CelV) : ∀ u ∈ encC l, u.oneCell' = true := by
  intro u hu
  simp only [encC, List.mem_flatMap, CelV.enc] at hu
  obtain ⟨r, _, hu⟩ := hu
  simp only [List.mem_cons, List.not_mem_nil, or_false] at hu
  rcases hu with rfl | rfl | rfl | rfl <;> rfl
theorem encC_get : ∀ {l : List CelV} {k : Nat} (h : k < l.length) (j : Nat), j < 4 → (encC l)[k * 4 + j]? = (l[k]).enc[j]?
  | [], k, h, j, hj => by simp at h
  | r :: l, 0, h, j, hj => by
    rw [encC, List.flatMap_cons, List.getElem?_append_left (by simp [CelV.enc]; omega)]
    simp
  | r :: l, k + 1, h, j, hj => by
    rw [encC, List.flatMap_cons, List.getElem?_append_right (by simp [CelV.enc]; omega), ← encC]
    have := encC_get (l := l) (k := k) (by simpa using h) j hj
    rw [show (k + 1) * 4 + j - r.enc.length = k * 4 + j by simp [CelV.enc]; omega]
    simpa using this
/-- a slice of rows that is read -/
def CelsAt (w : World) (T : Nat → Prop) (ao : Option Addr) (l : List CelV) : Prop :=
  ∀ k (h : k < l.length), ∃ b off, ao = some ⟨b, off, none⟩ ∧ T b ∧ b < w.heap.size ∧ (∀ j u, (l[k]).enc[j]? = some u → w.cell? ⟨b, off + k * 4 + j, none⟩ = some u) ∧ ArrG w T (l[k]).x (l[k]).s (l[k]).n (l[k]).i
def OwnC (w : World) (B : Nat) (T : Nat → Prop) (ao : Option Addr) (cap : Nat) (l : List CelV) : Prop :=
  w.ownsRow B 27 4 (.slice ao l.length cap) l.length (encC l) ∧ ∀ r ∈ l, ArrG w (fun b => T b ∧ some b ≠ rowOf ao) r.x r.s r.n r.i
section
variable {w w' V : World} {B : Nat} {T T' : Nat → Prop} {ao : Option Addr} {cap : Nat} {l m : List CelV}
theorem CelsAt.turn (h : CelsAt w T ao l) (hk : ∀ b, T b → b < w.heap.size → w'.heap[b]? = w.heap[b]?) (hT : ∀ b, b < w.heap.size → T b → T' b) : CelsAt w' T' ao l := fun k hl => by
  obtain ⟨b, off, e, hb, hlt, hc, hx⟩ := h k hl
  have hq := hk b hb hlt
  refine ⟨b, off, e, hT b hlt hb, ?_, fun j u hu => ?_, ArrG.turn hx hk hT⟩
  · rw [Array.getElem?_eq_getElem hlt] at hq
    exact (Array.getElem?_eq_some_iff.1 hq).1
  · exact cell_keep hq (hc j u hu)
theorem CelsAt.up (h : CelsAt w T ao l) (e : Ext w w') : CelsAt w' T ao l := h.turn (fun b _ hlt => e.block b hlt) (fun _ _ h => h)
theorem CelsAt.mono (h : CelsAt w T ao l) (hT : ∀ b, b < w.heap.size → T b → T' b) : CelsAt w T' ao l := h.turn (fun _ _ _ => rfl) hT
theorem CelsAt.nil (w : World) (T : Nat → Prop) (ao : Option Addr) : CelsAt w T ao [] := fun k h => by simp at h
theorem CelsAt.take (h : CelsAt w T ao l) (n : Nat) : CelsAt w T ao (l.take n) := fun k hk => by
  have hk2 : k < n ∧ k < l.length := by simp at hk; omega
  rw [List.getElem_take]
  exact h k hk2.2
theorem CelsAt.drop (h : CelsAt w T ao l) (n : Nat) (c : Prop) [Decidable c] (hc : c → l.length ≤ n) : CelsAt w T (if c then ao else ao.map fun x => x.add (n * 4)) (l.drop n) := fun k hk => by
  have hk2 : n + k < l.length := by simp at hk; omega
  have hnc : ¬ c := fun q => by have := hc q; omega
  rw [if_neg hnc, List.getElem_drop]
  obtain ⟨b, off, e, hb, hlt, h1, hx⟩ := h (n + k) hk2
  refine ⟨b, off + n * 4, by rw [e]; simp [Addr.add_lit], hb, hlt, fun j u hu => ?_, hx⟩
  rw [← h1 j u hu]
  congr 2
  omega
theorem OwnC.nil (w : World) (B : Nat) (T : Nat → Prop) : OwnC w B T none 0 [] := ⟨World.ownsRow_nil _ _ _ _, by simp⟩
theorem OwnC.row (h : OwnC w B T ao cap l) : ∀ k, rowOf ao = some k → B ≤ k ∧ k < w.heap.size := fun k hk => World.ownsRow.lt h.1 k (by rw [ownBlock_slice]; exact hk)
theorem OwnC.turn (h : OwnC w B T ao cap l) (hr : ∀ k, rowOf ao = some k → w'.heap[k]? = w.heap[k]?) (hk : ∀ b, T b → b < w.heap.size → w'.heap[b]? = w.heap[b]?) (hT : ∀ b, b < w.heap.size → T b → T' b) : OwnC w' B T' ao cap l := by
  refine ⟨⟨h.1.1, ?_⟩, fun r hr' => ArrG.turn (h.2 r hr') (fun b hb hlt => hk b hb.1 hlt) (fun b hlt hb => ⟨hT b hlt hb.1, hb.2⟩)⟩
  rcases h.1.2 with a2 | ⟨g, c, cur, e, hb, hg, r⟩
  · exact Or.inl a2
  · refine Or.inr ⟨g, c, cur, e, hb, ?_, r⟩
    injection e with e1 e2 e3
    rw [hr g (by rw [e1]; rfl)]; exact hg
theorem OwnC.rows (h : OwnC w B T ao cap l) : CelsAt w (fun b => T b ∨ (B ≤ b ∧ rowOf ao = some b)) ao l := fun k hk => by
  rcases h.1.2 with ⟨_, hn⟩ | ⟨g, c, cur, e, hb, hgg, _⟩
  · omega
  · injection e with f1 f2 f3
    subst f1
    have hc := World.ownsRow.cells h.1 (g := g) rfl
    refine ⟨g, 0, rfl, Or.inr ⟨hb, rfl⟩, (Array.getElem?_eq_some_iff.1 hgg).1, fun j u hu => ?_, ArrG.mono (h.2 _ (List.getElem_mem hk)) (fun b _ hs => Or.inl hs.1)⟩
    have hj : j < 4 := by have := (List.getElem?_eq_some_iff.1 hu).1; simpa [CelV.enc] using this
    have := hc (k * 4 + j) u (by rw [encC_get hk j hj]; exact hu)
    simp only [Addr.add_lit] at this
    simpa using this
theorem OwnC.caple (h : OwnC w B T ao cap l) : l.length ≤ cap := by
  rcases h.1.2 with ⟨_, hn⟩ | ⟨g, c, cur, e, hb, hgg, hnc, _⟩
  · omega
  · injection e with e1 e2 e3; omega
end
theorem run_appC (w : World) (ty : TypeId) (base : Nat) (S : Nat → Prop) (ao : Option Addr) (cap : Nat) (l : List CelV) (hown : OwnC w base S ao cap l) (T : Nat → Prop) (so : Option Addr) (sc : Nat) (m : List CelV) (hm : CelsAt w T so m)
    (hTS : ∀ b, b < w.heap.size → T b → S b ∧ some b ≠ rowOf ao) (hlen : l.length + m.length ≤ 1000000000000) (hbase : base ≤ w.heap.size) :
    ∃ ao' cap' w', (Builtin.append_ #[25, 25] ty #[.slice ao l.length cap, .slice so m.length sc]).run Try.prog w = .ok (.slice ao' (l ++ m).length cap') w' ∧ OwnC w' base (fun b => S b ∧ b < w.heap.size) ao' cap' (l ++ m) ∧ w.grownBy w' (rowOf ao) ∧
      (rowOf ao' = rowOf ao ∨ rowOf ao' = some w.heap.size) := by
  obtain ⟨i0, hi, hz0, hz1, hz2⟩ := info_parts infoArr
  obtain ⟨hrow, hcs⟩ := hown
  have hcs' : ∀ r ∈ l ++ m, ArrG w (fun b => (S b ∧ b < w.heap.size) ∧ some b ≠ rowOf ao) r.x r.s r.n r.i := fun r hr => by
    rcases List.mem_append.1 hr with hr | hr
    · exact ArrG.mono (hcs r hr) (fun b hb hs => ⟨⟨hs.1, hb⟩, hs.2⟩)
    · obtain ⟨k, hk, rfl⟩ := List.getElem_of_mem hr
      obtain ⟨_, _, _, _, _, _, hx⟩ := hm k hk
      exact ArrG.mono hx (fun b hb hs => ⟨⟨(hTS b hb hs).1, hb⟩, (hTS b hb hs).2⟩)
  cases so with
  | none =>
    have hy : m = [] := by
      cases m with
      | nil => rfl
      | cons y r => obtain ⟨_, _, e, _⟩ := hm 0 (by simp); cases e
    subst hy
    refine ⟨ao, cap, w, ?_, ⟨by simpa using hrow, by simpa using fun r hr => hcs' r (by simpa using hr)⟩, World.grownBy.refl _ _, Or.inl rfl⟩
    have := run_append_nothing (P := Try.prog) w base 25 ty 27 i0 4 Try.underlying25 hi _ _ _ hrow sc
    simpa using this
  | some ad =>
    have hnews : ∀ j u, (encC m)[j]? = some u → w.cell? (ad.add j) = some u := by
      intro j u hu
      have hj : j < m.length * 4 := by have := (List.getElem?_eq_some_iff.1 hu).1; rw [encC_len] at this; exact this
      have hk : j / 4 < m.length := by omega
      obtain ⟨b, off, e, _, _, hc, _⟩ := hm (j / 4) hk
      injection e with e
      subst e
      rw [show j = j / 4 * 4 + j % 4 by omega, encC_get hk _ (by omega)] at hu
      have := hc _ u hu
      rw [Addr.add_lit]
      rw [← this]
      congr 2
      omega
    obtain ⟨v', w', hr, ho, hg, _, hb⟩ := run_append_own_at (P := Try.prog) w base 25 ty 27 i0 (.agg #[.int .i64 0, .slice none 0 0, .slice none 0 0, .slice none 0 0]) 4 80 Try.underlying25 hi hz0 hz1 hz2 rfl (by decide) (.slice ao l.length cap) l.length (encC l) hrow
      ad m.length sc (encC m) (encC_len m) hnews (encC_one m) (by unfold maxLen; omega) (by omega) hbase
    obtain ⟨ao', cap', rfl⟩ := slice_form ho
    rw [ownBlock_slice] at hg
    rw [ownBlock_slice, ownBlock_slice] at hb
    refine ⟨ao', cap', w', by simpa using hr, ⟨by rw [encC_app]; simpa using ho, fun r hr => ?_⟩, hg, hb⟩
    refine ArrG.turn (hcs' r hr) (fun b hs hlt => hg.block b hlt hs.2) (fun b hb' hs => ⟨hs.1, ?_⟩)
    rcases hb with hb | hb
    · rw [hb]; exact hs.2
    · rw [hb]; intro e; injection e with e; have := hs.1.2; omega
@[reducible] def rowC (ao : Option Addr) (cap : Nat) (l : List CelV) : Fact := .gen (rowOf ao).toList (fun B T w => OwnC w B T ao cap l) (fun B T T' w w' h hb hk hT => h.turn (fun k hk' => hb k (by simp [hk'])) hk hT)
@[reducible] def celsF (ao : Option Addr) (l : List CelV) : Fact := .gen [] (fun B T w => CelsAt w T ao l) (fun B T T' w w' h hb hk hT => h.turn hk hT)
section
variable {w0 w V : World} {S : Nat → Prop} {L : List Fact}
theorem Env.rowC (E : Env w0 S w L) (j : Nat) {ao : Option Addr} {cap : Nat} {l : List CelV} (h : L[j]? = some (Go.Proofs.Ytdpdcjadedcglaa.rowC ao cap l)) : OwnC w w0.heap.size (Tst w0 S L) ao cap l := E.get j h
theorem Env.celsF (E : Env w0 S w L) (j : Nat) {ao : Option Addr} {l : List CelV} (h : L[j]? = some (Go.Proofs.Ytdpdcjadedcglaa.celsF ao l)) : CelsAt w (Tst w0 S L) ao l := E.get j h
theorem Env.addCels (E : Env w0 S w L) {T : Nat → Prop} {ao : Option Addr} {l : List CelV} (h : CelsAt w T ao l) (hS : ∀ b, b < w.heap.size → T b → Tst w0 S L b) : Env w0 S w (L ++ [Go.Proofs.Ytdpdcjadedcglaa.celsF ao l]) := E.add rfl (h.mono hS)
theorem Env.appC (E : Env w0 S w L) (j : Nat) {ao ao' : Option Addr} {cap cap' : Nat} {l l' : List CelV} (h : L[j]? = some (Go.Proofs.Ytdpdcjadedcglaa.rowC ao cap l)) (hown : OwnC V w0.heap.size (fun b => Tst w0 S L b ∧ b < w.heap.size) ao' cap' l') (hg : w.grownBy V (rowOf ao)) (hr : rowOf ao' = rowOf ao ∨ rowOf ao' = some w.heap.size) : Env w0 S V (L.set j (Go.Proofs.Ytdpdcjadedcglaa.rowC ao' cap' l')) := by
  have hrow := (E.rowC j h).row
  have hnew : ∀ b ∈ (Go.Proofs.Ytdpdcjadedcglaa.rowC ao' cap' l').blk, b ∈ (Go.Proofs.Ytdpdcjadedcglaa.rowC ao cap l).blk ∨ (w.heap.size ≤ b ∧ b < V.heap.size) := fun b hb => by
    simp only [Fact.blk, Option.mem_toList, Option.mem_def] at hb ⊢
    rcases hr with e | e
    · exact Or.inl (e ▸ hb)
    · rw [e] at hb; injection hb with hb; subst hb
      exact Or.inr ⟨Nat.le_refl _, (hown.row _ e).2⟩
  refine E.turn j h (E.ext.grown hg E.size (fun k hk => (hrow k hk).1)) hg.size (fun b hb hne => hg.block b hb (fun e => hne (by simp [Fact.blk, ← e]))) hnew (nodup_opt _) (hown.turn (fun _ _ => rfl) (fun _ _ _ => rfl) fun b hlt hs => ⟨hs.1.1, fun hb => ?_⟩)
  obtain ⟨A, C, h1, h2⟩ := blks_set (g := Go.Proofs.Ytdpdcjadedcglaa.rowC ao' cap' l') h
  obtain ⟨⟨_, hn⟩, hl⟩ := hs
  rw [h2] at hb
  rw [h1] at hn
  simp only [List.mem_append] at hb hn
  rcases hb with (hb | hb) | hb
  · exact hn (Or.inl (Or.inl hb))
  · rcases hnew b hb with h' | h'
    · exact hn (Or.inl (Or.inr h'))
    · omega
  · exact hn (Or.inr hb)
theorem Env.doneC (E : Env w0 S w L) (j : Nat) {ao : Option Addr} {cap : Nat} {l : List CelV} (h : L[j]? = some (Go.Proofs.Ytdpdcjadedcglaa.rowC ao cap l)) : Env w0 S w (L.set j (Go.Proofs.Ytdpdcjadedcglaa.celsF ao l)) :=
  E.freeze j h rfl ((E.rowC j h).rows.mono fun b _ hb => by
    rcases hb with hb | hb
    · exact Or.inl hb
    · exact Or.inr (by simp [Fact.blk, hb.2]))
theorem Env.row0C (E : Env w0 S w L) : Env w0 S w (L ++ [Go.Proofs.Ytdpdcjadedcglaa.rowC none 0 []]) := E.add rfl (OwnC.nil _ _ _)
end
section
variable {ops : Array Oper} {rest : List Oper} {o : Oper} {a : Act} {Q : Exit → Act → World → Prop} {w0 w : World} {S : Nat → Prop} {L : List Fact}
theorem wplE_appC (E : Env w0 S w L) (j : Nat) {ao : Option Addr} {cap : Nat} {l : List CelV} (hj : L[j]? = some (Go.Proofs.Ytdpdcjadedcglaa.rowC ao cap l)) (hgd : o.guard = none) (s x : Operand) (ho : o.op = .call { callee := .builtin .append, args := #[s, x], argTypes := #[25, 25] })
    (hs : a.eval s = .slice ao l.length cap) (T : Nat → Prop) (so : Option Addr) (sc : Nat) (m : List CelV) (hx : a.eval x = .slice so m.length sc) (hm : CelsAt w T so m) (hS : ∀ b, b < w.heap.size → T b → Tst w0 S L b) (hlen : l.length + m.length ≤ 1000000000000)
    (h : ∀ V ao' cap', Env w0 S V (L.set j (Go.Proofs.Ytdpdcjadedcglaa.rowC ao' cap' (l ++ m))) → wpList Try.prog ops Q rest (a.put o.dst (.slice ao' (l ++ m).length cap')) V) : wpList Try.prog ops Q (o :: rest) a w := by
  refine wpList_plain hgd fun K hK => ?_
  obtain ⟨ao', cap', w', hrun, h1, h2, h3⟩ := run_appC w o.type w0.heap.size (Tst w0 S L) ao cap l (E.rowC j hj) T so sc m hm (fun b hb hs => ⟨hS b hb hs, fun e => (hS b hb hs).2 (mem_blks.2 ⟨_, List.mem_of_getElem? hj, by simp [Fact.blk, ← e]⟩)⟩) hlen E.size
  unfold Oper.wp
  simp [execOp, ho, resolve, invoke, builtin, hs, hx, hrun, Result.andThen]
  have := hK _ _ (h w' ao' cap' (E.appC j hj h1 h2 h3))
  simp at this
  exact this
end
/-- a literal slice of one cell -/
theorem lit_cels {u wf : World} {T : Nat → Prop} {r : CelV} (e : Ext (u.alloc (.cells r.enc.toArray 27)) wf) (hT : T u.heap.size) (h : ArrG wf T r.x r.s r.n r.i) : CelsAt wf T (some ⟨u.heap.size, 0, none⟩) [r] := fun k hk => by
  have hk0 : k = 0 := by simp at hk; omega
  subst hk0
  have hg := made_blk e
  refine ⟨u.heap.size, 0, rfl, hT, lt_of_block hg, fun j q hu => ?_, h⟩
  have := cell_of_row wf u.heap.size j _ _ _ hg
  simp only [List.getElem_cons_zero] at hu
  simpa [hu] using this
/-- a made row without cells -/
theorem Env.row0MC {w0 w : World} {S : Nat → Prop} {L : List Fact} (E : Env w0 S w L) (j : Nat) {g n : Nat} (h : L[j]? = some (.obj g (.cells (madeA n) 27 (0, 0)))) (hn : n ≤ 1000000) : Env w0 S w (L.set j (Go.Proofs.Ytdpdcjadedcglaa.rowC (some ⟨g, 0, none⟩) n [])) := by
  have hl := E.lt j h
  refine E.turn j h E.ext (Nat.le_refl _) (fun _ _ _ => rfl) (fun b hb => Or.inl (by simpa [Fact.blk, rowOf] using hb)) (by simp [Fact.blk, rowOf]) ?_
  exact ⟨⟨rfl, Or.inr ⟨g, n, madeA n, rfl, hl.1, E.obj j h, Nat.zero_le _, by unfold maxLen; omega, madeA_size n, by simp [encC]⟩⟩, by simp⟩
end Go.Proofs.Ytdpdcjadedcglaa
namespace Go.Proofs.Ytdpdcjadedcglaa
open Go.RowKit Go.Sort
attribute [local go_sem ↓] run_max2 run_min2
attribute [local go_sem] eql_ints_nil eql_arrs_nil
set_option maxRecDepth 100000 in
set_option maxHeartbeats 4000000 in
theorem cell_partG (y : Arr) (sy : Option Addr) (cy : Nat) (ny : Option Addr) (my : Nat) (iy : Option Addr) (jy : Nat) (f z : Nat) (s : List Int) (so : Option Addr) (sc : Nat) (p : Arr) (S : Nat → Prop) (w : World) (h : ArrAt w S y sy ny iy) (g : IntsAt w S so s) (hF : Flat y) (hc : y.nums.length ≤ my ∧ y.items.length ≤ jy) (hf : f + z ≤ 1000000) (h3 : y.kind = 3 → f + z ≤ y.items.length) (h4 : y.kind ≠ 3 → f + z ≤ y.nums.length)
    (hp : p = .mk y.kind s ((y.nums.drop f).take z) ((y.items.drop f).take z)) :
    Calls Try.prog 92 #[.agg #[.int .i64 y.kind, .slice sy y.shape.length cy, .slice ny y.nums.length my, .slice iy y.items.length jy], .int .i64 (f : Int), .int .i64 (z : Int), .slice so s.length sc] w (RetAG w p) := by
  refine calls_post fun R' hR => ?_
  have h0 := hid h
  have g0 := hid g
  have hsl := g.1
  have hnl := h.nums.1
  have hil := h.len
  have hw : IntKind.i64.wrap ((f : Int) + (z : Int)) = ((f + z : Nat) : Int) := by rw [IntWalk.i64_in _ (by omega)]; omega
  replace hF := hid hF
  replace hp := hid hp
  obtain ⟨hc1, hc2⟩ := hc
  clear h g
  go_enter Try.func92, Try.ntmps92
  go_upto_region 1 with (fail)
  generalize hEW : ((w).alloc (.cells #[.int .i64 y.kind, .slice sy y.shape.length cy, .slice ny y.nums.length my, .slice iy y.items.length jy] 27)).alloc (.cells #[.int .i64 0, .slice none 0 0, .slice none 0 0, .slice none 0 0] 27) = W
  have E := hid (env2 w S hEW)
  clear hEW
  replace E := hid ((E.out.arg h0.out).argI g0.out)
  (try simp only [List.cons_append, List.nil_append, List.set_cons_zero, List.set_cons_succ] at E)
  obtain ⟨q00, q01, q02, q03⟩ := (E.out.hdr 0 rfl).all
  refine wp_region_mono_tail 6 (Sees W [(⟨w.heap.size, 0, none⟩, .int .i64 y.kind)]) [3, 5] (fun k v u u' => match k with | 3 => ∃ ao cap, v = .slice ao s.length cap ∧ OwnI u' u.heap.size ao cap s | 5 => v = .pointer (some ⟨u.heap.size, 0, none⟩) ∧ u' = u.alloc (.cells #[.int .i64 0, .slice none 0 0, .slice none 0 0, .slice none 0 0] 27) | _ => False) (fun _ _ h e => h.up e) (Sees.start (all_cons (q00) (all_nil))) (by kernel_rfl) (by kernel_rfl) ?_
  simp only [List.take_succ_cons, List.take_zero, List.drop_succ_cons, List.drop_zero]
  repeat (first | (refine m_plain (v := ?_) (by rfl) (by rfl) ?_ ?_; rotate_left; (intro wz hSw; obtain ⟨-, hSc⟩ := hSw; (try simp only [List.forall_mem_cons, List.forall_mem_nil, and_true] at hSc); go_simp; (first | done | with_reducible rfl)); (intro K hK; (try simp only [Act.put, List.setIfInBounds_toArray, List.set_cons_zero, List.set_cons_succ]); refine hK _ _ ?_; clear hK K)) | (refine m_skip (by rfl) (by rfl) ?_; (intro K hK; (try simp only [Act.put, List.setIfInBounds_toArray, List.set_cons_zero, List.set_cons_succ]); refine hK _ _ ?_; clear hK K)))
  refine m_make (by rfl) (by rfl) ?_ ?_
  · intro wz hSw hdep R hRz
    obtain ⟨hSe, hSc⟩ := hSw
    (try simp only [List.forall_mem_cons, List.forall_mem_nil, and_true] at hSc)
    unfold does
    (go_simp; refine Calls.mono (slices_Clone s _ _ _ wz ((E.out.ints 3 rfl).up hSe)) ?_; rintro e wq ⟨ta, tc, rfl, hq, hqb⟩; exact ⟨_, rfl, hRz.out _ _ ⟨hqb, ta, tc, rfl, hq⟩⟩)
  intro v3 u3 x3 hG3 K hK
  have hF3 := hG3.fact
  (try dsimp only at hF3)
  obtain ⟨ta, tc, rfl, ht⟩ := hF3
  (try simp only [Act.put, List.setIfInBounds_toArray, List.set_cons_zero, List.set_cons_succ]); refine hK _ _ ?_; clear hK K
  repeat (first | (refine m_plain (v := ?_) (by rfl) (by rfl) ?_ ?_; rotate_left; (intro wz hSw; obtain ⟨-, hSc⟩ := hSw; (try simp only [List.forall_mem_cons, List.forall_mem_nil, and_true] at hSc); go_simp; (first | done | with_reducible rfl)); (intro K hK; (try simp only [Act.put, List.setIfInBounds_toArray, List.set_cons_zero, List.set_cons_succ]); refine hK _ _ ?_; clear hK K)) | (refine m_skip (by rfl) (by rfl) ?_; (intro K hK; (try simp only [Act.put, List.setIfInBounds_toArray, List.set_cons_zero, List.set_cons_succ]); refine hK _ _ ?_; clear hK K)))
  refine m_make (by rfl) (by rfl) ?_ ?_
  · intro wz hSw hdep R hRz
    obtain ⟨hSe, hSc⟩ := hSw
    (try simp only [List.forall_mem_cons, List.forall_mem_nil, and_true] at hSc)
    unfold does
    (go_simp; exact hRz.out _ _ ⟨ext_alloc _ _, rfl, rfl⟩)
  intro v5 u5 x5 hG5 K hK
  have hF5 := hG5.fact
  (try dsimp only at hF5)
  obtain ⟨rfl, rfl⟩ := hF5
  (try simp only [Act.put, List.setIfInBounds_toArray, List.set_cons_zero, List.set_cons_succ]); refine hK _ _ ?_; clear hK K
  repeat (first | (refine m_plain (v := ?_) (by rfl) (by rfl) ?_ ?_; rotate_left; (intro wz hSw; obtain ⟨-, hSc⟩ := hSw; (try simp only [List.forall_mem_cons, List.forall_mem_nil, and_true] at hSc); go_simp; (first | done | with_reducible rfl)); (intro K hK; (try simp only [Act.put, List.setIfInBounds_toArray, List.set_cons_zero, List.set_cons_succ]); refine hK _ _ ?_; clear hK K)) | (refine m_skip (by rfl) (by rfl) ?_; (intro K hK; (try simp only [Act.put, List.setIfInBounds_toArray, List.set_cons_zero, List.set_cons_succ]); refine hK _ _ ?_; clear hK K)))
  refine m_nil ?_
  intro wf hSf hAf
  replace E := hid (E.out.madeIF ((ht.ints hsl).mono fun b _ hb => hb.1) (hAf 3 _ rfl) (hG5.order 3 _ rfl) hG3.s.1 hG5.s.1 (hAf 5 _ rfl) hSf.1)
  clear hSf hAf hG3 hG5 ht
  clear q00 q01 q02 q03
  (try simp only [List.cons_append, List.nil_append, List.set_cons_zero, List.set_cons_succ] at E)
  generalize u5.heap.size = bo at E ⊢
  refine wpl_store4 rfl (.tmp 9) (.tmp 15) rfl _ rfl rfl (E.out.hdr 4 rfl) ?_
  intro V1 HV CV
  replace E := hid (E.out.chg 4 rfl CV HV)
  clear HV CV
  (try simp only [List.cons_append, List.nil_append, List.set_cons_zero, List.set_cons_succ] at E)
  by_cases k3 : y.kind = 3
  case pos =>
    have kb : (y.kind == 3) = true := by simp [k3]
    have hlen := h3 k3
    have hpe : Hid (p = .mk y.kind s [] ((y.items.drop f).take z)) := hid (by rw [hp.out, hF.out.n k3]; simp)
    clear h3 h4 hp
    replace k3 := hid k3
    obtain ⟨q00, q01, q02, q03⟩ := (E.out.hdr 0 rfl).all
    obtain ⟨q40, q41, q42, q43⟩ := (E.out.hdr 4 rfl).all
    go_upto_region 6 with (first
      | (refine wpl_cut3A rfl (.tmp 23) (.tmp 24) (.tmp 25) (.tmp 26) rfl y.items f z _ rfl rfl rfl rfl rfl rfl rfl rfl rfl hlen hc2 (E.out.arr 2 rfl).items ?_; intro xo hX; have hyl : ((y.items.drop f).take z).length ≤ 1759218604441 := (by simp only [List.length_take, List.length_drop]; omega); generalize ((y.items.drop f).take z) = ys at hX hpe hyl ⊢; replace E := hid (E.out.addItems hX (fun _ _ h => h)); clear hX; (try simp only [List.cons_append, List.nil_append, List.set_cons_zero, List.set_cons_succ] at E))
      | (refine wpl_store3 rfl (.tmp 28) (.tmp 27) rfl _ rfl rfl (E.out.hdr 4 rfl) ?_; intro V2 HV CV; replace E := hid ((E.out.chg 4 rfl CV HV)); clear CV HV; (try simp only [List.cons_append, List.nil_append, List.set_cons_zero, List.set_cons_succ] at E)))
    replace E := hid (E.out.addArr (a := .mk y.kind s [] ys) (ia := xo) (ArrAt.iff.2 ⟨((E.out.intsF 5 rfl).mono fun b _ q => q.1), IntsAt.nil _ _ none, by simp [Arr.items]; try omega, E.out.items 6 rfl⟩) (fun _ _ h => h))
    (try simp only [List.cons_append, List.nil_append, List.set_cons_zero, List.set_cons_succ] at E)
    clear q00 q01 q02 q03 q40 q41 q42 q43
    obtain ⟨q40, q41, q42, q43⟩ := (E.out.hdr 4 rfl).all
    go_wp2_with fail
    clear q40 q41 q42 q43
    refine (array_CloneG (.mk y.kind s [] ys) _ _ _ _ _ _ _ _ (E.out.arr 7 rfl)).mono ?_
    intro e w7 h
    obtain ⟨sz, nz, iz, rfl, hA, hb⟩ := h.eq hpe.out
    replace E := hid ((E.out.up hb).addArrG hA E.out.blt E.out.size)
    clear hA hb h
    (try simp only [List.cons_append, List.nil_append, List.set_cons_zero, List.set_cons_succ] at E)
    go_wp2_with (refine wpl_store4 rfl (.tmp 8) (.tmp 37) rfl _ rfl rfl (E.out.hdr 1 rfl) ?_; intro V HV CV; replace E := hid (E.out.chg 1 rfl CV HV))
    exact bodyPost_ret (end_arr rfl HV rfl) rfl (hR.out _ _ ⟨_, _, _, rfl, ArrG.mono (E.out.arrG 8 rfl) (fun b _ h => h.2), E.out.ext⟩)
  case neg =>
    have kb : (y.kind == 3) = false := by simp [k3]
    have hlen := h4 k3
    have hpe : Hid (p = .mk y.kind s ((y.nums.drop f).take z) []) := hid (by rw [hp.out, hF.out.i k3]; simp)
    clear h3 h4 hp
    replace k3 := hid k3
    obtain ⟨q00, q01, q02, q03⟩ := (E.out.hdr 0 rfl).all
    obtain ⟨q40, q41, q42, q43⟩ := (E.out.hdr 4 rfl).all
    go_upto_region 6 with (first
      | (refine wpl_cut3I rfl (.tmp 30) (.tmp 31) (.tmp 32) (.tmp 33) rfl y.nums f z _ rfl rfl rfl rfl rfl rfl rfl rfl rfl hlen hc1 (E.out.arr 2 rfl).nums ?_; intro xo hX; generalize ((y.nums.drop f).take z) = ys at hX hpe ⊢; replace E := hid (E.out.addInts hX (fun _ _ h => h)); clear hX; (try simp only [List.cons_append, List.nil_append, List.set_cons_zero, List.set_cons_succ] at E))
      | (refine wpl_store2 rfl (.tmp 35) (.tmp 34) rfl _ rfl rfl (E.out.hdr 4 rfl) ?_; intro V2 HV CV; replace E := hid ((E.out.chg 4 rfl CV HV)); clear CV HV; (try simp only [List.cons_append, List.nil_append, List.set_cons_zero, List.set_cons_succ] at E)))
    replace E := hid (E.out.addArr (a := .mk y.kind s ys []) (ia := none) (ArrAt.iff.2 ⟨((E.out.intsF 5 rfl).mono fun b _ q => q.1), E.out.ints 6 rfl, by simp [Arr.items]; try omega, by simp only [Arr.items, ItemsAt]⟩) (fun _ _ h => h))
    (try simp only [List.cons_append, List.nil_append, List.set_cons_zero, List.set_cons_succ] at E)
    clear q00 q01 q02 q03 q40 q41 q42 q43
    obtain ⟨q40, q41, q42, q43⟩ := (E.out.hdr 4 rfl).all
    go_wp2_with fail
    clear q40 q41 q42 q43
    refine (array_CloneG (.mk y.kind s ys []) _ _ _ _ _ _ _ _ (E.out.arr 7 rfl)).mono ?_
    intro e w7 h
    obtain ⟨sz, nz, iz, rfl, hA, hb⟩ := h.eq hpe.out
    replace E := hid ((E.out.up hb).addArrG hA E.out.blt E.out.size)
    clear hA hb h
    (try simp only [List.cons_append, List.nil_append, List.set_cons_zero, List.set_cons_succ] at E)
    go_wp2_with (refine wpl_store4 rfl (.tmp 8) (.tmp 37) rfl _ rfl rfl (E.out.hdr 1 rfl) ?_; intro V HV CV; replace E := hid (E.out.chg 1 rfl CV HV))
    exact bodyPost_ret (end_arr rfl HV rfl) rfl (hR.out _ _ ⟨_, _, _, rfl, ArrG.mono (E.out.arrG 8 rfl) (fun b _ h => h.2), E.out.ext⟩)
/-- the cells of an array as a result -/
def RetC (w : World) (S : Nat → Prop) (y : Arr) (e : Ending) (w' : World) : Prop :=
  ∃ so sc vs, e = .returned (.slice so vs.length sc) ∧ vs.length ≤ sc ∧ vs.map CelV.x = celsN y (talM y) ∧ CelsAt w' (fun b => S b ∨ w.heap.size ≤ b) so vs ∧ Below w.heap.size w w'
set_option maxRecDepth 100000 in
set_option maxHeartbeats 4000000 in
theorem cell_CellsG (y : Arr) (sy : Option Addr) (cy : Nat) (ny : Option Addr) (my : Nat) (iy : Option Addr) (jy : Nat) (k : Int) (S : Nat → Prop) (w : World) (h : ArrAt w S y sy ny iy) (hr : rightS y = 0) (hn : 0 < y.shape.length) (hk : k = (y.shape.length : Int) - 1 ∨ k = -1) (hc : y.shape.length ≤ cy ∧ y.nums.length ≤ my ∧ y.items.length ≤ jy) :
    Calls Try.prog 72 #[.agg #[.int .i64 y.kind, .slice sy y.shape.length cy, .slice ny y.nums.length my, .slice iy y.items.length jy], .int .i64 k] w (RetC w S y) := by
  refine calls_post fun R' hR => ?_
  have h0 := hid h
  have hsh := (right_ok hr).2.1
  have hl8 : y.shape.length ≤ 1000 := by have := (shapeB_iff.1 hsh).1; omega
  have hbd := hid (blk_lens hr)
  have hfl := hid (flat_of hr)
  have htl := tal_le hsh
  have hcons := tal_cons hsh (by omega)
  have hz1 : Hid (sizeS [(talM y : Int)] = (talM y : Int)) := hid (by rw [sizeS_true (shapeB_one (by omega) (by omega)), cnt_one])
  have hz2 : Hid (sizeS (celL y) = (celN y : Int)) := hid (by rw [sizeS_true (celL_ok hsh), celN_eq hsh])
  have hhd : ∀ w T, IntsAt w T sy y.shape → IntsAt w T sy [(talM y : Int)] := fun w T q => by
    have := q.take 1
    rw [hcons] at this
    exact this
  clear hcons
  have hcn := hid (celN_eq hsh)
  have hcl := celN_le hsh
  obtain ⟨so, sc, hr1, hr2, hr3⟩ := cut_tail y sy cy hn hc.1
  have hwr : IntKind.i64.wrap ((y.shape.length : Int) - ((y.shape.length : Int) - 1)) = 1 := by rw [IntWalk.i64_in _ (by omega)]; omega
  have hrb : (rightS y != 0) = false := by simp [hr]
  replace hr := hid hr
  obtain ⟨hc0, hc1, hc2⟩ := hc
  clear h
  go_enter Try.func72, Try.ntmps72
  go_upto_region 1 with (fail)
  generalize hEW : (w).alloc (.cells #[.int .i64 y.kind, .slice sy y.shape.length cy, .slice ny y.nums.length my, .slice iy y.items.length jy] 27) = W
  have E := hid (env1 w S hEW)
  clear hEW
  replace E := hid (E.out.arg h0.out)
  (try simp only [List.cons_append, List.nil_append, List.set_cons_zero, List.set_cons_succ] at E)
  replace E := hid (E.out.addInts (hr2 _ _ (E.out.arr 1 rfl).shape) (fun _ _ h => h))
  (try simp only [List.cons_append, List.nil_append, List.set_cons_zero, List.set_cons_succ] at E)
  replace E := hid (E.out.addInts (hhd _ _ (E.out.arr 1 rfl).shape) (fun _ _ h => h))
  (try simp only [List.cons_append, List.nil_append, List.set_cons_zero, List.set_cons_succ] at E)
  clear hr2 hhd
  obtain ⟨q00, q01, q02, q03⟩ := (E.out.hdr 0 rfl).all
  go_wp2_with fail
  clear q00 q01 q02 q03
  refine (array_Right y _ _ _ _ _ _ _ _ (E.out.arr 1 rfl)).mono ?_
  rintro e w1 ⟨rfl, hb⟩
  replace E := hid (E.out.up hb)
  clear hb
  obtain ⟨q00, q01, q02, q03⟩ := (E.out.hdr 0 rfl).all
  go_upto_region 3 with fail
  obtain ⟨T, hT1, hT2, hT3⟩ := E.out.tw
  refine wp_region_mono (Sees w1 [(⟨w.heap.size, 0, none⟩, .int .i64 y.kind), (⟨w.heap.size, 1, none⟩, .slice sy y.shape.length cy), (⟨w.heap.size, 2, none⟩, .slice ny y.nums.length my), (⟨w.heap.size, 3, none⟩, .slice iy y.items.length jy)]) [7] (fun k v u u' => match k with | 7 => v = .int .i64 ((y.shape.length : Int) - 1) | _ => False) (fun _ _ h e => h.up e) (Sees.start (all_cons ((E.out.hdr 0 rfl).c0) (all_cons ((E.out.hdr 0 rfl).c1) (all_cons ((E.out.hdr 0 rfl).c2) (all_cons ((E.out.hdr 0 rfl).c3) (all_nil)))))) (by kernel_rfl) (by kernel_rfl) ?_
  repeat (first | (refine m_plain (v := ?_) (by rfl) (by rfl) ?_ ?_; rotate_left; (intro wz hSw; obtain ⟨-, hSc⟩ := hSw; (try simp only [List.forall_mem_cons, List.forall_mem_nil, and_true] at hSc); go_simp; (first | done | with_reducible rfl)); (intro K hK; (try simp only [Act.put, List.setIfInBounds_toArray, List.set_cons_zero, List.set_cons_succ]); refine hK _ _ ?_; clear hK K)) | (refine m_skip (by rfl) (by rfl) ?_; (intro K hK; (try simp only [Act.put, List.setIfInBounds_toArray, List.set_cons_zero, List.set_cons_succ]); refine hK _ _ ?_; clear hK K)))
  refine m_make (by rfl) (by rfl) ?_ ?_
  · intro wz hSw hdep R hRz
    obtain ⟨hSe, hSc⟩ := hSw
    (try simp only [List.forall_mem_cons, List.forall_mem_nil, and_true] at hSc)
    unfold does
    (go_simp; refine Calls.mono (cell_Rank k (y.shape.length : Int) wz ⟨⟨by omega, by omega⟩, hk⟩) ?_; rintro e wq ⟨rfl, rfl⟩; exact ⟨_, rfl, hRz.out _ _ ⟨Ext.refl _, rfl⟩⟩)
  intro v7 u7 x7 hG7 K hK
  have hF7 := hG7.fact
  (try dsimp only at hF7)
  subst hF7
  (try simp only [Act.put, List.setIfInBounds_toArray, List.set_cons_zero, List.set_cons_succ]); refine hK _ _ ?_; clear hK K
  repeat (first | (refine m_plain (v := ?_) (by rfl) (by rfl) ?_ ?_; rotate_left; (intro wz hSw; obtain ⟨-, hSc⟩ := hSw; (try simp only [List.forall_mem_cons, List.forall_mem_nil, and_true] at hSc); go_simp; (first | done | with_reducible rfl)); (intro K hK; (try simp only [Act.put, List.setIfInBounds_toArray, List.set_cons_zero, List.set_cons_succ]); refine hK _ _ ?_; clear hK K)) | (refine m_skip (by rfl) (by rfl) ?_; (intro K hK; (try simp only [Act.put, List.setIfInBounds_toArray, List.set_cons_zero, List.set_cons_succ]); refine hK _ _ ?_; clear hK K)))
  refine m_nil ?_
  intro wf hSf hAf
  replace E := hid (E.out.up hSf.1)
  clear hSf hAf
  go_upto_region 4 with fail
  clear q00 q01 q02 q03
  obtain ⟨q00, q01, q02, q03⟩ := (E.out.hdr 0 rfl).all
  have c1 : (1 : Int) ≤ (cy : Int) := by omega
  obtain ⟨T, hT1, hT2, hT3⟩ := E.out.tw
  refine wp_region_mono (Sees wf [(⟨w.heap.size, 0, none⟩, .int .i64 y.kind), (⟨w.heap.size, 1, none⟩, .slice sy y.shape.length cy), (⟨w.heap.size, 2, none⟩, .slice ny y.nums.length my), (⟨w.heap.size, 3, none⟩, .slice iy y.items.length jy)]) [4, 9] (fun k v u u' => match k with | 4 => v = .int .i64 (talM y : Int) | 9 => v = .int .i64 (celN y : Int) | _ => False) (fun _ _ h e => h.up e) (Sees.start (all_cons ((E.out.hdr 0 rfl).c0) (all_cons ((E.out.hdr 0 rfl).c1) (all_cons ((E.out.hdr 0 rfl).c2) (all_cons ((E.out.hdr 0 rfl).c3) (all_nil)))))) (by kernel_rfl) (by kernel_rfl) ?_
  repeat (first | (refine m_plain (v := ?_) (by rfl) (by rfl) ?_ ?_; rotate_left; (intro wz hSw; obtain ⟨-, hSc⟩ := hSw; (try simp only [List.forall_mem_cons, List.forall_mem_nil, and_true] at hSc); go_simp; (first | done | with_reducible rfl)); (intro K hK; (try simp only [Act.put, List.setIfInBounds_toArray, List.set_cons_zero, List.set_cons_succ]); refine hK _ _ ?_; clear hK K)) | (refine m_skip (by rfl) (by rfl) ?_; (intro K hK; (try simp only [Act.put, List.setIfInBounds_toArray, List.set_cons_zero, List.set_cons_succ]); refine hK _ _ ?_; clear hK K)))
  refine m_make (by rfl) (by rfl) ?_ ?_
  · intro wz hSw hdep R hRz
    obtain ⟨hSe, hSc⟩ := hSw
    (try simp only [List.forall_mem_cons, List.forall_mem_nil, and_true] at hSc)
    unfold does
    (go_simp; refine Calls.mono (shape_Size [(talM y : Int)] _ _ _ wz ((E.out.ints 3 rfl).mono (fun b _ h => hT1 b h) |>.up hSe)) ?_; rintro e wq ⟨rfl, rfl⟩; rw [hz1.out]; exact ⟨_, rfl, hRz.out _ _ ⟨Ext.refl _, rfl⟩⟩)
  intro v4 u4 x4 hG4 K hK
  have hF4 := hG4.fact
  (try dsimp only at hF4)
  subst hF4
  (try simp only [Act.put, List.setIfInBounds_toArray, List.set_cons_zero, List.set_cons_succ]); refine hK _ _ ?_; clear hK K
  repeat (first | (refine m_plain (v := ?_) (by rfl) (by rfl) ?_ ?_; rotate_left; (intro wz hSw; obtain ⟨-, hSc⟩ := hSw; (try simp only [List.forall_mem_cons, List.forall_mem_nil, and_true] at hSc); go_simp; (first | done | with_reducible rfl)); (intro K hK; (try simp only [Act.put, List.setIfInBounds_toArray, List.set_cons_zero, List.set_cons_succ]); refine hK _ _ ?_; clear hK K)) | (refine m_skip (by rfl) (by rfl) ?_; (intro K hK; (try simp only [Act.put, List.setIfInBounds_toArray, List.set_cons_zero, List.set_cons_succ]); refine hK _ _ ?_; clear hK K)))
  refine m_make (by rfl) (by rfl) ?_ ?_
  · intro wz hSw hdep R hRz
    obtain ⟨hSe, hSc⟩ := hSw
    (try simp only [List.forall_mem_cons, List.forall_mem_nil, and_true] at hSc)
    unfold does
    (go_simp; refine Calls.mono (shape_Size (celL y) _ _ _ wz ((E.out.ints 2 rfl).mono (fun b _ h => hT1 b h) |>.up hSe)) ?_; rintro e wq ⟨rfl, rfl⟩; rw [hz2.out]; exact ⟨_, rfl, hRz.out _ _ ⟨Ext.refl _, rfl⟩⟩)
  intro v9 u9 x9 hG9 K hK
  have hF9 := hG9.fact
  (try dsimp only at hF9)
  subst hF9
  (try simp only [Act.put, List.setIfInBounds_toArray, List.set_cons_zero, List.set_cons_succ]); refine hK _ _ ?_; clear hK K
  repeat (first | (refine m_plain (v := ?_) (by rfl) (by rfl) ?_ ?_; rotate_left; (intro wz hSw; obtain ⟨-, hSc⟩ := hSw; (try simp only [List.forall_mem_cons, List.forall_mem_nil, and_true] at hSc); go_simp; (first | done | with_reducible rfl)); (intro K hK; (try simp only [Act.put, List.setIfInBounds_toArray, List.set_cons_zero, List.set_cons_succ]); refine hK _ _ ?_; clear hK K)) | (refine m_skip (by rfl) (by rfl) ?_; (intro K hK; (try simp only [Act.put, List.setIfInBounds_toArray, List.set_cons_zero, List.set_cons_succ]); refine hK _ _ ?_; clear hK K)))
  refine m_nil ?_
  intro wf hSf hAf
  replace E := hid (E.out.up hSf.1)
  clear hSf hAf
  clear q00 q01 q02 q03
  have hmk := fun w => run_makeA0 w (talM y) (by omega)
  go_wp2_with fail
  replace E := hid (E.out.alloc (.cells (madeA (talM y)) 27))
  (try simp only [List.cons_append, List.nil_append, List.set_cons_zero, List.set_cons_succ] at E)
  replace E := hid (E.out.row0MC 4 rfl (by omega))
  (try simp only [List.cons_append, List.nil_append, List.set_cons_zero, List.set_cons_succ] at E)
  clear hmk c1 hz1 hz2
  go_loopw [8, 35] (fun o i wr => ∃ (m : Nat) (ao : Option Addr) (ac : Nat) (vs : List CelV), m ≤ talM y ∧ vs.map CelV.x = celsN y m ∧ o = .slice ao vs.length ac ∧ i = .int .i64 m ∧ Env w S wr [.obj w.heap.size (.cells #[.int .i64 y.kind, .slice sy y.shape.length cy, .slice ny y.nums.length my, .slice iy y.items.length jy] 27 (0, 0)), .arr y sy ny iy, .ints (celL y) so, .ints [(talM y : Int)] sy, rowC ao ac vs]) (fun _ i _ => talM y - (intOf i).toNat)
  case atStart => exact ⟨0, _, _, [], Nat.zero_le _, rfl, rfl, rfl, E.out⟩
  case round =>
    clear E
    obtain ⟨m, ao, ac, vs, hm, hvs, rfl, rfl, E⟩ := hrel
    have hvl : vs.length = m := by rw [← List.length_map (f := CelV.x), hvs, celsN_len]
    replace hvs := hid hvs
    replace E := hid E
    by_cases hlt : m < talM y
    case pos =>
      have hsz := sz_tal hr.out
      have hsz6 := szA_le hr.out
      have hmq : m * celN y + celN y ≤ talM y * celN y := by
        rw [← Nat.succ_mul]; exact Nat.mul_le_mul_right _ hlt
      obtain ⟨q, hq⟩ : ∃ q, q = m * celN y := ⟨_, rfl⟩
      have hq6 : q + celN y ≤ 65536 := by rw [hq]; omega
      have hmul : IntKind.i64.wrap ((m : Int) * (celN y : Int)) = (q : Int) := by
        rw [show (m : Int) * (celN y : Int) = ((m * celN y : Nat) : Int) by rw [Int.natCast_mul], ← hq]
        exact IntWalk.i64_in _ (by omega)
      have hb3 : Hid (y.kind = 3 → q + celN y ≤ y.items.length) := hid fun k => by
        have := szA_3 k; omega
      have hb4 : Hid (y.kind ≠ 3 → q + celN y ≤ y.nums.length) := hid fun k => by
        by_cases z : celN y = 0
        · have : q = 0 := by rw [hq, z]; rfl
          omega
        · have := szA_N k (i := q + celN y - 1) (by omega); omega
      obtain ⟨z, hz⟩ : ∃ z, z = celA y m := ⟨_, rfl⟩
      have hzp : Hid (z = .mk y.kind (celL y) ((y.nums.drop q).take (celN y)) ((y.items.drop q).take (celN y))) := hid (by rw [hz, hq]; rfl)
      have hll : vs.length + 1 ≤ 1000000000000 := by omega
      replace hvl := hid hvl
      clear hmq hsz hsz6
      replace hq := hid hq
      replace hz := hid hz
      obtain ⟨q00, q01, q02, q03⟩ := (E.out.hdr 0 rfl).all
      go_upto_region 9 with fail
      refine wp_region_mono_tail 12 (Sees wr [(⟨w.heap.size, 0, none⟩, .int .i64 y.kind), (⟨w.heap.size, 1, none⟩, .slice sy y.shape.length cy), (⟨w.heap.size, 2, none⟩, .slice ny y.nums.length my), (⟨w.heap.size, 3, none⟩, .slice iy y.items.length jy)]) [10, 11] (fun k v u u' => match k with | 10 => ∃ sa na ia, v = .agg #[.int .i64 z.kind, .slice sa z.shape.length z.shape.length, .slice na z.nums.length z.nums.length, .slice ia z.items.length z.items.length] ∧ ArrG u' (fun b => wr.heap.size ≤ b) z sa na ia | 11 => ∃ sa na ia, v = .slice (some ⟨u.heap.size, 0, none⟩) 1 1 ∧ u' = u.alloc (.cells #[.int .i64 z.kind, .slice sa z.shape.length z.shape.length, .slice na z.nums.length z.nums.length, .slice ia z.items.length z.items.length] 27) ∧ ArrG u (fun b => wr.heap.size ≤ b) z sa na ia | _ => False) (fun _ _ h e => h.up e) (Sees.start (all_cons ((E.out.hdr 0 rfl).c0) (all_cons ((E.out.hdr 0 rfl).c1) (all_cons ((E.out.hdr 0 rfl).c2) (all_cons ((E.out.hdr 0 rfl).c3) (all_nil)))))) (by kernel_rfl) (by kernel_rfl) ?_
      simp only [List.take_succ_cons, List.take_zero, List.drop_succ_cons, List.drop_zero]
      repeat (first | (refine m_plain (v := ?_) (by rfl) (by rfl) ?_ ?_; rotate_left; (intro wz hSw; obtain ⟨-, hSc⟩ := hSw; (try simp only [List.forall_mem_cons, List.forall_mem_nil, and_true] at hSc); go_simp; (first | done | with_reducible rfl)); (intro K hK; (try simp only [Act.put, List.setIfInBounds_toArray, List.set_cons_zero, List.set_cons_succ]); refine hK _ _ ?_; clear hK K)) | (refine m_skip (by rfl) (by rfl) ?_; (intro K hK; (try simp only [Act.put, List.setIfInBounds_toArray, List.set_cons_zero, List.set_cons_succ]); refine hK _ _ ?_; clear hK K)))
      refine m_make (by rfl) (by rfl) ?_ ?_
      · intro wz hSw hdep R hRz
        obtain ⟨hSe, hSc⟩ := hSw
        (try simp only [List.forall_mem_cons, List.forall_mem_nil, and_true] at hSc)
        unfold does
        (go_simp; refine Calls.mono (cell_partG y _ _ _ _ _ _ q (celN y) (celL y) so sc z _ wz ((E.out.arr 1 rfl).up hSe) ((E.out.ints 2 rfl).up hSe) hfl.out ⟨hc1, hc2⟩ (by omega) hb3.out hb4.out hzp.out) ?_; rintro e wq ⟨ta, tn, ti, rfl, hq, hqb⟩; exact ⟨_, rfl, hRz.out _ _ ⟨hqb, ta, tn, ti, rfl, ArrG.mono hq (fun b _ hb => Nat.le_trans (Below.size hSe) hb)⟩⟩)
      intro v10 u10 x10 hG10 K hK
      have hF10 := hG10.fact
      (try dsimp only at hF10)
      obtain ⟨s10, n10, i10, rfl, hA10⟩ := hF10
      (try simp only [Act.put, List.setIfInBounds_toArray, List.set_cons_zero, List.set_cons_succ]); refine hK _ _ ?_; clear hK K
      repeat (first | (refine m_plain (v := ?_) (by rfl) (by rfl) ?_ ?_; rotate_left; (intro wz hSw; obtain ⟨-, hSc⟩ := hSw; (try simp only [List.forall_mem_cons, List.forall_mem_nil, and_true] at hSc); go_simp; (first | done | with_reducible rfl)); (intro K hK; (try simp only [Act.put, List.setIfInBounds_toArray, List.set_cons_zero, List.set_cons_succ]); refine hK _ _ ?_; clear hK K)) | (refine m_skip (by rfl) (by rfl) ?_; (intro K hK; (try simp only [Act.put, List.setIfInBounds_toArray, List.set_cons_zero, List.set_cons_succ]); refine hK _ _ ?_; clear hK K)))
      refine m_make (by rfl) (by rfl) ?_ ?_
      · intro wz hSw hdep R hRz
        obtain ⟨hSe, hSc⟩ := hSw
        (try simp only [List.forall_mem_cons, List.forall_mem_nil, and_true] at hSc)
        unfold does
        (go_simp; exact hRz.out _ _ ⟨ext_alloc _ _, s10, n10, i10, rfl, rfl, hA10.up (hdep 10 _ rfl (depB_sound (f := 60) (by kernel_rfl)))⟩)
      intro v11 u11 x11 hG11 K hK
      have hF11 := hG11.fact
      (try dsimp only at hF11)
      obtain ⟨s11, n11, i11, rfl, rfl, hA11⟩ := hF11
      (try simp only [Act.put, List.setIfInBounds_toArray, List.set_cons_zero, List.set_cons_succ]); refine hK _ _ ?_; clear hK K
      repeat (first | (refine m_plain (v := ?_) (by rfl) (by rfl) ?_ ?_; rotate_left; (intro wz hSw; obtain ⟨-, hSc⟩ := hSw; (try simp only [List.forall_mem_cons, List.forall_mem_nil, and_true] at hSc); go_simp; (first | done | with_reducible rfl)); (intro K hK; (try simp only [Act.put, List.setIfInBounds_toArray, List.set_cons_zero, List.set_cons_succ]); refine hK _ _ ?_; clear hK K)) | (refine m_skip (by rfl) (by rfl) ?_; (intro K hK; (try simp only [Act.put, List.setIfInBounds_toArray, List.set_cons_zero, List.set_cons_succ]); refine hK _ _ ?_; clear hK K)))
      refine m_nil ?_
      intro wf2 hSf hAf
      have oF := hid (lit_cels (r := ⟨z, s11, n11, i11⟩) (T := fun b => wr.heap.size ≤ b) (hAf 11 _ rfl) (Below.size hG11.s.1) (hA11.up ((ext_alloc _ _).trans (hAf 11 _ rfl))))
      have hfr : Hid (∀ b, b < wf2.heap.size → wr.heap.size ≤ b → Tst w S _ b) := hid (fun b _ hb => E.out.fresh (Ext.refl _) hb)
      replace E := hid (E.out.up hSf.1)
      clear hSf hAf hG10 hG11 hA10 hA11
      clear q00 q01 q02 q03
      refine wplE_appC E.out 4 rfl rfl (.tmp 38) (.tmp 49) rfl rfl _ _ 1 [⟨z, s11, n11, i11⟩] rfl oF.out hfr.out hll ?_
      intro V na' nc' E'
      clear E oF hfr
      have E := hid E'
      clear E'
      (try simp only [List.cons_append, List.nil_append, List.set_cons_zero, List.set_cons_succ] at E)
      go_wp2_with fail
      go_roundw
      case rel => exact ⟨m + 1, na', nc', vs ++ [⟨z, s11, n11, i11⟩], by omega, by rw [List.map_append, hvs.out, celsN_succ, hz.out]; rfl, by simp, by go_num, E.out⟩
      case measure => simp [intOf]; omega
    case neg =>
      have hmn : m = talM y := by omega
      rw [hmn]
      rw [hmn] at hvs
      replace hvl := hid hvl
      replace hmn := hid hmn
      have c3 := OwnC.caple (E.out.rowC 4 rfl)
      replace E := hid (E.out.doneC 4 rfl)
      (try simp only [List.cons_append, List.nil_append, List.set_cons_zero, List.set_cons_succ] at E)
      go_wp2_with fail
      exact hR.out _ _ ⟨_, _, vs, rfl, c3, hvs.out, (E.out.celsF 4 rfl).mono fun b _ h => h.1, E.out.ext⟩
end Go.Proofs.Ytdpdcjadedcglaa
