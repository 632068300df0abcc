/- Helpers of the one walk: what a region reads; variables of four cells known whole. Conditions: those of each lemma. -/
import Derived.Test.YtkbbdlibamcilaaMono
import Derived.Test.YtkbbdlibamcilaaOwn3
import Derived.Laws.Rows
set_option linter.unusedVariables false
set_option linter.unusedSimpArgs false
namespace Go.Proofs.Ytkbbdlibamcilaa
open Go.RowKit Go.Sort
/-- the world W with new blocks; what is read of it -/
def Sees (W : World) (cs : List (Addr × Value)) (w : World) : Prop := Ext W w ∧ ∀ c ∈ cs, w.cell? c.1 = some c.2
theorem up_cell {w w' : World} {p : Addr} {v : Value} (h : w.cell? p = some v) (e : Ext w w') : w'.cell? p = some v := (Below.cell e (block_lt_of_cell h)).trans h
theorem Sees.up {W : World} {cs : List (Addr × Value)} {w w' : World} (h : Sees W cs w) (e : Ext w w') : Sees W cs w' := ⟨h.1.trans e, fun c hc => up_cell (h.2 c hc) e⟩
theorem Sees.start {W : World} {cs : List (Addr × Value)} (h : ∀ c ∈ cs, W.cell? c.1 = some c.2) : Sees W cs W := ⟨Ext.refl _, h⟩
theorem all_nil {α : Type} {p : α → Prop} : ∀ c ∈ ([] : List α), p c := fun _ h => by cases h
theorem all_cons {α : Type} {p : α → Prop} {x : α} {l : List α} (h : p x) (g : ∀ c ∈ l, p c) : ∀ c ∈ x :: l, p c := fun c hc => by
  rcases List.mem_cons.1 hc with rfl | hc
  · exact h
  · exact g c hc
theorem ext_alloc (w : World) (o : Obj) : Ext w (w.alloc o) := Below.alloc (Below.refl _ _) (Nat.le_refl _) o
theorem made_blk {w wf : World} {o : Obj} (h : Ext (w.alloc o) wf) : wf.heap[w.heap.size]? = some o := (h.block _ (by simp)).trans (heap_alloc_new w o)
theorem made_lt {w wf : World} {o : Obj} (h : Ext (w.alloc o) wf) : w.heap.size < wf.heap.size := by have := h.size; simp at this; omega
theorem ord_ne {wa wb : World} {o o' : Obj} (h : Ext (wa.alloc o) wb ∨ Ext (wb.alloc o') wa) : wa.heap.size ≠ wb.heap.size := by
  rcases h with h | h
  · have := made_lt h; omega
  · have := made_lt h; omega
theorem ord_out {wa xa wb : World} {o : Obj} (h : Ext xa wb ∨ Ext (wb.alloc o) wa) {b : Nat} (h1 : wa.heap.size ≤ b) (h2 : b < xa.heap.size) : b ≠ wb.heap.size := by
  rcases h with h | h
  · have := Below.size h; omega
  · have := made_lt h; omega
theorem Ext.blk {w w' : World} (h : Ext w w') {b : Nat} {o : Obj} (hb : w.heap[b]? = some o) : w'.heap[b]? = some o := (h.block b (lt_of_block hb)).trans hb
theorem Ext.blk' {w w' : World} (h : Ext w w') {b : Nat} (hb : b < w.heap.size) : w'.heap[b]? = w.heap[b]? := h.block b hb
/-- a variable that holds an array, known whole -/
def Hdr (w : World) (b : Nat) (k s n i : Value) : Prop := w.heap[b]? = some (.cells #[k, s, n, i] 26 (0, 0))
section
variable {w w' : World} {b : Nat} {k s n i : Value}
theorem Hdr.lt (h : Hdr w b k s n i) : b < w.heap.size := lt_of_block h
theorem Hdr.c (h : Hdr w b k s n i) (o : Nat) : w.cell? ⟨b, o, none⟩ = #[k, s, n, i][o]? := cell_of_row w b o _ _ _ h
theorem Hdr.c0 (h : Hdr w b k s n i) : w.cell? ⟨b, 0, none⟩ = some k := h.c 0
theorem Hdr.c1 (h : Hdr w b k s n i) : w.cell? ⟨b, 1, none⟩ = some s := h.c 1
theorem Hdr.c2 (h : Hdr w b k s n i) : w.cell? ⟨b, 2, none⟩ = some n := h.c 2
theorem Hdr.c3 (h : Hdr w b k s n i) : w.cell? ⟨b, 3, none⟩ = some i := h.c 3
theorem Hdr.all (h : Hdr w b k s n i) : w.cell? ⟨b, 0, none⟩ = some k ∧ w.cell? ⟨b, 1, none⟩ = some s ∧ w.cell? ⟨b, 2, none⟩ = some n ∧ w.cell? ⟨b, 3, none⟩ = some i := ⟨h.c0, h.c1, h.c2, h.c3⟩
theorem Hdr.f (h : Hdr w b k s n i) (o : Nat) : w.frozen? ⟨b, o, none⟩ = false := frozen_of_row w b o _ _ h
theorem Hdr.up (h : Hdr w b k s n i) (e : Ext w w') : Hdr w' b k s n i := e.blk h
theorem Hdr.keep (h : Hdr w b k s n i) (e : w'.heap[b]? = w.heap[b]?) : Hdr w' b k s n i := e.trans h
theorem Hdr.set0 (h : Hdr w b k s n i) (v : Value) : Hdr (w.setCell ⟨b, 0, none⟩ v) b v s n i := by have := heap_setCell_same w b 0 _ _ v h; simpa [Hdr] using this
theorem Hdr.set1 (h : Hdr w b k s n i) (v : Value) : Hdr (w.setCell ⟨b, 1, none⟩ v) b k v n i := by have := heap_setCell_same w b 1 _ _ v h; simpa [Hdr] using this
theorem Hdr.set2 (h : Hdr w b k s n i) (v : Value) : Hdr (w.setCell ⟨b, 2, none⟩ v) b k s v i := by have := heap_setCell_same w b 2 _ _ v h; simpa [Hdr] using this
theorem Hdr.set3 (h : Hdr w b k s n i) (v : Value) : Hdr (w.setCell ⟨b, 3, none⟩ v) b k s n v := by have := heap_setCell_same w b 3 _ _ v h; simpa [Hdr] using this
theorem Hdr.set4 (h : Hdr w b k s n i) (v0 v1 v2 v3 : Value) : Hdr ((((w.setCell ⟨b, 0, none⟩ v0).setCell ⟨b, 1, none⟩ v1).setCell ⟨b, 2, none⟩ v2).setCell ⟨b, 3, none⟩ v3) b v0 v1 v2 v3 := (((h.set0 v0).set1 v1).set2 v2).set3 v3
end
theorem hdr_new (w : World) (k s n i : Value) : Hdr (w.alloc (.cells #[k, s, n, i] 26)) w.heap.size k s n i := heap_alloc_new w _
theorem blk_set4 (w : World) (b : Nat) (v0 v1 v2 v3 : Value) {k : Nat} (h : k ≠ b) : ((((w.setCell ⟨b, 0, none⟩ v0).setCell ⟨b, 1, none⟩ v1).setCell ⟨b, 2, none⟩ v2).setCell ⟨b, 3, none⟩ v3).heap[k]? = w.heap[k]? := set4 w b v0 v1 v2 v3 h
theorem below_set4 {B : Nat} {w0 w : World} (h : Below B w0 w) {b : Nat} (hb : B ≤ b) (v0 v1 v2 v3 : Value) : Below B w0 ((((w.setCell ⟨b, 0, none⟩ v0).setCell ⟨b, 1, none⟩ v1).setCell ⟨b, 2, none⟩ v2).setCell ⟨b, 3, none⟩ v3) :=
  (((h.setCell hb _).setCell hb _).setCell hb _).setCell hb _
theorem below_setRow {B : Nat} {w0 w : World} (h : Below B w0 w) {g : Nat} (hb : B ≤ g) (cs : Array Value) : Below B w0 (w.setRow g cs) :=
  ⟨h.os, h.tape, h.output, by simp; exact h.size, fun k hk => by rw [setRow_other w g k cs (by omega)]; exact h.block k hk⟩
theorem size_set4 (w : World) (b : Nat) (v0 v1 v2 v3 : Value) : ((((w.setCell ⟨b, 0, none⟩ v0).setCell ⟨b, 1, none⟩ v1).setCell ⟨b, 2, none⟩ v2).setCell ⟨b, 3, none⟩ v3).heap.size = w.heap.size := by simp [World.setCell]
/-- the end of a function whose result is an array in a variable -/
theorem end_arr {fn : Func} {p : Tmp} (hres : fn.results = #[.cell p 26]) {w : World} {b : Nat} {tmps : Array Value} {k s n i : Value} (h : Hdr w b k s n i) (hp : tmps.getD p undef = .pointer (some ⟨b, 0, none⟩)) :
    (results fn tmps).run Try.prog w = .ok (.agg #[k, s, n, i]) w :=
  results_cell_row hres tmps w b _ _ _ _ hp h Try.underlying26 rfl (by kernel_rfl)
/-- V is w but for block b -/
structure Chg (w V : World) (b : Nat) : Prop where
  g : w.grownBy V (some b)
  z : V.heap.size = w.heap.size
section
variable {w V : World} {b : Nat}
theorem Chg.blk (h : Chg w V b) {k : Nat} (hk : k < w.heap.size) (hne : k ≠ b) : V.heap[k]? = w.heap[k]? := h.g.block k hk (by simpa using hne)
theorem Chg.below {w0 : World} {B : Nat} (h : Chg w V b) (g : Below B w0 w) (hB : B ≤ b) : Below B w0 V :=
  ⟨h.g.os.trans g.os, h.g.tape.trans g.tape, h.g.output.trans g.output, by have := g.size; have := h.z; omega, fun k hk => by
    by_cases hw : k < w.heap.size
    · exact (h.blk hw (by omega)).trans (g.block k hk)
    · have e1 : V.heap[k]? = none := Array.getElem?_eq_none (by have := h.z; omega)
      have e2 : w.heap[k]? = none := Array.getElem?_eq_none (by omega)
      rw [e1, ← g.block k hk, e2]⟩
theorem Chg.hdr {c : Nat} {k s n i : Value} (h : Chg w V b) (hh : Hdr w c k s n i) (hne : c ≠ b) : Hdr V c k s n i := hh.keep (h.blk hh.lt hne)
theorem Chg.row {c : Nat} {o : Obj} (h : Chg w V b) (hh : w.heap[c]? = some o) (hne : c ≠ b) : V.heap[c]? = some o := (h.blk (lt_of_block hh) hne).trans hh
theorem Chg.arr {S : Nat → Prop} {a : Arr} {sa na ia : Option Addr} (h : Chg w V b) (hh : ArrAt w S a sa na ia) (hne : ∀ q, S q → q ≠ b) : ArrAt V S a sa na ia := ArrAt.keep (fun q hq hlt => h.blk hlt (hne q hq)) a hh
theorem Chg.ints {S : Nat → Prop} {ao : Option Addr} {xs : List Int} (h : Chg w V b) (hh : IntsAt w S ao xs) (hne : ∀ q, S q → q ≠ b) : IntsAt V S ao xs := hh.keep fun q hq hlt => h.blk hlt (hne q hq)
theorem Chg.items {S : Nat → Prop} {ao : Option Addr} {l : List Arr} (h : Chg w V b) (hh : ItemsAt w S ao 0 l) (hne : ∀ q, S q → q ≠ b) : ItemsAt V S ao 0 l := hh.keep fun q hq hlt => h.blk hlt (hne q hq)
theorem chg_setCell (w : World) (b o : Nat) (v : Value) : Chg w (w.setCell ⟨b, o, none⟩ v) b := ⟨⟨rfl, rfl, rfl, by simp [World.setCell], fun k hk hne => Below.heap_setCell w ⟨b, o, none⟩ v k (fun e => hne (by rw [e]))⟩, by simp [World.setCell]⟩
theorem chg_setRow (w : World) (b : Nat) (cs : Array Value) : Chg w (w.setRow b cs) b := ⟨⟨rfl, rfl, rfl, by simp, fun k hk hne => setRow_other w b k cs (fun e => hne (by rw [e]))⟩, by simp⟩
theorem Chg.trans {U : World} (h : Chg w V b) (g : Chg V U b) : Chg w U b :=
  ⟨⟨g.g.os.trans h.g.os, g.g.tape.trans h.g.tape, g.g.output.trans h.g.output, by have := h.z; have := g.z; omega, fun k hk hne => (g.g.block k (by have := h.z; omega) hne).trans (h.g.block k hk hne)⟩, g.z.trans h.z⟩
theorem chg_set4 (w : World) (b : Nat) (v0 v1 v2 v3 : Value) : Chg w ((((w.setCell ⟨b, 0, none⟩ v0).setCell ⟨b, 1, none⟩ v1).setCell ⟨b, 2, none⟩ v2).setCell ⟨b, 3, none⟩ v3) b :=
  (((chg_setCell _ _ _ _).trans (chg_setCell _ _ _ _)).trans (chg_setCell _ _ _ _)).trans (chg_setCell _ _ _ _)
end
section
variable {ops : Array Oper} {rest : List Oper} {o : Oper} {a : Act} {Q : Exit → Act → World → Prop} {w : World}
/-- a whole array is stored into a variable -/
theorem wpl_store4 (hgd : o.guard = none) (p x : Operand) (ho : o.op = .store 26 p x) (b : Nat) {k : Int} {s n i : Option Addr} {sl sc nl nc il ic : Nat} {k' s' n' i' : Value} (hp : a.eval p = .pointer (some ⟨b, 0, none⟩)) (hx : a.eval x = .agg #[.int .i64 k, .slice s sl sc, .slice n nl nc, .slice i il ic]) (hh : Hdr w b k' s' n' i')
    (h : ∀ V, Hdr V b (.int .i64 k) (.slice s sl sc) (.slice n nl nc) (.slice i il ic) → Chg w V b → wpList Try.prog ops Q rest (a.put o.dst undef) V) : wpList Try.prog ops Q (o :: rest) a w := by
  refine wpList_plain hgd fun K hK => ?_
  have := hK _ _ (h _ (hh.set4 _ _ _ _) (chg_set4 w b _ _ _ _))
  unfold Oper.wp execOp
  simp only [ho, hp, hx]
  have d0 := hh.c0
  have d1 := hh.c1
  have d2 := hh.c2
  have d3 := hh.c3
  have f := hh.f
  simp [go_sem, d0, d1, d2, d3, f]
  exact this
/-- a slice is stored into a variable's field -/
theorem wpl_store2 (hgd : o.guard = none) (p x : Operand) (ho : o.op = .store 23 p x) (b : Nat) {s : Option Addr} {sl sc : Nat} {k' s' n' i' : Value} (hp : a.eval p = .pointer (some ⟨b, 2, none⟩)) (hx : a.eval x = .slice s sl sc) (hh : Hdr w b k' s' n' i')
    (h : ∀ V, Hdr V b k' s' (.slice s sl sc) i' → Chg w V b → wpList Try.prog ops Q rest (a.put o.dst undef) V) : wpList Try.prog ops Q (o :: rest) a w := by
  refine wpList_plain hgd fun K hK => ?_
  have := hK _ _ (h _ (hh.set2 _) (chg_setCell w b _ _))
  unfold Oper.wp execOp
  simp only [ho, hp, hx]
  have d2 := hh.c2
  have f := hh.f
  simp [go_sem, d2, f]
  exact this
theorem wpl_store1 (hgd : o.guard = none) (p x : Operand) (ho : o.op = .store 23 p x) (b : Nat) {s : Option Addr} {sl sc : Nat} {k' s' n' i' : Value} (hp : a.eval p = .pointer (some ⟨b, 1, none⟩)) (hx : a.eval x = .slice s sl sc) (hh : Hdr w b k' s' n' i')
    (h : ∀ V, Hdr V b k' (.slice s sl sc) n' i' → Chg w V b → wpList Try.prog ops Q rest (a.put o.dst undef) V) : wpList Try.prog ops Q (o :: rest) a w := by
  refine wpList_plain hgd fun K hK => ?_
  have := hK _ _ (h _ (hh.set1 _) (chg_setCell w b _ _))
  unfold Oper.wp execOp
  simp only [ho, hp, hx]
  have d2 := hh.c1
  have f := hh.f
  simp [go_sem, d2, f]
  exact this
theorem wpl_store3 (hgd : o.guard = none) (p x : Operand) (ho : o.op = .store 24 p x) (b : Nat) {s : Option Addr} {sl sc : Nat} {k' s' n' i' : Value} (hp : a.eval p = .pointer (some ⟨b, 3, none⟩)) (hx : a.eval x = .slice s sl sc) (hh : Hdr w b k' s' n' i')
    (h : ∀ V, Hdr V b k' s' n' (.slice s sl sc) → Chg w V b → wpList Try.prog ops Q rest (a.put o.dst undef) V) : wpList Try.prog ops Q (o :: rest) a w := by
  refine wpList_plain hgd fun K hK => ?_
  have := hK _ _ (h _ (hh.set3 _) (chg_setCell w b _ _))
  unfold Oper.wp execOp
  simp only [ho, hp, hx]
  have d2 := hh.c3
  have f := hh.f
  simp [go_sem, d2, f]
  exact this
theorem wpl_load4 (hgd : o.guard = none) (p : Operand) (ho : o.op = .load 26 p) (b : Nat) {k s n i : Value} (hp : a.eval p = .pointer (some ⟨b, 0, none⟩)) (hh : Hdr w b k s n i)
    (h : wpList Try.prog ops Q rest (a.put o.dst (.agg #[k, s, n, i])) w) : wpList Try.prog ops Q (o :: rest) a w :=
  wpList_load_row hgd _ p ho b hp _ _ _ _ hh Try.underlying26 rfl (by kernel_rfl) h
theorem wpl_copyI (hgd : o.guard = none) (d s : Operand) (ho : o.op = .call { callee := .builtin .copy, args := #[d, s], argTypes := #[23, 23] })
    (g : Nat) (cur : Array Value) (t : TypeId) (S : Nat → Prop) (so : Option Addr) (sc dc : Nat) (ys : List Int) (hd : a.eval d = .slice (some ⟨g, 0, none⟩) ys.length dc) (hs : a.eval s = .slice so ys.length sc)
    (hg : w.heap[g]? = some (.cells cur t (0, 0))) (hc : cur.size = ys.length) (hys : IntsAt w S so ys)
    (h : ∀ V, V.heap[g]? = some (.cells (ys.map (Value.int .i64)).toArray t (0, 0)) → Chg w V g → wpList Try.prog ops Q rest (a.put o.dst (.int .i64 (ys.length : Int))) V) :
    wpList Try.prog ops Q (o :: rest) a w :=
  wpList_copyI w hgd d s ho g cur t S so sc dc ys hd hs hg hc hys (h _ (setRow_heap w g _ _ _ _ hg) (chg_setRow w g _))
end
theorem row_ints {w : World} {g : Nat} {ys : List Int} {t : TypeId} (hg : w.heap[g]? = some (.cells (ys.map (Value.int .i64)).toArray t (0, 0))) (hl : ys.length ≤ 17592186044416) {S : Nat → Prop} (hS : S g) : IntsAt w S (some ⟨g, 0, none⟩) ys :=
  ⟨hl, fun _ => ⟨g, 0, rfl, hS, lt_of_block hg, fun k hk => by rw [cell_of_row w g _ _ _ _ hg]; simp [hk]⟩⟩
theorem grown_ext {w w1 w2 : World} {r : Option Nat} (h : w.grownBy w1 r) (e : Ext w1 w2) : w.grownBy w2 r :=
  ⟨Below.os e |>.trans h.os, (Below.tape e).trans h.tape, (Below.output e).trans h.output, Nat.le_trans h.size (Below.size e), fun k hk hne => (Below.block e k (Nat.lt_of_lt_of_le hk h.size)).trans (h.block k hk hne)⟩
theorem grown_chg {w w1 V : World} {b : Nat} (h : w.grownBy w1 (some b)) (c : Chg w1 V b) : w.grownBy V (some b) :=
  ⟨c.g.os.trans h.os, c.g.tape.trans h.tape, c.g.output.trans h.output, by have := h.size; have := c.z; omega, fun k hk hne => (c.g.block k (Nat.lt_of_lt_of_le hk h.size) hne).trans (h.block k hk hne)⟩
theorem Hdr.grown {w w' : World} {r : Option Nat} {b : Nat} {k s n i : Value} (h : Hdr w b k s n i) (g : w.grownBy w' r) (hne : some b ≠ r) : Hdr w' b k s n i := h.keep (g.block b h.lt hne)
section
variable {ops : Array Oper} {rest : List Oper} {o : Oper} {a : Act} {Q : Exit → Act → World → Prop} {w : World}
/-- the next array of a row that is filled from the left -/
theorem wpl_storeAt (hgd : o.guard = none) (p x : Operand) (ho : o.op = .store 26 p x) (g n : Nat) {S : Nat → Prop} {l : List Arr} {y : Arr} {s m i : Option Addr} {sc mc ic : Nat} (hp : a.eval p = .pointer (some ⟨g, l.length * 4, none⟩))
    (hx : a.eval x = .agg #[.int .i64 y.kind, .slice s y.shape.length sc, .slice m y.nums.length mc, .slice i y.items.length ic]) (hh : PartA w S g n l) (hl : l.length < n) (hy : ArrAt w S y s m i)
    (h : ∀ V, PartA V S g n (l ++ [y]) → Chg w V g → wpList Try.prog ops Q rest (a.put o.dst undef) V) : wpList Try.prog ops Q (o :: rest) a w := by
  refine wpList_plain hgd fun K hK => ?_
  have := hK _ _ (h _ (hh.store (sc := sc) (nc := mc) (jc := ic) hy hl) ((((chg_setCell _ _ _ _).trans (chg_setCell _ _ _ _)).trans (chg_setCell _ _ _ _)).trans (chg_setCell _ _ _ _)))
  unfold Oper.wp execOp
  simp only [ho, hp, hx]
  obtain ⟨v0, d0⟩ := Option.isSome_iff_exists.1 (hh.1 (l.length * 4) (by omega))
  obtain ⟨v1, d1⟩ := Option.isSome_iff_exists.1 (hh.1 (l.length * 4 + 1) (by omega))
  obtain ⟨v2, d2⟩ := Option.isSome_iff_exists.1 (hh.1 (l.length * 4 + 2) (by omega))
  obtain ⟨v3, d3⟩ := Option.isSome_iff_exists.1 (hh.1 (l.length * 4 + 3) (by omega))
  have f := hh.2.1
  simp [go_sem, d0, d1, d2, d3, f]
  exact this
end
theorem partA_made {w : World} {g n : Nat} {S : Nat → Prop} (h : w.heap[g]? = some (.cells (madeA n) 26 (0, 0))) (hS : ∀ b, S b → b ≠ g) : PartA w S g n [] :=
  ⟨fun o ho => by rw [cell_of_row w g o _ _ _ h]; have := madeA_size n; rw [Array.getElem?_eq_getElem (by omega)]; rfl, fun o => frozen_of_row w g o _ _ h, hS, fun j x hx => by simp at hx⟩
theorem boxes1 (w : World) {W : World} {k s n i : Value} (h : w.alloc (.cells #[k, s, n, i] 26) = W) : Hdr W w.heap.size k s n i ∧ Ext w W ∧ W.heap.size = w.heap.size + 1 := by
  subst h; exact ⟨hdr_new _ _ _ _ _, ext_alloc _ _, by simp⟩
theorem boxes2 (w : World) {W : World} {k s n i k' s' n' i' : Value} (h : (w.alloc (.cells #[k, s, n, i] 26)).alloc (.cells #[k', s', n', i'] 26) = W) :
    Hdr W w.heap.size k s n i ∧ Hdr W (w.heap.size + 1) k' s' n' i' ∧ Ext w W ∧ W.heap.size = w.heap.size + 2 := by
  obtain ⟨h1, h2, h3⟩ := boxes1 w (k := k) (s := s) (n := n) (i := i) rfl
  obtain ⟨g1, g2, g3⟩ := boxes1 _ h
  exact ⟨h1.up g2, by rw [← h3]; exact g1, h2.trans g2, by omega⟩
theorem boxes3 (w : World) {W : World} {k s n i k' s' n' i' k2 s2 n2 i2 : Value} (h : ((w.alloc (.cells #[k, s, n, i] 26)).alloc (.cells #[k', s', n', i'] 26)).alloc (.cells #[k2, s2, n2, i2] 26) = W) :
    Hdr W w.heap.size k s n i ∧ Hdr W (w.heap.size + 1) k' s' n' i' ∧ Hdr W (w.heap.size + 1 + 1) k2 s2 n2 i2 ∧ Ext w W ∧ W.heap.size = w.heap.size + 3 := by
  obtain ⟨h1, h1', h2, h3⟩ := boxes2 w (k := k) (s := s) (n := n) (i := i) (k' := k') (s' := s') (n' := n') (i' := i') rfl
  obtain ⟨g1, g2, g3⟩ := boxes1 _ h
  exact ⟨h1.up g2, h1'.up g2, by rw [show w.heap.size + 1 + 1 = w.heap.size + 2 by omega, ← h3]; exact g1, h2.trans g2, by omega⟩
theorem lit_at {u wz : World} {l : List Int} (e : Ext (u.alloc (.cells (l.map (Value.int .i64)).toArray 3)) wz) (hl : l.length ≤ 17592186044416) : IntsAt wz (fun b => u.heap.size ≤ b) (some ⟨u.heap.size, 0, none⟩) l :=
  row_ints (made_blk e) hl (Nat.le_refl _)
/-- a variable that holds an array, which is read -/
def Var (w : World) (b : Nat) (a : Arr) : Prop :=
  ∃ sa sc na nc ia ic, Hdr w b (.int .i64 a.kind) (.slice sa a.shape.length sc) (.slice na a.nums.length nc) (.slice ia a.items.length ic) ∧ ArrAt w (fun _ => True) a sa na ia
theorem Var.up {w w' : World} {b : Nat} {a : Arr} (h : Var w b a) (e : Ext w w') : Var w' b a := by
  obtain ⟨sa, sc, na, nc, ia, ic, h1, h2⟩ := h
  exact ⟨sa, sc, na, nc, ia, ic, h1.up e, h2.later e⟩
section
variable {ops : Array Oper} {rest : List Oper} {o : Oper} {a : Act} {Q : Exit → Act → World → Prop} {w : World}
/-- an array goes into a new variable -/
theorem wpl_var (hgd : o.guard = none) (p x : Operand) (ho : o.op = .store 26 p x) (b : Nat) {r : Arr} {s n i : Option Addr} {sc nc ic : Nat} {k' s' n' i' : Value} {S : Nat → Prop} (hp : a.eval p = .pointer (some ⟨b, 0, none⟩))
    (hx : a.eval x = .agg #[.int .i64 r.kind, .slice s r.shape.length sc, .slice n r.nums.length nc, .slice i r.items.length ic]) (hh : Hdr w b k' s' n' i') (hr : ArrAt w S r s n i) (hS : ∀ q, S q → q ≠ b) {w0 : World} (e0 : Ext w0 w) (hb : w0.heap.size ≤ b)
    (h : ∀ V, Var V b r → Ext w0 V → wpList Try.prog ops Q rest (a.put o.dst undef) V) : wpList Try.prog ops Q (o :: rest) a w :=
  wpl_store4 hgd p x ho b hp hx hh fun V hV C => h V ⟨s, sc, n, nc, i, ic, hV, ArrAt.mono (fun _ _ _ => trivial) _ (C.arr hr hS)⟩ (C.below e0 hb)
end
end Go.Proofs.Ytkbbdlibamcilaa
