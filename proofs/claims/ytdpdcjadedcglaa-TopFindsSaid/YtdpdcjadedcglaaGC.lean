/- A group of texts (GC), each with its own conditions: those of each lemma. -/
import Derived.Test.YtdpdcjadedcglaaGB
import Derived.Test.YtdpdcjadedcglaaGA
import Derived.Deep.AppendLies
import Derived.Deep.RegionHeld3
import Derived.Deep.RegionLaw
import Derived.Deep.DeepCutAuto
import Derived.Laws.MakeOwn
import Derived.Laws.CopyRow
import Derived.Laws.IdiomCopy
set_option linter.unusedVariables false
set_option maxRecDepth 20000
set_option linter.unusedSimpArgs false
namespace Go.Proofs.Ytdpdcjadedcglaa
open Go.RowKit Go.Sort
attribute [local go_sem ↓] run_max2 run_min2
attribute [local go_sem] eql_ints_nil eql_arrs_nil
def eqI (s t : List Int) : Bool := decide (s = t)
noncomputable def sameB (a b : Arr) : Bool := @decide (a = b) (Classical.propDecidable _)
theorem eqI_len {s t : List Int} (h : s.length ≠ t.length) : eqI s t = false := by simp only [eqI, decide_eq_false_iff_not]; intro e; exact h (by rw [e])
theorem eqI_at {s t : List Int} {k : Nat} (h : s.getD k 0 ≠ t.getD k 0) : eqI s t = false := by simp only [eqI, decide_eq_false_iff_not]; intro e; exact h (by rw [e])
theorem eqI_all {s t : List Int} (hl : s.length = t.length) (h : ∀ j, j < s.length → s.getD j 0 = t.getD j 0) : eqI s t = true := by
  simp only [eqI, decide_eq_true_eq]
  refine List.ext_getElem hl fun j h1 h2 => ?_
  have := h j h1
  simpa [h1, h2] using this
theorem eqI_true {s t : List Int} (h : eqI s t = true) : s = t := by simpa [eqI] using h
theorem sameB_true {a b : Arr} (h : sameB a b = true) : a = b := @of_decide_eq_true _ (Classical.propDecidable _) h
theorem sameB_self (a : Arr) : sameB a a = true := by unfold sameB; exact @decide_eq_true _ (Classical.propDecidable _) rfl
theorem sameB_not {a b : Arr} (h : a ≠ b) : sameB a b = false := by unfold sameB; exact @decide_eq_false _ (Classical.propDecidable _) h
theorem sameB_kind {a b : Arr} (h : a.kind ≠ b.kind) : sameB a b = false := sameB_not fun e => h (by rw [e])
theorem sameB_shape {a b : Arr} (h : eqI a.shape b.shape = false) : sameB a b = false := sameB_not fun e => by rw [e] at h; simp [eqI] at h
theorem sameB_nums {a b : Arr} (h : eqI a.nums b.nums = false) : sameB a b = false := sameB_not fun e => by rw [e] at h; simp [eqI] at h
theorem sameB_len {a b : Arr} (h : a.items.length ≠ b.items.length) : sameB a b = false := sameB_not fun e => h (by rw [e])
theorem sameB_at {a b : Arr} {j : Nat} (h1 : j < a.items.length) (h2 : j < b.items.length) (h : sameB a.items[j] b.items[j] = false) : sameB a b = false := sameB_not fun e => by subst e; rw [sameB_self] at h; cases h
theorem sameB_all {a b : Arr} (h0 : a.kind = b.kind) (h1 : eqI a.shape b.shape = true) (h2 : eqI a.nums b.nums = true) (hl : a.items.length = b.items.length) (h : ∀ j (h1 : j < a.items.length) (h2 : j < b.items.length), sameB a.items[j] b.items[j] = true) : sameB a b = true := by
  have : a = b := by
    rw [← Arr.eta a, ← Arr.eta b, h0, eqI_true h1, eqI_true h2, List.ext_getElem hl fun j h1 h2 => sameB_true (h j h1 h2)]
  rw [this]; exact sameB_self b
end Go.Proofs.Ytdpdcjadedcglaa
namespace Go.Proofs.Ytdpdcjadedcglaa
open Go.RowKit Go.Sort
attribute [local go_sem ↓] run_max2 run_min2
attribute [local go_sem] eql_ints_nil eql_arrs_nil
/-- what a function that returns an array gives back -/
def RetA (w : World) (S : Nat → Prop) (a : Arr) (e : Ending) (w' : World) : Prop :=
  ∃ sa sc na nc ia ic, e = .returned (.agg #[.int .i64 a.kind, .slice sa a.shape.length sc, .slice na a.nums.length nc, .slice ia a.items.length ic]) ∧ ArrAt w' S a sa na ia ∧ Below w.heap.size w w'
def unitA : Arr := .mk 1 [0] [] []
def fillS (a : Arr) : Arr := if a.kind = 1 then .mk 1 [] [0] [] else if a.kind = 2 then .mk 2 [] [32] [] else if a.kind = 3 then .mk 3 [] [] [unitA] else .zero
theorem zero_at (w : World) (S : Nat → Prop) (sa na ia : Option Addr) : ArrAt w S .zero sa na ia := by
  rw [ArrAt.iff]; exact ⟨IntsAt.nil _ _ _, IntsAt.nil _ _ _, by simp [Arr.zero, Arr.items], by simp [Arr.zero, Arr.items, ItemsAt]⟩
theorem IntsAt.one {w : World} {S : Nat → Prop} {b : Nat} {o : Nat} {n : Int} (hS : S b) (hb : b < w.heap.size) (hc : w.cell? ⟨b, o, none⟩ = some (.int .i64 n)) : IntsAt w S (some ⟨b, o, none⟩) [n] :=
  ⟨by simp, fun _ => ⟨b, o, rfl, hS, hb, fun k hk => by simp at hk; subst hk; simpa using hc⟩⟩
theorem RetA.mk {w w' : World} {S : Nat → Prop} {a : Arr} {k : Int} {s n : List Int} {l : List Arr} {ns nn ni : Nat} (E : a = .mk k s n l) (sa : Option Addr) (sc : Nat) (na : Option Addr) (nc : Nat) (ia : Option Addr) (ic : Nat) (e1 : ns = s.length) (e2 : nn = n.length) (e3 : ni = l.length)
    (h1 : IntsAt w' S sa s) (h2 : IntsAt w' S na n) (hl : l.length ≤ 1759218604441) (h3 : ItemsAt w' S ia 0 l) (hb : Below w.heap.size w w') :
    RetA w S a (.returned (.agg #[.int .i64 k, .slice sa ns sc, .slice na nn nc, .slice ia ni ic])) w' := by
  subst e1; subst e2; subst e3; subst E
  exact ⟨sa, sc, na, nc, ia, ic, rfl, ArrAt.iff.2 ⟨h1, h2, hl, h3⟩, hb⟩
theorem IntsAt.box {w : World} {S : Nat → Prop} {b : Nat} {o : Nat} {n : Int} (hS : S b) (hc : w.cell? ⟨b, o, none⟩ = some (.int .i64 n)) : IntsAt w S (some ⟨b, o, none⟩) [n] := IntsAt.one hS (block_lt_of_cell hc) hc
theorem unit_item {w : World} {S : Nat → Prop} {b b2 : Nat} (hS : S b) (hS2 : S b2) (c0 : w.cell? ⟨b, 0, none⟩ = some (.int .i64 1)) (c1 : w.cell? ⟨b, 1, none⟩ = some (.slice (some ⟨b2, 0, none⟩) 1 1)) (c2 : w.cell? ⟨b, 2, none⟩ = some (.slice none 0 0)) (c3 : w.cell? ⟨b, 3, none⟩ = some (.slice none 0 0))
    (d : w.cell? ⟨b2, 0, none⟩ = some (.int .i64 0)) : ItemsAt w S (some ⟨b, 0, none⟩) 0 [unitA] := by
  refine ItemsAt.of_get fun j x hx => ?_
  have hj : j = 0 := by have := (List.getElem?_eq_some_iff.1 hx).1; simp at this; omega
  subst hj
  simp at hx
  subst hx
  refine ⟨b, 0, some ⟨b2, 0, none⟩, 1, none, 0, none, 0, rfl, hS, block_lt_of_cell c0, c0, c1, c2, c3, ?_⟩
  rw [ArrAt.iff]
  exact ⟨IntsAt.box hS2 d, IntsAt.nil _ _ _, by simp [unitA, Arr.items], by simp [unitA, Arr.items, ItemsAt]⟩
set_option maxHeartbeats 1000000 in
theorem fill_array_Fill (a : Arr) (sa : Option Addr) (sc : Nat) (na : Option Addr) (nc : Nat) (ia : Option Addr) (ic : Nat) (w : World) :
    Calls Try.prog 59 #[.agg #[.int .i64 a.kind, .slice sa a.shape.length sc, .slice na a.nums.length nc, .slice ia a.items.length ic]] w (RetA w (fun b => w.heap.size ≤ b) (fillS a)) := by
  refine calls_post fun R' hR => ?_
  by_cases h1 : a.kind = 1
  · have e1 : (a.kind == 1) = true := by simp [h1]
    have E : Hid (fillS a = .mk 1 [] [0] []) := if_pos h1
    replace h1 := hid h1
    go_enter Try.func59, Try.ntmps59
    go_wp2_with fail
    refine bodyPost_ret (v := .agg #[.int .i64 1, .slice none 0 0, .slice (some ⟨w.heap.size + 1 + 1, 0, none⟩) 1 1, .slice none 0 0]) (by simp [results, Try.results59, go_sem]) rfl (hR.out _ _ ?_)
    refine RetA.mk E.out none 0 _ 1 none 0 rfl rfl rfl (IntsAt.nil _ _ _) (IntsAt.box (b := w.heap.size + 1 + 1) (o := 0) (show w.heap.size ≤ w.heap.size + 1 + 1 by omega) (by simp [go_sem])) (by simp) (by simp only [ItemsAt]) ?_
    repeat' (first | with_reducible exact Below.refl _ _ | with_reducible refine Below.setCell ?_ ?_ _ | with_reducible refine Below.alloc ?_ ?_ _ | with_reducible refine Below.drew ?_ | with_reducible refine below_drewN ?_ _ | omega | (simp; done) | (simp; omega))
  by_cases h2 : a.kind = 2
  · have e1 : (a.kind == 1) = false := by simp [h2]
    have e2 : (a.kind == 2) = true := by simp [h2]
    have E : Hid (fillS a = .mk 2 [] [32] []) := by unfold fillS; rw [if_neg h1, if_pos h2]; exact rfl
    replace h1 := hid h1
    replace h2 := hid h2
    go_enter Try.func59, Try.ntmps59
    go_wp2_with fail
    refine bodyPost_ret (v := .agg #[.int .i64 2, .slice none 0 0, .slice (some ⟨w.heap.size + 1 + 1, 0, none⟩) 1 1, .slice none 0 0]) (by simp [results, Try.results59, go_sem]) rfl (hR.out _ _ ?_)
    refine RetA.mk E.out none 0 _ 1 none 0 rfl rfl rfl (IntsAt.nil _ _ _) (IntsAt.box (b := w.heap.size + 1 + 1) (o := 0) (show w.heap.size ≤ w.heap.size + 1 + 1 by omega) (by simp [go_sem])) (by simp) (by simp only [ItemsAt]) ?_
    repeat' (first | with_reducible exact Below.refl _ _ | with_reducible refine Below.setCell ?_ ?_ _ | with_reducible refine Below.alloc ?_ ?_ _ | with_reducible refine Below.drew ?_ | with_reducible refine below_drewN ?_ _ | omega | (simp; done) | (simp; omega))
  by_cases h3 : a.kind = 3
  · have e1 : (a.kind == 1) = false := by simp [h3]
    have e2 : (a.kind == 2) = false := by simp [h3]
    have e3 : (a.kind == 3) = true := by simp [h3]
    have E : Hid (fillS a = .mk 3 [] [] [unitA]) := by unfold fillS; rw [if_neg h1, if_neg h2, if_pos h3]; exact rfl
    replace h1 := hid h1
    replace h2 := hid h2
    replace h3 := hid h3
    go_enter Try.func59, Try.ntmps59
    go_wp2_with fail
    refine bodyPost_ret (v := .agg #[.int .i64 3, .slice none 0 0, .slice none 0 0, .slice (some ⟨w.heap.size + 1 + 1 + 1, 0, none⟩) 1 1]) (by simp [results, Try.results59, go_sem]) rfl (hR.out _ _ ?_)
    refine RetA.mk E.out none 0 none 0 _ 1 rfl rfl rfl (IntsAt.nil _ _ _) (IntsAt.nil _ _ _) (by simp) ?_ ?_
    · exact unit_item (b := w.heap.size + 1 + 1 + 1) (b2 := w.heap.size + 1 + 1) (show w.heap.size ≤ _ by omega) (show w.heap.size ≤ _ by omega) (by simp [go_sem]) (by simp [go_sem]) (by simp [go_sem]) (by simp [go_sem]) (by simp [go_sem])
    · repeat' (first | with_reducible exact Below.refl _ _ | with_reducible refine Below.setCell ?_ ?_ _ | with_reducible refine Below.alloc ?_ ?_ _ | with_reducible refine Below.drew ?_ | with_reducible refine below_drewN ?_ _ | omega | (simp; done) | (simp; omega))
  · have e1 : (a.kind == 1) = false := by simpa using h1
    have e2 : (a.kind == 2) = false := by simpa using h2
    have e3 : (a.kind == 3) = false := by simpa using h3
    have E : Hid (fillS a = .mk 0 [] [] []) := by unfold fillS; rw [if_neg h1, if_neg h2, if_neg h3]; exact rfl
    replace h1 := hid h1
    replace h2 := hid h2
    replace h3 := hid h3
    go_enter Try.func59, Try.ntmps59
    go_wp2_with fail
    refine bodyPost_ret (v := .agg #[.int .i64 0, .slice none 0 0, .slice none 0 0, .slice none 0 0]) (by simp [results, Try.results59, go_sem]) rfl (hR.out _ _ ?_)
    refine RetA.mk E.out none 0 none 0 none 0 rfl rfl rfl (IntsAt.nil _ _ _) (IntsAt.nil _ _ _) (by simp) (by simp only [ItemsAt]) ?_
    repeat' (first | with_reducible exact Below.refl _ _ | with_reducible refine Below.setCell ?_ ?_ _ | with_reducible refine Below.alloc ?_ ?_ _ | with_reducible refine Below.drew ?_ | with_reducible refine below_drewN ?_ _ | omega | (simp; done) | (simp; omega))
end Go.Proofs.Ytdpdcjadedcglaa
namespace Go.Proofs.Ytdpdcjadedcglaa
open Go.RowKit
theorem step_appI (w : World) {ops : Array Oper} {o : Oper} {a : Act} {K : Act → World → Prop} {Q : Exit → Act → World → Prop} {E : Prop} (hgd : o.guard = none) (s x : Operand)
    (ho : o.op = .call { callee := .builtin .append, args := #[s, x], argTypes := #[24, 24] })
    (base : Nat) (ao : Option Addr) (cap : Nat) (xs : List Int) (hs : a.eval s = .slice ao xs.length cap) (hown : OwnI w base ao cap xs) (S : Nat → Prop) (so : Option Addr) (sc : Nat) (ys : List Int) (hx : a.eval x = .slice so ys.length sc)
    (hys : IntsAt w S so ys) (hlen : xs.length + ys.length ≤ 17592186044416) (hbase : base ≤ w.heap.size)
    (h : ∀ ao' cap' w', OwnI w' base ao' cap' (xs ++ ys) → w.grownBy w' (rowOf ao) → (rowOf ao' = rowOf ao ∨ rowOf ao' = some w.heap.size) → K (a.put o.dst (.slice ao' (xs ++ ys).length cap')) w') :
    if Region.wanted o (yielded ops a.tmps) = true then Oper.wp Try.prog o a w K Q else E := by
  have hw : Region.wanted o (yielded ops a.tmps) = true := by simp [Region.wanted, hgd]
  rw [if_pos hw]
  obtain ⟨ao', cap', w', hrun, h1, h2, h3⟩ := run_appI w o.type base ao cap xs hown S so sc ys hys hlen hbase
  unfold Oper.wp
  simp [execOp, ho, resolve, invoke, builtin, hs, hx, hrun, Result.andThen]
  have := h ao' cap' w' h1 h2 h3
  simp at this
  exact this
theorem step_appA (w : World) {ops : Array Oper} {o : Oper} {a : Act} {K : Act → World → Prop} {Q : Exit → Act → World → Prop} {E : Prop} (hgd : o.guard = none) (s x : Operand)
    (ho : o.op = .call { callee := .builtin .append, args := #[s, x], argTypes := #[25, 25] })
    (base : Nat) (S : Nat → Prop) (ao : Option Addr) (cap : Nat) (l : List Arr) (hs : a.eval s = .slice ao l.length cap) (hown : OwnA w base S ao cap l) (T : Nat → Prop) (so : Option Addr) (sc : Nat) (m : List Arr) (hx : a.eval x = .slice so m.length sc)
    (hm : ItemsAt w T so 0 m) (hTS : ∀ b, b < w.heap.size → T b → S b ∧ some b ≠ rowOf ao) (hlen : l.length + m.length ≤ 1759218604441) (hbase : base ≤ w.heap.size)
    (h : ∀ ao' cap' w', OwnA w' base (fun b => S b ∧ b < w.heap.size) ao' cap' (l ++ m) → w.grownBy w' (rowOf ao) → (rowOf ao' = rowOf ao ∨ rowOf ao' = some w.heap.size) → K (a.put o.dst (.slice ao' (l ++ m).length cap')) w') :
    if Region.wanted o (yielded ops a.tmps) = true then Oper.wp Try.prog o a w K Q else E := by
  have hw : Region.wanted o (yielded ops a.tmps) = true := by simp [Region.wanted, hgd]
  rw [if_pos hw]
  obtain ⟨ao', cap', w', hrun, h1, h2, h3⟩ := run_appA w o.type base S ao cap l hown T so sc m hm hTS hlen hbase
  unfold Oper.wp
  simp [execOp, ho, resolve, invoke, builtin, hs, hx, hrun, Result.andThen]
  have := h ao' cap' w' h1 h2 h3
  simp at this
  exact this
section
variable {w w' : World} {S : Nat → Prop} {ao sa na ia : Option Addr} {xs : List Int} {a : Arr} {l : List Arr} {row : Option Nat} {base cap : Nat}
theorem ArrAt.grown (h : ArrAt w S a sa na ia) (hg : w.grownBy w' row) (hne : ∀ b, S b → b < w.heap.size → some b ≠ row) : ArrAt w' S a sa na ia := ArrAt.keep (fun b hs hlt => hg.block b hlt (hne b hs hlt)) a h
theorem IntsAt.grown (h : IntsAt w S ao xs) (hg : w.grownBy w' row) (hne : ∀ b, S b → b < w.heap.size → some b ≠ row) : IntsAt w' S ao xs := h.keep fun b hs hlt => hg.block b hlt (hne b hs hlt)
theorem ItemsAt.grown (h : ItemsAt w S ia 0 l) (hg : w.grownBy w' row) (hne : ∀ b, S b → b < w.heap.size → some b ≠ row) : ItemsAt w' S ia 0 l := h.keep fun b hs hlt => hg.block b hlt (hne b hs hlt)
theorem ArrAt.grown0 (h : ArrAt w S a sa na ia) (hg : w.grownBy w' none) : ArrAt w' S a sa na ia := h.grown hg fun _ _ _ => by simp
theorem IntsAt.grown0 (h : IntsAt w S ao xs) (hg : w.grownBy w' none) : IntsAt w' S ao xs := h.grown hg fun _ _ _ => by simp
theorem OwnI.grown0 (h : OwnI w base ao cap xs) (hg : w.grownBy w' none) : OwnI w' base ao cap xs := h.keep fun k hk => hg.block k (h.row k hk).2 (by simp)
theorem OwnI.drew (h : OwnI w base ao cap xs) : OwnI w.drew base ao cap xs := h.keep (w' := w.drew) fun _ _ => rfl
theorem OwnI.drewN (h : OwnI w base ao cap xs) (n : Nat) : OwnI (w.drewN n) base ao cap xs := h.keep (w' := w.drewN n) fun _ _ => rfl
theorem OwnA.drew (h : OwnA w base S ao cap l) : OwnA w.drew base S ao cap l := h.keep (w' := w.drew) (fun _ _ => rfl) fun _ _ _ => rfl
theorem OwnA.drewN (h : OwnA w base S ao cap l) (n : Nat) : OwnA (w.drewN n) base S ao cap l := h.keep (w' := w.drewN n) (fun _ _ => rfl) fun _ _ _ => rfl
theorem OwnI.setCell' (h : OwnI w base ao cap xs) {b o : Nat} {f : Option (TypeId × Nat)} (u : Value) (hb : rowOf ao ≠ some b) (p : Addr) (hp : p.block = b) : OwnI (w.setCell p u) base ao cap xs := h.setCell (by rw [hp]; exact hb) u
end
/-- One array, in a block of its own, read as a slice of one. -/
theorem items_one {w : World} {S : Nat → Prop} {b : Nat} {x : Arr} {sa na ja : Option Addr} {sc nc jc : Nat} (hS : S b) (c0 : w.cell? ⟨b, 0, none⟩ = some (.int .i64 x.kind)) (c1 : w.cell? ⟨b, 1, none⟩ = some (.slice sa x.shape.length sc)) (c2 : w.cell? ⟨b, 2, none⟩ = some (.slice na x.nums.length nc)) (c3 : w.cell? ⟨b, 3, none⟩ = some (.slice ja x.items.length jc))
    (hx : ArrAt w S x sa na ja) : ItemsAt w S (some ⟨b, 0, none⟩) 0 [x] := by
  refine ItemsAt.of_get fun j y hy => ?_
  have hj : j = 0 := by have := (List.getElem?_eq_some_iff.1 hy).1; simp at this; omega
  subst hj
  simp at hy
  subst hy
  exact ⟨b, 0, sa, sc, na, nc, ja, jc, rfl, hS, block_lt_of_cell c0, c0, c1, c2, c3, hx⟩
end Go.Proofs.Ytdpdcjadedcglaa
namespace Go.Proofs.Ytdpdcjadedcglaa
open Go.RowKit Go.Sort
attribute [local go_sem ↓] run_max2 run_min2
attribute [local go_sem] eql_ints_nil eql_arrs_nil
theorem OwnI.ints' {w : World} {base bx : Nat} {ao : Option Addr} {cap : Nat} {xs : List Int} (h : OwnI w base ao cap xs) (hl : xs.length ≤ 17592186044416) (hn : ∀ k, rowOf ao = some k → k ≠ bx) : IntsAt w (fun b => base ≤ b ∧ b ≠ bx) ao xs :=
  (h.ints hl).mono fun b _ hb => ⟨hb.1, hn b hb.2⟩
theorem IntsAt.set {w : World} {S : Nat → Prop} {ao : Option Addr} {xs : List Int} (h : IntsAt w S ao xs) (p : Addr) (v : Value) (hne : ∀ b, S b → b ≠ p.block) : IntsAt (w.setCell p v) S ao xs :=
  h.keep fun b hs _ => (Below.heap_setCell w p v b (hne b hs))
theorem ArrAt.set {w : World} {S : Nat → Prop} {a : Arr} {sa na ia : Option Addr} (h : ArrAt w S a sa na ia) (p : Addr) (v : Value) (hne : ∀ b, S b → b ≠ p.block) : ArrAt (w.setCell p v) S a sa na ia :=
  ArrAt.keep (fun b hs _ => (Below.heap_setCell w p v b (hne b hs))) a h
theorem below_app0 {w w' : World} (hg : w.grownBy w' none) : Below w.heap.size w w' := ⟨hg.os, hg.tape, hg.output, hg.size, fun k hk => hg.block k hk (by simp)⟩
/-- the copy's variable, behind the first statement -/
def RcMid (w W : World) (a : Arr) (p : Value) (wx : World) : Prop :=
  ∃ bx sa sc na nc, p = .pointer (some ⟨bx, 0, none⟩) ∧ w.heap.size + 2 ≤ bx ∧ bx < wx.heap.size ∧ wx.cell? ⟨bx, 0, none⟩ = some (.int .i64 a.kind) ∧ wx.cell? ⟨bx, 1, none⟩ = some (.slice sa a.shape.length sc) ∧ wx.cell? ⟨bx, 2, none⟩ = some (.slice na a.nums.length nc) ∧ wx.cell? ⟨bx, 3, none⟩ = some (.slice none 0 0) ∧ wx.frozen? ⟨bx, 3, none⟩ = false ∧
    IntsAt wx (fun b => w.heap.size + 2 ≤ b ∧ b ≠ bx) sa a.shape ∧ IntsAt wx (fun b => w.heap.size + 2 ≤ b ∧ b ≠ bx) na a.nums ∧ Below W.heap.size W wx
theorem rc_step {wc wr w2 w4 : World} {bx : Nat} {row : Option Nat} (hg : wc.grownBy wr (some bx)) (hb2 : Below wr.heap.size wr w2) (o : Obj) (hg4 : (w2.alloc o).grownBy w4 row) (hrow : ∀ k, row = some k → wc.heap.size ≤ k) (v : Value) : wc.grownBy (w4.setCell ⟨bx, 3, none⟩ v) (some bx) := by
  have hs := hg.size
  have hs2 := hb2.size
  have hs4 := hg4.size
  simp at hs4
  refine ⟨?_, ?_, ?_, ?_, ?_⟩
  · exact hg4.os.trans (hb2.os.trans hg.os)
  · exact hg4.tape.trans (hb2.tape.trans hg.tape)
  · exact hg4.output.trans (hb2.output.trans hg.output)
  · simp [World.setCell]; omega
  · intro k hk hne
    rw [Below.heap_setCell w4 ⟨bx, 3, none⟩ v k (by intro e; exact hne (by rw [e]))]
    rw [hg4.block k (by simp; omega) (by intro e; have := hrow k e.symm; omega)]
    rw [Below.heap_alloc w2 o k (by omega), hb2.block k (by omega)]
    exact hg.block k hk hne
theorem set4 (w : World) (b : Nat) (v0 v1 v2 v3 : Value) {k : Nat} (h : k ≠ b) : ((((w.setCell ⟨b, 0, none⟩ v0).setCell ⟨b, 1, none⟩ v1).setCell ⟨b, 2, none⟩ v2).setCell ⟨b, 3, none⟩ v3).heap[k]? = w.heap[k]? := by
  rw [Below.heap_setCell _ _ _ k h, Below.heap_setCell _ _ _ k h, Below.heap_setCell _ _ _ k h, Below.heap_setCell _ _ _ k h]
theorem IntsAt.keep4 {w : World} {S : Nat → Prop} {ao : Option Addr} {xs : List Int} {b : Nat} {v0 v1 v2 v3 : Value} (h : IntsAt w S ao xs) (hS : ∀ k, S k → k ≠ b) : IntsAt ((((w.setCell ⟨b, 0, none⟩ v0).setCell ⟨b, 1, none⟩ v1).setCell ⟨b, 2, none⟩ v2).setCell ⟨b, 3, none⟩ v3) S ao xs :=
  h.keep fun k hk _ => set4 w b v0 v1 v2 v3 (hS k hk)
theorem own_step {w4 : World} {N bx : Nat} {T : Nat → Prop} {io : Option Addr} {icap : Nat} {l : List Arr} (h : OwnA w4 N (fun b => N ≤ b ∧ T b) io icap l) (hb : bx < N) (v : Value) : OwnA (w4.setCell ⟨bx, 3, none⟩ v) N (fun b => N ≤ b) io icap l :=
  (h.mono fun b _ hs => hs.1).keep (fun k hk => Below.heap_setCell w4 ⟨bx, 3, none⟩ v k (by intro e; have := (h.row k hk).1; simp at e; omega)) fun b hs _ => Below.heap_setCell w4 ⟨bx, 3, none⟩ v b (by intro e; simp at e; omega)
def RcRel (wc : World) (bx : Nat) (kd : Int) (s1 : Option Addr) (sl d1 : Nat) (n1 : Option Addr) (nl m1 : Nat) (l : List Arr) (i : Value) (wr : World) : Prop :=
  ∃ k io icap, k ≤ l.length ∧ i = .int .i64 (k : Nat) ∧ wr.cell? ⟨bx, 0, none⟩ = some (.int .i64 kd) ∧ wr.cell? ⟨bx, 1, none⟩ = some (.slice s1 sl d1) ∧ wr.cell? ⟨bx, 2, none⟩ = some (.slice n1 nl m1) ∧ wr.cell? ⟨bx, 3, none⟩ = some (.slice io (l.take k).length icap) ∧ wr.frozen? ⟨bx, 3, none⟩ = false ∧
    OwnA wr wc.heap.size (fun b => wc.heap.size ≤ b) io icap (l.take k) ∧ wc.grownBy wr (some bx)
end Go.Proofs.Ytdpdcjadedcglaa
namespace Go.Proofs.Ytdpdcjadedcglaa
open Go.RowKit
def madeI (n : Nat) : Array Value := madeCells #[.int .i64 0] (n * 1)
def madeA (n : Nat) : Array Value := madeCells #[.int .i64 0, .slice none 0 0, .slice none 0 0, .slice none 0 0] (n * 4)
theorem madeI_size (n : Nat) : (madeI n).size = n := by unfold madeI; rw [size_madeCells]; omega
theorem madeA_size (n : Nat) : (madeA n).size = n * 4 := by unfold madeA; rw [size_madeCells]
theorem run_makeI (w : World) (n : Nat) (h : n ≤ 17592186044416) : (Instr.makeSlice 24 (.int .i64 (n : Int)) (.int .i64 (n : Int))).run Try.prog w = .ok (.slice (some ⟨w.heap.size, 0, none⟩) n n) (w.alloc (.cells (madeI n) 3)) := by
  obtain ⟨i0, hi, hz0, hz1, hz2⟩ := info_parts infoInt
  have hr := run_make (P := Try.prog) w 24 3 i0 (.int .i64 0) Try.underlying24 hi hz0 .i64 .i64 n n (by omega) (Int.le_refl _) (by rw [hz2]; omega) (by omega)
  simp only [Int.toNat_natCast, hz1] at hr
  exact hr
theorem run_makeA (w : World) (n : Nat) (h : n ≤ 1759218604441) : (Instr.makeSlice 25 (.int .i64 (n : Int)) (.int .i64 (n : Int))).run Try.prog w = .ok (.slice (some ⟨w.heap.size, 0, none⟩) n n) (w.alloc (.cells (madeA n) 27)) := by
  obtain ⟨i0, hi, hz0, hz1, hz2⟩ := info_parts infoArr
  have hr := run_make (P := Try.prog) w 25 27 i0 (.agg #[.int .i64 0, .slice none 0 0, .slice none 0 0, .slice none 0 0]) Try.underlying25 hi hz0 .i64 .i64 n n (by omega) (Int.le_refl _) (by rw [hz2]; omega) (by omega)
  simp only [Int.toNat_natCast, hz1] at hr
  exact hr
/-- copy of a whole list of int into a row of its own length -/
theorem run_copyI (w : World) (ty : TypeId) (g : Nat) (cur : Array Value) (t : TypeId) (S : Nat → Prop) (so : Option Addr) (sc dc : Nat) (ys : List Int) (hg : w.heap[g]? = some (.cells cur t (0, 0))) (hc : cur.size = ys.length) (hys : IntsAt w S so ys) :
    (Builtin.copy_ #[24, 24] ty #[.slice (some ⟨g, 0, none⟩) ys.length dc, .slice so ys.length sc]).run Try.prog w = .ok (.int .i64 (ys.length : Int)) (w.setRow g (ys.map (Value.int .i64)).toArray) := by
  obtain ⟨i0, hi, hz0, hz1, hz2⟩ := info_parts infoInt
  have hs : (Try.prog.info? 3).map (·.size) = some 1 := by rw [hi]; simp [hz1]
  by_cases h0 : ys.length = 0
  · have hy : ys = [] := List.eq_nil_of_length_eq_zero h0
    subst hy
    have := run_copy_none (P := Try.prog) w 24 24 ty 3 (some ⟨g, 0, none⟩) so 0 dc 0 sc Try.underlying24 hs rfl
    have hcur : cur = #[] := Array.eq_empty_of_size_eq_zero (by simpa using hc)
    subst hcur
    simp only [List.map_nil, List.length_nil]
    rw [show w.setRow g #[].toList.toArray = w from setRow_self w g #[] t (0, 0) hg] 
    exact this
  · obtain ⟨b, off, rfl, hS, hlt, hcell⟩ := hys.2 (by omega)
    have := run_copy_row (P := Try.prog) w 24 24 ty 3 g 0 ys.length dc ⟨b, off, none⟩ ys.length sc cur t (ys.map (Value.int .i64)) Try.underlying24 hs hg (by simp [Nat.min_def]) (by
      intro j v hv
      have hj : j < ys.length := by have := (List.getElem?_eq_some_iff.1 hv).1; simpa using this
      have hcj := hcell j hj
      simp [hj] at hv
      subst hv
      simpa [Addr.add_lit, hj] using hcj) (by simp; omega) (ints_oneCell _ _)
    simp only [List.take_zero, List.nil_append, List.length_map, Nat.zero_add] at this
    rw [List.drop_of_length_le (by simp; omega), List.append_nil] at this
    exact this
theorem wpList_copyI {ops : Array Oper} {rest : List Oper} {o : Oper} {a : Act} {Q : Exit → Act → World → Prop} (w : World) (hgd : o.guard = none) (d s : Operand)
    (ho : o.op = .call { callee := .builtin .copy, args := #[d, s], argTypes := #[24, 24] })
    (g : Nat) (cur : Array Value) (t : TypeId) (S : Nat → Prop) (so : Option Addr) (sc dc : Nat) (ys : List Int) (hd : a.eval d = .slice (some ⟨g, 0, none⟩) ys.length dc) (hs : a.eval s = .slice so ys.length sc)
    (hg : w.heap[g]? = some (.cells cur t (0, 0))) (hc : cur.size = ys.length) (hys : IntsAt w S so ys)
    (h : wpList Try.prog ops Q rest (a.put o.dst (.int .i64 (ys.length : Int))) (w.setRow g (ys.map (Value.int .i64)).toArray)) :
    wpList Try.prog ops Q (o :: rest) a w := by
  refine wpList_plain hgd fun K hK => ?_
  have hrun := run_copyI w o.type g cur t S so sc dc ys hg hc hys
  unfold Oper.wp
  simp [execOp, ho, resolve, invoke, builtin, hd, hs, hrun, Result.andThen]
  exact hK _ _ h
theorem isSome_set {w : World} {p q : Addr} {v : Value} (h : (w.cell? q).isSome = true) : ((w.setCell p v).cell? q).isSome = true := by
  by_cases e : p = q
  · subst e
    obtain ⟨u, hu⟩ := Option.isSome_iff_exists.1 h
    rw [World.cell?_setCell_same _ _ _ hu]; rfl
  · rw [World.cell?_setCell_other _ _ _ _ e]; exact h
/-- a row of arrays that is filled from the left: its first elements are read -/
def PartA (w : World) (S : Nat → Prop) (g n : Nat) (l : List Arr) : Prop :=
  (∀ o, o < n * 4 → (w.cell? ⟨g, o, none⟩).isSome = true) ∧ (∀ o, w.frozen? ⟨g, o, none⟩ = false) ∧ (∀ b, S b → b ≠ g) ∧
    ∀ j x, l[j]? = some x → ∃ sa sc na nc ja jc, w.cell? ⟨g, j * 4, none⟩ = some (.int .i64 x.kind) ∧ w.cell? ⟨g, j * 4 + 1, none⟩ = some (.slice sa x.shape.length sc) ∧ w.cell? ⟨g, j * 4 + 2, none⟩ = some (.slice na x.nums.length nc) ∧
      w.cell? ⟨g, j * 4 + 3, none⟩ = some (.slice ja x.items.length jc) ∧ ArrAt w S x sa na ja
theorem PartA.keep {w w' : World} {S : Nat → Prop} {g n : Nat} {l : List Arr} (h : PartA w S g n l) (hg : w'.heap[g]? = w.heap[g]?) (hk : ∀ b, S b → b < w.heap.size → w'.heap[b]? = w.heap[b]?) : PartA w' S g n l := by
  have hc : ∀ o, w'.cell? ⟨g, o, none⟩ = w.cell? ⟨g, o, none⟩ := fun o => World.cell?_of_block (a := ⟨g, o, none⟩) hg
  have hf : ∀ o, w'.frozen? ⟨g, o, none⟩ = w.frozen? ⟨g, o, none⟩ := fun o => World.frozen?_of_block (a := ⟨g, o, none⟩) hg
  refine ⟨fun o ho => by rw [hc]; exact h.1 o ho, fun o => by rw [hf]; exact h.2.1 o, h.2.2.1, fun j x hx => ?_⟩
  obtain ⟨sa, sc, na, nc, ja, jc, e0, e1, e2, e3, e4⟩ := h.2.2.2 j x hx
  exact ⟨sa, sc, na, nc, ja, jc, (hc _).trans e0, (hc _).trans e1, (hc _).trans e2, (hc _).trans e3, ArrAt.keep hk x e4⟩
theorem PartA.items {w : World} {S : Nat → Prop} {g n : Nat} {l : List Arr} (h : PartA w S g n l) {T : Nat → Prop} (hT : ∀ b, S b → T b) (hg : T g) : ItemsAt w T (some ⟨g, 0, none⟩) 0 l := by
  refine ItemsAt.of_get fun j x hx => ?_
  obtain ⟨sa, sc, na, nc, ja, jc, e0, e1, e2, e3, e4⟩ := h.2.2.2 j x hx
  exact ⟨g, 0, sa, sc, na, nc, ja, jc, rfl, hg, block_lt_of_cell e0, by simpa using e0, by simpa [Nat.add_assoc] using e1, by simpa [Nat.add_assoc] using e2, by simpa [Nat.add_assoc] using e3, ArrAt.mono (fun b _ hb => hT b hb) x e4⟩
/-- the next element is stored -/
theorem PartA.store {w : World} {S : Nat → Prop} {g n : Nat} {l : List Arr} (h : PartA w S g n l) {x : Arr} {sa na ja : Option Addr} {sc nc jc : Nat} (hx : ArrAt w S x sa na ja) (hl : l.length < n) :
    PartA ((((w.setCell ⟨g, l.length * 4, none⟩ (.int .i64 x.kind)).setCell ⟨g, l.length * 4 + 1, none⟩ (.slice sa x.shape.length sc)).setCell ⟨g, l.length * 4 + 2, none⟩ (.slice na x.nums.length nc)).setCell ⟨g, l.length * 4 + 3, none⟩ (.slice ja x.items.length jc)) S g n (l ++ [x]) := by
  have hs : ∀ o, o < n * 4 → ∃ u, w.cell? ⟨g, o, none⟩ = some u := fun o ho => Option.isSome_iff_exists.1 (h.1 o ho)
  have hkeep : ∀ b, S b → ((((w.setCell ⟨g, l.length * 4, none⟩ (.int .i64 x.kind)).setCell ⟨g, l.length * 4 + 1, none⟩ (.slice sa x.shape.length sc)).setCell ⟨g, l.length * 4 + 2, none⟩ (.slice na x.nums.length nc)).setCell ⟨g, l.length * 4 + 3, none⟩ (.slice ja x.items.length jc)).heap[b]? = w.heap[b]? := fun b hb => by
    have := h.2.2.1 b hb
    rw [Below.heap_setCell _ _ _ b this, Below.heap_setCell _ _ _ b this, Below.heap_setCell _ _ _ b this, Below.heap_setCell _ _ _ b this]
  obtain ⟨u0, c0⟩ := hs (l.length * 4) (by omega)
  obtain ⟨u1, c1⟩ := hs (l.length * 4 + 1) (by omega)
  obtain ⟨u2, c2⟩ := hs (l.length * 4 + 2) (by omega)
  obtain ⟨u3, c3⟩ := hs (l.length * 4 + 3) (by omega)
  refine ⟨fun o ho => ?_, fun o => ?_, h.2.2.1, fun j y hy => ?_⟩
  · obtain ⟨u, hu⟩ := hs o ho
    exact isSome_set (isSome_set (isSome_set (isSome_set (h.1 o ho))))
  · simp only [World.frozen?_setCell]; exact h.2.1 o
  · by_cases hj : j < l.length
    · rw [List.getElem?_append_left hj] at hy
      obtain ⟨sa', sc', na', nc', ja', jc', e0, e1, e2, e3, e4⟩ := h.2.2.2 j y hy
      have ho : ∀ (o : Nat) u, o < l.length * 4 → w.cell? ⟨g, o, none⟩ = some u → ((((w.setCell ⟨g, l.length * 4, none⟩ (.int .i64 x.kind)).setCell ⟨g, l.length * 4 + 1, none⟩ (.slice sa x.shape.length sc)).setCell ⟨g, l.length * 4 + 2, none⟩ (.slice na x.nums.length nc)).setCell ⟨g, l.length * 4 + 3, none⟩ (.slice ja x.items.length jc)).cell? ⟨g, o, none⟩ = some u := fun o u ho hu => by
        rw [World.cell?_setCell_other _ _ _ _ (by intro e; injection e with _ e; omega), World.cell?_setCell_other _ _ _ _ (by intro e; injection e with _ e; omega), World.cell?_setCell_other _ _ _ _ (by intro e; injection e with _ e; omega), World.cell?_setCell_other _ _ _ _ (by intro e; injection e with _ e; omega)]
        exact hu
      exact ⟨sa', sc', na', nc', ja', jc', ho _ _ (by omega) e0, ho _ _ (by omega) e1, ho _ _ (by omega) e2, ho _ _ (by omega) e3, ArrAt.keep (fun b hb _ => hkeep b hb) y e4⟩
    · have hj' : j = l.length := by have := (List.getElem?_eq_some_iff.1 hy).1; simp at this; omega
      subst hj'
      simp at hy
      subst hy
      refine ⟨sa, sc, na, nc, ja, jc, ?_, ?_, ?_, ?_, ArrAt.keep (fun b hb _ => hkeep b hb) x hx⟩
      · simp [go_sem, c0, c1, c2, c3]
      · simp [go_sem, c0, c1, c2, c3]
      · simp [go_sem, c0, c1, c2, c3]
      · simp [go_sem, c0, c1, c2, c3]
end Go.Proofs.Ytdpdcjadedcglaa
namespace Go.Proofs.Ytdpdcjadedcglaa
def validS (a : Arr) : Arr := if rightS a = 0 then a else .zero
theorem validS_yes {a : Arr} (h : rightS a = 0) : validS a = a := if_pos h
theorem validS_no {a : Arr} (h : rightS a ≠ 0) : validS a = .zero := if_neg h
def numA (n : Int) : Arr := .mk 1 [] [n] []
def vctA (l : List Int) : Arr := .mk 1 [(l.length : Int)] l []
def boxA (a : Arr) : Arr := .mk 3 [] [] [a]
def bxsA (l : List Arr) : Arr := .mk 3 [(l.length : Int)] [] l
def szA (a : Arr) : Nat := szN a.kind a.nums.length a.items.length
def atS (a : Arr) (i : Int) : Arr := if i < 0 ∨ (szA a : Int) ≤ i then .zero else if a.kind = 3 then .mk 3 [] [] [a.items.getD i.toNat .zero] else .mk a.kind [] [a.nums.getD i.toNat 0] []
def shpS (y : Arr) : Arr := if rightS y = 0 then validS (vctA y.shape) else .zero
def talN (y : Arr) : Int := if y.shape.length = 0 then 1 else y.shape.getD 0 0
def talS (y : Arr) : Arr := if rightS y = 0 then validS (numA (talN y)) else .zero
def ravS (y : Arr) : Arr := if rightS y = 0 then .mk y.kind [(szA y : Int)] y.nums y.items else .zero
def depS (y : Arr) : Arr := if rightS y = 0 then validS (numA (depA y)) else .zero
def kndS (y : Arr) : Arr := if rightS y = 0 then validS (numA y.kind) else .zero
def encE (y : Arr) : Int := if rightS y ≠ 0 then 1 else if (validS (boxA y)).kind ≠ 3 then 21 else 0
def encS (y : Arr) : Arr := if encE y = 0 then validS (boxA y) else .zero
def disE (y : Arr) : Int := if rightS y ≠ 0 then 1 else if y.kind ≠ 3 then 0 else if y.items.length ≠ 1 then 16 else 0
def disS (y : Arr) : Arr := if disE y ≠ 0 then .zero else if y.kind ≠ 3 then y else y.items.getD 0 .zero
def fstS (y : Arr) : Arr := if rightS y ≠ 0 then .zero else if szA y = 0 then fillS y else atS y 0
def rngL (n : Nat) : List Int := (List.range n).map fun (k : Nat) => (k : Int)
def turA (tk : Int) (y : Arr) : Arr := .mk tk y.shape y.nums y.items
def turE (fr tk : Int) (y : Arr) : Int := if rightS y ≠ 0 then 1 else if y.kind ≠ fr then 14 else if rightS (turA tk y) ≠ 0 then 17 else 0
def turS (fr tk : Int) (y : Arr) : Arr := if turE fr tk y = 0 then turA tk y else .zero
theorem rngL_len (n : Nat) : (rngL n).length = n := by simp [rngL]
theorem rngL_succ (n : Nat) : rngL (n + 1) = rngL n ++ [(n : Int)] := by simp [rngL, List.range_succ]
theorem rngL_getD {n k : Nat} (h : k < n) : (rngL n).getD k 0 = k := by simp [rngL, h]
/-- characters are numbers -/
theorem ord_right {y : Arr} (h : rightS y = 0) (hk : y.kind = 2) : rightS (turA 1 y) = 0 := by
  obtain ⟨h1, h2, h3, h4⟩ := right_iff.1 h
  obtain ⟨_, hs, hh⟩ := formE_zero h1
  rw [right_iff]
  simp only [turA, Arr.kind, Arr.shape, Arr.nums, Arr.items]
  refine ⟨form_of (Or.inl rfl) hs (Or.inr (by rcases hh with ⟨q, _⟩ | ⟨_, q1, q2⟩; exact absurd q (by omega); exact ⟨by omega, q1, q2⟩)), fun n hn => ?_, h3, h4⟩
  have := h2 n hn
  rw [hk] at this
  simp [elemB, chrB] at this
  simp [elemB, numB]
  omega
end Go.Proofs.Ytdpdcjadedcglaa
