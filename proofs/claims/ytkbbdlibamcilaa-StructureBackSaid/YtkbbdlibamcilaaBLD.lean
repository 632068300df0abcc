/- An array that a loop builds in a variable of its own: what is carried, and the law of one more element. Conditions: those of each lemma. -/
import Derived.Test.YtkbbdlibamcilaaACLO
import Derived.Test.YtkbbdlibamcilaaSHI
set_option linter.unusedVariables false
set_option linter.unusedSimpArgs false
namespace Go.Proofs.Ytkbbdlibamcilaa
open Go.RowKit Go.Sort
theorem OwnI.up {w w' : World} {base : Nat} {ao : Option Addr} {cap : Nat} {xs : List Int} (h : OwnI w base ao cap xs) (e : Ext w w') : OwnI w' base ao cap xs := h.keep fun k hk => Below.block e k (h.row k hk).2
theorem OwnA.up {w w' : World} {base : Nat} {S : Nat → Prop} {ao : Option Addr} {cap : Nat} {l : List Arr} (h : OwnA w base S ao cap l) (e : Ext w w') : OwnA w' base S ao cap l := h.keep (fun k hk => Below.block e k (h.row k hk).2) fun b _ hlt => Below.block e b hlt
theorem ArrAt.up {w w' : World} {S : Nat → Prop} {a : Arr} {sa na ia : Option Addr} (h : ArrAt w S a sa na ia) (e : Ext w w') : ArrAt w' S a sa na ia := h.later e
theorem IntsAt.up {w w' : World} {S : Nat → Prop} {ao : Option Addr} {xs : List Int} (h : IntsAt w S ao xs) (e : Ext w w') : IntsAt w' S ao xs := h.later e
theorem ItemsAt.up {w w' : World} {S : Nat → Prop} {ao : Option Addr} {l : List Arr} (h : ItemsAt w S ao 0 l) (e : Ext w w') : ItemsAt w' S ao 0 l := h.later e
/-- numbers -/
structure BldN (wc w : World) (bx : Nat) (kd sv : Value) (na : Option Addr) (nc : Nat) (nums : List Int) : Prop where
  h : Hdr w bx kd sv (.slice na nums.length nc) (.slice none 0 0)
  o : OwnI w wc.heap.size na nc nums
  g : wc.grownBy w (some bx)
  l : bx < wc.heap.size
/-- items; T: where their contents lie -/
structure BldA (wc w : World) (bx : Nat) (kd sv : Value) (T : Nat → Prop) (ia : Option Addr) (ic : Nat) (items : List Arr) : Prop where
  h : Hdr w bx kd sv (.slice none 0 0) (.slice ia items.length ic)
  o : OwnA w wc.heap.size T ia ic items
  g : wc.grownBy w (some bx)
  l : bx < wc.heap.size
  t : ∀ b, T b → b ≠ bx
section
variable {wc w w' : World} {bx : Nat} {kd sv : Value} {na ia : Option Addr} {nc ic : Nat} {nums : List Int} {items : List Arr} {T : Nat → Prop}
theorem BldN.up (h : BldN wc w bx kd sv na nc nums) (e : Ext w w') : BldN wc w' bx kd sv na nc nums := ⟨h.h.up e, h.o.up e, grown_ext h.g e, h.l⟩
theorem BldA.up (h : BldA wc w bx kd sv T ia ic items) (e : Ext w w') : BldA wc w' bx kd sv T ia ic items := ⟨h.h.up e, h.o.up e, grown_ext h.g e, h.l, h.t⟩
theorem BldN.new (h : Hdr w bx kd sv (.slice none 0 0) (.slice none 0 0)) : BldN w w bx kd sv none 0 [] := ⟨h, OwnI.nil _ _, World.grownBy.refl _ _, h.lt⟩
theorem BldA.new (h : Hdr w bx kd sv (.slice none 0 0) (.slice none 0 0)) (ht : ∀ b, T b → b ≠ bx) : BldA w w bx kd sv T none 0 [] := ⟨h, OwnA.nil _ _ _, World.grownBy.refl _ _, h.lt, ht⟩
theorem grown_row {w1 : World} {row : Option Nat} (h : wc.grownBy w (some bx)) (g : w.grownBy w1 row) (hr : ∀ k, row = some k → wc.heap.size ≤ k) : wc.grownBy w1 (some bx) :=
  ⟨g.os.trans h.os, g.tape.trans h.tape, g.output.trans h.output, Nat.le_trans h.size g.size, fun k hk hne => (g.block k (Nat.lt_of_lt_of_le hk h.size) (fun e => by have := hr k e.symm; omega)).trans (h.block k hk hne)⟩
end
section
variable {ops : Array Oper} {rest : List Oper} {o1 o2 o3 : Oper} {a : Act} {Q : Exit → Act → World → Prop} {wc w : World} {bx : Nat} {kd sv : Value} {na ia : Option Addr} {nc ic : Nat} {nums : List Int} {items : List Arr} {T : Nat → Prop}
theorem wpl_addN (g1 : o1.guard = none) (g2 : o2.guard = none) (g3 : o3.guard = none) (s x p q r : Operand) (h1 : o1.op = .call { callee := .builtin .append, args := #[s, x], argTypes := #[23, 23] }) (h2 : o2.op = .fieldAddr 26 p 2) (h3 : o3.op = .store 23 q r)
    (B : BldN wc w bx kd sv na nc nums) (S : Nat → Prop) (so : Option Addr) (sc : Nat) (ys : List Int) (hs : a.eval s = .slice na nums.length nc) (hx : a.eval x = .slice so ys.length sc) (hy : IntsAt w S so ys) (hlen : nums.length + ys.length ≤ 17592186044416)
    (hp : ∀ v, (a.put o1.dst v).eval p = .pointer (some ⟨bx, 0, none⟩)) (hq : ∀ v u, ((a.put o1.dst v).put o2.dst u).eval q = u) (hr : ∀ v u, ((a.put o1.dst v).put o2.dst u).eval r = v)
    (h : ∀ V na' nc', BldN wc V bx kd sv na' nc' (nums ++ ys) → wpList Try.prog ops Q rest (((a.put o1.dst (.slice na' (nums ++ ys).length nc')).put o2.dst (.pointer (some ⟨bx, 2, none⟩))).put o3.dst undef) V) :
    wpList Try.prog ops Q (o1 :: o2 :: o3 :: rest) a w := by
  refine wpList_appI w g1 s x h1 wc.heap.size na nc nums hs B.o S so sc ys hx hy hlen B.g.size ?_
  intro ao' cap' w4 hown hg hrow
  have hb : rowOf na ≠ some bx := fun e => by have := (B.o.row bx e).1; have := B.l; omega
  have H4 : Hdr w4 bx kd sv (.slice na nums.length nc) (.slice none 0 0) := B.h.grown hg (fun e => hb e.symm)
  have G4 : wc.grownBy w4 (some bx) := grown_row B.g hg (fun k hk => (B.o.row k hk).1)
  refine wpList_plain g2 fun K hK => ?_
  have step := fun h => hK ((a.put o1.dst (.slice ao' (nums ++ ys).length cap')).put o2.dst (.pointer (some ⟨bx, 2, none⟩))) w4 h
  have hfin : wpList Try.prog ops Q (o3 :: rest) ((a.put o1.dst (.slice ao' (nums ++ ys).length cap')).put o2.dst (.pointer (some ⟨bx, 2, none⟩))) w4 := by
    refine wpl_store2 g3 q r h3 bx (hq _ _) (hr _ _) H4 ?_
    intro V HV C
    have hb' : rowOf ao' ≠ some bx := fun e => by have := (hown.row bx e).1; have := B.l; omega
    exact h V ao' cap' ⟨HV, hown.keep (fun k hk => C.blk (hown.row k hk).2 (fun e => hb' (e ▸ hk))), grown_chg G4 C, B.l⟩
  have := step hfin
  unfold Oper.wp execOp
  simp only [h2, hp]
  simpa [go_sem] using this
theorem wpl_addA (g1 : o1.guard = none) (g2 : o2.guard = none) (g3 : o3.guard = none) (s x p q r : Operand) (h1 : o1.op = .call { callee := .builtin .append, args := #[s, x], argTypes := #[24, 24] }) (h2 : o2.op = .fieldAddr 26 p 3) (h3 : o3.op = .store 24 q r)
    (B : BldA wc w bx kd sv T ia ic items) (S : Nat → Prop) (so : Option Addr) (sc : Nat) (ys : List Arr) (hs : a.eval s = .slice ia items.length ic) (hx : a.eval x = .slice so ys.length sc) (hy : ItemsAt w S so 0 ys) (hST : ∀ b, b < w.heap.size → S b → T b ∧ some b ≠ rowOf ia) (hlen : items.length + ys.length ≤ 1759218604441)
    (hp : ∀ v, (a.put o1.dst v).eval p = .pointer (some ⟨bx, 0, none⟩)) (hq : ∀ v u, ((a.put o1.dst v).put o2.dst u).eval q = u) (hr : ∀ v u, ((a.put o1.dst v).put o2.dst u).eval r = v)
    (h : ∀ V ia' ic', BldA wc V bx kd sv T ia' ic' (items ++ ys) → wpList Try.prog ops Q rest (((a.put o1.dst (.slice ia' (items ++ ys).length ic')).put o2.dst (.pointer (some ⟨bx, 3, none⟩))).put o3.dst undef) V) :
    wpList Try.prog ops Q (o1 :: o2 :: o3 :: rest) a w := by
  refine wpList_appA w g1 s x h1 wc.heap.size T ia ic items hs B.o S so sc ys hx hy hST hlen B.g.size ?_
  intro ao' cap' w4 hown hg hrow
  have hb : rowOf ia ≠ some bx := fun e => by have := (B.o.row bx e).1; have := B.l; omega
  have H4 : Hdr w4 bx kd sv (.slice none 0 0) (.slice ia items.length ic) := B.h.grown hg (fun e => hb e.symm)
  have G4 : wc.grownBy w4 (some bx) := grown_row B.g hg (fun k hk => (B.o.row k hk).1)
  refine wpList_plain g2 fun K hK => ?_
  have step := fun h => hK ((a.put o1.dst (.slice ao' (items ++ ys).length cap')).put o2.dst (.pointer (some ⟨bx, 3, none⟩))) w4 h
  have hfin : wpList Try.prog ops Q (o3 :: rest) ((a.put o1.dst (.slice ao' (items ++ ys).length cap')).put o2.dst (.pointer (some ⟨bx, 3, none⟩))) w4 := by
    refine wpl_store3 g3 q r h3 bx (hq _ _) (hr _ _) H4 ?_
    intro V HV C
    have hb' : rowOf ao' ≠ some bx := fun e => by have := (hown.row bx e).1; have := B.l; omega
    have hown' := hown.mono (T := T) fun b _ hs => hs.1
    exact h V ao' cap' ⟨HV, hown'.keep (fun k hk => C.blk (hown.row k hk).2 (fun e => hb' (e ▸ hk))) (fun b hs hlt => C.blk hlt (B.t b hs)), grown_chg G4 C, B.l, B.t⟩
  have := step hfin
  unfold Oper.wp execOp
  simp only [h2, hp]
  simpa [go_sem] using this
end
theorem OwnI.set {w : World} {base : Nat} {ao : Option Addr} {cap : Nat} {xs : List Int} (h : OwnI w base ao cap xs) {j : Nat} (hj : j < xs.length) : ∃ g, ao = some ⟨g, 0, none⟩ ∧ base ≤ g ∧ g < w.heap.size ∧ (∃ u, w.cell? ⟨g, j, none⟩ = some u) ∧ w.frozen? ⟨g, j, none⟩ = false ∧ ∀ v : Int, OwnI (w.setCell ⟨g, j, none⟩ (.int .i64 v)) base ao cap (xs.set j v) := by
  obtain ⟨h1, h2⟩ := h
  rcases h2 with ⟨_, hn⟩ | ⟨g, c, cur, e, hb, hg, hnc, hcm, hcs, htk⟩
  · omega
  · injection e with e1 e2 e3
    subst e1
    subst e3
    have hc : j < cur.size := by omega
    refine ⟨g, rfl, hb, lt_of_block hg, ⟨cur[j], by rw [cell_of_row w g j _ _ _ hg]; simp [hc]⟩, frozen_of_row w g j _ _ hg, fun v => ⟨by simp, Or.inr ⟨g, cap, cur.setIfInBounds j (.int .i64 v), by simp, hb, heap_setCell_same w g j _ _ _ hg, by simpa using hnc, hcm, by simpa using hcs, ?_⟩⟩⟩
    simp only [Nat.mul_one, List.length_set] at htk ⊢
    rw [Array.toList_setIfInBounds, List.take_set, htk]
    apply List.ext_getElem
    · simp
    · intro i h1 h2
      simp only [List.getElem_set, List.getElem_map]
      split <;> rfl
section
variable {ops : Array Oper} {rest : List Oper} {o : Oper} {a : Act} {Q : Exit → Act → World → Prop} {w : World}
/-- an element of a slice of the call's own is stored -/
theorem wpl_setI (hgd : o.guard = none) (p x : Operand) (ho : o.op = .store 3 p x) (base : Nat) (ao : Option Addr) (cap : Nat) (xs : List Int) (h : OwnI w base ao cap xs) (j : Nat) (hj : j < xs.length) (v : Int)
    (hp : ∀ g, ao = some ⟨g, 0, none⟩ → a.eval p = .pointer (some ⟨g, j, none⟩)) (hx : a.eval x = .int .i64 v)
    (hh : ∀ V g, ao = some ⟨g, 0, none⟩ → base ≤ g → OwnI V base ao cap (xs.set j v) → Chg w V g → wpList Try.prog ops Q rest (a.put o.dst undef) V) : wpList Try.prog ops Q (o :: rest) a w := by
  obtain ⟨g, e, hb, hl, ⟨u, hu⟩, hf, hset⟩ := h.set hj
  refine wpList_plain hgd fun K hK => ?_
  have := hK _ _ (hh _ g e hb (hset v) (chg_setCell w g j _))
  unfold Oper.wp execOp
  simp only [ho, hp g e, hx]
  simp [go_sem, hu, hf]
  exact this
end
/-- the result of a function that built it -/
theorem RetA.of {w V : World} {S : Nat → Prop} {a : Arr} {k : Int} {s n : List Int} {l : List Arr} {sa na ia : Option Addr} {sc nc ic : Nat} (E : a = .mk k s n l) (h1 : IntsAt V S sa s) (h2 : IntsAt V S na n) (hl : l.length ≤ 1759218604441) (h3 : ItemsAt V S ia 0 l) (hb : Below w.heap.size w V) :
    RetA w S a (.returned (.agg #[.int .i64 k, .slice sa s.length sc, .slice na n.length nc, .slice ia l.length ic])) V := RetA.mk E sa sc na nc ia ic rfl rfl rfl h1 h2 hl h3 hb
end Go.Proofs.Ytkbbdlibamcilaa
