/- Small lemmas for the walks of statements: literals, results of calls, variables that hold them. Conditions: those of each lemma. -/
import Derived.Test.YtkbbdlibamcilaaENV
set_option linter.unusedVariables false
set_option linter.unusedSimpArgs false
namespace Go.Proofs.Ytkbbdlibamcilaa
open Go.RowKit
theorem u8_bd {n : Int} (h : (Lit.int .u8 n).wf = true) : 0 ≤ n ∧ n ≤ 255 := by
  simp [Lit.wf, IntKind.min, IntKind.max, IntKind.bits, IntKind.signed] at h
  omega
section
variable {w0 w w' W wz wq : World} {S : Nat → Prop} {L : List Fact}
theorem Env.lit (E : Env w0 S w L) (l : List Int) (hl : l.length ≤ 17592186044416) : Env w0 S (w.alloc (.cells (l.map (Value.int .i64)).toArray 3)) (L ++ [.ints l (some ⟨w.heap.size, 0, none⟩)]) :=
  (E.up (ext_alloc _ _)).addInts (lit_at (Ext.refl _) hl) fun b _ hb => E.fresh (Ext.refl _) hb
theorem Env.lit2 (E : Env w0 S w L) (l m : List Int) (hl : l.length ≤ 17592186044416) (hm : m.length ≤ 17592186044416) : Env w0 S ((w.alloc (.cells (l.map (Value.int .i64)).toArray 3)).alloc (.cells (m.map (Value.int .i64)).toArray 3)) (L ++ [.ints l (some ⟨w.heap.size, 0, none⟩)] ++ [.ints m (some ⟨w.heap.size + 1, 0, none⟩)]) := by
  have := (E.lit l hl).lit m hm
  simpa using this
theorem Env.box {a : Arr} {sa na ia : Option Addr} (E : Env w0 S w L) (j : Nat) (h : L[j]? = some (.arr a sa na ia)) (sc nc ic : Nat) : Env w0 S (w.alloc (.cells #[.int .i64 a.kind, .slice sa a.shape.length sc, .slice na a.nums.length nc, .slice ia a.items.length ic] 26)) (L ++ [.items [a] (some ⟨w.heap.size, 0, none⟩)]) :=
  (E.up (ext_alloc _ _)).addItems (box_items (Ext.refl _) (E.fresh (Ext.refl _) (Nat.le_refl _)) (E.arr j h)) fun b _ hb => hb
theorem nums_at {T : Nat → Prop} {k : Int} {n : List Int} {na : Option Addr} (h : IntsAt w T na n) : ArrAt w T (.mk k [] n []) none na none :=
  ArrAt.iff.2 ⟨IntsAt.nil _ _ _, h, Nat.zero_le _, by simp only [Arr.items, ItemsAt]⟩
theorem vec_at {T : Nat → Prop} {k : Int} {s n : List Int} {sa na : Option Addr} (g : IntsAt w T sa s) (h : IntsAt w T na n) : ArrAt w T (.mk k s n []) sa na none :=
  ArrAt.iff.2 ⟨g, h, Nat.zero_le _, by simp only [Arr.items, ItemsAt]⟩
theorem box_at {T : Nat → Prop} {k : Int} {a : Arr} {ia : Option Addr} (h : ItemsAt w T ia 0 [a]) : ArrAt w T (.mk k [] [] [a]) none none ia :=
  ArrAt.iff.2 ⟨IntsAt.nil _ _ _, IntsAt.nil _ _ _, by simp [Arr.items], h⟩
theorem Env.tw (E : Env w0 S W L) : ∃ T : Nat → Prop, (∀ b, Tst w0 S L b → T b) ∧ (∀ b, W.heap.size ≤ b → T b) ∧ (∀ b, T b → Tst w0 S L b) :=
  ⟨Tst w0 S L, fun _ h => h, fun _ h => E.fresh (Ext.refl _) h, fun _ h => h⟩
theorem Env.name (E : Env w0 S w L) : ∃ M, Hid (M = L) ∧ Env w0 S w M := ⟨L, rfl, E⟩
theorem RetA.eq {a b : Arr} {e : Ending} (h : RetA w S a e w') (E : b = a) : RetA w S b e w' := E ▸ h
theorem RetAE.eq {a b : Arr} {n m : Int} {e : Ending} (h : RetAE w S a n e w') (E : b = a) (E2 : n = m) : RetAE w S b m e w' := E ▸ E2 ▸ h
theorem retA_arm {T : Nat → Prop} {r : Arr} {e : Ending} (hT2 : ∀ b, W.heap.size ≤ b → T b) (hSe : Ext W wz) (h : RetA wz (fun b => T b ∨ wz.heap.size ≤ b) r e wq) : ∃ v, e = .returned v ∧ Ext wz wq ∧ RetA wz T r (.returned v) wq := by
  obtain ⟨sa, sc, na, nc, ia, ic, rfl, h2, h3⟩ := h
  exact ⟨_, rfl, h3, sa, sc, na, nc, ia, ic, rfl, ArrAt.mono (fun b _ hb => hb.elim id fun q => hT2 b (Nat.le_trans (Below.size hSe) q)) _ h2, h3⟩
theorem retAE_arm {T : Nat → Prop} {r : Arr} {n : Int} {e : Ending} (hT2 : ∀ b, W.heap.size ≤ b → T b) (hSe : Ext W wz) (h : RetAE wz (fun b => T b ∨ wz.heap.size ≤ b) r n e wq) : ∃ v, e = .returned v ∧ Ext wz wq ∧ RetAE wz T r n (.returned v) wq := by
  obtain ⟨sa, sc, na, nc, ia, ic, rfl, h2, h3⟩ := h
  exact ⟨_, rfl, h3, sa, sc, na, nc, ia, ic, rfl, ArrAt.mono (fun b _ hb => hb.elim id fun q => hT2 b (Nat.le_trans (Below.size hSe) q)) _ h2, h3⟩
theorem RetA.inr {r : Arr} {e : Ending} (T : Nat → Prop) (h : RetA wz (fun b => wz.heap.size ≤ b) r e wq) : RetA wz (fun b => T b ∨ wz.heap.size ≤ b) r e wq := h.wide fun _ _ hb => Or.inr hb
theorem RetAE.inr {r : Arr} {n : Int} {e : Ending} (T : Nat → Prop) (h : RetAE wz (fun b => wz.heap.size ≤ b) r n e wq) : RetAE wz (fun b => T b ∨ wz.heap.size ≤ b) r n e wq := h.wide fun _ _ hb => Or.inr hb
theorem ext_drewN (w : World) (n : Nat) : Ext w (w.drewN n) := ⟨rfl, rfl, rfl, Nat.le_refl _, fun _ _ => rfl⟩
/-- a variable that a region has made, and an array that it has made ahead of it -/
theorem Env.var {T : Nat → Prop} {x u : World} {o : Obj} {r : Arr} {s n i : Option Addr} (E : Env w0 S W L) (hT3 : ∀ b, T b → Tst w0 S L b) (hA : ArrAt x T r s n i) (hx : Ext x w') (exu : Ext x u) (hu : Ext W u) (e8 : Ext (u.alloc o) w') (ew : Ext W w') : Env w0 S w' (L ++ [.obj u.heap.size o] ++ [.arr r s n i]) := by
  refine (E.made hu e8 ew).addArr ((ArrAt.mono (T := fun b => T b ∧ b < x.heap.size) (fun b hb h => ⟨h, hb⟩) _ hA).up hx) fun b _ hb => ?_
  have h1 := hT3 b hb.1
  refine ⟨h1.1, ?_⟩
  rw [blks_append, List.mem_append]
  rintro (h' | h')
  · exact h1.2 h'
  · simp [blks, Fact.blk] at h'
    have := Below.size exu
    have := hb.2
    omega
/-- the same, whichever came first; the array is new -/
theorem Env.varO {x u u' : World} {o : Obj} {r : Arr} {s n i : Option Addr} (E : Env w0 S W L) (hA : ArrAt x (fun b => u'.heap.size ≤ b) r s n i) (hx : Ext x w') (hord : Ext x u ∨ Ext (u.alloc o) u') (hu' : Ext W u') (hu : Ext W u) (e8 : Ext (u.alloc o) w') (ew : Ext W w') : Env w0 S w' (L ++ [.obj u.heap.size o] ++ [.arr r s n i]) := by
  refine (E.made hu e8 ew).addArr ((ArrAt.mono (T := fun b => u'.heap.size ≤ b ∧ b < x.heap.size) (fun b hb h => ⟨h, hb⟩) _ hA).up hx) fun b _ hb => ?_
  have h1 := E.fresh hu' hb.1
  refine ⟨h1.1, ?_⟩
  rw [blks_append, List.mem_append]
  rintro (h' | h')
  · exact h1.2 h'
  · simp [blks, Fact.blk] at h'
    exact ord_out hord hb.1 hb.2 h'
end
section
variable {ops : Array Oper} {rest : List Oper} {o : Oper} {a : Act} {Q : Exit → Act → World → Prop} {w : World}
theorem wpl_store0 (hgd : o.guard = none) (p x : Operand) (ho : o.op = .store 22 p x) (b : Nat) {v : Int} {k' s' n' i' : Value} (hp : a.eval p = .pointer (some ⟨b, 0, none⟩)) (hx : a.eval x = .int .i64 v) (hh : Hdr w b k' s' n' i')
    (h : ∀ V, Hdr V b (.int .i64 v) s' n' i' → Chg w V b → wpList Try.prog ops Q rest (a.put o.dst undef) V) : wpList Try.prog ops Q (o :: rest) a w := by
  refine wpList_plain hgd fun K hK => ?_
  have := hK _ _ (h _ (hh.set0 _) (chg_setCell w b _ _))
  unfold Oper.wp execOp
  simp only [ho, hp, hx]
  have d2 := hh.c0
  have f := hh.f
  simp [go_sem, d2, f]
  exact this
end
theorem tur_at {w : World} {T : Nat → Prop} {k : Int} {y : Arr} {sa na ia : Option Addr} (h : ArrAt w T y sa na ia) : ArrAt w T (.mk k y.shape y.nums y.items) sa na ia := ArrAt.iff.2 ⟨h.shape, h.nums, h.len, h.items⟩
end Go.Proofs.Ytkbbdlibamcilaa
