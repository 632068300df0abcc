/- A group of texts (GP), each with its own conditions: those of each lemma. -/
import Derived.Test.YtdpdcjadedcglaaGN
import Derived.Test.YtdpdcjadedcglaaCUT
import Derived.Test.YtdpdcjadedcglaaOWNC
import Derived.Test.YtdpdcjadedcglaaGO
import Derived.Test.YtdpdcjadedcglaaGV
import Derived.Test.YtdpdcjadedcglaaGG
import Derived.Test.YtdpdcjadedcglaaRETC
set_option linter.unusedVariables false
set_option maxRecDepth 20000
set_option linter.unusedSimpArgs false
namespace Go.Proofs.Ytdpdcjadedcglaa
open Go.RowKit Go.Sort
theorem infoRow : (Try.prog.info? 77).map (fun i => (i.zero, i.size, i.bytes)) = some (some (.agg #[.int .i64 0, .int .i64 0, .slice none 0 0, .slice none 0 0, .slice none 0 0]), 5, 88) := by kernel_rfl
/-- a row as it lies in memory -/
structure RowV where
  no : Int
  x : Arr
  s : Option Addr
  c : Nat
  n : Option Addr
  m : Nat
  i : Option Addr
  j : Nat
def RowV.enc (r : RowV) : List Value := [.int .i64 r.no, .int .i64 r.x.kind, .slice r.s r.x.shape.length r.c, .slice r.n r.x.nums.length r.m, .slice r.i r.x.items.length r.j]
def RowV.at (r : RowV) (w : World) (T : Nat → Prop) : Prop := ArrAt w T r.x r.s r.n r.i
def encR (l : List RowV) : List Value := l.flatMap RowV.enc
theorem encR_len (l : List RowV) : (encR l).length = l.length * 5 := by
  induction l with
  | nil => rfl
  | cons r l ih => rw [encR, List.flatMap_cons, List.length_append, ← encR, ih]; simp [RowV.enc]; omega
theorem encR_app (l m : List RowV) : encR (l ++ m) = encR l ++ encR m := by simp [encR]
theorem encR_one (l : List RowV) : ∀ u ∈ encR l, u.oneCell' = true := by
  intro u hu
  simp only [encR, List.mem_flatMap, RowV.enc] at hu
  obtain ⟨r, _, hu⟩ := hu
  simp only [List.mem_cons, List.not_mem_nil, or_false] at hu
  rcases hu with rfl | rfl | rfl | rfl | rfl <;> rfl
theorem encR_get : ∀ {l : List RowV} {k : Nat} (h : k < l.length) (j : Nat), j < 5 → (encR l)[k * 5 + j]? = (l[k]).enc[j]?
  | [], k, h, j, hj => by simp at h
  | r :: l, 0, h, j, hj => by
    rw [encR, List.flatMap_cons, List.getElem?_append_left (by simp [RowV.enc]; omega)]
    simp
  | r :: l, k + 1, h, j, hj => by
    rw [encR, List.flatMap_cons, List.getElem?_append_right (by simp [RowV.enc]; omega), ← encR]
    have := encR_get (l := l) (k := k) (by simpa using h) j hj
    rw [show (k + 1) * 5 + j - r.enc.length = k * 5 + j by simp [RowV.enc]; omega]
    simpa using this
/-- a slice of rows that is read -/
def RowsAt (w : World) (T : Nat → Prop) (ao : Option Addr) (l : List RowV) : Prop :=
  ∀ k (h : k < l.length), ∃ b off, ao = some ⟨b, off, none⟩ ∧ T b ∧ b < w.heap.size ∧ (∀ j u, (l[k]).enc[j]? = some u → w.cell? ⟨b, off + k * 5 + j, none⟩ = some u) ∧ ArrAt w T (l[k]).x (l[k]).s (l[k]).n (l[k]).i
def OwnR (w : World) (B : Nat) (T : Nat → Prop) (ao : Option Addr) (cap : Nat) (l : List RowV) : Prop :=
  w.ownsRow B 77 5 (.slice ao l.length cap) l.length (encR l) ∧ ∀ r ∈ l, ArrAt w (fun b => T b ∧ some b ≠ rowOf ao) r.x r.s r.n r.i
section
variable {w w' V : World} {B : Nat} {T T' : Nat → Prop} {ao : Option Addr} {cap : Nat} {l m : List RowV}
theorem RowsAt.turn (h : RowsAt w T ao l) (hk : ∀ b, T b → b < w.heap.size → w'.heap[b]? = w.heap[b]?) (hT : ∀ b, b < w.heap.size → T b → T' b) : RowsAt w' T' ao l := fun k hl => by
  obtain ⟨b, off, e, hb, hlt, hc, hx⟩ := h k hl
  have hq := hk b hb hlt
  refine ⟨b, off, e, hT b hlt hb, ?_, fun j u hu => ?_, ArrAt.turn hx hk hT⟩
  · rw [Array.getElem?_eq_getElem hlt] at hq
    exact (Array.getElem?_eq_some_iff.1 hq).1
  · exact cell_keep hq (hc j u hu)
theorem RowsAt.up (h : RowsAt w T ao l) (e : Ext w w') : RowsAt w' T ao l := h.turn (fun b _ hlt => e.block b hlt) (fun _ _ h => h)
theorem RowsAt.mono (h : RowsAt w T ao l) (hT : ∀ b, b < w.heap.size → T b → T' b) : RowsAt w T' ao l := h.turn (fun _ _ _ => rfl) hT
theorem RowsAt.nil (w : World) (T : Nat → Prop) (ao : Option Addr) : RowsAt w T ao [] := fun k h => by simp at h
theorem RowsAt.take (h : RowsAt w T ao l) (n : Nat) : RowsAt w T ao (l.take n) := fun k hk => by
  have hk2 : k < n ∧ k < l.length := by simp at hk; omega
  rw [List.getElem_take]
  exact h k hk2.2
theorem RowsAt.drop (h : RowsAt w T ao l) (n : Nat) (c : Prop) [Decidable c] (hc : c → l.length ≤ n) : RowsAt w T (if c then ao else ao.map fun x => x.add (n * 5)) (l.drop n) := fun k hk => by
  have hk2 : n + k < l.length := by simp at hk; omega
  have hnc : ¬ c := fun q => by have := hc q; omega
  rw [if_neg hnc, List.getElem_drop]
  obtain ⟨b, off, e, hb, hlt, h1, hx⟩ := h (n + k) hk2
  refine ⟨b, off + n * 5, by rw [e]; simp [Addr.add_lit], hb, hlt, fun j u hu => ?_, hx⟩
  rw [← h1 j u hu]
  congr 2
  omega
theorem OwnR.nil (w : World) (B : Nat) (T : Nat → Prop) : OwnR w B T none 0 [] := ⟨World.ownsRow_nil _ _ _ _, by simp⟩
theorem OwnR.row (h : OwnR w B T ao cap l) : ∀ k, rowOf ao = some k → B ≤ k ∧ k < w.heap.size := fun k hk => World.ownsRow.lt h.1 k (by rw [ownBlock_slice]; exact hk)
theorem OwnR.turn (h : OwnR w B T ao cap l) (hr : ∀ k, rowOf ao = some k → w'.heap[k]? = w.heap[k]?) (hk : ∀ b, T b → b < w.heap.size → w'.heap[b]? = w.heap[b]?) (hT : ∀ b, b < w.heap.size → T b → T' b) : OwnR w' B T' ao cap l := by
  refine ⟨⟨h.1.1, ?_⟩, fun r hr' => ArrAt.turn (h.2 r hr') (fun b hb hlt => hk b hb.1 hlt) (fun b hlt hb => ⟨hT b hlt hb.1, hb.2⟩)⟩
  rcases h.1.2 with a2 | ⟨g, c, cur, e, hb, hg, r⟩
  · exact Or.inl a2
  · refine Or.inr ⟨g, c, cur, e, hb, ?_, r⟩
    injection e with e1 e2 e3
    rw [hr g (by rw [e1]; rfl)]; exact hg
theorem OwnR.rows (h : OwnR w B T ao cap l) : RowsAt w (fun b => T b ∨ (B ≤ b ∧ rowOf ao = some b)) ao l := fun k hk => by
  rcases h.1.2 with ⟨_, hn⟩ | ⟨g, c, cur, e, hb, hgg, _⟩
  · omega
  · injection e with f1 f2 f3
    subst f1
    have hc := World.ownsRow.cells h.1 (g := g) rfl
    refine ⟨g, 0, rfl, Or.inr ⟨hb, rfl⟩, (Array.getElem?_eq_some_iff.1 hgg).1, fun j u hu => ?_, ArrAt.mono (fun b _ hs => Or.inl hs.1) _ (h.2 _ (List.getElem_mem hk))⟩
    have hj : j < 5 := by have := (List.getElem?_eq_some_iff.1 hu).1; simpa [RowV.enc] using this
    have := hc (k * 5 + j) u (by rw [encR_get hk j hj]; exact hu)
    simp only [Addr.add_lit] at this
    simpa using this
theorem OwnR.caple (h : OwnR w B T ao cap l) : l.length ≤ cap := by
  rcases h.1.2 with ⟨_, hn⟩ | ⟨g, c, cur, e, hb, hgg, hnc, _⟩
  · omega
  · injection e with e1 e2 e3; omega
end
theorem run_appR (w : World) (ty : TypeId) (base : Nat) (S : Nat → Prop) (ao : Option Addr) (cap : Nat) (l : List RowV) (hown : OwnR w base S ao cap l) (T : Nat → Prop) (so : Option Addr) (sc : Nat) (m : List RowV) (hm : RowsAt w T so m)
    (hTS : ∀ b, b < w.heap.size → T b → S b ∧ some b ≠ rowOf ao) (hlen : l.length + m.length ≤ 1000000000000) (hbase : base ≤ w.heap.size) :
    ∃ ao' cap' w', (Builtin.append_ #[71, 71] ty #[.slice ao l.length cap, .slice so m.length sc]).run Try.prog w = .ok (.slice ao' (l ++ m).length cap') w' ∧ OwnR w' base (fun b => S b ∧ b < w.heap.size) ao' cap' (l ++ m) ∧ w.grownBy w' (rowOf ao) ∧
      (rowOf ao' = rowOf ao ∨ rowOf ao' = some w.heap.size) := by
  obtain ⟨i0, hi, hz0, hz1, hz2⟩ := info_parts infoRow
  obtain ⟨hrow, hcs⟩ := hown
  have hcs' : ∀ r ∈ l ++ m, ArrAt w (fun b => (S b ∧ b < w.heap.size) ∧ some b ≠ rowOf ao) r.x r.s r.n r.i := fun r hr => by
    rcases List.mem_append.1 hr with hr | hr
    · exact ArrAt.mono (fun b hb hs => ⟨⟨hs.1, hb⟩, hs.2⟩) _ (hcs r hr)
    · obtain ⟨k, hk, rfl⟩ := List.getElem_of_mem hr
      obtain ⟨_, _, _, _, _, _, hx⟩ := hm k hk
      exact ArrAt.mono (fun b hb hs => ⟨⟨(hTS b hb hs).1, hb⟩, (hTS b hb hs).2⟩) _ hx
  cases so with
  | none =>
    have hy : m = [] := by
      cases m with
      | nil => rfl
      | cons y r => obtain ⟨_, _, e, _⟩ := hm 0 (by simp); cases e
    subst hy
    refine ⟨ao, cap, w, ?_, ⟨by simpa using hrow, by simpa using fun r hr => hcs' r (by simpa using hr)⟩, World.grownBy.refl _ _, Or.inl rfl⟩
    have := run_append_nothing (P := Try.prog) w base 71 ty 77 i0 5 Try.underlying71 hi _ _ _ hrow sc
    simpa using this
  | some ad =>
    have hnews : ∀ j u, (encR m)[j]? = some u → w.cell? (ad.add j) = some u := by
      intro j u hu
      have hj : j < m.length * 5 := by have := (List.getElem?_eq_some_iff.1 hu).1; rw [encR_len] at this; exact this
      have hk : j / 5 < m.length := by omega
      obtain ⟨b, off, e, _, _, hc, _⟩ := hm (j / 5) hk
      injection e with e
      subst e
      rw [show j = j / 5 * 5 + j % 5 by omega, encR_get hk _ (by omega)] at hu
      have := hc _ u hu
      rw [Addr.add_lit]
      rw [← this]
      congr 2
      omega
    obtain ⟨v', w', hr, ho, hg, _, hb⟩ := run_append_own_at (P := Try.prog) w base 71 ty 77 i0 (.agg #[.int .i64 0, .int .i64 0, .slice none 0 0, .slice none 0 0, .slice none 0 0]) 5 88 Try.underlying71 hi hz0 hz1 hz2 rfl (by decide) (.slice ao l.length cap) l.length (encR l) hrow
      ad m.length sc (encR m) (encR_len m) hnews (encR_one m) (by unfold maxLen; omega) (by omega) hbase
    obtain ⟨ao', cap', rfl⟩ := slice_form ho
    rw [ownBlock_slice] at hg
    rw [ownBlock_slice, ownBlock_slice] at hb
    refine ⟨ao', cap', w', by simpa using hr, ⟨by rw [encR_app]; simpa using ho, fun r hr => ?_⟩, hg, hb⟩
    refine ArrAt.turn (hcs' r hr) (fun b hs hlt => hg.block b hlt hs.2) (fun b hb' hs => ⟨hs.1, ?_⟩)
    rcases hb with hb | hb
    · rw [hb]; exact hs.2
    · rw [hb]; intro e; injection e with e; have := hs.1.2; omega
@[reducible] def rowR (ao : Option Addr) (cap : Nat) (l : List RowV) : Fact := .gen (rowOf ao).toList (fun B T w => OwnR w B T ao cap l) (fun B T T' w w' h hb hk hT => h.turn (fun k hk' => hb k (by simp [hk'])) hk hT)
@[reducible] def rowsF (ao : Option Addr) (l : List RowV) : Fact := .gen [] (fun B T w => RowsAt w T ao l) (fun B T T' w w' h hb hk hT => h.turn hk hT)
section
variable {w0 w V : World} {S : Nat → Prop} {L : List Fact}
theorem Env.rowR (E : Env w0 S w L) (j : Nat) {ao : Option Addr} {cap : Nat} {l : List RowV} (h : L[j]? = some (Go.Proofs.Ytdpdcjadedcglaa.rowR ao cap l)) : OwnR w w0.heap.size (Tst w0 S L) ao cap l := E.get j h
theorem Env.rowsF (E : Env w0 S w L) (j : Nat) {ao : Option Addr} {l : List RowV} (h : L[j]? = some (Go.Proofs.Ytdpdcjadedcglaa.rowsF ao l)) : RowsAt w (Tst w0 S L) ao l := E.get j h
theorem Env.addRows (E : Env w0 S w L) {T : Nat → Prop} {ao : Option Addr} {l : List RowV} (h : RowsAt w T ao l) (hS : ∀ b, b < w.heap.size → T b → Tst w0 S L b) : Env w0 S w (L ++ [Go.Proofs.Ytdpdcjadedcglaa.rowsF ao l]) := E.add rfl (h.mono hS)
theorem Env.appR (E : Env w0 S w L) (j : Nat) {ao ao' : Option Addr} {cap cap' : Nat} {l l' : List RowV} (h : L[j]? = some (Go.Proofs.Ytdpdcjadedcglaa.rowR ao cap l)) (hown : OwnR V w0.heap.size (fun b => Tst w0 S L b ∧ b < w.heap.size) ao' cap' l') (hg : w.grownBy V (rowOf ao)) (hr : rowOf ao' = rowOf ao ∨ rowOf ao' = some w.heap.size) : Env w0 S V (L.set j (Go.Proofs.Ytdpdcjadedcglaa.rowR ao' cap' l')) := by
  have hrow := (E.rowR j h).row
  have hnew : ∀ b ∈ (Go.Proofs.Ytdpdcjadedcglaa.rowR ao' cap' l').blk, b ∈ (Go.Proofs.Ytdpdcjadedcglaa.rowR ao cap l).blk ∨ (w.heap.size ≤ b ∧ b < V.heap.size) := fun b hb => by
    simp only [Fact.blk, Option.mem_toList, Option.mem_def] at hb ⊢
    rcases hr with e | e
    · exact Or.inl (e ▸ hb)
    · rw [e] at hb; injection hb with hb; subst hb
      exact Or.inr ⟨Nat.le_refl _, (hown.row _ e).2⟩
  refine E.turn j h (E.ext.grown hg E.size (fun k hk => (hrow k hk).1)) hg.size (fun b hb hne => hg.block b hb (fun e => hne (by simp [Fact.blk, ← e]))) hnew (nodup_opt _) (hown.turn (fun _ _ => rfl) (fun _ _ _ => rfl) fun b hlt hs => ⟨hs.1.1, fun hb => ?_⟩)
  obtain ⟨A, C, h1, h2⟩ := blks_set (g := Go.Proofs.Ytdpdcjadedcglaa.rowR ao' cap' l') h
  obtain ⟨⟨_, hn⟩, hl⟩ := hs
  rw [h2] at hb
  rw [h1] at hn
  simp only [List.mem_append] at hb hn
  rcases hb with (hb | hb) | hb
  · exact hn (Or.inl (Or.inl hb))
  · rcases hnew b hb with h' | h'
    · exact hn (Or.inl (Or.inr h'))
    · omega
  · exact hn (Or.inr hb)
theorem Env.doneR (E : Env w0 S w L) (j : Nat) {ao : Option Addr} {cap : Nat} {l : List RowV} (h : L[j]? = some (Go.Proofs.Ytdpdcjadedcglaa.rowR ao cap l)) : Env w0 S w (L.set j (Go.Proofs.Ytdpdcjadedcglaa.rowsF ao l)) :=
  E.freeze j h rfl ((E.rowR j h).rows.mono fun b _ hb => by
    rcases hb with hb | hb
    · exact Or.inl hb
    · exact Or.inr (by simp [Fact.blk, hb.2]))
theorem Env.row0R (E : Env w0 S w L) : Env w0 S w (L ++ [Go.Proofs.Ytdpdcjadedcglaa.rowR none 0 []]) := E.add rfl (OwnR.nil _ _ _)
end
section
variable {ops : Array Oper} {rest : List Oper} {o : Oper} {a : Act} {Q : Exit → Act → World → Prop} {w0 w : World} {S : Nat → Prop} {L : List Fact}
theorem wplE_appR (E : Env w0 S w L) (j : Nat) {ao : Option Addr} {cap : Nat} {l : List RowV} (hj : L[j]? = some (Go.Proofs.Ytdpdcjadedcglaa.rowR ao cap l)) (hgd : o.guard = none) (s x : Operand) (ho : o.op = .call { callee := .builtin .append, args := #[s, x], argTypes := #[71, 71] })
    (hs : a.eval s = .slice ao l.length cap) (T : Nat → Prop) (so : Option Addr) (sc : Nat) (m : List RowV) (hx : a.eval x = .slice so m.length sc) (hm : RowsAt w T so m) (hS : ∀ b, b < w.heap.size → T b → Tst w0 S L b) (hlen : l.length + m.length ≤ 1000000000000)
    (h : ∀ V ao' cap', Env w0 S V (L.set j (Go.Proofs.Ytdpdcjadedcglaa.rowR ao' cap' (l ++ m))) → wpList Try.prog ops Q rest (a.put o.dst (.slice ao' (l ++ m).length cap')) V) : wpList Try.prog ops Q (o :: rest) a w := by
  refine wpList_plain hgd fun K hK => ?_
  obtain ⟨ao', cap', w', hrun, h1, h2, h3⟩ := run_appR w o.type w0.heap.size (Tst w0 S L) ao cap l (E.rowR j hj) T so sc m hm (fun b hb hs => ⟨hS b hb hs, fun e => (hS b hb hs).2 (mem_blks.2 ⟨_, List.mem_of_getElem? hj, by simp [Fact.blk, ← e]⟩)⟩) hlen E.size
  unfold Oper.wp
  simp [execOp, ho, resolve, invoke, builtin, hs, hx, hrun, Result.andThen]
  have := hK _ _ (h w' ao' cap' (E.appR j hj h1 h2 h3))
  simp at this
  exact this
end
/-- a literal slice of one row -/
theorem lit_rows {u wf : World} {T : Nat → Prop} {r : RowV} (e : Ext (u.alloc (.cells r.enc.toArray 77)) wf) (hT : T u.heap.size) (h : ArrAt wf T r.x r.s r.n r.i) : RowsAt wf T (some ⟨u.heap.size, 0, none⟩) [r] := fun k hk => by
  have hk0 : k = 0 := by simp at hk; omega
  subst hk0
  have hg := made_blk e
  refine ⟨u.heap.size, 0, rfl, hT, lt_of_block hg, fun j q hu => ?_, h⟩
  have := cell_of_row wf u.heap.size j _ _ _ hg
  simp only [List.getElem_cons_zero] at hu
  simpa [hu] using this
end Go.Proofs.Ytdpdcjadedcglaa
namespace Go.Proofs.Ytdpdcjadedcglaa
open Go.RowKit Go.Sort
attribute [local go_sem ↓] run_max2 run_min2
attribute [local go_sem] eql_ints_nil eql_arrs_nil
theorem Env.litObj {w0 w : World} {S : Nat → Prop} {L : List Fact} (E : Env w0 S w L) (l : List Int) (hl : l.length ≤ 17592186044416) (o : Obj) : Env w0 S ((w.alloc (.cells (l.map (Value.int .i64)).toArray 3)).alloc o) (L ++ [.ints l (some ⟨w.heap.size, 0, none⟩)] ++ [.obj (w.heap.size + 1) o]) := by
  have := (E.lit l hl).alloc o
  simpa using this
def noX (r : RowV) : Nat × Arr := (r.no.toNat, r.x)
/-- these rows are the array's first m cells, in order -/
def RowsOf (y : Arr) (m : Nat) (rs : List RowV) : Prop := rs.map (fun r => (r.no, r.x)) = (List.range m).map fun k : Nat => ((k : Int), celA y k)
theorem RowsOf.nil (y : Arr) : RowsOf y 0 [] := rfl
theorem RowsOf.len {y : Arr} {m : Nat} {rs : List RowV} (h : RowsOf y m rs) : rs.length = m := by
  have := congrArg List.length h
  simpa using this
theorem RowsOf.snoc {y : Arr} {m : Nat} {rs : List RowV} (h : RowsOf y m rs) {r : RowV} (h1 : r.no = (m : Int)) (h2 : r.x = celA y m) : RowsOf y (m + 1) (rs ++ [r]) := by
  unfold RowsOf at *
  rw [List.map_append, h, List.range_succ, List.map_append]
  simp [h1, h2]
set_option maxRecDepth 100000 in
set_option maxHeartbeats 4000000 in
theorem grading_rows (y : Arr) (sy : Option Addr) (cy : Nat) (ny : Option Addr) (my : Nat) (iy : Option Addr) (jy : Nat) (S : Nat → Prop) (w : World) (h : ArrAt w S y sy ny iy) (hr : rightS y = 0) (hn : 0 < y.shape.length) (hc : y.shape.length ≤ cy ∧ y.nums.length ≤ my ∧ y.items.length ≤ jy) :
    Calls Try.prog 50 #[.agg #[.int .i64 y.kind, .slice sy y.shape.length cy, .slice ny y.nums.length my, .slice iy y.items.length jy]] w fun e w' => ∃ so sc rs, e = .returned (.tuple #[.slice so rs.length sc, .int .i64 0]) ∧ RowsOf y (talM y) rs ∧ rs.length ≤ sc ∧ RowsAt w' (fun b => S b ∨ w.heap.size ≤ b) so rs ∧ Below w.heap.size w w' := by
  refine calls_post fun R' hR => ?_
  have h0 := hid h
  have hsh := (right_ok hr).2.1
  have hl8 : y.shape.length ≤ 1000 := by have := (shapeB_iff.1 hsh).1; omega
  have htl := tal_le hsh
  have hrb : (rightS y != 0) = false := by simp [hr]
  have hnb : ((y.shape.length : Int) == 0) = false := by rw [beq_eq_false_iff_ne]; omega
  have hwr : IntKind.i64.wrap ((y.shape.length : Int) - 1) = (y.shape.length : Int) - 1 := IntWalk.i64_in _ (by omega)
  have hr0 := hid hr
  replace hc := hid hc
  have hn0 := hid hn
  clear h hr hsh hn
  go_enter Try.func50, Try.ntmps50
  go_upto_region 1 with (fail)
  generalize hEW : (w).alloc (.cells #[.int .i64 y.kind, .slice sy y.shape.length cy, .slice ny y.nums.length my, .slice iy y.items.length jy] 27) = W
  have E := hid (env1 w S hEW)
  clear hEW
  replace E := hid (E.out.arg h0.out)
  (try simp only [List.cons_append, List.nil_append, List.set_cons_zero, List.set_cons_succ] at E)
  obtain ⟨q00, q01, q02, q03⟩ := (E.out.hdr 0 rfl).all
  go_wp2_with fail
  clear q00 q01 q02 q03
  refine (array_Right y _ _ _ _ _ _ _ _ (E.out.arr 1 rfl)).mono ?_
  rintro e w1 ⟨rfl, hb⟩
  replace E := hid (E.out.up hb)
  clear hb
  obtain ⟨q00, q01, q02, q03⟩ := (E.out.hdr 0 rfl).all
  go_wp2_with fail
  clear q00 q01 q02 q03
  refine (cell_Cells y _ _ _ _ _ _ ((y.shape.length : Int) - 1) _ _ (E.out.arr 1 rfl) hr0.out hn0.out (Or.inl rfl) hc.out).mono ?_
  rintro e w2 ⟨lo, lc, rfl, hlc, hI, hb⟩
  replace E := hid ((E.out.up hb).addItems hI (fun b _ hq => E.out.fresh (Ext.refl _) hq))
  (try simp only [List.cons_append, List.nil_append, List.set_cons_zero, List.set_cons_succ] at E)
  replace E := hid (E.out.row0R)
  (try simp only [List.cons_append, List.nil_append, List.set_cons_zero, List.set_cons_succ] at E)
  have hcl := celsN_len y (talM y)
  obtain ⟨cs, hcs⟩ : ∃ cs, cs = celsN y (talM y) := ⟨_, rfl⟩
  rw [← hcs] at E hcl hlc hI ⊢
  have hget : Hid (∀ k (hk : k < cs.length), cs[k] = celA y k) := hid fun k hk => by
    subst hcs; simp [celsN]
  have hcl9 := hid hcl
  have hcl6 : cs.length ≤ 65536 := by omega
  clear hcl hb hI
  replace hcs := hid hcs
  go_wp2_with fail
  go_loopw [4, 23] (fun o i wr => ∃ (k : Nat) (ao : Option Addr) (ac : Nat) (rs : List RowV), k ≤ cs.length ∧ RowsOf y k rs ∧ o = .slice ao rs.length ac ∧ i = .int .i64 k ∧ Env w S wr [.obj w.heap.size (.cells #[.int .i64 y.kind, .slice sy y.shape.length cy, .slice ny y.nums.length my, .slice iy y.items.length jy] 27 (0, 0)), .arr y sy ny iy, .items cs lo, rowR ao ac rs]) (fun _ i _ => cs.length - (intOf i).toNat)
  case atStart => exact ⟨0, none, 0, [], Nat.zero_le _, RowsOf.nil y, rfl, rfl, E.out⟩
  case round =>
    clear E
    obtain ⟨kk, ao, ac, rs, hk, hrs, rfl, rfl, E⟩ := hrel
    replace E := hid E
    by_cases hlt : kk < cs.length
    case pos =>
      obtain ⟨b', off', sz, cz, nz, mz, iz, jz, hlo, hSb', hbl', e0, e1, e2, e3, hz⟩ := (E.out.items 2 rfl).at hlt
      have hzc := hget.out kk hlt
      generalize cs[kk] = z at hzc e0 e1 e2 e3 hz
      have hrl := hrs.len
      have hstep : ∀ r : RowV, r.no = (kk : Int) → r.x = z → RowsOf y (kk + 1) (rs ++ [r]) := fun r h1 h2 => hrs.snoc h1 (h2.trans hzc)
      have hll : rs.length + 1 ≤ 1000000000000 := by omega
      replace hrl := hid hrl
      replace hstep := hid hstep
      replace hrs := hid hrs
      replace hzc := hid hzc
      replace E := hid (E.out.addArr hz (fun _ _ h => h))
      (try simp only [List.cons_append, List.nil_append, List.set_cons_zero, List.set_cons_succ] at E)
      clear hz
      have tt0 : (0 : Int) ≤ (kk : Int) := by omega
      have tt1 : (kk : Int) < (cs.length : Int) := by omega
      subst hlo
      go_upto_region 9 with (refine wpl_store4 rfl (.tmp 6) (.tmp 27) rfl _ rfl rfl ((E.out.alloc _).hdr 5 rfl) ?_; intro V HV CV; replace E := hid ((E.out.alloc _).chg 5 rfl CV HV); clear CV HV; (try simp only [List.cons_append, List.nil_append, List.set_cons_zero, List.set_cons_succ] at E))
      clear e0 e1 e2 e3
      generalize wr.heap.size = bz at E ⊢
      obtain ⟨q50, q51, q52, q53⟩ := (E.out.hdr 5 rfl).all
      go_wp2_with (refine wplE_appR (E.out.up (ext_alloc _ _)) 3 rfl rfl (.tmp 28) (.tmp 32) rfl rfl (fun b => V.heap.size ≤ b ∨ Tst w S _ b) _ 1 [⟨(kk : Int), z, sz, cz, nz, mz, iz, jz⟩] rfl (lit_rows (r := ⟨(kk : Int), z, sz, cz, nz, mz, iz, jz⟩) (Ext.refl _) (Or.inl (Nat.le_refl _)) (ArrAt.mono (fun b _ h => Or.inr h) _ ((E.out.arr 4 rfl).up (ext_alloc _ _)))) (fun b _ hb => hb.elim (fun q => E.out.fresh (Ext.refl _) q) id) hll ?_; intro V2 ao2 ac2 E1; clear E; have E := hid E1; clear E1; (try simp only [List.cons_append, List.nil_append, List.set_cons_zero, List.set_cons_succ] at E))
      go_roundw
      case rel => exact ⟨kk + 1, ao2, ac2, _, by omega, hstep.out _ rfl rfl, by simp, by go_num, E.out.sub (List.Sublist.cons_cons _ (List.Sublist.cons_cons _ (List.Sublist.cons_cons _ (List.Sublist.cons_cons _ (List.nil_sublist _)))))⟩
      case measure => simp [intOf]; omega
    case neg =>
      have hmn : kk = cs.length := by omega
      rw [hmn, hcl9.out] at hrs
      have hcap := OwnR.caple (E.out.rowR 3 rfl)
      replace hmn := hid hmn
      replace hrs := hid hrs
      replace E := hid (E.out.doneR 3 rfl)
      (try simp only [List.cons_append, List.nil_append, List.set_cons_zero, List.set_cons_succ] at E)
      go_wp2_with fail
      exact hR.out _ _ ⟨_, _, _, rfl, hrs.out, hcap, (E.out.rowsF 3 rfl).mono fun b _ h => h.1, E.out.ext⟩
theorem getR (rs : List RowV) {k : Nat} (hk : k < rs.length) : (rs.map RowV.no).take (k + 1) = (rs.map RowV.no).take k ++ [rs[k].no] := by
  rw [List.take_add_one, List.getElem?_map, List.getElem?_eq_getElem hk]; simp
set_option maxRecDepth 100000 in
set_option maxHeartbeats 4000000 in
theorem grading_numbers (rs : List RowV) (ro : Option Addr) (rc : Nat) (S : Nat → Prop) (w : World) (h : RowsAt w S ro rs) (hl : rs.length ≤ 65536) :
    Calls Try.prog 51 #[.slice ro rs.length rc] w (RetAC w (fun b => S b ∨ w.heap.size ≤ b) (.mk 1 [(rs.length : Int)] (rs.map RowV.no) [])) := by
  refine calls_post fun R' hR => ?_
  have h0 := hid h
  clear h
  go_enter Try.func51, Try.ntmps51
  go_upto_region 1 with (fail)
  generalize hEW : (w).alloc (.cells #[.int .i64 0, .slice none 0 0, .slice none 0 0, .slice none 0 0] 27) = W
  have E := hid (env1 w S hEW)
  clear hEW
  replace E := hid (E.out.add (f := rowsF ro rs) rfl ((h0.out.mono (T' := fun b => S b ∧ b < w.heap.size) fun b hb hs => ⟨hs, hb⟩).turn (fun b hb _ => E.out.ext.block b hb.2) fun b _ hb => E.out.old hb))
  (try simp only [List.cons_append, List.nil_append, List.set_cons_zero, List.set_cons_succ] at E)
  go_wp2_with (refine wpl_store4 rfl (.tmp 3) (.tmp 9) rfl _ rfl rfl ((E.out.litObj [(rs.length : Int)] (show (1 : Nat) ≤ 17592186044416 by decide) _).hdr 3 rfl) ?_; intro V HV CV; replace E := hid ((E.out.litObj [(rs.length : Int)] (show (1 : Nat) ≤ 17592186044416 by decide) _).chg 3 rfl CV HV); clear CV HV; (try simp only [List.cons_append, List.nil_append, List.set_cons_zero, List.set_cons_succ] at E))
  replace E := hid (E.out.row0I)
  (try simp only [List.cons_append, List.nil_append, List.set_cons_zero, List.set_cons_succ] at E)
  generalize W.heap.size + 1 = bx at E ⊢
  obtain ⟨lo, hlo⟩ : ∃ a, a = some (⟨W.heap.size, 0, none⟩ : Addr) := ⟨_, rfl⟩
  rw [← hlo] at E
  go_loopw [12] (fun i wr => ∃ (k : Nat) (na : Option Addr) (nc : Nat), k ≤ rs.length ∧ i = .int .i64 k ∧ Env w S wr [.obj w.heap.size (.cells #[.int .i64 0, .slice none 0 0, .slice none 0 0, .slice none 0 0] 27 (0, 0)), rowsF ro rs, .ints [(rs.length : Int)] lo, .obj bx (.cells #[.int .i64 1, .slice lo 1 1, .slice na ((rs.map RowV.no).take k).length nc, .slice none 0 0] 27 (0, 0)), .rowI na nc ((rs.map RowV.no).take k)]) (fun i _ => rs.length - (intOf i).toNat)
  case atStart => exact ⟨0, none, 0, Nat.zero_le _, rfl, E.out⟩
  case round =>
    clear E
    obtain ⟨kk, na, nc, hk, rfl, E⟩ := hrel
    replace E := hid E
    replace hlo := hid hlo
    by_cases hlt : kk < rs.length
    case pos =>
      obtain ⟨b', off', hro, hSb', hbl', hc, hx⟩ := E.out.rowsF 1 rfl kk hlt
      have hstep := hid (getR rs hlt)
      generalize rs[kk] = r at hc hx hstep
      have e0 := hc 0 _ rfl
      have e1 := hc 1 _ rfl
      have e2 := hc 2 _ rfl
      have e3 := hc 3 _ rfl
      have e4 := hc 4 _ rfl
      simp only [Nat.add_zero] at e0
      clear hc hx
      obtain ⟨cur, hcur⟩ : ∃ c, c = (rs.map RowV.no).take kk := ⟨_, rfl⟩
      have hcl : cur.length ≤ 65536 := by rw [hcur]; simp; omega
      rw [← hcur] at E hstep
      replace hcur := hid hcur
      have tt0 : (0 : Int) ≤ (kk : Int) := by omega
      have tt1 : (kk : Int) < (rs.length : Int) := by omega
      subst hro
      go_upto_region 5 with (refine wpl_storeRow rfl 77 (.tmp 5) (.tmp 15) rfl _ _ _ _ rfl rfl ((E.out.alloc _).obj 5 rfl) (by kernel_rfl) rfl (by simp [Value.oneCell']) ?_; intro V HV CV; replace E := hid ((E.out.alloc _).chg 5 rfl CV HV); clear CV HV; (try simp only [List.cons_append, List.nil_append, List.set_cons_zero, List.set_cons_succ] at E))
      clear e0 e1 e2 e3 e4
      generalize wr.heap.size = bz at E ⊢
      obtain ⟨q50, -⟩ := row5 (E.out.obj 5 rfl)
      obtain ⟨q30, q31, q32, q33⟩ := (E.out.hdr 3 rfl).all
      go_wp2_with (refine wplE_addN (E.out.up (ext_alloc _ _)) 3 4 rfl rfl (by decide) rfl rfl rfl (.tmp 17) (.tmp 20) (.tmp 3) (.tmp 22) (.tmp 21) rfl rfl rfl (fun _ => True) _ 1 [r.no] rfl rfl ((lit_at (l := [r.no]) (Ext.refl _) (by simp)).mono fun _ _ _ => trivial) (by simp only [List.length_cons, List.length_nil]; omega) (fun _ => rfl) (fun _ _ => rfl) (fun _ _ => rfl) ?_; intro V2 na2 nc2 E1; clear E; have E := hid E1; clear E1; (try simp only [List.cons_append, List.nil_append, List.set_cons_zero, List.set_cons_succ] at E))
      go_roundw
      case rel => exact ⟨kk + 1, na2, nc2, by omega, by go_num, by rw [hstep.out]; exact E.out.sub (List.Sublist.cons_cons _ (List.Sublist.cons_cons _ (List.Sublist.cons_cons _ (List.Sublist.cons_cons _ (List.Sublist.cons_cons _ (List.nil_sublist _))))))⟩
      case measure => simp [intOf]; omega
    case neg =>
      have hke : (rs.map RowV.no).take kk = rs.map RowV.no := List.take_of_length_le (by simp; omega)
      rw [hke] at E
      obtain ⟨cur, hcur⟩ : ∃ c, c = rs.map RowV.no := ⟨_, rfl⟩
      have hcl : cur.length ≤ 65536 := by rw [hcur]; simpa using hl
      rw [← hcur] at E hR
      replace hcur := hid hcur
      clear hke
      have hcap := OwnI.cap (E.out.rowI 4 rfl)
      replace E := hid (E.out.doneI 4 rfl (by omega))
      (try simp only [List.cons_append, List.nil_append, List.set_cons_zero, List.set_cons_succ] at E)
      obtain ⟨q30, q31, q32, q33⟩ := (E.out.hdr 3 rfl).all
      go_wp2_with (refine wpl_store4 rfl (.tmp 2) (.tmp 24) rfl _ rfl rfl (E.out.hdr 0 rfl) ?_; intro V HV CV; replace E := hid (E.out.chg 0 rfl CV HV); (try simp only [List.cons_append, List.nil_append, List.set_cons_zero, List.set_cons_succ] at E))
      exact bodyPost_ret (end_arr rfl HV rfl) rfl (hR.out _ _ ⟨lo, 1, na, nc, none, 0, rfl, ArrAt.mono (fun b _ h => h.1) (.mk 1 [(rs.length : Int)] cur []) (ArrAt.iff.2 ⟨E.out.ints 2 rfl, E.out.ints 4 rfl, by simp [Arr.items], by simp only [Arr.items, ItemsAt]⟩), E.out.ext, Nat.le_refl _, hcap, Nat.le_refl _⟩)
end Go.Proofs.Ytdpdcjadedcglaa
namespace Go.Proofs.Ytdpdcjadedcglaa
open Go.RowKit Go.Sort
attribute [local go_sem ↓] run_max2 run_min2
attribute [local go_sem] eql_ints_nil eql_arrs_nil
def mrgR (cf : RowV → RowV → Int) : Nat → List RowV → List RowV → List RowV
  | 0, p, q => p ++ q
  | f + 1, p, q => match p, q with
    | x :: p', y :: q' => if cf x y ≤ 0 then x :: mrgR cf f p' (y :: q') else y :: mrgR cf f (x :: p') q'
    | p, q => p ++ q
def msoR (cf : RowV → RowV → Int) : Nat → List RowV → List RowV
  | 0, l => l
  | f + 1, l => if l.length < 2 then l else mrgR cf l.length (msoR cf f (l.take (l.length / 2))) (msoR cf f (l.drop (l.length / 2)))
def lenV : Value → Nat
  | .slice _ n _ => n
  | _ => 0
def RetRows (w : World) (S : Nat → Prop) (l : List RowV) (e : Ending) (w' : World) : Prop :=
  ∃ so sc, e = .returned (.slice so l.length sc) ∧ l.length ≤ sc ∧ RowsAt w' S so l ∧ Below w.heap.size w w'
theorem mrgR_len (cf : RowV → RowV → Int) : ∀ (f : Nat) (p q : List RowV), (mrgR cf f p q).length = p.length + q.length
  | 0, p, q => by simp [mrgR]
  | f + 1, [], q => by simp [mrgR]
  | f + 1, x :: p, [] => by simp [mrgR]
  | f + 1, x :: p, y :: q => by
    simp only [mrgR]
    split
    · rw [List.length_cons, mrgR_len cf f]; simp; omega
    · rw [List.length_cons, mrgR_len cf f]; simp; omega
theorem msoR_len (cf : RowV → RowV → Int) : ∀ (f : Nat) (l : List RowV), (msoR cf f l).length = l.length
  | 0, l => rfl
  | f + 1, l => by
    simp only [msoR]
    split
    · rfl
    · rw [mrgR_len, msoR_len cf f, msoR_len cf f]; simp; omega
theorem mem_mrgR (cf : RowV → RowV → Int) {r : RowV} : ∀ (f : Nat) (p q : List RowV), r ∈ mrgR cf f p q → r ∈ p ∨ r ∈ q
  | 0, p, q, h => by simpa [mrgR] using h
  | f + 1, [], q, h => by right; simpa [mrgR] using h
  | f + 1, x :: p, [], h => by left; simpa [mrgR] using h
  | f + 1, x :: p, y :: q, h => by
    simp only [mrgR] at h
    split at h
    · rcases List.mem_cons.1 h with h | h
      · left; rw [h]; exact List.mem_cons_self ..
      · rcases mem_mrgR cf f _ _ h with h | h
        · left; exact List.mem_cons_of_mem _ h
        · exact Or.inr h
    · rcases List.mem_cons.1 h with h | h
      · right; rw [h]; exact List.mem_cons_self ..
      · rcases mem_mrgR cf f _ _ h with h | h
        · exact Or.inl h
        · right; exact List.mem_cons_of_mem _ h
theorem mem_msoR (cf : RowV → RowV → Int) {r : RowV} : ∀ (f : Nat) (l : List RowV), r ∈ msoR cf f l → r ∈ l
  | 0, l, h => h
  | f + 1, l, h => by
    simp only [msoR] at h
    split at h
    · exact h
    · rcases mem_mrgR cf _ _ _ h with h | h
      · exact List.mem_of_mem_take (mem_msoR cf f _ h)
      · exact List.mem_of_mem_drop (mem_msoR cf f _ h)
theorem mrgR_le {cf : RowV → RowV → Int} {f : Nat} {x y : RowV} {p q : List RowV} (h : cf x y ≤ 0) : mrgR cf (f + 1) (x :: p) (y :: q) = x :: mrgR cf f p (y :: q) := if_pos h
theorem mrgR_gt {cf : RowV → RowV → Int} {f : Nat} {x y : RowV} {p q : List RowV} (h : ¬ cf x y ≤ 0) : mrgR cf (f + 1) (x :: p) (y :: q) = y :: mrgR cf f (x :: p) q := if_neg h
theorem mrgR_nil1 (cf : RowV → RowV → Int) (f : Nat) (q : List RowV) : mrgR cf f [] q = q := by cases f <;> simp [mrgR]
theorem mrgR_nil2 (cf : RowV → RowV → Int) (f : Nat) (p : List RowV) : mrgR cf f p [] = p := by cases f <;> cases p <;> simp [mrgR]
theorem run_cutR (ao : Option Addr) (n cap k : Nat) (hk : k ≤ n) (hc : n ≤ cap) (w : World) :
    (Instr.sliceAt 71 (.slice ao n cap) (some (.int .i64 (k : Int))) none none).run Try.prog w = .ok (.slice (if cap = k then ao else ao.map fun x => x.add (k * 5)) (n - k) (cap - k)) w := by
  have h1 : (k : Int) ≤ (n : Int) := by omega
  have h0 : (0 : Int) ≤ (k : Int) := by omega
  have h2 : (n : Int) ≤ (cap : Int) := by omega
  simp [go_sem, h1, h0, h2, Result.andThen]
theorem run_headR (ao : Option Addr) (n cap k : Nat) (hk : k ≤ n) (hc : n ≤ cap) (w : World) :
    (Instr.sliceAt 71 (.slice ao n cap) none (some (.int .i64 (k : Int))) none).run Try.prog w = .ok (.slice ao k cap) w := by
  have h1 : (k : Int) ≤ (cap : Int) := by omega
  have h0 : (0 : Int) ≤ (k : Int) := by omega
  simp [go_sem, h1, h0, Result.andThen]
def madeR (n : Nat) : Array Value := madeCells #[.int .i64 0, .int .i64 0, .slice none 0 0, .slice none 0 0, .slice none 0 0] (n * 5)
theorem run_makeR0 (w : World) (n : Nat) (h : n ≤ 1000000000000) : (Instr.makeSlice 71 (.int .i64 0) (.int .i64 (n : Int))).run Try.prog w = .ok (.slice (some ⟨w.heap.size, 0, none⟩) 0 n) (w.alloc (.cells (madeR n) 77)) := by
  obtain ⟨i0, hi, hz0, hz1, hz2⟩ := info_parts infoRow
  have hr := run_make (P := Try.prog) w 71 77 i0 (.agg #[.int .i64 0, .int .i64 0, .slice none 0 0, .slice none 0 0, .slice none 0 0]) Try.underlying71 hi hz0 .i64 .i64 0 n (by omega) (by omega) (by rw [hz2]; omega) (by omega)
  simp only [Int.toNat_natCast, hz1] at hr
  exact hr
theorem Env.row0MR {w0 w : World} {S : Nat → Prop} {L : List Fact} (E : Env w0 S w L) (j : Nat) {g n : Nat} (h : L[j]? = some (.obj g (.cells (madeR n) 77 (0, 0)))) (hn : n ≤ 1000000) : Env w0 S w (L.set j (Go.Proofs.Ytdpdcjadedcglaa.rowR (some ⟨g, 0, none⟩) n [])) := by
  have hl := E.lt j h
  refine E.turn j h E.ext (Nat.le_refl _) (fun _ _ _ => rfl) (fun b hb => Or.inl (by simpa [Fact.blk, rowOf] using hb)) (by simp [Fact.blk, rowOf]) ?_
  exact ⟨⟨rfl, Or.inr ⟨g, n, madeR n, rfl, hl.1, E.obj j h, Nat.zero_le _, by unfold maxLen; omega, by unfold madeR; rw [size_madeCells], by simp [encR]⟩⟩, by simp⟩
section
variable {ops : Array Oper} {rest : List Oper} {o : Oper} {a : Act} {Q : Exit → Act → World → Prop} {w : World}
theorem wpl_loadR (hgd : o.guard = none) (p : Operand) (ho : o.op = .load 77 p) (b off : Nat) (r : RowV) (hp : a.eval p = .pointer (some ⟨b, off, none⟩)) (hc : ∀ j u, r.enc[j]? = some u → w.cell? ⟨b, off + j, none⟩ = some u)
    (h : wpList Try.prog ops Q rest (a.put o.dst (.agg r.enc.toArray)) w) : wpList Try.prog ops Q (o :: rest) a w := by
  have e0 := hc 0 _ rfl
  have e1 := hc 1 _ rfl
  have e2 := hc 2 _ rfl
  have e3 := hc 3 _ rfl
  have e4 := hc 4 _ rfl
  simp only [Nat.add_zero] at e0
  refine wpList_plain hgd fun K hK => ?_
  have := hK _ _ h
  unfold Oper.wp execOp
  simp only [ho, hp]
  simp [go_sem, e0, e1, e2, e3, e4]
  exact this
end
section
variable {ops : Array Oper} {rest : List Oper} {o : Oper} {a : Act} {Q : Exit → Act → World → Prop} {w : World}
theorem wpl_buildR (hgd : o.guard = none) (p : Operand) (ho : o.op = .buildSlice 71 1 #[(0, p)]) (r : RowV) (hp : a.eval p = .agg r.enc.toArray)
    (h : wpList Try.prog ops Q rest (a.put o.dst (.slice (some ⟨w.heap.size, 0, none⟩) 1 1)) (w.alloc (.cells r.enc.toArray 77))) : wpList Try.prog ops Q (o :: rest) a w := by
  refine wpList_plain hgd fun K hK => ?_
  have := hK _ _ h
  unfold Oper.wp execOp
  simp only [ho]
  cases p <;> (simp [go_sem] at hp) <;> (simp [go_sem, hp, RowV.enc]) <;> exact this
end
theorem msoR_small (cf : RowV → RowV → Int) {f : Nat} {l : List RowV} (h : l.length < 2) : msoR cf f l = l := by
  cases f with
  | zero => rfl
  | succ f => simp only [msoR]; rw [if_pos h]
theorem msoR_big (cf : RowV → RowV → Int) {f : Nat} {l : List RowV} (h : ¬ l.length < 2) : msoR cf (f + 1) l = mrgR cf l.length (msoR cf f (l.take (l.length / 2))) (msoR cf f (l.drop (l.length / 2))) := by
  simp only [msoR]; rw [if_neg h]
theorem retRows_arm {W wz wq : World} {T : Nat → Prop} {l : List RowV} {e : Ending} (hT2 : ∀ b, W.heap.size ≤ b → T b) (hSe : Ext W wz) (h : RetRows wz (fun b => T b ∨ wz.heap.size ≤ b) l e wq) : ∃ v, e = .returned v ∧ Ext wz wq ∧ RetRows wz T l (.returned v) wq := by
  obtain ⟨so, sc, rfl, h1, h2, h3⟩ := h
  exact ⟨_, rfl, h3, so, sc, rfl, h1, h2.mono (fun b _ hb => hb.elim id fun q => hT2 b (Nat.le_trans (Below.size hSe) q)), h3⟩
theorem RowsAt.hd {w : World} {T : Nat → Prop} {ao : Option Addr} {x : RowV} {l : List RowV} (h : RowsAt w T ao (x :: l)) : ∃ b off, ao = some ⟨b, off, none⟩ ∧ (∀ j u, x.enc[j]? = some u → w.cell? ⟨b, off + j, none⟩ = some u) ∧ x.at w T := by
  obtain ⟨b, off, e, _, _, hc, hx⟩ := h 0 (by simp)
  simp only [Nat.zero_mul, Nat.add_zero, List.getElem_cons_zero] at hc hx
  exact ⟨b, off, e, hc, hx⟩
theorem RowsAt.hd' {w : World} {T : Nat → Prop} {b off : Nat} {x : RowV} {l p : List RowV} (hp : p = x :: l) (h : RowsAt w T (some ⟨b, off, none⟩) p) : (∀ j u, x.enc[j]? = some u → w.cell? ⟨b, off + j, none⟩ = some u) ∧ ArrAt w T x.x x.s x.n x.i := by
  subst hp
  obtain ⟨b', off', e, hc, hx⟩ := h.hd
  injection e with e
  injection e with e1 e2
  subst e1
  subst e2
  exact ⟨hc, hx⟩
theorem lenRw {f : FuncId} {xs : List RowV} {n : Nat} (hn : xs.length = n) {ao : Option Addr} {cap : Nat} {v : Value} {w : World} {R : Ending → World → Prop} (h : Calls Try.prog f #[.slice ao xs.length cap, v] w R) : Calls Try.prog f #[.slice ao n cap, v] w R := hn ▸ h
end Go.Proofs.Ytdpdcjadedcglaa
namespace Go.Proofs.Ytdpdcjadedcglaa
open Go.RowKit Go.Sort
attribute [local go_sem ↓] run_max2 run_min2
attribute [local go_sem] eql_ints_nil eql_arrs_nil
set_option maxRecDepth 100000 in
set_option maxHeartbeats 8000000 in
theorem grading_merge (cf : RowV → RowV → Int) (ok : RowV → Prop)
    (hcf : ∀ r r', ok r → ok r' → ∀ (T : Nat → Prop) (wz : World), r.at wz T → r'.at wz T → Calls Try.prog 53 #[.agg r.enc.toArray, .agg r'.enc.toArray] wz fun e w' => e = .returned (.int .i64 (cf r r')) ∧ Below wz.heap.size wz w') :
    ∀ (f : Nat) (l : List RowV) (lo : Option Addr) (lc : Nat) (S : Nat → Prop) (w : World), l.length ≤ f → l.length ≤ 65536 → l.length ≤ lc → (∀ r ∈ l, ok r) → RowsAt w S lo l →
      Calls Try.prog 52 #[.slice lo l.length lc, .func (.func 53) #[] #[]] w (RetRows w (fun b => S b ∨ w.heap.size ≤ b) (msoR cf f l)) := by
  intro f
  induction f with
  | zero =>
    intro l lo lc S w hf h6 hlc hok h
    refine calls_post fun R' hR => ?_
    have hl2 : l.length < 2 := by omega
    rw [msoR_small cf hl2] at hR
    go_enter Try.func52, Try.ntmps52
    go_wp2_with fail
    exact hR.out _ _ ⟨lo, lc, rfl, hlc, h.mono (fun b _ hs => Or.inl hs), Below.refl _ _⟩
  | succ f IH =>
    intro l lo lc S w hf h6 hlc hok h
    refine calls_post fun R' hR => ?_
    by_cases hl2 : l.length < 2
    case pos =>
      rw [msoR_small cf hl2] at hR
      go_enter Try.func52, Try.ntmps52
      go_wp2_with fail
      exact hR.out _ _ ⟨lo, lc, rfl, hlc, h.mono (fun b _ hs => Or.inl hs), Below.refl _ _⟩
    rw [msoR_big cf hl2] at hR
    obtain ⟨hh, hhe⟩ : ∃ k, k = l.length / 2 := ⟨_, rfl⟩
    rw [← hhe] at hR
    have hh1 : 1 ≤ hh ∧ hh < l.length ∧ hh ≤ f ∧ l.length - hh ≤ f := by omega
    have hqu : ((l.length : Int)).tdiv 2 = (hh : Int) := by rw [hhe]; rfl
    have hwh : IntKind.i64.wrap (hh : Int) = (hh : Int) := IntWalk.i64_in _ (by omega)
    have hs1 := fun w => run_headR lo l.length lc hh (by omega) hlc w
    obtain ⟨so2, hso2⟩ : ∃ a, a = (if lc = hh then lo else lo.map fun x => x.add (hh * 5)) := ⟨_, rfl⟩
    have hs2 : ∀ w, (Instr.sliceAt 71 (.slice lo l.length lc) (some (.int .i64 (hh : Int))) none none).run Try.prog w = .ok (.slice so2 (l.length - hh) (lc - hh)) w := fun w => by
      rw [hso2]; exact run_cutR lo l.length lc hh (by omega) hlc w
    replace hso2 := hid hso2
    have E := hid (Env.start w S)
    replace E := hid (E.out.add (f := rowsF lo l) rfl (h.mono fun b _ hs => ⟨Or.inl hs, by simp [blks]⟩))
    (try simp only [List.cons_append, List.nil_append, List.set_cons_zero, List.set_cons_succ] at E)
    replace IH := hid IH
    replace hcf := hid hcf
    replace hok := hid hok
    go_enter Try.func52, Try.ntmps52
    go_upto_region 3 with fail
    obtain ⟨l1, hl1⟩ : ∃ k, k = msoR cf f (l.take hh) := ⟨_, rfl⟩
    obtain ⟨l2, hl2'⟩ : ∃ k, k = msoR cf f (l.drop hh) := ⟨_, rfl⟩
    have z1 : l1.length = hh := by rw [hl1, msoR_len]; simp; omega
    have z2 : l2.length = l.length - hh := by rw [hl2', msoR_len]; simp
    have ok1 : Hid (∀ r ∈ l1, ok r) := hid fun r hr => hok.out r (List.mem_of_mem_take (mem_msoR cf f _ (hl1 ▸ hr)))
    have ok2 : Hid (∀ r ∈ l2, ok r) := hid fun r hr => hok.out r (List.mem_of_mem_drop (mem_msoR cf f _ (hl2' ▸ hr)))
    rw [← hl1, ← hl2'] at hR
    have i1 : Hid (∀ (T : Nat → Prop) (wz : World), RowsAt wz T lo l → Calls Try.prog 52 #[.slice lo hh lc, .func (.func 53) #[] #[]] wz (RetRows wz (fun b => T b ∨ wz.heap.size ≤ b) l1)) := hid fun T wz q => by
      rw [hl1]
      exact lenRw (by simp; omega) (IH.out (l.take hh) lo lc T wz (by simp; omega) (by simp; omega) (by simp; omega) (fun r hr => hok.out r (List.mem_of_mem_take hr)) (q.take hh))
    have i2 : Hid (∀ (T : Nat → Prop) (wz : World), RowsAt wz T lo l → Calls Try.prog 52 #[.slice so2 (l.length - hh) (lc - hh), .func (.func 53) #[] #[]] wz (RetRows wz (fun b => T b ∨ wz.heap.size ≤ b) l2)) := hid fun T wz q => by
      rw [hl2', hso2.out]
      exact lenRw (by simp) (IH.out (l.drop hh) _ (lc - hh) T wz (by simp; omega) (by simp; omega) (by simp; omega) (fun r hr => hok.out r (List.mem_of_mem_drop hr)) (q.drop hh (lc = hh) (fun e => by omega)))
    replace z1 := hid z1
    replace z2 := hid z2
    replace hl1 := hid hl1
    replace hl2' := hid hl2'
    replace hhe := hid hhe
    clear IH hok
    obtain ⟨T, hT1, hT2, hT3⟩ := E.out.tw
    refine wp_region_mono (Sees w []) [6, 13] (fun k v u u' => match k with | 6 => RetRows u T l1 (.returned v) u' | 13 => RetRows u T l2 (.returned v) u' | _ => False) (fun _ _ h e => h.up e) (Sees.start (all_nil)) (by kernel_rfl) (by kernel_rfl) ?_
    repeat (first | (refine m_plain (v := ?_) (by rfl) (by rfl) ?_ ?_; rotate_left; (intro wz hSw; obtain ⟨-, hSc⟩ := hSw; (try simp only [List.forall_mem_cons, List.forall_mem_nil, and_true] at hSc); go_simp; (first | done | with_reducible rfl)); (intro K hK; (try simp only [Act.put, List.setIfInBounds_toArray, List.set_cons_zero, List.set_cons_succ]); refine hK _ _ ?_; clear hK K)) | (refine m_skip (by rfl) (by rfl) ?_; (intro K hK; (try simp only [Act.put, List.setIfInBounds_toArray, List.set_cons_zero, List.set_cons_succ]); refine hK _ _ ?_; clear hK K)))
    refine m_make (by rfl) (by rfl) ?_ ?_
    · intro wz hSw hdep R hRz
      obtain ⟨hSe, hSc⟩ := hSw
      (try simp only [List.forall_mem_cons, List.forall_mem_nil, and_true] at hSc)
      unfold does
      (go_simp; refine Calls.mono (i1.out T wz (((E.out.rowsF 0 rfl).mono fun b _ h => hT1 b h).up hSe)) ?_; intro e wq h; obtain ⟨v, rfl, h1⟩ := retRows_arm hT2 hSe h; exact ⟨_, rfl, hRz.out _ _ h1⟩)
    intro v6 u6 x6 hG6 K hK
    have hF6 := hG6.fact
    (try dsimp only at hF6)
    obtain ⟨o6, c6, he, hc6, hA6, hb6⟩ := hF6
    injection he with he
    subst he
    (try simp only [Act.put, List.setIfInBounds_toArray, List.set_cons_zero, List.set_cons_succ]); refine hK _ _ ?_; clear hK K
    repeat (first | (refine m_plain (v := ?_) (by rfl) (by rfl) ?_ ?_; rotate_left; (intro wz hSw; obtain ⟨-, hSc⟩ := hSw; (try simp only [List.forall_mem_cons, List.forall_mem_nil, and_true] at hSc); go_simp; (first | done | with_reducible rfl)); (intro K hK; (try simp only [Act.put, List.setIfInBounds_toArray, List.set_cons_zero, List.set_cons_succ]); refine hK _ _ ?_; clear hK K)) | (refine m_skip (by rfl) (by rfl) ?_; (intro K hK; (try simp only [Act.put, List.setIfInBounds_toArray, List.set_cons_zero, List.set_cons_succ]); refine hK _ _ ?_; clear hK K)))
    refine m_make (by rfl) (by rfl) ?_ ?_
    · intro wz hSw hdep R hRz
      obtain ⟨hSe, hSc⟩ := hSw
      (try simp only [List.forall_mem_cons, List.forall_mem_nil, and_true] at hSc)
      unfold does
      (go_simp; refine Calls.mono (i2.out T wz (((E.out.rowsF 0 rfl).mono fun b _ h => hT1 b h).up hSe)) ?_; intro e wq h; obtain ⟨v, rfl, h1⟩ := retRows_arm hT2 hSe h; exact ⟨_, rfl, hRz.out _ _ h1⟩)
    intro v13 u13 x13 hG13 K hK
    have hF13 := hG13.fact
    (try dsimp only at hF13)
    obtain ⟨o13, c13, he, hc13, hA13, hb13⟩ := hF13
    injection he with he
    subst he
    (try simp only [Act.put, List.setIfInBounds_toArray, List.set_cons_zero, List.set_cons_succ]); refine hK _ _ ?_; clear hK K
    repeat (first | (refine m_plain (v := ?_) (by rfl) (by rfl) ?_ ?_; rotate_left; (intro wz hSw; obtain ⟨-, hSc⟩ := hSw; (try simp only [List.forall_mem_cons, List.forall_mem_nil, and_true] at hSc); go_simp; (first | done | with_reducible rfl)); (intro K hK; (try simp only [Act.put, List.setIfInBounds_toArray, List.set_cons_zero, List.set_cons_succ]); refine hK _ _ ?_; clear hK K)) | (refine m_skip (by rfl) (by rfl) ?_; (intro K hK; (try simp only [Act.put, List.setIfInBounds_toArray, List.set_cons_zero, List.set_cons_succ]); refine hK _ _ ?_; clear hK K)))
    refine m_nil ?_
    intro wf hSf hAf
    replace E := hid ((((E.out.up hSf.1).addRows ((hA6.up (hAf 6 _ rfl))) (fun b _ h => hT3 b h)).addRows (hA13.up (hAf 13 _ rfl)) (fun b _ h => hT3 b h)))
    (try simp only [List.cons_append, List.nil_append, List.set_cons_zero, List.set_cons_succ] at E)
    clear hSf hAf hG6 hG13 hA6 hA13 hb6 hb13 hs1 hs2 hwh hqu hT1 hT2 hT3
    have hmk := fun w => run_makeR0 w l.length (by omega)
    go_wp2_with fail
    replace E := hid (E.out.alloc (.cells (madeR l.length) 77))
    (try simp only [List.cons_append, List.nil_append, List.set_cons_zero, List.set_cons_succ] at E)
    replace E := hid (E.out.row0MR 3 rfl (by omega))
    (try simp only [List.cons_append, List.nil_append, List.set_cons_zero, List.set_cons_succ] at E)
    clear hmk
    obtain ⟨wh, hwh⟩ : ∃ q, q = mrgR cf l.length l1 l2 := ⟨_, rfl⟩
    rw [← hwh] at hR
    have hst : mrgR cf (l1.length + l2.length) l1 l2 = wh := by rw [hwh, z1.out, z2.out]; congr 1; omega
    have hwl : wh.length = l.length := by rw [hwh, mrgR_len, z1.out, z2.out]; omega
    have hz12 : l1.length + l2.length = l.length := by rw [z1.out, z2.out]; omega
    have hwl6 : wh.length ≤ 65536 := by omega
    replace hwh := hid hwh
    go_loopw [5, 6, 7] (fun x y o wr => ∃ (p q d : List RowV) (ao : Option Addr) (ac : Nat) (bo : Option Addr) (bc : Nat) (oo : Option Addr) (oc : Nat), x = .slice ao p.length ac ∧ y = .slice bo q.length bc ∧ o = .slice oo d.length oc ∧ p.length ≤ ac ∧ q.length ≤ bc ∧ d ++ mrgR cf (p.length + q.length) p q = wh ∧ d.length + (p.length + q.length) = wh.length ∧ (∀ r ∈ p, ok r) ∧ (∀ r ∈ q, ok r) ∧ Env w S wr [rowsF lo l, rowsF ao p, rowsF bo q, rowR oo oc d]) (fun x y o _ => lenV x + lenV y)
    case atStart => exact ⟨l1, l2, [], _, _, _, _, _, _, rfl, rfl, rfl, hc6, hc13, hst, by simp; omega, ok1.out, ok2.out, E.out⟩
    case round =>
      clear E
      obtain ⟨p, q, d, ao, ac, bo, bc, oo, oc, rfl, rfl, rfl, hpa, hqb, hmr, hln, okp, okq, E⟩ := hrel
      replace E := hid E
      replace hwl := hid hwl
      replace hz12 := hid hz12
      replace hst := hid hst
      have hll1 : d.length + p.length ≤ 1000000000000 := by omega
      have hll2 : (d ++ p).length + q.length ≤ 1000000000000 := by rw [List.length_append]; omega
      by_cases cp : p.length = 0
      case pos =>
        have hp0 := List.eq_nil_of_length_eq_zero cp
        have hend : Hid (d ++ p ++ q = wh) := hid (by rw [← hmr, hp0, mrgR_nil1]; simp)
        have cn : ¬ (0 : Int) < (p.length : Int) := by omega
        replace cp := hid cp
        replace hp0 := hid hp0
        replace hmr := hid hmr
        replace hln := hid hln
        go_wp2_with (first
          | (refine wplE_appR E.out 3 rfl rfl (.tmp 62) (.tmp 63) rfl rfl _ ao ac p rfl (E.out.rowsF 1 rfl) (fun _ _ h => h) hll1 ?_; intro V1 o1 c1 E1; clear E hll1; generalize d ++ p = D at E1 hend hll2 ⊢; have E := hid E1; clear E1; (try simp only [List.cons_append, List.nil_append, List.set_cons_zero, List.set_cons_succ] at E))
          | (refine wplE_appR E.out 3 rfl rfl (.tmp 64) (.tmp 65) rfl rfl _ bo bc q rfl (E.out.rowsF 2 rfl) (fun _ _ h => h) hll2 ?_; intro V2 o2 c2 E1; clear E; rw [hend.out] at E1 ⊢; have E := hid E1; clear E1; (try simp only [List.cons_append, List.nil_append, List.set_cons_zero, List.set_cons_succ] at E)))
        have hcap := OwnR.caple (E.out.rowR 3 rfl)
        replace E := hid (E.out.doneR 3 rfl)
        (try simp only [List.cons_append, List.nil_append, List.set_cons_zero, List.set_cons_succ] at E)
        exact hR.out _ _ ⟨_, _, rfl, hcap, (E.out.rowsF 3 rfl).mono fun b _ h => h.1, E.out.ext⟩
      by_cases cq : q.length = 0
      case pos =>
        have hp0 := List.eq_nil_of_length_eq_zero cq
        have hend : Hid (d ++ p ++ q = wh) := hid (by rw [← hmr, hp0, mrgR_nil2]; simp)
        have cn0 : (0 : Int) < (p.length : Int) := by omega
        have cn : ¬ (0 : Int) < (q.length : Int) := by omega
        replace cp := hid cp
        replace cq := hid cq
        replace hp0 := hid hp0
        replace hmr := hid hmr
        replace hln := hid hln
        go_wp2_with (first
          | (refine wplE_appR E.out 3 rfl rfl (.tmp 62) (.tmp 63) rfl rfl _ ao ac p rfl (E.out.rowsF 1 rfl) (fun _ _ h => h) hll1 ?_; intro V1 o1 c1 E1; clear E hll1; generalize d ++ p = D at E1 hend hll2 ⊢; have E := hid E1; clear E1; (try simp only [List.cons_append, List.nil_append, List.set_cons_zero, List.set_cons_succ] at E))
          | (refine wplE_appR E.out 3 rfl rfl (.tmp 64) (.tmp 65) rfl rfl _ bo bc q rfl (E.out.rowsF 2 rfl) (fun _ _ h => h) hll2 ?_; intro V2 o2 c2 E1; clear E; rw [hend.out] at E1 ⊢; have E := hid E1; clear E1; (try simp only [List.cons_append, List.nil_append, List.set_cons_zero, List.set_cons_succ] at E)))
        have hcap := OwnR.caple (E.out.rowR 3 rfl)
        replace E := hid (E.out.doneR 3 rfl)
        (try simp only [List.cons_append, List.nil_append, List.set_cons_zero, List.set_cons_succ] at E)
        exact hR.out _ _ ⟨_, _, rfl, hcap, (E.out.rowsF 3 rfl).mono fun b _ h => h.1, E.out.ext⟩
      have cn0 : (0 : Int) < (p.length : Int) := by omega
      have cn : (0 : Int) < (q.length : Int) := by omega
      obtain ⟨x, p', hp⟩ : ∃ x p', p = x :: p' := List.exists_cons_of_length_pos (by omega)
      obtain ⟨y, q', hq⟩ : ∃ x p', q = x :: p' := List.exists_cons_of_length_pos (by omega)
      obtain ⟨b1, o1, hao, hc1, hx1⟩ := (hp ▸ E.out.rowsF 1 rfl).hd
      obtain ⟨b2, o2, hbo, hc2, hx2⟩ := (hq ▸ E.out.rowsF 2 rfl).hd
      have okx : Hid (ok x) := hid (okp x (hp ▸ List.mem_cons_self ..))
      have oky : Hid (ok y) := hid (okq y (hq ▸ List.mem_cons_self ..))
      have zp : p.length = p'.length + 1 := by rw [hp]; rfl
      have zq : q.length = q'.length + 1 := by rw [hq]; rfl
      replace E := hid ((E.out.addArr hx1 (fun _ _ h => h)).addArr hx2 (fun _ _ h => h))
      (try simp only [List.cons_append, List.nil_append, List.set_cons_zero, List.set_cons_succ] at E)
      clear hx1 hx2
      have d0 := hc1 0 _ rfl
      have d1 := hc1 1 _ rfl
      have d2 := hc1 2 _ rfl
      have d3 := hc1 3 _ rfl
      have d4 := hc1 4 _ rfl
      have f0 := hc2 0 _ rfl
      have f1 := hc2 1 _ rfl
      have f2 := hc2 2 _ rfl
      have f3 := hc2 3 _ rfl
      have f4 := hc2 4 _ rfl
      simp only [Nat.add_zero] at d0 f0
      obtain ⟨cv, hcv⟩ : ∃ c, c = cf x y := ⟨_, rfl⟩
      have hcv2 : Hid (cf x y = cv) := hid hcv.symm
      by_cases hle : cv ≤ 0
      case pos =>
        have hmr2 : Hid ((d ++ [x]) ++ mrgR cf (p'.length + q.length) p' q = wh) := hid (by
          rw [← hmr, hp, hq, show (x :: p').length + (y :: q').length = (p'.length + (y :: q').length) + 1 by simp; omega, mrgR_le (by rw [← hcv]; exact hle)]; simp)
        have hok2 : Hid (∀ r ∈ p', ok r) := hid fun r hr => okp r (hp ▸ List.mem_cons_of_mem _ hr)
        replace hmr := hid hmr
        replace okp := hid okp
        replace okq := hid okq
        replace zp := hid zp
        replace zq := hid zq
        replace cp := hid cp
        replace cq := hid cq
        replace hp := hid hp
        replace hq := hid hq
        replace hcv := hid hcv
        replace hln := hid hln
        subst hao
        subst hbo
        go_upto_region 6 with fail
        obtain ⟨T, hT1, hT2, hT3⟩ := E.out.tw
        refine wp_region_mono (Sees wr [(⟨b1, o1, none⟩, .int .i64 x.no), (⟨b1, o1 + 1, none⟩, .int .i64 x.x.kind), (⟨b1, o1 + 2, none⟩, .slice x.s x.x.shape.length x.c), (⟨b1, o1 + 3, none⟩, .slice x.n x.x.nums.length x.m), (⟨b1, o1 + 4, none⟩, .slice x.i x.x.items.length x.j), (⟨b2, o2, none⟩, .int .i64 y.no), (⟨b2, o2 + 1, none⟩, .int .i64 y.x.kind), (⟨b2, o2 + 2, none⟩, .slice y.s y.x.shape.length y.c), (⟨b2, o2 + 3, none⟩, .slice y.n y.x.nums.length y.m), (⟨b2, o2 + 4, none⟩, .slice y.i y.x.items.length y.j)]) [7] (fun k v u u' => match k with | 7 => v = .int .i64 cv | _ => False) (fun _ _ h e => h.up e) (Sees.start (all_cons (d0) (all_cons (d1) (all_cons (d2) (all_cons (d3) (all_cons (d4) (all_cons (f0) (all_cons (f1) (all_cons (f2) (all_cons (f3) (all_cons (f4) (all_nil)))))))))))) (by kernel_rfl) (by kernel_rfl) ?_
        repeat (first | (refine m_plain (v := ?_) (by rfl) (by rfl) ?_ ?_; rotate_left; (intro wz hSw; obtain ⟨-, hSc⟩ := hSw; (try simp only [List.forall_mem_cons, List.forall_mem_nil, and_true] at hSc); go_simp; (first | done | with_reducible rfl)); (intro K hK; (try simp only [Act.put, List.setIfInBounds_toArray, List.set_cons_zero, List.set_cons_succ]); refine hK _ _ ?_; clear hK K)) | (refine m_skip (by rfl) (by rfl) ?_; (intro K hK; (try simp only [Act.put, List.setIfInBounds_toArray, List.set_cons_zero, List.set_cons_succ]); refine hK _ _ ?_; clear hK K)))
        refine m_make (by rfl) (by rfl) ?_ ?_
        · intro wz hSw hdep R hRz
          obtain ⟨hSe, hSc⟩ := hSw
          (try simp only [List.forall_mem_cons, List.forall_mem_nil, and_true] at hSc)
          unfold does
          (go_simp; refine Calls.mono (hcf.out x y okx.out oky.out T wz (ArrAt.up (ArrAt.mono (fun b _ h => hT1 b h) _ (E.out.arr 4 rfl)) hSe) (ArrAt.up (ArrAt.mono (fun b _ h => hT1 b h) _ (E.out.arr 5 rfl)) hSe)) ?_; rintro e wq ⟨rfl, hqb⟩; rw [hcv2.out]; exact ⟨_, rfl, hRz.out _ _ ⟨hqb, rfl⟩⟩)
        intro v7 u7 x7 hG7 K hK
        have hF7 := hG7.fact
        (try dsimp only at hF7)
        subst hF7
        (try simp only [Act.put, List.setIfInBounds_toArray, List.set_cons_zero, List.set_cons_succ]); refine hK _ _ ?_; clear hK K
        repeat (first | (refine m_plain (v := ?_) (by rfl) (by rfl) ?_ ?_; rotate_left; (intro wz hSw; obtain ⟨-, hSc⟩ := hSw; (try simp only [List.forall_mem_cons, List.forall_mem_nil, and_true] at hSc); go_simp; (first | done | with_reducible rfl)); (intro K hK; (try simp only [Act.put, List.setIfInBounds_toArray, List.set_cons_zero, List.set_cons_succ]); refine hK _ _ ?_; clear hK K)) | (refine m_skip (by rfl) (by rfl) ?_; (intro K hK; (try simp only [Act.put, List.setIfInBounds_toArray, List.set_cons_zero, List.set_cons_succ]); refine hK _ _ ?_; clear hK K)))
        refine m_nil ?_
        intro wf hSf hAf
        replace E := hid (E.out.up hSf.1)
        clear hSf hAf d0 d1 d2 d3 d4 f0 f1 f2 f3 f4 hc1 hc2
        go_upto_region 7 with fail
        refine wp_region_any (by kernel_rfl) ?_
        change wpAny _ _ _ _ _ _ _ wf.drew
        replace E := hid (E.out.up (ext_drawn wf))
        generalize wf.drew = wd at E ⊢
        obtain ⟨hc1, hx1⟩ := (E.out.rowsF 1 rfl).hd' hp.out
        obtain ⟨so', hso⟩ : ∃ a, a = (if ac = 1 then (some ⟨b1, o1, none⟩ : Option Addr) else (some (⟨b1, o1, none⟩ : Addr)).map fun x => x.add (1 * 5)) := ⟨_, rfl⟩
        have hsl : ∀ w, (Instr.sliceAt 71 (.slice (some ⟨b1, o1, none⟩) p.length ac) (some (.int .i64 1)) none none).run Try.prog w = .ok (.slice so' (p.length - 1) (ac - 1)) w := fun w => by
          rw [hso]; exact run_cutR _ p.length ac 1 (by omega) hpa w
        replace hso := hid hso
        refine any_take 0 (v := .slice oo d.length oc) (by kernel_rfl) (by kernel_rfl) (by kernel_rfl) (by simp only [List.getElem?_toArray, List.getElem?_cons_succ, List.getElem?_cons_zero] <;> rfl) (by rfl) (by intro wz; go_simp <;> (try (intro hh; omega))) (by intro c a w h; exact h) ?_
        simp only [Act.put, List.setIfInBounds_toArray, List.set_cons_zero, List.set_cons_succ]
        refine any_take 6 (v := .slice (some ⟨b1, o1, none⟩) p.length ac) (by kernel_rfl) (by kernel_rfl) (by kernel_rfl) (by simp only [List.getElem?_toArray, List.getElem?_cons_succ, List.getElem?_cons_zero] <;> rfl) (by rfl) (by intro wz; go_simp <;> (try (intro hh; omega))) (by intro c a w h; exact h) ?_
        simp only [Act.put, List.setIfInBounds_toArray, List.set_cons_zero, List.set_cons_succ]
        refine any_take 7 (v := .slice so' (p.length - 1) (ac - 1)) (by kernel_rfl) (by kernel_rfl) (by kernel_rfl) (by simp only [List.getElem?_toArray, List.getElem?_cons_succ, List.getElem?_cons_zero] <;> rfl) (by rfl) (by intro wz; go_simp <;> (try (intro hh; omega))) (by intro c a w h; exact h) ?_
        simp only [Act.put, List.setIfInBounds_toArray, List.set_cons_zero, List.set_cons_succ]
        refine any_take 1 (v := .slice (some ⟨b1, o1, none⟩) p.length ac) (by kernel_rfl) (by kernel_rfl) (by kernel_rfl) (by simp only [List.getElem?_toArray, List.getElem?_cons_succ, List.getElem?_cons_zero] <;> rfl) (by rfl) (by intro wz; go_simp <;> (try (intro hh; omega))) (by intro c a w h; exact h) ?_
        simp only [Act.put, List.setIfInBounds_toArray, List.set_cons_zero, List.set_cons_succ]
        refine any_take 2 (v := .pointer (some ⟨b1, o1, none⟩)) (by kernel_rfl) (by kernel_rfl) (by kernel_rfl) (by simp only [List.getElem?_toArray, List.getElem?_cons_succ, List.getElem?_cons_zero] <;> rfl) (by rfl) (by intro wz; go_simp <;> (try (intro hh; omega))) (by intro c a w h; exact h) ?_
        simp only [Act.put, List.setIfInBounds_toArray, List.set_cons_zero, List.set_cons_succ]
        refine any_step 3 (by kernel_rfl) (by simp only [List.getElem?_toArray, List.getElem?_cons_succ, List.getElem?_cons_zero] <;> rfl) ?_
        refine wpl_loadR (by rfl) (.tmp 48) (by rfl) b1 o1 x (by rfl) hc1 ?_
        refine any_nil ?_
        simp only [Act.put, List.setIfInBounds_toArray, List.set_cons_zero, List.set_cons_succ]
        refine any_step 4 (by kernel_rfl) (by simp only [List.getElem?_toArray, List.getElem?_cons_succ, List.getElem?_cons_zero] <;> rfl) ?_
        refine wpl_buildR (by rfl) (.tmp 49) (by rfl) x (by rfl) ?_
        refine any_nil ?_
        simp only [Act.put, List.setIfInBounds_toArray, List.set_cons_zero, List.set_cons_succ]
        refine any_step 5 (by kernel_rfl) (by simp only [List.getElem?_toArray, List.getElem?_cons_succ, List.getElem?_cons_zero] <;> rfl) ?_
        refine wplE_appR (E.out.up (ext_alloc _ _)) 3 rfl (by rfl) (.tmp 46) (.tmp 50) (by rfl) (by rfl) (fun b => wd.heap.size ≤ b ∨ Tst w S _ b) _ 1 [x] (by rfl) (lit_rows (r := x) (Ext.refl _) (Or.inl (Nat.le_refl _)) (ArrAt.mono (fun b _ h => Or.inr h) _ (ArrAt.up hx1 (ext_alloc _ _)))) (fun b _ hb => hb.elim (fun q => E.out.fresh (Ext.refl _) q) id) (by simp only [List.length_cons, List.length_nil]; omega) ?_
        intro V2 ao2 ac2 E1
        clear E
        have E := hid E1
        clear E1
        (try simp only [List.cons_append, List.nil_append, List.set_cons_zero, List.set_cons_succ] at E)
        refine any_nil ?_
        simp only [Act.put, List.setIfInBounds_toArray, List.set_cons_zero, List.set_cons_succ]
        refine any_take 8 (v := .slice ao2 (d ++ [x]).length ac2) (by kernel_rfl) (by kernel_rfl) (by kernel_rfl) (by simp only [List.getElem?_toArray, List.getElem?_cons_succ, List.getElem?_cons_zero] <;> rfl) (by rfl) (by intro wz; go_simp) (by intro c a w h; exact h) ?_
        simp only [Act.put, List.setIfInBounds_toArray, List.set_cons_zero, List.set_cons_succ]
        refine any_take 9 (v := .slice so' (p.length - 1) (ac - 1)) (by kernel_rfl) (by kernel_rfl) (by kernel_rfl) (by simp only [List.getElem?_toArray, List.getElem?_cons_succ, List.getElem?_cons_zero] <;> rfl) (by rfl) (by intro wz; go_simp) (by intro c a w h; exact h) ?_
        simp only [Act.put, List.setIfInBounds_toArray, List.set_cons_zero, List.set_cons_succ]
        refine any_done (by kernel_rfl) ?_
        have hcut := (E.out.rowsF 1 rfl).drop 1 (ac = 1) (fun e => by omega)
        rw [← hso.out, hp.out, List.drop_one, List.tail_cons] at hcut
        replace E := hid (E.out.freeze 1 rfl (g := rowsF so' p') rfl (hcut.mono fun b _ h => Or.inl h))
        clear hcut
        (try simp only [List.cons_append, List.nil_append, List.set_cons_zero, List.set_cons_succ] at E)
        have hzl : Hid ((d ++ [x]).length + (p'.length + q.length) = wh.length) := hid (by rw [List.length_append, ← hln.out, zp.out]; simp; omega)
        have hpl : Hid (p.length - 1 = p'.length ∧ p'.length ≤ ac - 1 ∧ (p.length - 1) + q.length < p.length + q.length) := hid (by have := zp.out; omega)
        generalize d ++ [x] = dx at E hmr2 hzl ⊢
        go_wp2_with fail
        go_roundw
        case rel => exact ⟨p', q, dx, so', ac - 1, _, bc, ao2, ac2, by rw [hpl.out.1], rfl, rfl, hpl.out.2.1, hqb, hmr2.out, hzl.out, hok2.out, okq.out, E.out.sub (List.Sublist.cons_cons _ (List.Sublist.cons_cons _ (List.Sublist.cons_cons _ (List.Sublist.cons_cons _ (List.nil_sublist _)))))⟩
        case measure => exact hpl.out.2.2
      case neg =>
        have hmr2 : Hid ((d ++ [y]) ++ mrgR cf (p.length + q'.length) p q' = wh) := hid (by
          rw [← hmr, hp, hq, show (x :: p').length + (y :: q').length = ((x :: p').length + q'.length) + 1 by simp; omega, mrgR_gt (by rw [← hcv]; exact hle)]; simp)
        have hok2 : Hid (∀ r ∈ q', ok r) := hid fun r hr => okq r (hq ▸ List.mem_cons_of_mem _ hr)
        replace hmr := hid hmr
        replace okp := hid okp
        replace okq := hid okq
        replace zp := hid zp
        replace zq := hid zq
        replace cp := hid cp
        replace cq := hid cq
        replace hp := hid hp
        replace hq := hid hq
        replace hcv := hid hcv
        replace hln := hid hln
        subst hao
        subst hbo
        go_upto_region 6 with fail
        obtain ⟨T, hT1, hT2, hT3⟩ := E.out.tw
        refine wp_region_mono (Sees wr [(⟨b1, o1, none⟩, .int .i64 x.no), (⟨b1, o1 + 1, none⟩, .int .i64 x.x.kind), (⟨b1, o1 + 2, none⟩, .slice x.s x.x.shape.length x.c), (⟨b1, o1 + 3, none⟩, .slice x.n x.x.nums.length x.m), (⟨b1, o1 + 4, none⟩, .slice x.i x.x.items.length x.j), (⟨b2, o2, none⟩, .int .i64 y.no), (⟨b2, o2 + 1, none⟩, .int .i64 y.x.kind), (⟨b2, o2 + 2, none⟩, .slice y.s y.x.shape.length y.c), (⟨b2, o2 + 3, none⟩, .slice y.n y.x.nums.length y.m), (⟨b2, o2 + 4, none⟩, .slice y.i y.x.items.length y.j)]) [7] (fun k v u u' => match k with | 7 => v = .int .i64 cv | _ => False) (fun _ _ h e => h.up e) (Sees.start (all_cons (d0) (all_cons (d1) (all_cons (d2) (all_cons (d3) (all_cons (d4) (all_cons (f0) (all_cons (f1) (all_cons (f2) (all_cons (f3) (all_cons (f4) (all_nil)))))))))))) (by kernel_rfl) (by kernel_rfl) ?_
        repeat (first | (refine m_plain (v := ?_) (by rfl) (by rfl) ?_ ?_; rotate_left; (intro wz hSw; obtain ⟨-, hSc⟩ := hSw; (try simp only [List.forall_mem_cons, List.forall_mem_nil, and_true] at hSc); go_simp; (first | done | with_reducible rfl)); (intro K hK; (try simp only [Act.put, List.setIfInBounds_toArray, List.set_cons_zero, List.set_cons_succ]); refine hK _ _ ?_; clear hK K)) | (refine m_skip (by rfl) (by rfl) ?_; (intro K hK; (try simp only [Act.put, List.setIfInBounds_toArray, List.set_cons_zero, List.set_cons_succ]); refine hK _ _ ?_; clear hK K)))
        refine m_make (by rfl) (by rfl) ?_ ?_
        · intro wz hSw hdep R hRz
          obtain ⟨hSe, hSc⟩ := hSw
          (try simp only [List.forall_mem_cons, List.forall_mem_nil, and_true] at hSc)
          unfold does
          (go_simp; refine Calls.mono (hcf.out x y okx.out oky.out T wz (ArrAt.up (ArrAt.mono (fun b _ h => hT1 b h) _ (E.out.arr 4 rfl)) hSe) (ArrAt.up (ArrAt.mono (fun b _ h => hT1 b h) _ (E.out.arr 5 rfl)) hSe)) ?_; rintro e wq ⟨rfl, hqb⟩; rw [hcv2.out]; exact ⟨_, rfl, hRz.out _ _ ⟨hqb, rfl⟩⟩)
        intro v7 u7 x7 hG7 K hK
        have hF7 := hG7.fact
        (try dsimp only at hF7)
        subst hF7
        (try simp only [Act.put, List.setIfInBounds_toArray, List.set_cons_zero, List.set_cons_succ]); refine hK _ _ ?_; clear hK K
        repeat (first | (refine m_plain (v := ?_) (by rfl) (by rfl) ?_ ?_; rotate_left; (intro wz hSw; obtain ⟨-, hSc⟩ := hSw; (try simp only [List.forall_mem_cons, List.forall_mem_nil, and_true] at hSc); go_simp; (first | done | with_reducible rfl)); (intro K hK; (try simp only [Act.put, List.setIfInBounds_toArray, List.set_cons_zero, List.set_cons_succ]); refine hK _ _ ?_; clear hK K)) | (refine m_skip (by rfl) (by rfl) ?_; (intro K hK; (try simp only [Act.put, List.setIfInBounds_toArray, List.set_cons_zero, List.set_cons_succ]); refine hK _ _ ?_; clear hK K)))
        refine m_nil ?_
        intro wf hSf hAf
        replace E := hid (E.out.up hSf.1)
        clear hSf hAf d0 d1 d2 d3 d4 f0 f1 f2 f3 f4 hc1 hc2
        go_upto_region 8 with fail
        refine wp_region_any (by kernel_rfl) ?_
        change wpAny _ _ _ _ _ _ _ wf.drew
        replace E := hid (E.out.up (ext_drawn wf))
        generalize wf.drew = wd at E ⊢
        obtain ⟨hc1, hx1⟩ := (E.out.rowsF 2 rfl).hd' hq.out
        obtain ⟨so', hso⟩ : ∃ a, a = (if bc = 1 then (some ⟨b2, o2, none⟩ : Option Addr) else (some (⟨b2, o2, none⟩ : Addr)).map fun x => x.add (1 * 5)) := ⟨_, rfl⟩
        have hsl : ∀ w, (Instr.sliceAt 71 (.slice (some ⟨b2, o2, none⟩) q.length bc) (some (.int .i64 1)) none none).run Try.prog w = .ok (.slice so' (q.length - 1) (bc - 1)) w := fun w => by
          rw [hso]; exact run_cutR _ q.length bc 1 (by omega) hqb w
        replace hso := hid hso
        refine any_take 0 (v := .slice oo d.length oc) (by kernel_rfl) (by kernel_rfl) (by kernel_rfl) (by simp only [List.getElem?_toArray, List.getElem?_cons_succ, List.getElem?_cons_zero] <;> rfl) (by rfl) (by intro wz; go_simp <;> (try (intro hh; omega))) (by intro c a w h; exact h) ?_
        simp only [Act.put, List.setIfInBounds_toArray, List.set_cons_zero, List.set_cons_succ]
        refine any_take 6 (v := .slice (some ⟨b2, o2, none⟩) q.length bc) (by kernel_rfl) (by kernel_rfl) (by kernel_rfl) (by simp only [List.getElem?_toArray, List.getElem?_cons_succ, List.getElem?_cons_zero] <;> rfl) (by rfl) (by intro wz; go_simp <;> (try (intro hh; omega))) (by intro c a w h; exact h) ?_
        simp only [Act.put, List.setIfInBounds_toArray, List.set_cons_zero, List.set_cons_succ]
        refine any_take 7 (v := .slice so' (q.length - 1) (bc - 1)) (by kernel_rfl) (by kernel_rfl) (by kernel_rfl) (by simp only [List.getElem?_toArray, List.getElem?_cons_succ, List.getElem?_cons_zero] <;> rfl) (by rfl) (by intro wz; go_simp <;> (try (intro hh; omega))) (by intro c a w h; exact h) ?_
        simp only [Act.put, List.setIfInBounds_toArray, List.set_cons_zero, List.set_cons_succ]
        refine any_take 1 (v := .slice (some ⟨b2, o2, none⟩) q.length bc) (by kernel_rfl) (by kernel_rfl) (by kernel_rfl) (by simp only [List.getElem?_toArray, List.getElem?_cons_succ, List.getElem?_cons_zero] <;> rfl) (by rfl) (by intro wz; go_simp <;> (try (intro hh; omega))) (by intro c a w h; exact h) ?_
        simp only [Act.put, List.setIfInBounds_toArray, List.set_cons_zero, List.set_cons_succ]
        refine any_take 2 (v := .pointer (some ⟨b2, o2, none⟩)) (by kernel_rfl) (by kernel_rfl) (by kernel_rfl) (by simp only [List.getElem?_toArray, List.getElem?_cons_succ, List.getElem?_cons_zero] <;> rfl) (by rfl) (by intro wz; go_simp <;> (try (intro hh; omega))) (by intro c a w h; exact h) ?_
        simp only [Act.put, List.setIfInBounds_toArray, List.set_cons_zero, List.set_cons_succ]
        refine any_step 3 (by kernel_rfl) (by simp only [List.getElem?_toArray, List.getElem?_cons_succ, List.getElem?_cons_zero] <;> rfl) ?_
        refine wpl_loadR (by rfl) (.tmp 56) (by rfl) b2 o2 y (by rfl) hc1 ?_
        refine any_nil ?_
        simp only [Act.put, List.setIfInBounds_toArray, List.set_cons_zero, List.set_cons_succ]
        refine any_step 4 (by kernel_rfl) (by simp only [List.getElem?_toArray, List.getElem?_cons_succ, List.getElem?_cons_zero] <;> rfl) ?_
        refine wpl_buildR (by rfl) (.tmp 57) (by rfl) y (by rfl) ?_
        refine any_nil ?_
        simp only [Act.put, List.setIfInBounds_toArray, List.set_cons_zero, List.set_cons_succ]
        refine any_step 5 (by kernel_rfl) (by simp only [List.getElem?_toArray, List.getElem?_cons_succ, List.getElem?_cons_zero] <;> rfl) ?_
        refine wplE_appR (E.out.up (ext_alloc _ _)) 3 rfl (by rfl) (.tmp 54) (.tmp 58) (by rfl) (by rfl) (fun b => wd.heap.size ≤ b ∨ Tst w S _ b) _ 1 [y] (by rfl) (lit_rows (r := y) (Ext.refl _) (Or.inl (Nat.le_refl _)) (ArrAt.mono (fun b _ h => Or.inr h) _ (ArrAt.up hx1 (ext_alloc _ _)))) (fun b _ hb => hb.elim (fun q => E.out.fresh (Ext.refl _) q) id) (by simp only [List.length_cons, List.length_nil]; omega) ?_
        intro V2 ao2 ac2 E1
        clear E
        have E := hid E1
        clear E1
        (try simp only [List.cons_append, List.nil_append, List.set_cons_zero, List.set_cons_succ] at E)
        refine any_nil ?_
        simp only [Act.put, List.setIfInBounds_toArray, List.set_cons_zero, List.set_cons_succ]
        refine any_take 8 (v := .slice ao2 (d ++ [y]).length ac2) (by kernel_rfl) (by kernel_rfl) (by kernel_rfl) (by simp only [List.getElem?_toArray, List.getElem?_cons_succ, List.getElem?_cons_zero] <;> rfl) (by rfl) (by intro wz; go_simp) (by intro c a w h; exact h) ?_
        simp only [Act.put, List.setIfInBounds_toArray, List.set_cons_zero, List.set_cons_succ]
        refine any_take 9 (v := .slice so' (q.length - 1) (bc - 1)) (by kernel_rfl) (by kernel_rfl) (by kernel_rfl) (by simp only [List.getElem?_toArray, List.getElem?_cons_succ, List.getElem?_cons_zero] <;> rfl) (by rfl) (by intro wz; go_simp) (by intro c a w h; exact h) ?_
        simp only [Act.put, List.setIfInBounds_toArray, List.set_cons_zero, List.set_cons_succ]
        refine any_done (by kernel_rfl) ?_
        have hcut := (E.out.rowsF 2 rfl).drop 1 (bc = 1) (fun e => by omega)
        rw [← hso.out, hq.out, List.drop_one, List.tail_cons] at hcut
        replace E := hid (E.out.freeze 2 rfl (g := rowsF so' q') rfl (hcut.mono fun b _ h => Or.inl h))
        clear hcut
        (try simp only [List.cons_append, List.nil_append, List.set_cons_zero, List.set_cons_succ] at E)
        have hzl : Hid ((d ++ [y]).length + (p.length + q'.length) = wh.length) := hid (by rw [List.length_append, ← hln.out, zq.out]; simp; omega)
        have hpl : Hid (q.length - 1 = q'.length ∧ q'.length ≤ bc - 1 ∧ p.length + (q.length - 1) < p.length + q.length) := hid (by have := zq.out; omega)
        generalize d ++ [y] = dx at E hmr2 hzl ⊢
        go_wp2_with fail
        go_roundw
        case rel => exact ⟨p, q', dx, _, ac, so', bc - 1, ao2, ac2, rfl, by rw [hpl.out.1], rfl, hpa, hpl.out.2.1, hmr2.out, hzl.out, okp.out, hok2.out, E.out.sub (List.Sublist.cons_cons _ (List.Sublist.cons_cons _ (List.Sublist.cons_cons _ (List.Sublist.cons_cons _ (List.nil_sublist _)))))⟩
        case measure => exact hpl.out.2.2
end Go.Proofs.Ytdpdcjadedcglaa
namespace Go.Proofs.Ytdpdcjadedcglaa
open Go.RowKit Go.Sort
attribute [local go_sem ↓] run_max2 run_min2
attribute [local go_sem] eql_ints_nil eql_arrs_nil
def okR (r : RowV) : Prop := ∃ v : Int, r.x = scaA v ∧ elemB 1 v = true
def cfR (r r' : RowV) : Int := cmp4 r.x r'.x (cmpI (r.x.nums.getD 0 0) (r'.x.nums.getD 0 0))
set_option maxHeartbeats 2000000 in
theorem grading_UpF (r r' : RowV) (hr : okR r) (hr' : okR r') (S : Nat → Prop) (w : World) (h : r.at w S) (g : r'.at w S) :
    Calls Try.prog 53 #[.agg r.enc.toArray, .agg r'.enc.toArray] w fun e w' => e = .returned (.int .i64 (cfR r r')) ∧ Below w.heap.size w w' := by
  obtain ⟨na, x, sx, cx, nx, mx, ix, jx⟩ := r
  obtain ⟨nb, y, sy, cy, ny, my, iy, jy⟩ := r'
  obtain ⟨va, hx, ea⟩ := hr
  obtain ⟨vb, hy, eb⟩ := hr'
  have ra : Hid (rightS x = 0) := hid (by rw [show x = scaA va from hx]; exact scaA_right ea)
  have rb : Hid (rightS y = 0) := hid (by rw [show y = scaA vb from hy]; exact scaA_right eb)
  have hc : Hid (cfR ⟨na, x, sx, cx, nx, mx, ix, jx⟩ ⟨nb, y, sy, cy, ny, my, iy, jy⟩ = cmp4 x y (cmpI va vb)) := hid (by
    have h1 : x = scaA va := hx
    have h2 : y = scaA vb := hy
    subst h1; subst h2; rfl)
  have hcon : Hid (∀ (T : Nat → Prop) (wz : World), ArrAt wz T x sx nx ix → ArrAt wz T y sy ny iy → Calls Try.prog 100 #[.agg #[.int .i64 x.kind, .slice sx x.shape.length cx, .slice nx x.nums.length mx, .slice ix x.items.length jx], .agg #[.int .i64 y.kind, .slice sy y.shape.length cy, .slice ny y.nums.length my, .slice iy y.items.length jy]] wz fun e w' => e = .returned (.int .i64 (cmpI va vb)) ∧ Below wz.heap.size wz w') := hid (by
    have h1 : x = scaA va := hx
    have h2 : y = scaA vb := hy
    subst h1; subst h2
    exact fun T wz ha hb => order_contents1 va vb _ _ _ _ _ _ _ _ _ _ _ _ T wz ha.nums hb.nums)
  have h0 : Hid (ArrAt w S x sx nx ix) := hid h
  have g0 : Hid (ArrAt w S y sy ny iy) := hid g
  clear h g hx hy ea eb
  change Calls Try.prog 53 #[.agg #[.int .i64 na, .int .i64 x.kind, .slice sx x.shape.length cx, .slice nx x.nums.length mx, .slice ix x.items.length jx], .agg #[.int .i64 nb, .int .i64 y.kind, .slice sy y.shape.length cy, .slice ny y.nums.length my, .slice iy y.items.length jy]] w _
  refine calls_post fun R' hR => ?_
  rw [hc.out] at hR
  go_enter Try.func53, Try.ntmps53
  go_upto_region 1 with (fail)
  generalize hEW : ((w).alloc (.cells #[.int .i64 na, .int .i64 x.kind, .slice sx x.shape.length cx, .slice nx x.nums.length mx, .slice ix x.items.length jx] 77)).alloc (.cells #[.int .i64 nb, .int .i64 y.kind, .slice sy y.shape.length cy, .slice ny y.nums.length my, .slice iy y.items.length jy] 77) = W
  have E := hid (env2 w S hEW)
  clear hEW
  replace E := hid ((E.out.arg h0.out).arg g0.out)
  (try simp only [List.cons_append, List.nil_append, List.set_cons_zero, List.set_cons_succ] at E)
  obtain ⟨q00, q01, q02, q03, q04⟩ := row5 (E.out.obj 0 rfl)
  obtain ⟨q10, q11, q12, q13, q14⟩ := row5 (E.out.obj 1 rfl)
  go_wp2_with fail
  clear q00 q01 q02 q03 q04 q10 q11 q12 q13 q14
  refine (order_CompareOf x _ _ _ _ _ _ y _ _ _ _ _ _ (cmpI va vb) _ _ (E.out.arr 2 rfl) (E.out.arr 3 rfl) ra.out rb.out hcon.out).mono ?_
  rintro e w1 ⟨rfl, hb⟩
  replace E := hid (E.out.up hb)
  clear hb
  go_wp2_with fail
  exact hR.out _ _ ⟨rfl, E.out.ext⟩
def vec3 : Arr := vecA [30, 10, 20]
set_option maxRecDepth 100000 in
set_option maxHeartbeats 4000000 in
theorem grading_Up3 (y : Arr) (sy : Option Addr) (cy : Nat) (ny : Option Addr) (my : Nat) (iy : Option Addr) (jy : Nat) (S : Nat → Prop) (w : World) (h : ArrAt w S y sy ny iy) (hy : y = vec3) (hc : y.shape.length ≤ cy ∧ y.nums.length ≤ my ∧ y.items.length ≤ jy) :
    Calls Try.prog 22 #[.agg #[.int .i64 y.kind, .slice sy y.shape.length cy, .slice ny y.nums.length my, .slice iy y.items.length jy]] w (RetAEC w (fun b => S b ∨ w.heap.size ≤ b) (vecA [1, 2, 0]) 0) := by
  have hr : rightS y = 0 := by rw [hy]; kernel_rfl
  have hn : 0 < y.shape.length := by rw [hy]; decide
  have ht : talM y = 3 := by rw [hy]; rfl
  have hrows : ∀ rs, RowsOf y (talM y) rs → (∀ r ∈ rs, okR r) ∧ (msoR cfR rs.length rs).map RowV.no = [1, 2, 0] ∧ rs.length = 3 := by
    intro rs h1
    rw [ht] at h1
    subst hy
    have e0 : celA vec3 0 = scaA 30 := by kernel_rfl
    have e1 : celA vec3 1 = scaA 10 := by kernel_rfl
    have e2 : celA vec3 2 = scaA 20 := by kernel_rfl
    have hl := h1.len
    match rs, hl with
    | [r0, r1, r2], _ =>
      obtain ⟨n0, x0, s0, c0, a0, m0, i0, j0⟩ := r0
      obtain ⟨n1, x1, s1, c1, a1, m1, i1, j1⟩ := r1
      obtain ⟨n2, x2, s2, c2, a2, m2, i2, j2⟩ := r2
      have h2 : [(n0, x0), (n1, x1), (n2, x2)] = [((0 : Int), celA vec3 0), (1, celA vec3 1), (2, celA vec3 2)] := h1
      rw [e0, e1, e2] at h2
      simp only [List.cons.injEq, Prod.mk.injEq, and_true] at h2
      obtain ⟨⟨rfl, rfl⟩, ⟨rfl, rfl⟩, ⟨rfl, rfl⟩⟩ := h2
      refine ⟨?_, by kernel_rfl, rfl⟩
      intro r hr
      simp only [List.mem_cons, List.not_mem_nil, or_false] at hr
      rcases hr with rfl | rfl | rfl
      · exact ⟨30, rfl, by kernel_rfl⟩
      · exact ⟨10, rfl, by kernel_rfl⟩
      · exact ⟨20, rfl, by kernel_rfl⟩
  refine calls_post fun R' hR => ?_
  have h0 := hid h
  replace hc := hid hc
  replace hr := hid hr
  replace hn := hid hn
  replace ht := hid ht
  replace hrows := hid hrows
  replace hy := hid hy
  clear h
  go_enter Try.func22, Try.ntmps22
  go_upto_region 1 with (fail)
  generalize hEW : ((w).alloc (.cells #[.int .i64 y.kind, .slice sy y.shape.length cy, .slice ny y.nums.length my, .slice iy y.items.length jy] 27)).alloc (.cells #[.int .i64 0, .slice none 0 0, .slice none 0 0, .slice none 0 0] 27) = W
  have E := hid (env2 w S hEW)
  clear hEW
  replace E := hid (E.out.arg h0.out)
  (try simp only [List.cons_append, List.nil_append, List.set_cons_zero, List.set_cons_succ] at E)
  obtain ⟨q00, q01, q02, q03⟩ := (E.out.hdr 0 rfl).all
  go_wp2_with fail
  clear q00 q01 q02 q03
  refine (grading_rows y _ _ _ _ _ _ _ _ (E.out.arr 2 rfl) hr.out hn.out hc.out).mono ?_
  rintro e w1 ⟨so, sc, rs, rfl, hrs, hsc, hR1, hb⟩
  obtain ⟨ok, hms, hl3⟩ := hrows.out rs hrs
  replace E := hid ((E.out.up hb).addRows hR1 (fun b _ hq => E.out.res (Ext.refl _) hq))
  (try simp only [List.cons_append, List.nil_append, List.set_cons_zero, List.set_cons_succ] at E)
  clear hR1 hb
  replace hrs := hid hrs
  have hms' := hid hms
  have hl3' := hid hl3
  clear hms hl3
  replace ok := hid ok
  go_wp2_with fail
  refine (grading_merge cfR okR (fun r r' a b T wz c d => grading_UpF r r' a b T wz c d) rs.length rs so sc _ _ (Nat.le_refl _) (by rw [hl3'.out]; decide) hsc ok.out (E.out.rowsF 3 rfl)).mono ?_
  rintro e w2 ⟨bo, tc, rfl, htc, hR2, hb⟩
  replace E := hid ((E.out.up hb).addRows hR2 (fun b _ hq => E.out.res (Ext.refl _) hq))
  (try simp only [List.cons_append, List.nil_append, List.set_cons_zero, List.set_cons_succ] at E)
  clear hR2 hb
  obtain ⟨ms, hms⟩ : ∃ k, k = msoR cfR rs.length rs := ⟨_, rfl⟩
  rw [← hms] at E htc ⊢
  have hml : Hid (ms.length = 3) := hid (by rw [hms, msoR_len, hl3'.out])
  have hmv : Hid (vecA [1, 2, 0] = .mk 1 [(ms.length : Int)] (ms.map RowV.no) []) := hid (by rw [hms, hms'.out, msoR_len, hl3'.out]; rfl)
  replace hms := hid hms
  go_wp2_with fail
  refine (grading_numbers ms _ _ _ _ (E.out.rowsF 4 rfl) (by rw [hml.out]; decide)).mono ?_
  intro e w3 h
  obtain ⟨s9, c9, n9, m9, i9, j9, rfl, hA, hb, hC9⟩ := h.eq hmv.out
  replace E := hid ((E.out.up hb).addArr hA (fun b _ hq => E.out.res (Ext.refl _) hq))
  clear hA hb h
  (try simp only [List.cons_append, List.nil_append, List.set_cons_zero, List.set_cons_succ] at E)
  replace hC9 := hid hC9
  obtain ⟨av, hav⟩ : ∃ a, a = vecA [1, 2, 0] := ⟨_, rfl⟩
  rw [← hav] at E hR hC9 ⊢
  replace hav := hid hav
  go_wp2_with (refine wpl_store4 rfl (.tmp 2) (.tmp 17) rfl _ rfl rfl (E.out.hdr 1 rfl) ?_; intro V HV CV; replace E := hid (E.out.chg 1 rfl CV HV))
  exact bodyPost_ret (end_arr2 rfl HV rfl rfl) rfl (hR.out _ _ (RetAEC.at rfl rfl (ArrAt.mono (fun b _ h => h.1) _ (E.out.arr 5 rfl)) E.out.ext hC9.out))
end Go.Proofs.Ytdpdcjadedcglaa
