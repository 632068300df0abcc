/- A group of texts (GG), each with its own conditions: those of each lemma. -/
import Derived.Test.YtdpdcjadedcglaaGF
import Derived.Test.YtdpdcjadedcglaaGE
import Derived.Laws.IdiomCopy
import Derived.Laws.OwnMore
set_option linter.unusedVariables false
set_option maxRecDepth 20000
set_option linter.unusedSimpArgs false
namespace Go.Proofs.Ytdpdcjadedcglaa
open Go.RowKit
inductive Fact where
  | obj (b : Nat) (o : Obj)
  | arr (a : Arr) (sa na ia : Option Addr)
  | ints (xs : List Int) (ao : Option Addr)
  | items (l : List Arr) (ia : Option Addr)
  | rowI (ao : Option Addr) (cap : Nat) (xs : List Int)
  | rowA (ao : Option Addr) (cap : Nat) (l : List Arr)
  | arrF (a : Arr) (sa na ia : Option Addr)
  | intsF (xs : List Int) (ao : Option Addr)
  | itemsF (l : List Arr) (ia : Option Addr)
  | rowAF (ao : Option Addr) (cap : Nat) (l : List Arr)
  | gen (bl : List Nat) (P : Nat → (Nat → Prop) → World → Prop) (k : ∀ (B : Nat) (T T' : Nat → Prop) (w w' : World), P B T w → (∀ b ∈ bl, w'.heap[b]? = w.heap[b]?) → (∀ b, T b → b < w.heap.size → w'.heap[b]? = w.heap[b]?) → (∀ b, b < w.heap.size → T b → T' b) → P B T' w')
def Fact.blk : Fact → List Nat
  | obj b _ => [b]
  | rowI ao _ _ => (rowOf ao).toList
  | rowA ao _ _ => (rowOf ao).toList
  | rowAF ao _ _ => (rowOf ao).toList
  | gen bl _ _ => bl
  | _ => []
def Fact.holds (B : Nat) (T : Nat → Prop) (w : World) : Fact → Prop
  | obj b o => w.heap[b]? = some o
  | arr a sa na ia => ArrAt w T a sa na ia
  | ints xs ao => IntsAt w T ao xs
  | items l ia => ItemsAt w T ia 0 l
  | rowI ao cap xs => OwnI w B ao cap xs
  | rowA ao cap l => OwnA w B T ao cap l
  | arrF a sa na ia => ArrAt w (fun b => T b ∧ B ≤ b) a sa na ia
  | intsF xs ao => IntsAt w (fun b => T b ∧ B ≤ b) ao xs
  | itemsF l ia => ItemsAt w (fun b => T b ∧ B ≤ b) ia 0 l
  | rowAF ao cap l => OwnA w B (fun b => T b ∧ B ≤ b) ao cap l
  | gen _ P _ => P B T w
def blks : List Fact → List Nat
  | [] => []
  | f :: L => f.blk ++ blks L
theorem blks_append (L M : List Fact) : blks (L ++ M) = blks L ++ blks M := by
  induction L with
  | nil => rfl
  | cons f L ih => simp [blks, ih]
theorem mem_blks {L : List Fact} {b : Nat} : b ∈ blks L ↔ ∃ f ∈ L, b ∈ f.blk := by
  induction L with
  | nil => simp [blks]
  | cons f L ih => simp [blks, ih]
/-- what is only read: it came in, or is new; and it is no variable and no row in progress -/
def Tst (w0 : World) (S : Nat → Prop) (L : List Fact) (b : Nat) : Prop := (S b ∨ w0.heap.size ≤ b) ∧ b ∉ blks L
structure Env (w0 : World) (S : Nat → Prop) (w : World) (L : List Fact) : Prop where
  ext : Below w0.heap.size w0 w
  nd : (blks L).Nodup
  lo : ∀ b ∈ blks L, w0.heap.size ≤ b ∧ b < w.heap.size
  h : ∀ f ∈ L, f.holds w0.heap.size (Tst w0 S L) w
section
variable {w0 w w' V : World} {S : Nat → Prop} {L : List Fact}
theorem ArrAt.turn {T T' : Nat → Prop} {a : Arr} {sa na ia : Option Addr} (h : ArrAt w T a sa na ia) (hk : ∀ b, T b → b < w.heap.size → w'.heap[b]? = w.heap[b]?) (hT : ∀ b, b < w.heap.size → T b → T' b) : ArrAt w' T' a sa na ia :=
  ArrAt.mono (fun b _ hs => hs.2) a (ArrAt.keep (fun b hb hlt => hk b hb.1 hlt) a (ArrAt.mono (T := fun b => T b ∧ T' b) (fun b hlt hs => ⟨hs, hT b hlt hs⟩) a h))
theorem IntsAt.turn {T T' : Nat → Prop} {xs : List Int} {ao : Option Addr} (h : IntsAt w T ao xs) (hk : ∀ b, T b → b < w.heap.size → w'.heap[b]? = w.heap[b]?) (hT : ∀ b, b < w.heap.size → T b → T' b) : IntsAt w' T' ao xs :=
  (IntsAt.keep (IntsAt.mono (T := fun b => T b ∧ T' b) h (fun b hlt hs => ⟨hs, hT b hlt hs⟩)) (fun b hb hlt => hk b hb.1 hlt)).mono fun b _ hs => hs.2
theorem ItemsAt.turn {T T' : Nat → Prop} {l : List Arr} {ia : Option Addr} (h : ItemsAt w T ia 0 l) (hk : ∀ b, T b → b < w.heap.size → w'.heap[b]? = w.heap[b]?) (hT : ∀ b, b < w.heap.size → T b → T' b) : ItemsAt w' T' ia 0 l :=
  (ItemsAt.keep (ItemsAt.mono (T := fun b => T b ∧ T' b) h (fun b hlt hs => ⟨hs, hT b hlt hs⟩)) (fun b hb hlt => hk b hb.1 hlt)).mono fun b _ hs => hs.2
theorem OwnA.turn {B : Nat} {T T' : Nat → Prop} {ao : Option Addr} {cap : Nat} {l : List Arr} (h : OwnA w B T ao cap l) (hr : ∀ k, rowOf ao = some k → w'.heap[k]? = w.heap[k]?) (hk : ∀ b, T b → b < w.heap.size → w'.heap[b]? = w.heap[b]?) (hT : ∀ b, b < w.heap.size → T b → T' b) : OwnA w' B T' ao cap l :=
  (OwnA.keep (OwnA.mono (T := fun b => T b ∧ T' b) h (fun b hlt hs => ⟨hs, hT b hlt hs⟩)) hr (fun b hb hlt => hk b hb.1 hlt)).mono fun b _ hs => hs.2
theorem Fact.keep {B : Nat} {T T' : Nat → Prop} {f : Fact} (h : f.holds B T w) (hb : ∀ b ∈ f.blk, w'.heap[b]? = w.heap[b]?) (hk : ∀ b, T b → b < w.heap.size → w'.heap[b]? = w.heap[b]?) (hT : ∀ b, b < w.heap.size → T b → T' b) : f.holds B T' w' := by
  cases f with
  | obj b o => exact (hb b (by simp [Fact.blk])).trans h
  | arr a sa na ia => exact ArrAt.turn h hk hT
  | ints xs ao => exact IntsAt.turn h hk hT
  | items l ia => exact ItemsAt.turn h hk hT
  | rowI ao cap xs => exact OwnI.keep h fun k hk' => hb k (by simp [Fact.blk, hk'])
  | rowA ao cap l => exact OwnA.turn h (fun k hk' => hb k (by simp [Fact.blk, hk'])) hk hT
  | arrF a sa na ia => exact ArrAt.turn h (fun b hb => hk b hb.1) (fun b hlt hb => ⟨hT b hlt hb.1, hb.2⟩)
  | intsF xs ao => exact IntsAt.turn h (fun b hb => hk b hb.1) (fun b hlt hb => ⟨hT b hlt hb.1, hb.2⟩)
  | itemsF l ia => exact ItemsAt.turn h (fun b hb => hk b hb.1) (fun b hlt hb => ⟨hT b hlt hb.1, hb.2⟩)
  | rowAF ao cap l => exact OwnA.turn h (fun k hk' => hb k (by simp [Fact.blk, hk'])) (fun b hb => hk b hb.1) (fun b hlt hb => ⟨hT b hlt hb.1, hb.2⟩)
  | gen bl P k => exact k B T T' w w' h hb hk hT
theorem Env.start (w : World) (S : Nat → Prop) : Env w S w [] := ⟨Below.refl _ _, by simp [blks], by simp [blks], by simp⟩
theorem Env.up (E : Env w0 S w L) (e : Ext w w') : Env w0 S w' L :=
  ⟨E.ext.trans (Below.mono e E.ext.size), E.nd, fun b hb => ⟨(E.lo b hb).1, Nat.lt_of_lt_of_le (E.lo b hb).2 e.size⟩, fun f hf => Fact.keep (E.h f hf) (fun b hb => e.block b (E.lo b (mem_blks.2 ⟨f, hf, hb⟩)).2) (fun b _ hlt => e.block b hlt) (fun _ _ h => h)⟩
theorem Env.size (E : Env w0 S w L) : w0.heap.size ≤ w.heap.size := E.ext.size
/-- a new object -/
theorem Env.alloc (E : Env w0 S w L) (o : Obj) : Env w0 S (w.alloc o) (L ++ [.obj w.heap.size o]) := by
  have E' := E.up (ext_alloc w o)
  have hb : blks (L ++ [.obj w.heap.size o]) = blks L ++ [w.heap.size] := by rw [blks_append]; rfl
  refine ⟨E'.ext, ?_, ?_, ?_⟩
  · rw [hb, List.nodup_append]
    refine ⟨E.nd, by simp, fun a ha b hb' => ?_⟩
    have := (E.lo a ha).2
    simp at hb'
    omega
  · intro b h
    rw [hb, List.mem_append] at h
    rcases h with h | h
    · exact E'.lo b h
    · simp at h; subst h; exact ⟨E.size, by simp⟩
  · intro f hf
    rw [List.mem_append] at hf
    rcases hf with hf | hf
    · refine Fact.keep (E.h f hf) (fun b hb => Below.heap_alloc w o b (E.lo b (mem_blks.2 ⟨f, hf, hb⟩)).2) (fun b _ hlt => Below.heap_alloc w o b hlt) (fun b hlt h => ?_)
      refine ⟨h.1, ?_⟩
      rw [hb, List.mem_append]
      rintro (h' | h')
      · exact h.2 h'
      · simp at h'; omega
    · simp at hf; subst hf
      exact heap_alloc_new w o
theorem Env.new (E : Env w0 S w L) {o : Obj} (h : w.alloc o = w') : Env w0 S w' (L ++ [.obj w.heap.size o]) := by subst h; exact E.alloc o
/-- an object that a region has made: u the world ahead of its making -/
theorem Env.made {u : World} {o : Obj} (E : Env w0 S w L) (e0 : Ext w u) (e : Ext (u.alloc o) w') (ew : Ext w w') : Env w0 S w' (L ++ [.obj u.heap.size o]) := by
  have E' := E.up ew
  have hb : blks (L ++ [.obj u.heap.size o]) = blks L ++ [u.heap.size] := by rw [blks_append]; rfl
  have hz := Below.size e0
  refine ⟨E'.ext, ?_, ?_, ?_⟩
  · rw [hb, List.nodup_append]
    refine ⟨E.nd, by simp, fun a ha b hb' => ?_⟩
    have := (E.lo a ha).2
    simp at hb'
    omega
  · intro b h
    rw [hb, List.mem_append] at h
    rcases h with h | h
    · exact E'.lo b h
    · simp at h; subst h; exact ⟨Nat.le_trans E.size hz, made_lt e⟩
  · intro f hf
    rw [List.mem_append] at hf
    rcases hf with hf | hf
    · have := Fact.keep (E.h f hf) (w' := w) (T' := Tst w0 S (L ++ [.obj u.heap.size o])) (fun _ _ => rfl) (fun _ _ _ => rfl) (fun b hlt h => by
        refine ⟨h.1, ?_⟩
        rw [hb, List.mem_append]
        rintro (h' | h')
        · exact h.2 h'
        · simp at h'; omega)
      exact Fact.keep this (fun b hb => ew.block b (E.lo b (mem_blks.2 ⟨f, hf, hb⟩)).2) (fun b _ hlt => ew.block b hlt) (fun _ _ h => h)
    · simp at hf; subst hf
      exact made_blk e
theorem Env.add (E : Env w0 S w L) {f : Fact} (hb : f.blk = []) (h : f.holds w0.heap.size (Tst w0 S L) w) : Env w0 S w (L ++ [f]) := by
  have hb' : blks (L ++ [f]) = blks L := by rw [blks_append]; simp [blks, hb]
  refine ⟨E.ext, by rw [hb']; exact E.nd, by rw [hb']; exact E.lo, fun g hg => ?_⟩
  unfold Tst
  rw [hb']
  rw [List.mem_append] at hg
  rcases hg with hg | hg
  · exact E.h g hg
  · simp at hg; subst hg; exact h
theorem Env.addArr (E : Env w0 S w L) {T : Nat → Prop} {a : Arr} {sa na ia : Option Addr} (h : ArrAt w T a sa na ia) (hS : ∀ b, b < w.heap.size → T b → Tst w0 S L b) : Env w0 S w (L ++ [.arr a sa na ia]) := E.add rfl (ArrAt.mono hS a h)
theorem Env.addInts (E : Env w0 S w L) {T : Nat → Prop} {xs : List Int} {ao : Option Addr} (h : IntsAt w T ao xs) (hS : ∀ b, b < w.heap.size → T b → Tst w0 S L b) : Env w0 S w (L ++ [.ints xs ao]) := E.add rfl (IntsAt.mono h hS)
theorem Env.addItems (E : Env w0 S w L) {T : Nat → Prop} {l : List Arr} {ia : Option Addr} (h : ItemsAt w T ia 0 l) (hS : ∀ b, b < w.heap.size → T b → Tst w0 S L b) : Env w0 S w (L ++ [.items l ia]) := E.add rfl (ItemsAt.mono h hS)
theorem Env.addArrF (E : Env w0 S w L) {u : World} {a : Arr} {sa na ia : Option Addr} (h : ArrAt w (fun b => u.heap.size ≤ b) a sa na ia) (hb : ∀ b ∈ blks L, b < u.heap.size) (hu : w0.heap.size ≤ u.heap.size) : Env w0 S w (L ++ [.arrF a sa na ia]) :=
  E.add rfl (ArrAt.mono (fun b _ hs => ⟨⟨Or.inr (Nat.le_trans hu hs), fun q => absurd (hb b q) (by omega)⟩, Nat.le_trans hu hs⟩) a h)
theorem Env.addIntsF (E : Env w0 S w L) {u : World} {xs : List Int} {ao : Option Addr} (h : IntsAt w (fun b => u.heap.size ≤ b) ao xs) (hb : ∀ b ∈ blks L, b < u.heap.size) (hu : w0.heap.size ≤ u.heap.size) : Env w0 S w (L ++ [.intsF xs ao]) :=
  E.add rfl (h.mono (fun b _ hs => ⟨⟨Or.inr (Nat.le_trans hu hs), fun q => absurd (hb b q) (by omega)⟩, Nat.le_trans hu hs⟩))
theorem Env.blt (E : Env w0 S w L) : ∀ b ∈ blks L, b < w.heap.size := fun b hb => (E.lo b hb).2
/-- what lies in new blocks is no variable -/
theorem Env.fresh {u : World} (E : Env w0 S w L) (e : Ext w u) {b : Nat} (h : u.heap.size ≤ b) : Tst w0 S L b := ⟨Or.inr (by have := E.size; have := Below.size e; omega), fun hb => by have := (E.lo b hb).2; have := Below.size e; omega⟩
theorem Env.res {u : World} (E : Env w0 S w L) (e : Ext w u) {b : Nat} (h : Tst w0 S L b ∨ u.heap.size ≤ b) : Tst w0 S L b := h.elim id (E.fresh e)
/-- what came in is no variable -/
theorem Env.old (E : Env w0 S w L) {b : Nat} (h : S b ∧ b < w0.heap.size) : Tst w0 S L b := ⟨Or.inl h.1, fun hb => by have := (E.lo b hb).1; omega⟩
theorem Env.arg (E : Env w0 S w L) {a : Arr} {sa na ia : Option Addr} (h : ArrAt w0 S a sa na ia) : Env w0 S w (L ++ [.arr a sa na ia]) :=
  E.addArr ((ArrAt.mono (T := fun b => S b ∧ b < w0.heap.size) (fun b hb hs => ⟨hs, hb⟩) a h).below E.ext fun b _ hb => hb.2) fun b _ hb => E.old hb
theorem Env.argI (E : Env w0 S w L) {xs : List Int} {ao : Option Addr} (h : IntsAt w0 S ao xs) : Env w0 S w (L ++ [.ints xs ao]) :=
  E.addInts ((IntsAt.mono (T := fun b => S b ∧ b < w0.heap.size) h (fun b hb hs => ⟨hs, hb⟩)).below E.ext fun b _ hb => hb.2) fun b _ hb => E.old hb
theorem Env.argL (E : Env w0 S w L) {l : List Arr} {ia : Option Addr} (h : ItemsAt w0 S ia 0 l) : Env w0 S w (L ++ [.items l ia]) :=
  E.addItems ((ItemsAt.mono (T := fun b => S b ∧ b < w0.heap.size) h (fun b hb hs => ⟨hs, hb⟩)).below E.ext fun b _ hb => hb.2) fun b _ hb => E.old hb
theorem Env.row0I (E : Env w0 S w L) : Env w0 S w (L ++ [.rowI none 0 []]) := E.add rfl (OwnI.nil _ _)
theorem Env.row0AF (E : Env w0 S w L) : Env w0 S w (L ++ [.rowAF none 0 []]) := E.add rfl (OwnA.nil _ _ _)
theorem Env.row0A (E : Env w0 S w L) : Env w0 S w (L ++ [.rowA none 0 []]) := E.add rfl (OwnA.nil _ _ _)
theorem Env.get (E : Env w0 S w L) (j : Nat) {f : Fact} (h : L[j]? = some f) : f.holds w0.heap.size (Tst w0 S L) w := E.h f (List.mem_of_getElem? h)
theorem Env.hdr (E : Env w0 S w L) (j : Nat) {b : Nat} {k s n i : Value} (h : L[j]? = some (.obj b (.cells #[k, s, n, i] 27 (0, 0)))) : Hdr w b k s n i := E.get j h
theorem Env.obj (E : Env w0 S w L) (j : Nat) {b : Nat} {o : Obj} (h : L[j]? = some (.obj b o)) : w.heap[b]? = some o := E.get j h
theorem Env.arr (E : Env w0 S w L) (j : Nat) {a : Arr} {sa na ia : Option Addr} (h : L[j]? = some (.arr a sa na ia)) : ArrAt w (Tst w0 S L) a sa na ia := E.get j h
theorem Env.ints (E : Env w0 S w L) (j : Nat) {xs : List Int} {ao : Option Addr} (h : L[j]? = some (.ints xs ao)) : IntsAt w (Tst w0 S L) ao xs := E.get j h
theorem Env.items (E : Env w0 S w L) (j : Nat) {l : List Arr} {ia : Option Addr} (h : L[j]? = some (.items l ia)) : ItemsAt w (Tst w0 S L) ia 0 l := E.get j h
theorem Env.rowI (E : Env w0 S w L) (j : Nat) {ao : Option Addr} {cap : Nat} {xs : List Int} (h : L[j]? = some (.rowI ao cap xs)) : OwnI w w0.heap.size ao cap xs := E.get j h
theorem Env.rowA (E : Env w0 S w L) (j : Nat) {ao : Option Addr} {cap : Nat} {l : List Arr} (h : L[j]? = some (.rowA ao cap l)) : OwnA w w0.heap.size (Tst w0 S L) ao cap l := E.get j h
theorem Env.arrF (E : Env w0 S w L) (j : Nat) {a : Arr} {sa na ia : Option Addr} (h : L[j]? = some (.arrF a sa na ia)) : ArrAt w (fun b => Tst w0 S L b ∧ w0.heap.size ≤ b) a sa na ia := E.get j h
theorem Env.intsF (E : Env w0 S w L) (j : Nat) {xs : List Int} {ao : Option Addr} (h : L[j]? = some (.intsF xs ao)) : IntsAt w (fun b => Tst w0 S L b ∧ w0.heap.size ≤ b) ao xs := E.get j h
theorem Env.itemsF (E : Env w0 S w L) (j : Nat) {l : List Arr} {ia : Option Addr} (h : L[j]? = some (.itemsF l ia)) : ItemsAt w (fun b => Tst w0 S L b ∧ w0.heap.size ≤ b) ia 0 l := E.get j h
theorem Env.rowAF (E : Env w0 S w L) (j : Nat) {ao : Option Addr} {cap : Nat} {l : List Arr} (h : L[j]? = some (.rowAF ao cap l)) : OwnA w w0.heap.size (fun b => Tst w0 S L b ∧ w0.heap.size ≤ b) ao cap l := E.get j h
theorem Env.lt (E : Env w0 S w L) (j : Nat) {b : Nat} {o : Obj} (h : L[j]? = some (.obj b o)) : w0.heap.size ≤ b ∧ b < w.heap.size := E.lo b (mem_blks.2 ⟨_, List.mem_of_getElem? h, by simp [Fact.blk]⟩)
/-- a row in progress, only read -/
theorem Env.rowIr (E : Env w0 S w L) (j : Nat) {ao : Option Addr} {cap : Nat} {xs : List Int} (h : L[j]? = some (.rowI ao cap xs)) (hl : xs.length ≤ 17592186044416) : IntsAt w (fun _ => True) ao xs := ((E.rowI j h).ints hl).mono fun _ _ _ => trivial
theorem Env.rowAr (E : Env w0 S w L) (j : Nat) {ao : Option Addr} {cap : Nat} {l : List Arr} (h : L[j]? = some (.rowA ao cap l)) : ItemsAt w (fun _ => True) ao 0 l := ((E.rowA j h).items).mono fun _ _ _ => trivial
theorem blks_set {L : List Fact} {j : Nat} {f g : Fact} (h : L[j]? = some f) : ∃ A C, blks L = A ++ f.blk ++ C ∧ blks (L.set j g) = A ++ g.blk ++ C := by
  induction L generalizing j with
  | nil => simp at h
  | cons x L ih =>
    cases j with
    | zero => simp at h; subst h; exact ⟨[], blks L, by simp [blks], by simp [blks]⟩
    | succ j =>
      obtain ⟨A, C, h1, h2⟩ := ih (j := j) (by simpa using h)
      exact ⟨x.blk ++ A, C, by simp [blks, h1], by simp [blks, h2]⟩
theorem mem_set_ne {L : List Fact} {j : Nat} {f g : Fact} (h : g ∈ L.set j f) : g = f ∨ ∃ i, i ≠ j ∧ L[i]? = some g := by
  obtain ⟨i, hi⟩ := List.mem_iff_getElem?.1 h
  by_cases e : j = i
  · subst e
    rw [List.getElem?_set] at hi
    simp at hi
    exact Or.inl hi.2.symm
  · rw [List.getElem?_set_ne e] at hi
    exact Or.inr ⟨i, fun h => e h.symm, hi⟩
theorem nd_apart {L : List Fact} (hnd : (blks L).Nodup) {i j : Nat} {f g : Fact} (hi : L[i]? = some f) (hj : L[j]? = some g) (hne : i ≠ j) {b : Nat} (hf : b ∈ f.blk) (hg : b ∈ g.blk) : False := by
  induction L generalizing i j with
  | nil => simp at hi
  | cons x L ih =>
    simp only [blks, List.nodup_append] at hnd
    cases i with
    | zero =>
      cases j with
      | zero => exact hne rfl
      | succ j =>
        simp at hi hj; subst hi
        exact hnd.2.2 b hf b (mem_blks.2 ⟨g, List.mem_of_getElem? hj, hg⟩) rfl
    | succ i =>
      cases j with
      | zero =>
        simp at hi hj; subst hj
        exact hnd.2.2 b hg b (mem_blks.2 ⟨f, List.mem_of_getElem? hi, hf⟩) rfl
      | succ j => exact ih hnd.2.1 (by simpa using hi) (by simpa using hj) (by omega)
/-- one fact turns: all blocks but those of the fact's old and new one are as they were, and the new one's blocks are old ones or new -/
theorem Env.turn (E : Env w0 S w L) (j : Nat) {f g : Fact} (h : L[j]? = some f) (hlow : Below w0.heap.size w0 V) (hsz : w.heap.size ≤ V.heap.size) (hblk : ∀ b, b < w.heap.size → b ∉ f.blk → V.heap[b]? = w.heap[b]?) (hnew : ∀ b ∈ g.blk, b ∈ f.blk ∨ (w.heap.size ≤ b ∧ b < V.heap.size)) (hgn : g.blk.Nodup)
    (hg : g.holds w0.heap.size (Tst w0 S (L.set j g)) V) : Env w0 S V (L.set j g) := by
  obtain ⟨A, C, h1, h2⟩ := blks_set (g := g) h
  have hlo := E.lo
  have hnd := E.nd
  rw [h1] at hlo hnd
  have hsub : ∀ b ∈ blks (L.set j g), b ∈ blks L ∨ (w.heap.size ≤ b ∧ b < V.heap.size) := by
    intro b hb
    rw [h2] at hb
    rw [h1]
    simp only [List.mem_append] at hb ⊢
    rcases hb with (hb | hb) | hb
    · exact Or.inl (Or.inl (Or.inl hb))
    · rcases hnew b hb with h' | h'
      · exact Or.inl (Or.inl (Or.inr h'))
      · exact Or.inr h'
    · exact Or.inl (Or.inr hb)
  refine ⟨hlow, ?_, ?_, ?_⟩
  · rw [h2]
    rw [List.nodup_append, List.nodup_append] at hnd ⊢
    obtain ⟨⟨hA, hf, hAf⟩, hC, hAC⟩ := hnd
    have hltA : ∀ a ∈ A, a < w.heap.size := fun a ha => (hlo a (by simp [ha])).2
    have hltC : ∀ a ∈ C, a < w.heap.size := fun a ha => (hlo a (by simp [ha])).2
    refine ⟨⟨hA, hgn, fun a ha b hb => ?_⟩, hC, fun a ha b hb => ?_⟩
    · rcases hnew b hb with h' | h'
      · exact hAf a ha b h'
      · have := hltA a ha; omega
    · rw [List.mem_append] at ha
      rcases ha with ha | ha
      · exact hAC a (by simp [ha]) b hb
      · rcases hnew a ha with h' | h'
        · exact hAC a (by simp [h']) b hb
        · have := hltC b hb; omega
  · intro b hb
    rcases hsub b hb with h' | h'
    · have := E.lo b h'; omega
    · have := E.size; omega
  · intro q hq
    rcases mem_set_ne hq with rfl | ⟨i, hne, hi⟩
    · exact hg
    · have hq' := E.h q (List.mem_of_getElem? hi)
      refine Fact.keep (T := Tst w0 S L) hq' (fun b hb => hblk b (E.lo b (mem_blks.2 ⟨q, List.mem_of_getElem? hi, hb⟩)).2 (fun hf => nd_apart E.nd hi h hne hb hf)) (fun b hb hlt => hblk b hlt (fun hf => hb.2 (mem_blks.2 ⟨f, List.mem_of_getElem? h, hf⟩))) (fun b hlt hb => ⟨hb.1, fun hb' => ?_⟩)
      rcases hsub b hb' with h' | h'
      · exact hb.2 h'
      · omega
/-- a variable is written -/
theorem Env.chg (E : Env w0 S w L) (j : Nat) {b : Nat} {o o' : Obj} (h : L[j]? = some (.obj b o)) (C : Chg w V b) (hV : V.heap[b]? = some o') : Env w0 S V (L.set j (.obj b o')) :=
  E.turn j h (C.below E.ext (E.lt j h).1) (Nat.le_of_eq C.z.symm) (fun q hq hne => C.blk hq (fun e => hne (by simp [Fact.blk, e]))) (fun q hq => Or.inl (by simpa [Fact.blk] using hq)) (by simp [Fact.blk]) hV
theorem nodup_opt (o : Option Nat) : o.toList.Nodup := by cases o <;> simp
/-- numbers are appended -/
theorem Env.appI (E : Env w0 S w L) (j : Nat) {ao ao' : Option Addr} {cap cap' : Nat} {xs xs' : List Int} (h : L[j]? = some (.rowI ao cap xs)) (hown : OwnI V w0.heap.size ao' cap' xs') (hg : w.grownBy V (rowOf ao)) (hr : rowOf ao' = rowOf ao ∨ rowOf ao' = some w.heap.size) : Env w0 S V (L.set j (.rowI ao' cap' xs')) := by
  have hrow := (E.rowI j h).row
  refine E.turn j h (E.ext.grown hg E.size (fun k hk => (hrow k hk).1)) hg.size (fun b hb hne => hg.block b hb (fun e => hne (by simp [Fact.blk, ← e]))) (fun b hb => ?_) (nodup_opt _) hown
  simp only [Fact.blk, Option.mem_toList, Option.mem_def] at hb ⊢
  rcases hr with e | e
  · exact Or.inl (e ▸ hb)
  · rw [e] at hb; injection hb with hb; subst hb
    exact Or.inr ⟨Nat.le_refl _, (hown.row _ e).2⟩
theorem Env.appA (E : Env w0 S w L) (j : Nat) {T : Nat → Prop} {ao ao' : Option Addr} {cap cap' : Nat} {l l' : List Arr} (h : L[j]? = some (.rowA ao cap l)) (hown : OwnA V w0.heap.size T ao' cap' l') (hS : ∀ b, b < V.heap.size → T b → Tst w0 S L b ∧ b < w.heap.size) (hg : w.grownBy V (rowOf ao)) (hr : rowOf ao' = rowOf ao ∨ rowOf ao' = some w.heap.size) : Env w0 S V (L.set j (.rowA ao' cap' l')) := by
  have hrow := (E.rowA j h).row
  have hnew : ∀ b ∈ (Fact.rowA ao' cap' l').blk, b ∈ (Fact.rowA ao cap l).blk ∨ (w.heap.size ≤ b ∧ b < V.heap.size) := fun b hb => by
    simp only [Fact.blk, Option.mem_toList, Option.mem_def] at hb ⊢
    rcases hr with e | e
    · exact Or.inl (e ▸ hb)
    · rw [e] at hb; injection hb with hb; subst hb
      exact Or.inr ⟨Nat.le_refl _, (hown.row _ e).2⟩
  refine E.turn j h (E.ext.grown hg E.size (fun k hk => (hrow k hk).1)) hg.size (fun b hb hne => hg.block b hb (fun e => hne (by simp [Fact.blk, ← e]))) hnew (nodup_opt _) (OwnA.mono hown fun b hlt hs => ⟨(hS b hlt hs).1.1, fun hb => ?_⟩)
  obtain ⟨A, C, h1, h2⟩ := blks_set (g := .rowA ao' cap' l') h
  obtain ⟨⟨_, hn⟩, hl⟩ := hS b hlt hs
  rw [h2] at hb
  rw [h1] at hn
  simp only [List.mem_append] at hb hn
  rcases hb with (hb | hb) | hb
  · exact hn (Or.inl (Or.inl hb))
  · rcases hnew b hb with h' | h'
    · exact hn (Or.inl (Or.inr h'))
    · omega
  · exact hn (Or.inr hb)
theorem Env.appAF (E : Env w0 S w L) (j : Nat) {T : Nat → Prop} {ao ao' : Option Addr} {cap cap' : Nat} {l l' : List Arr} (h : L[j]? = some (.rowAF ao cap l)) (hown : OwnA V w0.heap.size T ao' cap' l') (hS : ∀ b, b < V.heap.size → T b → (Tst w0 S L b ∧ w0.heap.size ≤ b) ∧ b < w.heap.size) (hg : w.grownBy V (rowOf ao)) (hr : rowOf ao' = rowOf ao ∨ rowOf ao' = some w.heap.size) : Env w0 S V (L.set j (.rowAF ao' cap' l')) := by
  have hrow := (E.rowAF j h).row
  have hnew : ∀ b ∈ (Fact.rowAF ao' cap' l').blk, b ∈ (Fact.rowAF ao cap l).blk ∨ (w.heap.size ≤ b ∧ b < V.heap.size) := fun b hb => by
    simp only [Fact.blk, Option.mem_toList, Option.mem_def] at hb ⊢
    rcases hr with e | e
    · exact Or.inl (e ▸ hb)
    · rw [e] at hb; injection hb with hb; subst hb
      exact Or.inr ⟨Nat.le_refl _, (hown.row _ e).2⟩
  refine E.turn j h (E.ext.grown hg E.size (fun k hk => (hrow k hk).1)) hg.size (fun b hb hne => hg.block b hb (fun e => hne (by simp [Fact.blk, ← e]))) hnew (nodup_opt _) (OwnA.mono hown fun b hlt hs => ⟨⟨(hS b hlt hs).1.1.1, fun hb => ?_⟩, (hS b hlt hs).1.2⟩)
  obtain ⟨A, C, h1, h2⟩ := blks_set (g := .rowAF ao' cap' l') h
  obtain ⟨⟨⟨_, hn⟩, _⟩, hl⟩ := hS b hlt hs
  rw [h2] at hb
  rw [h1] at hn
  simp only [List.mem_append] at hb hn
  rcases hb with (hb | hb) | hb
  · exact hn (Or.inl (Or.inl hb))
  · rcases hnew b hb with h' | h'
    · exact hn (Or.inl (Or.inr h'))
    · omega
  · exact hn (Or.inr hb)
/-- fewer facts -/
theorem blks_sub {L M : List Fact} (h : List.Sublist M L) : List.Sublist (blks M) (blks L) := by
  induction h with
  | slnil => exact List.Sublist.slnil
  | cons a _ ih => simp only [blks]; exact ih.trans (List.sublist_append_right _ _)
  | cons_cons a _ ih => simp only [blks]; exact List.Sublist.append (List.Sublist.refl _) ih
theorem Env.sub (E : Env w0 S w L) {M : List Fact} (h : List.Sublist M L) : Env w0 S w M := by
  have hs := blks_sub h
  exact ⟨E.ext, List.Nodup.sublist hs E.nd, fun b hb => E.lo b (hs.subset hb), fun f hf => Fact.keep (E.h f (h.subset hf)) (fun _ _ => rfl) (fun _ _ _ => rfl) (fun b _ hb => ⟨hb.1, fun hb' => hb.2 (hs.subset hb')⟩)⟩
/-- a row is done -/
theorem Env.freeze (E : Env w0 S w L) (j : Nat) {f g : Fact} (h : L[j]? = some f) (hb : g.blk = []) (hg : g.holds w0.heap.size (fun b => Tst w0 S L b ∨ b ∈ f.blk) w) : Env w0 S w (L.set j g) := by
  obtain ⟨A, C, h1, h2⟩ := blks_set (g := g) h
  rw [hb] at h2
  have hnd := E.nd
  rw [h1, List.nodup_append, List.nodup_append] at hnd
  obtain ⟨⟨hA, hf, hAf⟩, hC, hAC⟩ := hnd
  refine E.turn j h E.ext (Nat.le_refl _) (fun _ _ _ => rfl) (fun b hb' => by rw [hb] at hb'; simp at hb') (by rw [hb]; simp) (Fact.keep (T := fun b => Tst w0 S L b ∨ b ∈ f.blk) hg (fun _ _ => rfl) (fun _ _ _ => rfl) (fun b _ hs => ⟨?_, fun hb' => ?_⟩))
  · rcases hs with hs | hs
    · exact hs.1
    · exact Or.inr (E.lo b (mem_blks.2 ⟨f, List.mem_of_getElem? h, hs⟩)).1
  rw [h2] at hb'
  simp only [List.append_nil, List.mem_append] at hb'
  rcases hs with hs | hs
  · have hs := hs.2
    rw [h1] at hs
    simp only [List.mem_append] at hs
    rcases hb' with hb' | hb'
    · exact hs (Or.inl (Or.inl hb'))
    · exact hs (Or.inr hb')
  · rcases hb' with hb' | hb'
    · exact hAf b hb' b hs rfl
    · exact hAC b (by simp [hs]) b hb' rfl
theorem Env.doneI (E : Env w0 S w L) (j : Nat) {ao : Option Addr} {cap : Nat} {xs : List Int} (h : L[j]? = some (.rowI ao cap xs)) (hl : xs.length ≤ 17592186044416) : Env w0 S w (L.set j (.ints xs ao)) :=
  E.freeze j h rfl (((E.rowI j h).ints hl).mono fun b _ hb => Or.inr (by simp [Fact.blk, hb.2]))
theorem Env.doneIF (E : Env w0 S w L) (j : Nat) {ao : Option Addr} {cap : Nat} {xs : List Int} (h : L[j]? = some (.rowI ao cap xs)) (hl : xs.length ≤ 17592186044416) : Env w0 S w (L.set j (.intsF xs ao)) :=
  E.freeze j h rfl (((E.rowI j h).ints hl).mono fun b _ hb => ⟨Or.inr (by simp [Fact.blk, hb.2]), hb.1⟩)
theorem Env.doneAF (E : Env w0 S w L) (j : Nat) {ao : Option Addr} {cap : Nat} {l : List Arr} (h : L[j]? = some (.rowAF ao cap l)) : Env w0 S w (L.set j (.itemsF l ao)) :=
  E.freeze j h rfl (((E.rowAF j h).items).mono fun b _ hb => by
    rcases hb with hb | hb
    · exact ⟨Or.inl hb.1, hb.2⟩
    · exact ⟨Or.inr (by simp [Fact.blk, hb.2]), hb.1⟩)
theorem Env.doneA (E : Env w0 S w L) (j : Nat) {ao : Option Addr} {cap : Nat} {l : List Arr} (h : L[j]? = some (.rowA ao cap l)) : Env w0 S w (L.set j (.items l ao)) :=
  E.freeze j h rfl (((E.rowA j h).items).mono fun b _ hb => by
    rcases hb with hb | hb
    · exact Or.inl hb
    · exact Or.inr (by simp [Fact.blk, hb.2]))
end
theorem env1 (w : World) (S : Nat → Prop) {W : World} {k : Obj} (h : w.alloc k = W) : Env w S W [.obj w.heap.size k] := (Env.start w S).new h
theorem env2 (w : World) (S : Nat → Prop) {W : World} {k k2 : Obj} (h : (w.alloc k).alloc k2 = W) : Env w S W [.obj w.heap.size k, .obj (w.heap.size + 1) k2] := by
  have := (env1 w S (k := k) rfl).new h
  simpa using this
theorem env3 (w : World) (S : Nat → Prop) {W : World} {k k2 k3 : Obj} (h : ((w.alloc k).alloc k2).alloc k3 = W) : Env w S W [.obj w.heap.size k, .obj (w.heap.size + 1) k2, .obj (w.heap.size + 1 + 1) k3] := by
  have := (env2 w S (k := k) (k2 := k2) rfl).new h
  simpa using this
theorem env4 (w : World) (S : Nat → Prop) {W : World} {k k2 k3 k4 : Obj} (h : (((w.alloc k).alloc k2).alloc k3).alloc k4 = W) : Env w S W [.obj w.heap.size k, .obj (w.heap.size + 1) k2, .obj (w.heap.size + 1 + 1) k3, .obj (w.heap.size + 1 + 1 + 1) k4] := by
  have := (env3 w S (k := k) (k2 := k2) (k3 := k3) rfl).new h
  simpa using this
theorem env5 (w : World) (S : Nat → Prop) {W : World} {k k2 k3 k4 k5 : Obj} (h : ((((w.alloc k).alloc k2).alloc k3).alloc k4).alloc k5 = W) : Env w S W [.obj w.heap.size k, .obj (w.heap.size + 1) k2, .obj (w.heap.size + 1 + 1) k3, .obj (w.heap.size + 1 + 1 + 1) k4, .obj (w.heap.size + 1 + 1 + 1 + 1) k5] := by
  have := (env4 w S (k := k) (k2 := k2) (k3 := k3) (k4 := k4) rfl).new h
  simpa using this
section
variable {ops : Array Oper} {rest : List Oper} {o o1 o2 o3 : Oper} {a : Act} {Q : Exit → Act → World → Prop} {w0 w : World} {S : Nat → Prop} {L : List Fact}
/-- append to a row, its end into a slot -/
theorem wplE_appI (E : Env w0 S w L) (j : Nat) {ao : Option Addr} {cap : Nat} {xs : List Int} (hj : L[j]? = some (.rowI ao cap xs)) (hgd : o.guard = none) (s x : Operand) (ho : o.op = .call { callee := .builtin .append, args := #[s, x], argTypes := #[24, 24] })
    (hs : a.eval s = .slice ao xs.length cap) (T : Nat → Prop) (so : Option Addr) (sc : Nat) (ys : List Int) (hx : a.eval x = .slice so ys.length sc) (hys : IntsAt w T so ys) (hlen : xs.length + ys.length ≤ 17592186044416)
    (h : ∀ V ao' cap', Env w0 S V (L.set j (.rowI ao' cap' (xs ++ ys))) → wpList Try.prog ops Q rest (a.put o.dst (.slice ao' (xs ++ ys).length cap')) V) : wpList Try.prog ops Q (o :: rest) a w := by
  refine wpList_appI w hgd s x ho w0.heap.size ao cap xs hs (E.rowI j hj) T so sc ys hx hys hlen E.size ?_
  intro ao' cap' w4 hown hg hr
  exact h w4 ao' cap' (E.appI j hj hown hg hr)
theorem wplE_appA (E : Env w0 S w L) (j : Nat) {ao : Option Addr} {cap : Nat} {l : List Arr} (hj : L[j]? = some (.rowA ao cap l)) (hgd : o.guard = none) (s x : Operand) (ho : o.op = .call { callee := .builtin .append, args := #[s, x], argTypes := #[25, 25] })
    (hs : a.eval s = .slice ao l.length cap) (T : Nat → Prop) (so : Option Addr) (sc : Nat) (m : List Arr) (hx : a.eval x = .slice so m.length sc) (hm : ItemsAt w T so 0 m) (hS : ∀ b, b < w.heap.size → T b → Tst w0 S L b) (hlen : l.length + m.length ≤ 1759218604441)
    (h : ∀ V ao' cap', Env w0 S V (L.set j (.rowA ao' cap' (l ++ m))) → wpList Try.prog ops Q rest (a.put o.dst (.slice ao' (l ++ m).length cap')) V) : wpList Try.prog ops Q (o :: rest) a w := by
  refine wpList_appA w hgd s x ho w0.heap.size (Tst w0 S L) ao cap l hs (E.rowA j hj) T so sc m hx hm (fun b hlt hb => ⟨hS b hlt hb, fun e => (hS b hlt hb).2 (mem_blks.2 ⟨_, List.mem_of_getElem? hj, by simp [Fact.blk, ← e]⟩)⟩) hlen E.size ?_
  intro ao' cap' w4 hown hg hr
  exact h w4 ao' cap' (E.appA j hj hown (fun b _ hb => hb) hg hr)
theorem wplE_appAF (E : Env w0 S w L) (j : Nat) {ao : Option Addr} {cap : Nat} {l : List Arr} (hj : L[j]? = some (.rowAF ao cap l)) (hgd : o.guard = none) (s x : Operand) (ho : o.op = .call { callee := .builtin .append, args := #[s, x], argTypes := #[25, 25] })
    (hs : a.eval s = .slice ao l.length cap) (T : Nat → Prop) (so : Option Addr) (sc : Nat) (m : List Arr) (hx : a.eval x = .slice so m.length sc) (hm : ItemsAt w T so 0 m) (hS : ∀ b, b < w.heap.size → T b → Tst w0 S L b ∧ w0.heap.size ≤ b) (hlen : l.length + m.length ≤ 1759218604441)
    (h : ∀ V ao' cap', Env w0 S V (L.set j (.rowAF ao' cap' (l ++ m))) → wpList Try.prog ops Q rest (a.put o.dst (.slice ao' (l ++ m).length cap')) V) : wpList Try.prog ops Q (o :: rest) a w := by
  refine wpList_appA w hgd s x ho w0.heap.size (fun b => Tst w0 S L b ∧ w0.heap.size ≤ b) ao cap l hs (E.rowAF j hj) T so sc m hx hm (fun b hlt hb => ⟨hS b hlt hb, fun e => (hS b hlt hb).1.2 (mem_blks.2 ⟨_, List.mem_of_getElem? hj, by simp [Fact.blk, ← e]⟩)⟩) hlen E.size ?_
  intro ao' cap' w4 hown hg hr
  exact h w4 ao' cap' (E.appAF j hj hown (fun b _ hb => hb) hg hr)
/-- out.Nums = append(out.Nums, ..) -/
theorem wplE_addN (E : Env w0 S w L) (jv jr : Nat) {bx : Nat} {kd sv iv : Value} {na : Option Addr} {nc : Nat} {nums : List Int} (hv : L[jv]? = some (.obj bx (.cells #[kd, sv, .slice na nums.length nc, iv] 27 (0, 0)))) (hj : L[jr]? = some (.rowI na nc nums)) (hne : jv ≠ jr)
    (g1 : o1.guard = none) (g2 : o2.guard = none) (g3 : o3.guard = none) (s x p q r : Operand) (h1 : o1.op = .call { callee := .builtin .append, args := #[s, x], argTypes := #[24, 24] }) (h2 : o2.op = .fieldAddr 27 p 2) (h3 : o3.op = .store 24 q r)
    (T : Nat → Prop) (so : Option Addr) (sc : Nat) (ys : List Int) (hs : a.eval s = .slice na nums.length nc) (hx : a.eval x = .slice so ys.length sc) (hy : IntsAt w T so ys) (hlen : nums.length + ys.length ≤ 17592186044416)
    (hp : ∀ v, (a.put o1.dst v).eval p = .pointer (some ⟨bx, 0, none⟩)) (hq : ∀ v u, ((a.put o1.dst v).put o2.dst u).eval q = u) (hr : ∀ v u, ((a.put o1.dst v).put o2.dst u).eval r = v)
    (h : ∀ V na' nc', Env w0 S V ((L.set jr (.rowI na' nc' (nums ++ ys))).set jv (.obj bx (.cells #[kd, sv, .slice na' (nums ++ ys).length nc', iv] 27 (0, 0)))) → wpList Try.prog ops Q rest (((a.put o1.dst (.slice na' (nums ++ ys).length nc')).put o2.dst (.pointer (some ⟨bx, 2, none⟩))).put o3.dst undef) V) :
    wpList Try.prog ops Q (o1 :: o2 :: o3 :: rest) a w := by
  refine wplE_appI E jr hj g1 s x h1 hs T so sc ys hx hy hlen ?_
  intro w4 ao' cap' E4
  have hv4 : (L.set jr (.rowI ao' cap' (nums ++ ys)))[jv]? = some (.obj bx (.cells #[kd, sv, .slice na nums.length nc, iv] 27 (0, 0))) := by rw [List.getElem?_set_ne (Ne.symm hne)]; exact hv
  refine wpList_plain g2 fun K hK => ?_
  have step := fun h => hK ((a.put o1.dst (.slice ao' (nums ++ ys).length cap')).put o2.dst (.pointer (some ⟨bx, 2, none⟩))) w4 h
  have hfin : wpList Try.prog ops Q (o3 :: rest) ((a.put o1.dst (.slice ao' (nums ++ ys).length cap')).put o2.dst (.pointer (some ⟨bx, 2, none⟩))) w4 := by
    refine wpl_store2 g3 q r h3 bx (hq _ _) (hr _ _) (E4.hdr jv hv4) ?_
    intro V HV C
    exact h V ao' cap' (E4.chg jv hv4 C HV)
  have := step hfin
  unfold Oper.wp execOp
  simp only [h2, hp]
  simpa [go_sem] using this
/-- out.Items = append(out.Items, ..) -/
theorem wplE_addA (E : Env w0 S w L) (jv jr : Nat) {bx : Nat} {kd sv nv : Value} {ia : Option Addr} {ic : Nat} {items : List Arr} (hv : L[jv]? = some (.obj bx (.cells #[kd, sv, nv, .slice ia items.length ic] 27 (0, 0)))) (hj : L[jr]? = some (.rowA ia ic items)) (hne : jv ≠ jr)
    (g1 : o1.guard = none) (g2 : o2.guard = none) (g3 : o3.guard = none) (s x p q r : Operand) (h1 : o1.op = .call { callee := .builtin .append, args := #[s, x], argTypes := #[25, 25] }) (h2 : o2.op = .fieldAddr 27 p 3) (h3 : o3.op = .store 25 q r)
    (T : Nat → Prop) (so : Option Addr) (sc : Nat) (ys : List Arr) (hs : a.eval s = .slice ia items.length ic) (hx : a.eval x = .slice so ys.length sc) (hy : ItemsAt w T so 0 ys) (hST : ∀ b, b < w.heap.size → T b → Tst w0 S L b) (hlen : items.length + ys.length ≤ 1759218604441)
    (hp : ∀ v, (a.put o1.dst v).eval p = .pointer (some ⟨bx, 0, none⟩)) (hq : ∀ v u, ((a.put o1.dst v).put o2.dst u).eval q = u) (hr : ∀ v u, ((a.put o1.dst v).put o2.dst u).eval r = v)
    (h : ∀ V ia' ic', Env w0 S V ((L.set jr (.rowA ia' ic' (items ++ ys))).set jv (.obj bx (.cells #[kd, sv, nv, .slice ia' (items ++ ys).length ic'] 27 (0, 0)))) → wpList Try.prog ops Q rest (((a.put o1.dst (.slice ia' (items ++ ys).length ic')).put o2.dst (.pointer (some ⟨bx, 3, none⟩))).put o3.dst undef) V) :
    wpList Try.prog ops Q (o1 :: o2 :: o3 :: rest) a w := by
  refine wplE_appA E jr hj g1 s x h1 hs T so sc ys hx hy hST hlen ?_
  intro w4 ao' cap' E4
  have hv4 : (L.set jr (.rowA ao' cap' (items ++ ys)))[jv]? = some (.obj bx (.cells #[kd, sv, nv, .slice ia items.length ic] 27 (0, 0))) := by rw [List.getElem?_set_ne (Ne.symm hne)]; exact hv
  refine wpList_plain g2 fun K hK => ?_
  have step := fun h => hK ((a.put o1.dst (.slice ao' (items ++ ys).length cap')).put o2.dst (.pointer (some ⟨bx, 3, none⟩))) w4 h
  have hfin : wpList Try.prog ops Q (o3 :: rest) ((a.put o1.dst (.slice ao' (items ++ ys).length cap')).put o2.dst (.pointer (some ⟨bx, 3, none⟩))) w4 := by
    refine wpl_store3 g3 q r h3 bx (hq _ _) (hr _ _) (E4.hdr jv hv4) ?_
    intro V HV C
    exact h V ao' cap' (E4.chg jv hv4 C HV)
  have := step hfin
  unfold Oper.wp execOp
  simp only [h2, hp]
  simpa [go_sem] using this
/-- out.Items = append(out.Items, ..) -/
theorem wplE_addAF (E : Env w0 S w L) (jv jr : Nat) {bx : Nat} {kd sv nv : Value} {ia : Option Addr} {ic : Nat} {items : List Arr} (hv : L[jv]? = some (.obj bx (.cells #[kd, sv, nv, .slice ia items.length ic] 27 (0, 0)))) (hj : L[jr]? = some (.rowAF ia ic items)) (hne : jv ≠ jr)
    (g1 : o1.guard = none) (g2 : o2.guard = none) (g3 : o3.guard = none) (s x p q r : Operand) (h1 : o1.op = .call { callee := .builtin .append, args := #[s, x], argTypes := #[25, 25] }) (h2 : o2.op = .fieldAddr 27 p 3) (h3 : o3.op = .store 25 q r)
    (T : Nat → Prop) (so : Option Addr) (sc : Nat) (ys : List Arr) (hs : a.eval s = .slice ia items.length ic) (hx : a.eval x = .slice so ys.length sc) (hy : ItemsAt w T so 0 ys) (hST : ∀ b, b < w.heap.size → T b → Tst w0 S L b ∧ w0.heap.size ≤ b) (hlen : items.length + ys.length ≤ 1759218604441)
    (hp : ∀ v, (a.put o1.dst v).eval p = .pointer (some ⟨bx, 0, none⟩)) (hq : ∀ v u, ((a.put o1.dst v).put o2.dst u).eval q = u) (hr : ∀ v u, ((a.put o1.dst v).put o2.dst u).eval r = v)
    (h : ∀ V ia' ic', Env w0 S V ((L.set jr (.rowAF ia' ic' (items ++ ys))).set jv (.obj bx (.cells #[kd, sv, nv, .slice ia' (items ++ ys).length ic'] 27 (0, 0)))) → wpList Try.prog ops Q rest (((a.put o1.dst (.slice ia' (items ++ ys).length ic')).put o2.dst (.pointer (some ⟨bx, 3, none⟩))).put o3.dst undef) V) :
    wpList Try.prog ops Q (o1 :: o2 :: o3 :: rest) a w := by
  refine wplE_appAF E jr hj g1 s x h1 hs T so sc ys hx hy hST hlen ?_
  intro w4 ao' cap' E4
  have hv4 : (L.set jr (.rowAF ao' cap' (items ++ ys)))[jv]? = some (.obj bx (.cells #[kd, sv, nv, .slice ia items.length ic] 27 (0, 0))) := by rw [List.getElem?_set_ne (Ne.symm hne)]; exact hv
  refine wpList_plain g2 fun K hK => ?_
  have step := fun h => hK ((a.put o1.dst (.slice ao' (items ++ ys).length cap')).put o2.dst (.pointer (some ⟨bx, 3, none⟩))) w4 h
  have hfin : wpList Try.prog ops Q (o3 :: rest) ((a.put o1.dst (.slice ao' (items ++ ys).length cap')).put o2.dst (.pointer (some ⟨bx, 3, none⟩))) w4 := by
    refine wpl_store3 g3 q r h3 bx (hq _ _) (hr _ _) (E4.hdr jv hv4) ?_
    intro V HV C
    exact h V ao' cap' (E4.chg jv hv4 C HV)
  have := step hfin
  unfold Oper.wp execOp
  simp only [h2, hp]
  simpa [go_sem] using this
end
theorem box_items {u wf : World} {T : Nat → Prop} {z : Arr} {sa na ia : Option Addr} {sc nc ic : Nat} (e : Ext (u.alloc (.cells #[.int .i64 z.kind, .slice sa z.shape.length sc, .slice na z.nums.length nc, .slice ia z.items.length ic] 27)) wf) (hT : T u.heap.size) (h : ArrAt u T z sa na ia) : ItemsAt wf T (some ⟨u.heap.size, 0, none⟩) 0 [z] :=
  have hh : Hdr wf u.heap.size _ _ _ _ := made_blk e
  items_one hT hh.c0 hh.c1 hh.c2 hh.c3 ((h.up (ext_alloc _ _)).up e)
theorem RetAE.of {w V : World} {S : Nat → Prop} {a : Arr} {k : Int} {s n : List Int} {l : List Arr} {e e' : Int} {sa na ia : Option Addr} {sc nc ic : Nat} (E : a = .mk k s n l) (E2 : e = e') (h1 : IntsAt V S sa s) (h2 : IntsAt V S na n) (hl : l.length ≤ 1759218604441) (h3 : ItemsAt V S ia 0 l) (hb : Below w.heap.size w V) :
    RetAE w S a e (.returned (.tuple #[.agg #[.int .i64 k, .slice sa s.length sc, .slice na n.length nc, .slice ia l.length ic], .int .i64 e'])) V := by
  subst E; subst E2; exact ⟨sa, sc, na, nc, ia, ic, rfl, ArrAt.iff.2 ⟨h1, h2, hl, h3⟩, hb⟩
theorem RetA.wide {w V : World} {S T : Nat → Prop} {a : Arr} {e : Ending} (h : RetA w S a e V) (hS : ∀ b, b < V.heap.size → S b → T b) : RetA w T a e V := by
  obtain ⟨sa, sc, na, nc, ia, ic, h1, h2, h3⟩ := h
  exact ⟨sa, sc, na, nc, ia, ic, h1, ArrAt.mono hS _ h2, h3⟩
theorem RetAE.wide {w V : World} {S T : Nat → Prop} {a : Arr} {n : Int} {e : Ending} (h : RetAE w S a n e V) (hS : ∀ b, b < V.heap.size → S b → T b) : RetAE w T a n e V := by
  obtain ⟨sa, sc, na, nc, ia, ic, h1, h2, h3⟩ := h
  exact ⟨sa, sc, na, nc, ia, ic, h1, ArrAt.mono hS _ h2, h3⟩
end Go.Proofs.Ytdpdcjadedcglaa
namespace Go.Proofs.Ytdpdcjadedcglaa
open Go.RowKit
theorem u8_bd {n : Int} (h : (Lit.int .u8 n).wf = true) : 0 ≤ n ∧ n ≤ 255 := by
  simp [Lit.wf, IntKind.min, IntKind.max, IntKind.bits, IntKind.signed] at h
  omega
section
variable {w0 w w' W wz wq : World} {S : Nat → Prop} {L : List Fact}
theorem Env.lit (E : Env w0 S w L) (l : List Int) (hl : l.length ≤ 17592186044416) : Env w0 S (w.alloc (.cells (l.map (Value.int .i64)).toArray 3)) (L ++ [.ints l (some ⟨w.heap.size, 0, none⟩)]) :=
  (E.up (ext_alloc _ _)).addInts (lit_at (Ext.refl _) hl) fun b _ hb => E.fresh (Ext.refl _) hb
theorem Env.lit2 (E : Env w0 S w L) (l m : List Int) (hl : l.length ≤ 17592186044416) (hm : m.length ≤ 17592186044416) : Env w0 S ((w.alloc (.cells (l.map (Value.int .i64)).toArray 3)).alloc (.cells (m.map (Value.int .i64)).toArray 3)) (L ++ [.ints l (some ⟨w.heap.size, 0, none⟩)] ++ [.ints m (some ⟨w.heap.size + 1, 0, none⟩)]) := by
  have := (E.lit l hl).lit m hm
  simpa using this
theorem Env.box {a : Arr} {sa na ia : Option Addr} (E : Env w0 S w L) (j : Nat) (h : L[j]? = some (.arr a sa na ia)) (sc nc ic : Nat) : Env w0 S (w.alloc (.cells #[.int .i64 a.kind, .slice sa a.shape.length sc, .slice na a.nums.length nc, .slice ia a.items.length ic] 27)) (L ++ [.items [a] (some ⟨w.heap.size, 0, none⟩)]) :=
  (E.up (ext_alloc _ _)).addItems (box_items (Ext.refl _) (E.fresh (Ext.refl _) (Nat.le_refl _)) (E.arr j h)) fun b _ hb => hb
theorem nums_at {T : Nat → Prop} {k : Int} {n : List Int} {na : Option Addr} (h : IntsAt w T na n) : ArrAt w T (.mk k [] n []) none na none :=
  ArrAt.iff.2 ⟨IntsAt.nil _ _ _, h, Nat.zero_le _, by simp only [Arr.items, ItemsAt]⟩
theorem vec_at {T : Nat → Prop} {k : Int} {s n : List Int} {sa na : Option Addr} (g : IntsAt w T sa s) (h : IntsAt w T na n) : ArrAt w T (.mk k s n []) sa na none :=
  ArrAt.iff.2 ⟨g, h, Nat.zero_le _, by simp only [Arr.items, ItemsAt]⟩
theorem box_at {T : Nat → Prop} {k : Int} {a : Arr} {ia : Option Addr} (h : ItemsAt w T ia 0 [a]) : ArrAt w T (.mk k [] [] [a]) none none ia :=
  ArrAt.iff.2 ⟨IntsAt.nil _ _ _, IntsAt.nil _ _ _, by simp [Arr.items], h⟩
theorem Env.tw (E : Env w0 S W L) : ∃ T : Nat → Prop, (∀ b, Tst w0 S L b → T b) ∧ (∀ b, W.heap.size ≤ b → T b) ∧ (∀ b, T b → Tst w0 S L b) :=
  ⟨Tst w0 S L, fun _ h => h, fun _ h => E.fresh (Ext.refl _) h, fun _ h => h⟩
theorem Env.name (E : Env w0 S w L) : ∃ M, Hid (M = L) ∧ Env w0 S w M := ⟨L, rfl, E⟩
theorem RetA.eq {a b : Arr} {e : Ending} (h : RetA w S a e w') (E : b = a) : RetA w S b e w' := E ▸ h
theorem RetAE.eq {a b : Arr} {n m : Int} {e : Ending} (h : RetAE w S a n e w') (E : b = a) (E2 : n = m) : RetAE w S b m e w' := E ▸ E2 ▸ h
theorem retA_arm {T : Nat → Prop} {r : Arr} {e : Ending} (hT2 : ∀ b, W.heap.size ≤ b → T b) (hSe : Ext W wz) (h : RetA wz (fun b => T b ∨ wz.heap.size ≤ b) r e wq) : ∃ v, e = .returned v ∧ Ext wz wq ∧ RetA wz T r (.returned v) wq := by
  obtain ⟨sa, sc, na, nc, ia, ic, rfl, h2, h3⟩ := h
  exact ⟨_, rfl, h3, sa, sc, na, nc, ia, ic, rfl, ArrAt.mono (fun b _ hb => hb.elim id fun q => hT2 b (Nat.le_trans (Below.size hSe) q)) _ h2, h3⟩
theorem retAE_arm {T : Nat → Prop} {r : Arr} {n : Int} {e : Ending} (hT2 : ∀ b, W.heap.size ≤ b → T b) (hSe : Ext W wz) (h : RetAE wz (fun b => T b ∨ wz.heap.size ≤ b) r n e wq) : ∃ v, e = .returned v ∧ Ext wz wq ∧ RetAE wz T r n (.returned v) wq := by
  obtain ⟨sa, sc, na, nc, ia, ic, rfl, h2, h3⟩ := h
  exact ⟨_, rfl, h3, sa, sc, na, nc, ia, ic, rfl, ArrAt.mono (fun b _ hb => hb.elim id fun q => hT2 b (Nat.le_trans (Below.size hSe) q)) _ h2, h3⟩
theorem RetA.inr {r : Arr} {e : Ending} (T : Nat → Prop) (h : RetA wz (fun b => wz.heap.size ≤ b) r e wq) : RetA wz (fun b => T b ∨ wz.heap.size ≤ b) r e wq := h.wide fun _ _ hb => Or.inr hb
theorem RetAE.inr {r : Arr} {n : Int} {e : Ending} (T : Nat → Prop) (h : RetAE wz (fun b => wz.heap.size ≤ b) r n e wq) : RetAE wz (fun b => T b ∨ wz.heap.size ≤ b) r n e wq := h.wide fun _ _ hb => Or.inr hb
theorem ext_drewN (w : World) (n : Nat) : Ext w (w.drewN n) := ⟨rfl, rfl, rfl, Nat.le_refl _, fun _ _ => rfl⟩
/-- a variable that a region has made, and an array that it has made ahead of it -/
theorem Env.var {T : Nat → Prop} {x u : World} {o : Obj} {r : Arr} {s n i : Option Addr} (E : Env w0 S W L) (hT3 : ∀ b, T b → Tst w0 S L b) (hA : ArrAt x T r s n i) (hx : Ext x w') (exu : Ext x u) (hu : Ext W u) (e8 : Ext (u.alloc o) w') (ew : Ext W w') : Env w0 S w' (L ++ [.obj u.heap.size o] ++ [.arr r s n i]) := by
  refine (E.made hu e8 ew).addArr ((ArrAt.mono (T := fun b => T b ∧ b < x.heap.size) (fun b hb h => ⟨h, hb⟩) _ hA).up hx) fun b _ hb => ?_
  have h1 := hT3 b hb.1
  refine ⟨h1.1, ?_⟩
  rw [blks_append, List.mem_append]
  rintro (h' | h')
  · exact h1.2 h'
  · simp [blks, Fact.blk] at h'
    have := Below.size exu
    have := hb.2
    omega
/-- the same, whichever came first; the array is new -/
theorem Env.varO {x u u' : World} {o : Obj} {r : Arr} {s n i : Option Addr} (E : Env w0 S W L) (hA : ArrAt x (fun b => u'.heap.size ≤ b) r s n i) (hx : Ext x w') (hord : Ext x u ∨ Ext (u.alloc o) u') (hu' : Ext W u') (hu : Ext W u) (e8 : Ext (u.alloc o) w') (ew : Ext W w') : Env w0 S w' (L ++ [.obj u.heap.size o] ++ [.arr r s n i]) := by
  refine (E.made hu e8 ew).addArr ((ArrAt.mono (T := fun b => u'.heap.size ≤ b ∧ b < x.heap.size) (fun b hb h => ⟨h, hb⟩) _ hA).up hx) fun b _ hb => ?_
  have h1 := E.fresh hu' hb.1
  refine ⟨h1.1, ?_⟩
  rw [blks_append, List.mem_append]
  rintro (h' | h')
  · exact h1.2 h'
  · simp [blks, Fact.blk] at h'
    exact ord_out hord hb.1 hb.2 h'
end
section
variable {ops : Array Oper} {rest : List Oper} {o : Oper} {a : Act} {Q : Exit → Act → World → Prop} {w : World}
theorem wpl_store0 (hgd : o.guard = none) (p x : Operand) (ho : o.op = .store 23 p x) (b : Nat) {v : Int} {k' s' n' i' : Value} (hp : a.eval p = .pointer (some ⟨b, 0, none⟩)) (hx : a.eval x = .int .i64 v) (hh : Hdr w b k' s' n' i')
    (h : ∀ V, Hdr V b (.int .i64 v) s' n' i' → Chg w V b → wpList Try.prog ops Q rest (a.put o.dst undef) V) : wpList Try.prog ops Q (o :: rest) a w := by
  refine wpList_plain hgd fun K hK => ?_
  have := hK _ _ (h _ (hh.set0 _) (chg_setCell w b _ _))
  unfold Oper.wp execOp
  simp only [ho, hp, hx]
  have d2 := hh.c0
  have f := hh.f
  simp [go_sem, d2, f]
  exact this
end
theorem tur_at {w : World} {T : Nat → Prop} {k : Int} {y : Arr} {sa na ia : Option Addr} (h : ArrAt w T y sa na ia) : ArrAt w T (.mk k y.shape y.nums y.items) sa na ia := ArrAt.iff.2 ⟨h.shape, h.nums, h.len, h.items⟩
end Go.Proofs.Ytdpdcjadedcglaa
namespace Go.Proofs.Ytdpdcjadedcglaa
open Go.RowKit
theorem size_alloc' (w : World) (o : Obj) : (w.alloc o).heap.size = w.heap.size + 1 := by simp
section
variable {w0 w w' V : World} {S : Nat → Prop} {L M : List Fact}
theorem blks_perm (h : L.Perm M) : (blks L).Perm (blks M) := by
  induction h with
  | nil => exact List.Perm.refl _
  | cons x _ ih => simp only [blks]; exact ih.append_left _
  | swap x y l => simp only [blks, ← List.append_assoc]; exact List.perm_append_comm.append_right _
  | trans _ _ h1 h2 => exact h1.trans h2
theorem Env.perm (E : Env w0 S w L) (h : L.Perm M) : Env w0 S w M := by
  have hb := blks_perm h
  exact ⟨E.ext, hb.nodup_iff.1 E.nd, fun b hm => E.lo b (hb.mem_iff.2 hm), fun f hf => Fact.keep (E.h f (h.mem_iff.2 hf)) (fun _ _ => rfl) (fun _ _ _ => rfl) (fun b _ hs => ⟨hs.1, fun hm => hs.2 (hb.mem_iff.2 hm)⟩)⟩
/-- the last fact goes to the front -/
theorem Env.front {f : Fact} (E : Env w0 S w (L ++ [f])) : Env w0 S w (f :: L) := E.perm (List.perm_append_singleton _ _)
theorem pick_perm : ∀ {L : List Fact} {j : Nat} {f : Fact}, L[j]? = some f → L.Perm (f :: L.eraseIdx j)
  | [], _, _, h => by simp at h
  | x :: L, 0, f, h => by simp at h; subst h; exact List.Perm.refl _
  | x :: L, j + 1, f, h => ((pick_perm (L := L) (j := j) (by simpa using h)).cons x).trans (List.Perm.swap _ _ _)
/-- fact j goes to the front -/
theorem Env.pick (E : Env w0 S w L) (j : Nat) {f : Fact} (h : L[j]? = some f) : Env w0 S w (f :: L.eraseIdx j) := by
  exact E.perm (pick_perm h)
/-- two objects that a region has made, whichever came first -/
theorem Env.made2 {ua ub : World} {oa ob : Obj} (E : Env w0 S w L) (ha : Ext w ua) (hb : Ext w ub) (ea : Ext (ua.alloc oa) w') (eb : Ext (ub.alloc ob) w') (ord : Ext (ua.alloc oa) ub ∨ Ext (ub.alloc ob) ua) : Env w0 S w' (L ++ [.obj ua.heap.size oa] ++ [.obj ub.heap.size ob]) := by
  rcases ord with h | h
  · exact (E.made ha (Ext.refl _) (ha.trans (ext_alloc _ _))).made h eb ea
  · have := (E.made hb (Ext.refl _) (hb.trans (ext_alloc _ _))).made h ea eb
    refine this.perm ?_
    rw [List.append_assoc, List.append_assoc]
    exact (List.Perm.swap _ _ _).append_left _
/-- numbers that a region has made besides two objects -/
theorem Env.addInts2 {W u5 x5 ua ub : World} {oa ob : Obj} {xs : List Int} {ao : Option Addr} (E0 : Env w0 S W L) (E : Env w0 S w' (L ++ [.obj ua.heap.size oa] ++ [.obj ub.heap.size ob] ++ M)) (hM : blks M = []) (h : IntsAt x5 (fun b => u5.heap.size ≤ b) ao xs) (e0 : Ext W u5) (e : Ext x5 w') (o1 : Ext x5 ua ∨ Ext (ua.alloc oa) u5) (o2 : Ext x5 ub ∨ Ext (ub.alloc ob) u5) :
    Env w0 S w' (L ++ [.obj ua.heap.size oa] ++ [.obj ub.heap.size ob] ++ M ++ [.ints xs ao]) := by
  refine E.addInts ((h.mono (T := fun b => u5.heap.size ≤ b ∧ b < x5.heap.size) (fun b hlt hb => ⟨hb, hlt⟩)).up e) fun b _ hb => ⟨Or.inr (by have := E0.size; have := Below.size e0; omega), ?_⟩
  rw [blks_append, blks_append, blks_append, hM]
  simp only [List.append_nil, List.mem_append]
  rintro ((q | q) | q)
  · have := (E0.lo b q).2; have := Below.size e0; omega
  · simp [blks, Fact.blk] at q
    exact ord_out o1 hb.1 hb.2 q
  · simp [blks, Fact.blk] at q
    exact ord_out o2 hb.1 hb.2 q
/-- a row that a call has made -/
theorem Env.addRowI (E : Env w0 S w L) {ao : Option Addr} {cap : Nat} {xs : List Int} (hO : OwnI w' w.heap.size ao cap xs) (hb : Ext w w') : Env w0 S w' (L ++ [.rowI ao cap xs]) := by
  have E' := E.up hb
  have hrow := hO.row
  have hbk : blks (L ++ [.rowI ao cap xs]) = blks L ++ (rowOf ao).toList := by rw [blks_append]; simp [blks, Fact.blk]
  have hO' : OwnI w' w0.heap.size ao cap xs := OwnI.base hO E.size
  refine ⟨E'.ext, ?_, ?_, ?_⟩
  · rw [hbk, List.nodup_append]
    refine ⟨E.nd, nodup_opt _, fun a ha b hb' => ?_⟩
    have h1 := (E.lo a ha).2
    simp only [Option.mem_toList, Option.mem_def] at hb'
    have := (hrow b hb').1
    omega
  · intro b h
    rw [hbk, List.mem_append] at h
    rcases h with h | h
    · exact E'.lo b h
    · simp only [Option.mem_toList, Option.mem_def] at h
      have := hrow b h
      exact ⟨Nat.le_trans E.size this.1, this.2⟩
  · intro f hf
    rw [List.mem_append] at hf
    rcases hf with hf | hf
    · have := Fact.keep (E.h f hf) (w' := w) (T' := Tst w0 S (L ++ [.rowI ao cap xs])) (fun _ _ => rfl) (fun _ _ _ => rfl) (fun b hlt h => by
        refine ⟨h.1, ?_⟩
        rw [hbk, List.mem_append]
        rintro (h' | h')
        · exact h.2 h'
        · simp only [Option.mem_toList, Option.mem_def] at h'
          have := (hrow b h').1
          omega)
      exact Fact.keep this (fun b hb' => hb.block b (E.lo b (mem_blks.2 ⟨f, hf, hb'⟩)).2) (fun b _ hlt => hb.block b hlt) (fun _ _ h => h)
    · simp only [List.mem_singleton] at hf; subst hf
      exact hO'
/-- a number of a row is written -/
theorem Env.setI (E : Env w0 S w L) (j : Nat) {ao : Option Addr} {cap : Nat} {xs ys : List Int} {g : Nat} (h : L[j]? = some (.rowI ao cap xs)) (e : ao = some ⟨g, 0, none⟩) (hg : w0.heap.size ≤ g) (hO : OwnI V w0.heap.size ao cap ys) (C : Chg w V g) : Env w0 S V (L.set j (.rowI ao cap ys)) := by
  have hr : rowOf ao = some g := by rw [e]; rfl
  refine E.turn j h (C.below E.ext hg) (Nat.le_of_eq C.z.symm) (fun q hq hne => C.blk hq (fun e' => hne ?_)) (fun q hq => Or.inl (by simpa [Fact.blk] using hq)) (nodup_opt _) hO
  simp [Fact.blk, hr, e']
/-- a call has grown a row -/
theorem Env.growI (E : Env w0 S w L) (j : Nat) {ao ao' : Option Addr} {cap cap' : Nat} {xs ys : List Int} (h : L[j]? = some (.rowI ao cap xs)) (hO : OwnI V w0.heap.size ao' cap' ys) (hg : w.grownBy V (rowOf ao)) (hr : rowOf ao' = rowOf ao ∨ ∀ k, rowOf ao' = some k → w.heap.size ≤ k) : Env w0 S V (L.set j (.rowI ao' cap' ys)) := by
  have hrow := (E.rowI j h).row
  refine E.turn j h (E.ext.grown hg E.size (fun k hk => (hrow k hk).1)) hg.size (fun b hb hne => hg.block b hb (fun e => hne (by simp [Fact.blk, ← e]))) (fun b hb => ?_) (nodup_opt _) hO
  simp only [Fact.blk, Option.mem_toList, Option.mem_def] at hb ⊢
  rcases hr with e | e
  · exact Or.inl (e ▸ hb)
  · exact Or.inr ⟨e b hb, (hO.row _ hb).2⟩
/-- fewer facts: all but the first -/
theorem Env.tl {f : Fact} (E : Env w0 S w (f :: L)) : Env w0 S w L := E.sub (List.sublist_cons_self _ _)
theorem envF1 (E : Env w0 S w L) {W : World} {k : Obj} (h : w.alloc k = W) : Env w0 S W (.obj w.heap.size k :: L) := (E.new h).front
theorem envF2 (E : Env w0 S w L) {W : World} {k k2 : Obj} (h : (w.alloc k).alloc k2 = W) : Env w0 S W (.obj w.heap.size k :: .obj (w.heap.size + 1) k2 :: L) := by
  have := (envF1 E (k := k) rfl).alloc k2
  rw [h] at this
  have := this.front
  simp only [size_alloc'] at this
  exact this.perm (List.Perm.swap _ _ _)
theorem envF3 (E : Env w0 S w L) {W : World} {k k2 k3 : Obj} (h : ((w.alloc k).alloc k2).alloc k3 = W) : Env w0 S W (.obj w.heap.size k :: .obj (w.heap.size + 1) k2 :: .obj (w.heap.size + 1 + 1) k3 :: L) := by
  have := (envF2 E (k := k) (k2 := k2) rfl).alloc k3
  rw [h] at this
  have := this.front
  simp only [size_alloc'] at this
  exact this.perm ((List.Perm.swap _ _ _).trans ((List.Perm.swap _ _ _).cons _))
theorem envF4 (E : Env w0 S w L) {W : World} {k k2 k3 k4 : Obj} (h : (((w.alloc k).alloc k2).alloc k3).alloc k4 = W) : Env w0 S W (.obj w.heap.size k :: .obj (w.heap.size + 1) k2 :: .obj (w.heap.size + 1 + 1) k3 :: .obj (w.heap.size + 1 + 1 + 1) k4 :: L) := by
  have := (envF3 E (k := k) (k2 := k2) (k3 := k3) rfl).alloc k4
  rw [h] at this
  have := this.front
  simp only [size_alloc'] at this
  exact this.perm ((List.Perm.swap _ _ _).trans (((List.Perm.swap _ _ _).trans ((List.Perm.swap _ _ _).cons _)).cons _))
end
section
variable {ops : Array Oper} {rest : List Oper} {o : Oper} {a : Act} {Q : Exit → Act → World → Prop} {w0 w : World} {S : Nat → Prop} {L : List Fact}
/-- l[k] = v -/
theorem wplE_setI (E : Env w0 S w L) (j : Nat) {ao : Option Addr} {cap : Nat} {xs : List Int} (hj : L[j]? = some (.rowI ao cap xs)) (hgd : o.guard = none) (p x : Operand) (ho : o.op = .store 3 p x) (k : Nat) (hk : k < xs.length) (v : Int)
    (hp : ∀ g, ao = some ⟨g, 0, none⟩ → a.eval p = .pointer (some ⟨g, k, none⟩)) (hx : a.eval x = .int .i64 v) (h : ∀ V, Env w0 S V (L.set j (.rowI ao cap (xs.set k v))) → wpList Try.prog ops Q rest (a.put o.dst undef) V) : wpList Try.prog ops Q (o :: rest) a w :=
  wpl_setI hgd p x ho w0.heap.size ao cap xs (E.rowI j hj) k hk v hp hx fun V g e hg hO C => h V (E.setI j hj e hg hO C)
end
end Go.Proofs.Ytdpdcjadedcglaa
namespace Go.Proofs.Ytdpdcjadedcglaa
open Go.RowKit
def putFrom (cur : Array Value) : Nat → List Value → Array Value
  | _, [] => cur
  | o, v :: r => putFrom (cur.setIfInBounds o v) (o + 1) r
theorem putFrom_size : ∀ (vs : List Value) (o : Nat) (cur : Array Value), (putFrom cur o vs).size = cur.size
  | [], _, _ => rfl
  | v :: r, o, cur => by rw [putFrom, putFrom_size r]; simp
theorem putFrom_list : ∀ (vs : List Value) (o : Nat) (cur : Array Value), o + vs.length ≤ cur.size → (putFrom cur o vs).toList = cur.toList.take o ++ vs ++ cur.toList.drop (o + vs.length)
  | [], o, cur, h => by simp [putFrom]
  | v :: r, o, cur, h => by
    simp only [List.length_cons] at h
    have ho : o < cur.toList.length := by simp; omega
    rw [putFrom, putFrom_list r (o + 1) _ (by simp; omega)]
    simp only [Array.toList_setIfInBounds, List.length_cons]
    rw [List.drop_set_of_lt (by omega), List.take_set, List.take_succ_eq_append_getElem ho]
    rw [List.set_append_right _ _ (by simp; omega)]
    have hl : o - (cur.toList.take o).length = 0 := by rw [List.length_take]; omega
    rw [hl]
    simp only [List.set_cons_zero, List.append_assoc, List.cons_append, List.nil_append]
    congr 3
    congr 1; omega
theorem row_setCells (b : Nat) (t : TypeId) : ∀ (vs : List Value) (o : Nat) (cur : Array Value) (w : World), w.heap[b]? = some (.cells cur t (0, 0)) → (w.setCells b o vs).heap[b]? = some (.cells (putFrom cur o vs) t (0, 0))
  | [], _, _, _, h => h
  | v :: r, o, cur, w, h => row_setCells b t r (o + 1) _ _ (heap_setCell_same w b o cur t v h)
theorem grown_setCells (b : Nat) : ∀ (vs : List Value) (o : Nat) (w : World), w.grownBy (w.setCells b o vs) (some b)
  | [], _, w => ⟨rfl, rfl, rfl, Nat.le_refl _, fun _ _ _ => rfl⟩
  | v :: r, o, w => by
    have h := grown_setCells b r (o + 1) (w.setCell ⟨b, o, none⟩ v)
    have hz : (w.setCell ⟨b, o, none⟩ v).heap.size = w.heap.size := by simp [World.setCell]
    exact ⟨h.os, h.tape, h.output, by have := h.size; rw [hz] at this; exact this, fun k hk hne => (h.block k (by omega) hne).trans (Below.heap_setCell w ⟨b, o, none⟩ v k (fun e => hne (by rw [e])))⟩
end Go.Proofs.Ytdpdcjadedcglaa
namespace Go.Proofs.Ytdpdcjadedcglaa
open Go.RowKit Go.Sort
def headL (n size : Nat) : Array Bool := ((List.range size).map fun k => decide (k < n)).toArray
def lexF (md : Region.Mode) (ops : Array Oper) (n : Nat) : Nat → Nat → Array Bool → Bool
  | 0, _, listed => decide (listed = headL n ops.size)
  | f + 1, k, listed => (Region.ready md ops listed).contains k && Region.free md ops listed k && lexF md ops n f (k + 1) (listed.setIfInBounds k true)
/-- each operation from n on waits for all those ahead of n -/
def waitB (md : Region.Mode) (ops : Array Oper) (n : Nat) : Bool :=
  (List.range ops.size).all fun j => decide (j < n) || match ops[j]? with
    | some o => (List.range n).all fun i => o.after.any fun e => Region.binds md e && e.on == i
    | none => true
theorem waitB_spec {md : Region.Mode} {ops : Array Oper} {n j i : Nat} {o : Oper} (h : waitB md ops n = true) (hj : ops[j]? = some o) (hn : n ≤ j) (hi : i < n) : ∃ e ∈ o.after, Region.binds md e = true ∧ e.on = i := by
  have h1 := (List.all_eq_true.1 h) j (List.mem_range.2 (Array.getElem?_eq_some_iff.1 hj).1)
  simp only [hj, Bool.or_eq_true, decide_eq_true_eq] at h1
  rcases h1 with h1 | h1
  · omega
  · obtain ⟨e, he, hb⟩ := Array.any_eq_true'.1 ((List.all_eq_true.1 h1) i (List.mem_range.2 hi))
    simp only [Bool.and_eq_true, beq_iff_eq] at hb
    exact ⟨e, he, hb.1, hb.2⟩
def anyB (l : List Oper) (n : Nat) : Bool := Region.noSelect l.toArray && decide (n ≤ l.length) && waitB .any l.toArray n && lexF .any l.toArray n n 0 (Array.replicate l.toArray.size false)
theorem headL_get {n size j : Nat} (h : j < n) (hs : n ≤ size) (d : Bool) : (headL n size).getD j d = true := by
  have hj : j < size := by omega
  unfold headL
  simp [Array.getD, hj, h]
theorem wp_region_mono_any {P : Program} {id : Nat} {Q : Exit → Act → World → Prop} {a : Act} {w : World} {l : List Oper} (n : Nat) (S : World → Prop) (M : List Nat) (Φ : Nat → Value → World → World → Prop) (hup : ∀ w w', S w → Ext w w' → S w') (hs : S w)
    (hm : P.follows .mixedOrders = true) (hB : anyB l n = true)
    (h : mList P (DepOn .any l.toArray) l.toArray S M Φ (fun a' us => ∀ w', S w' → Above us w' → wpAny P .any l.toArray Q (l.length - n) (headL n l.length) a' w') 0 (l.take n) a Ups.none) : (Code.region id l.toArray true).wp P Q a w := by
  simp only [anyB, Bool.and_eq_true, decide_eq_true_eq] at hB
  obtain ⟨⟨⟨hsel, hn⟩, hw⟩, hlex⟩ := hB
  have htl : (l.take n).length = n := by simp; omega
  have hs' : S w.drew := hup _ _ hs (ext_drawn w)
  have hlow : ∀ i listed, i < n → HeadInv .any l.toArray n listed → i ∈ Region.ready .any l.toArray listed → ∀ j ∈ Region.ready .any l.toArray listed, j < n := fun i listed hi inv hr j hj => by
    rcases Nat.lt_or_ge j n with h1 | h1
    · exact h1
    · exfalso
      obtain ⟨_, o, ho, hall⟩ := mem_ready.1 hj
      obtain ⟨e, he, hb, hon⟩ := waitB_spec hw ho h1 hi
      have h2 := hall e he hb
      have h3 := (mem_ready.1 hr).1
      rw [hon, getD_both h3] at h2
      cases h2
  refine wp_region_any hm ?_
  have H := mAny_lex (n := n) (T := fun listed => listed = headL n l.length) hsel hup (F := lexF .any l.toArray n) (fun listed h => by simpa [lexF] using h)
    (fun f k listed h => by simp only [lexF, Bool.and_eq_true] at h; exact ⟨⟨by simpa using h.1.1, h.1.2⟩, h.2⟩) hlow
    (fun listed hT j hj => by
      rcases Nat.lt_or_ge j n with h1 | h1
      · exfalso
        have h2 := (mem_ready.1 hj).1
        rw [hT, headL_get h1 hn] at h2
        cases h2
      · exact h1) (fun _ _ h => h) (l.take n) 0 _ a Ups.none (fun j hj => by
      have hj' : j < n := by rw [htl] at hj; exact hj
      simp [hj']) (by simpa using htl) inv0 (fun j _ => rfl) ⟨w.drew, hs', fun i p hp => by cases hp⟩ (by rw [htl]; exact hlex) h
  have := wpAny_of_mAny (Q' := Q) (g := l.length - n) hup (fun listed a' us w' hL hs ha => by
    rw [hL.1]; exact hL.2 w' hs ha) _ _ _ _ w.drew H hs' (fun i p hp => by cases hp)
  rw [htl, show n + (l.length - n) = l.toArray.size by simp; omega] at this
  exact this
def ThenQ (Q : Exit → Act → World → Prop) (R : Act → World → Prop) : Exit → Act → World → Prop
  | .normal, a, w => R a w
  | e, a, w => Q e a w
theorem wp_thenQ {P : Program} {o : Oper} {a : Act} {w : World} {K R : Act → World → Prop} {Q : Exit → Act → World → Prop} (h : o.wp P a w K (ThenQ Q R)) : o.wp P a w K Q := by
  unfold Oper.wp at *
  generalize (execOp a.eval o).run P w = r at *
  cases r with
  | ok n w' => cases n <;> exact h
  | halt x w' => cases x <;> exact h
section
variable {P : Program} {ops : Array Oper} {Q : Exit → Act → World → Prop} {f : Nat} {listed : Array Bool} {a : Act} {w : World}
theorem any_one (i : Nat) {o : Oper} (ho : ops[i]? = some o) (h : wpList P ops (ThenQ Q (wpAny P .any ops Q f (listed.setIfInBounds i true))) [o] a w) : wpOp P ops Q i (wpAny P .any ops Q f (listed.setIfInBounds i true)) a w := by
  unfold wpOp
  simp only [ho]
  unfold wpList at h
  by_cases c : Region.wanted o (yielded ops a.tmps) = true
  · rw [if_pos c] at h ⊢
    rcases h with h | ⟨h1, h2⟩
    · exact .inl (wp_thenQ h)
    · exact .inr ⟨h1, h2⟩
  · rw [if_neg c] at h ⊢
    exact h
/-- one operation alone can come next -/
theorem any_step (i : Nat) {o : Oper} (hr : (Region.ready .any ops listed == [i]) = true) (ho : ops[i]? = some o) (h : wpList P ops (ThenQ Q (wpAny P .any ops Q f (listed.setIfInBounds i true))) [o] a w) : wpAny P .any ops Q (f + 1) listed a w := by
  have hr' : Region.ready .any ops listed = [i] := by simpa using hr
  refine ⟨fun h0 => (by rw [hr'] at h0; cases h0), fun j hj => ?_⟩
  rw [hr'] at hj
  obtain rfl : j = i := by simpa using hj
  exact any_one j ho h
/-- two operations can come next -/
theorem any_two (i j : Nat) {o q : Oper} (hr : (Region.ready .any ops listed == [i, j]) = true) (ho : ops[i]? = some o) (hq : ops[j]? = some q) (h : wpList P ops (ThenQ Q (wpAny P .any ops Q f (listed.setIfInBounds i true))) [o] a w) (g : wpList P ops (ThenQ Q (wpAny P .any ops Q f (listed.setIfInBounds j true))) [q] a w) : wpAny P .any ops Q (f + 1) listed a w := by
  have hr' : Region.ready .any ops listed = [i, j] := by simpa using hr
  refine ⟨fun h0 => (by rw [hr'] at h0; cases h0), fun k hk => ?_⟩
  rw [hr'] at hk
  simp only [List.mem_cons, List.not_mem_nil, or_false] at hk
  rcases hk with rfl | rfl
  · exact any_one k ho h
  · exact any_one k hq g
/-- an operation whose value hangs on no world is taken first -/
theorem any_take (i : Nat) {o : Oper} {v : Value} (hs : Region.noSelect ops = true) (hr : (Region.ready .any ops listed).contains i = true) (hfree : Region.free .any ops listed i = true) (ho : ops[i]? = some o) (hg : o.guard = none) (hv : ∀ w, (execOp a.eval o).run P w = .ok (.value v) w)
    (hQ : ∀ c a w, Q (.panic c) (a.put o.dst v) w → Q (.panic c) a w) (h : wpAny P .any ops Q f (listed.setIfInBounds i true) (a.put o.dst v) w) : wpAny P .any ops Q (f + 1) listed a w :=
  wpAny_first ho (Region.noSelect_spec hs) hQ f listed a w (Region.free_spec ho hfree) (by simpa using hr) (.inl ⟨by simp [Region.wanted, hg], hv⟩) h
theorem any_nil {R : Act → World → Prop} (h : R a w) : wpList P ops (ThenQ Q R) [] a w := h
theorem any_done (hr : (Region.ready .any ops listed == []) = true) (h : Q .normal a w) : wpAny P .any ops Q 0 listed a w := ⟨by simpa using hr, h⟩
end
end Go.Proofs.Ytdpdcjadedcglaa
namespace Go.Proofs.Ytdpdcjadedcglaa
open Go.RowKit Go.Sort
theorem CellsAt.split {w : World} {S : Nat → Prop} {z : Arr} : ∀ {l : List Arr} {cs : List Value}, CellsAt w S (l ++ [z]) cs → ∃ cs1 v0 v1 v2 v3, cs = cs1 ++ [v0, v1, v2, v3] ∧ CellsAt w S l cs1
  | [], cs, h => by
    simp only [List.nil_append, CellsAt] at h
    obtain ⟨sa, sc, na, nc, ja, jc, rest, rfl, h1, rfl⟩ := h
    exact ⟨[], _, _, _, _, rfl, by simp only [CellsAt]⟩
  | x :: l, cs, h => by
    simp only [List.cons_append, CellsAt] at h
    obtain ⟨sa, sc, na, nc, ja, jc, rest, rfl, h1, h2⟩ := h
    obtain ⟨cs1, v0, v1, v2, v3, rfl, h3⟩ := CellsAt.split h2
    exact ⟨.int .i64 x.kind :: .slice sa x.shape.length sc :: .slice na x.nums.length nc :: .slice ja x.items.length jc :: cs1, v0, v1, v2, v3, rfl, by simp only [CellsAt]; exact ⟨sa, sc, na, nc, ja, jc, cs1, rfl, h1, h3⟩⟩
theorem set_last4 (cs1 : List Value) (v0 v1 v2 v3 u0 u1 u2 u3 : Value) {n : Nat} (hn : cs1.length = n) : ((((cs1 ++ [v0, v1, v2, v3]).set n u0).set (n + 1) u1).set (n + 2) u2).set (n + 3) u3 = cs1 ++ [u0, u1, u2, u3] := by
  subst hn
  rw [List.set_append_right _ _ (Nat.le_refl _), List.set_append_right _ _ (by omega), List.set_append_right _ _ (by omega), List.set_append_right _ _ (by omega)]
  simp
def setAt4 (w : World) (g o : Nat) (u0 u1 u2 u3 : Value) : World := (((w.setCell ⟨g, o, none⟩ u0).setCell ⟨g, o + 1, none⟩ u1).setCell ⟨g, o + 2, none⟩ u2).setCell ⟨g, o + 3, none⟩ u3
theorem chg_setAt4 (w : World) (g o : Nat) (u0 u1 u2 u3 : Value) : Chg w (setAt4 w g o u0 u1 u2 u3) g :=
  (((chg_setCell _ _ _ _).trans (chg_setCell _ _ _ _)).trans (chg_setCell _ _ _ _)).trans (chg_setCell _ _ _ _)
theorem OwnA.last {w : World} {B : Nat} {T : Nat → Prop} {ao : Option Addr} {cap : Nat} {cur : List Arr} {z y : Arr} {s m i : Option Addr} (h : OwnA w B T ao cap (cur ++ [z])) (hy : ArrAt w (fun b => T b ∧ some b ≠ rowOf ao) y s m i) (sc mc ic : Nat) :
    ∃ g, ao = some ⟨g, 0, none⟩ ∧ B ≤ g ∧ (∀ o, o < 4 → ∃ u, w.cell? ⟨g, cur.length * 4 + o, none⟩ = some u) ∧ (∀ o, w.frozen? ⟨g, o, none⟩ = false) ∧
      OwnA (setAt4 w g (cur.length * 4) (.int .i64 y.kind) (.slice s y.shape.length sc) (.slice m y.nums.length mc) (.slice i y.items.length ic)) B T ao cap (cur ++ [y]) := by
  obtain ⟨cs, h1, h2⟩ := h
  obtain ⟨cs1, v0, v1, v2, v3, rfl, h3⟩ := h2.split
  have hl1 := h3.length
  obtain ⟨g, hg, hB⟩ : ∃ g, ao = some ⟨g, 0, none⟩ ∧ B ≤ g := by
    rcases h1.2 with ⟨_, hn⟩ | ⟨g, c, cur', e, hb, hgg, _⟩
    · simp at hn
    · injection e with e1; exact ⟨g, e1, hb⟩
  subst hg
  have hcell := h1.cellAt
  have hlen : (cur ++ [z]).length = cur.length + 1 := by simp
  refine ⟨g, rfl, hB, fun o ho => ?_, h1.frozenAt, ?_⟩
  · rw [hcell (cur.length * 4 + o) (by rw [hlen]; omega)]
    rw [List.getElem?_append_right (by omega), hl1]
    match o, ho with
    | 0, _ => exact ⟨v0, by simp⟩
    | 1, _ => exact ⟨v1, by simp⟩
    | 2, _ => exact ⟨v2, by simp⟩
    | 3, _ => exact ⟨v3, by simp⟩
  · have a0 := h1.stored (cur.length * 4) (.int .i64 y.kind)
    have a1 := a0.1.stored (cur.length * 4 + 1) (.slice s y.shape.length sc)
    have a2 := a1.1.stored (cur.length * 4 + 2) (.slice m y.nums.length mc)
    have a3 := a2.1.stored (cur.length * 4 + 3) (.slice i y.items.length ic)
    have e3 := a3.1
    rw [set_last4 cs1 v0 v1 v2 v3 _ _ _ _ hl1] at e3
    refine ⟨_, by rw [hlen] at e3; rw [show (cur ++ [y]).length = cur.length + 1 by simp]; exact e3, ?_⟩
    have C := chg_setAt4 w g (cur.length * 4) (.int .i64 y.kind) (.slice s y.shape.length sc) (.slice m y.nums.length mc) (.slice i y.items.length ic)
    have hk : ∀ b, T b ∧ some b ≠ rowOf (some (⟨g, 0, none⟩ : Addr)) → b < w.heap.size → (setAt4 w g (cur.length * 4) (.int .i64 y.kind) (.slice s y.shape.length sc) (.slice m y.nums.length mc) (.slice i y.items.length ic)).heap[b]? = w.heap[b]? := fun b hb hlt => C.blk hlt (fun e => hb.2 (by rw [e]; rfl))
    exact (h3.keep hk).append (by simp only [CellsAt]; exact ⟨s, sc, m, mc, i, ic, [], rfl, ArrAt.keep hk y hy, rfl⟩)
section
variable {ops : Array Oper} {rest : List Oper} {o : Oper} {a : Act} {Q : Exit → Act → World → Prop} {w0 w : World} {S : Nat → Prop} {L : List Fact}
/-- l[len(l) - 1] = y -/
theorem wplE_last (E : Env w0 S w L) (j : Nat) {ao : Option Addr} {cap : Nat} {cur : List Arr} {z y : Arr} {s m i : Option Addr} {sc mc ic : Nat} (hj : L[j]? = some (.rowA ao cap (cur ++ [z]))) (hgd : o.guard = none) (p x : Operand) (ho : o.op = .store 27 p x)
    (hp : ∀ g, ao = some ⟨g, 0, none⟩ → a.eval p = .pointer (some ⟨g, cur.length * 4, none⟩)) (hx : a.eval x = .agg #[.int .i64 y.kind, .slice s y.shape.length sc, .slice m y.nums.length mc, .slice i y.items.length ic]) (hy : ArrAt w (Tst w0 S L) y s m i)
    (h : ∀ V, Env w0 S V (L.set j (.rowA ao cap (cur ++ [y]))) → wpList Try.prog ops Q rest (a.put o.dst undef) V) : wpList Try.prog ops Q (o :: rest) a w := by
  have hrow := E.rowA j hj
  obtain ⟨g, e, hB, hc, f, hO⟩ := hrow.last (y := y) (ArrAt.mono (fun b _ hb => ⟨hb, fun q => hb.2 (mem_blks.2 ⟨_, List.mem_of_getElem? hj, by simp [Fact.blk, ← q]⟩)⟩) y hy) sc mc ic
  have C := chg_setAt4 w g (cur.length * 4) (.int .i64 y.kind) (.slice s y.shape.length sc) (.slice m y.nums.length mc) (.slice i y.items.length ic)
  have hr : rowOf ao = some g := by rw [e]; rfl
  have E' : Env w0 S (setAt4 w g (cur.length * 4) (.int .i64 y.kind) (.slice s y.shape.length sc) (.slice m y.nums.length mc) (.slice i y.items.length ic)) (L.set j (.rowA ao cap (cur ++ [y]))) := by
    refine E.turn j hj (C.below E.ext hB) (Nat.le_of_eq C.z.symm) (fun q hq hne => C.blk hq (fun e' => hne (by simp [Fact.blk, hr, e']))) (fun q hq => Or.inl (by simpa [Fact.blk] using hq)) (nodup_opt _) (OwnA.mono hO fun b _ hb => ⟨hb.1, fun q => hb.2 ?_⟩)
    obtain ⟨A, D, h1, h2⟩ := blks_set (g := .rowA ao cap (cur ++ [y])) hj
    rw [h2] at q
    rw [h1]
    exact q
  refine wpList_plain hgd fun K hK => ?_
  have := hK _ _ (h _ E')
  unfold setAt4 at this
  unfold Oper.wp execOp
  simp only [ho, hp g e, hx]
  obtain ⟨u0, d0⟩ := hc 0 (by omega)
  obtain ⟨u1, d1⟩ := hc 1 (by omega)
  obtain ⟨u2, d2⟩ := hc 2 (by omega)
  obtain ⟨u3, d3⟩ := hc 3 (by omega)
  rw [Nat.add_zero] at d0
  simp [go_sem, d0, d1, d2, d3, f]
  exact this
end
/-- where a row lies -/
theorem OwnA.at {w : World} {B : Nat} {T : Nat → Prop} {ao : Option Addr} {cap : Nat} {l : List Arr} (h : OwnA w B T ao cap l) (hl : l ≠ []) : ∃ g, ao = some ⟨g, 0, none⟩ := by
  obtain ⟨cs, h1, h2⟩ := h
  rcases h1.2 with ⟨_, hn⟩ | ⟨g, c, cur', e, hb, hgg, _⟩
  · exact absurd (List.length_eq_zero_iff.1 hn) hl
  · injection e with e1; exact ⟨g, e1⟩
end Go.Proofs.Ytdpdcjadedcglaa
namespace Go.Proofs.Ytdpdcjadedcglaa
open Go.RowKit Go.Sort
theorem size_setCells (b : Nat) : ∀ (vs : List Value) (o : Nat) (w : World), (w.setCells b o vs).heap.size = w.heap.size
  | [], _, _ => rfl
  | v :: r, o, w => by rw [World.setCells, size_setCells b r]; simp [World.setCell]
theorem chg_setCells (b : Nat) (vs : List Value) (o : Nat) (w : World) : Chg w (w.setCells b o vs) b := ⟨grown_setCells b vs o w, size_setCells b vs o w⟩
theorem IntsAt.drop {w : World} {T : Nat → Prop} {b o : Nat} {xs : List Int} (h : IntsAt w T (some ⟨b, o, none⟩) xs) (k : Nat) (hk : k < xs.length) : IntsAt w T (some ⟨b, o + k, none⟩) (xs.drop k) := by
  have hl := h.1
  refine ⟨by simp; omega, fun _ => ?_⟩
  obtain ⟨b', o', e, hT, hb, hc⟩ := h.2 (by omega)
  injection e with e; injection e with e1 e2; subst e1; subst e2
  refine ⟨b, o + k, rfl, hT, hb, fun j hj => ?_⟩
  have := hc (k + j) (by simp at hj; omega)
  rw [Nat.add_assoc]
  simpa [List.getD_eq_getElem?_getD, List.getElem?_drop] using this
section
variable {ops : Array Oper} {rest : List Oper} {o : Oper} {a : Act} {Q : Exit → Act → World → Prop} {w0 w : World} {S : Nat → Prop} {L : List Fact}
theorem wpl_copy_run (hgd : o.guard = none) (d s : Operand) (ho : o.op = .call { callee := .builtin .copy, args := #[d, s], argTypes := #[24, 24] }) (v u : Value) (hd : a.eval d = v) (hs : a.eval s = u) {v' : Value} {w' : World}
    (hr : (Builtin.copy_ #[24, 24] o.type #[v, u]).run Try.prog w = .ok v' w') (h : wpList Try.prog ops Q rest (a.put o.dst v') w') : wpList Try.prog ops Q (o :: rest) a w := by
  refine wpList_plain hgd fun K hK => ?_
  unfold Oper.wp execOp
  simp only [ho, resolve, invoke, builtin, Sem.run_bind, Sem.run_pure, Result.andThen_ok, List.map_toArray, List.map_cons, List.map_nil, hd, hs, hr]
  exact hK _ _ h
theorem wplE_copyP (E : Env w0 S w L) (j : Nat) {g n dc sc : Nat} {cur : Array Value} {T : Nat → Prop} {ys : List Int} {so : Option Addr} (hj : L[j]? = some (.obj g (.cells cur 3 (0, 0)))) (hc : cur.size = n) (hgd : o.guard = none) (d s : Operand)
    (ho : o.op = .call { callee := .builtin .copy, args := #[d, s], argTypes := #[24, 24] }) (hd : a.eval d = .slice (some ⟨g, 0, none⟩) n dc) (hs : a.eval s = .slice so ys.length sc) (hy : IntsAt w T so ys) (hn : n ≤ ys.length)
    (h : ∀ V, Env w0 S V (L.set j (.obj g (.cells ((ys.take n).map (Value.int .i64)).toArray 3 (0, 0)))) → wpList Try.prog ops Q rest (a.put o.dst (.int .i64 (n : Int))) V) : wpList Try.prog ops Q (o :: rest) a w := by
  have hg := E.obj j hj
  by_cases n0 : n = 0
  · subst n0
    have hcur : cur = ((ys.take 0).map (Value.int .i64)).toArray := by simpa using hc
    refine wpl_copy_run hgd d s ho _ _ hd hs (run_copy_none w _ _ _ 3 _ _ _ _ _ _ Try.underlying24 (by kernel_rfl) (by simp)) ?_
    refine h w ?_
    rw [← hcur]
    have : L.set j (.obj g (.cells cur 3 (0, 0))) = L := by
      apply List.ext_getElem?
      intro q
      rw [List.getElem?_set]
      split
      · rename_i e; subst e; rw [hj]; simp [(List.getElem?_eq_some_iff.1 hj).1]
      · rfl
    rw [this]; exact E
  · obtain ⟨b, off, e, hT, hb, hcell⟩ := hy.2 (by omega)
    subst e
    have hlen : ((ys.take n).map (Value.int .i64)).length = n := by simp; omega
    have hr := run_copy_cells (P := Try.prog) w 24 24 o.type 3 g 0 n dc ⟨b, off, none⟩ ys.length sc ((ys.take n).map (Value.int .i64)) Try.underlying24 (by kernel_rfl) (by rw [hlen]; simp only [Nat.min_def]; split <;> omega)
      (fun k v hk => by
        rw [Addr.add_lit]
        rw [List.getElem?_map, List.getElem?_take] at hk
        split at hk
        · rename_i hk2
          have := hcell k (by omega)
          rw [this]
          simp only [List.getD_eq_getElem?_getD]
          cases hq : ys[k]? with
          | none => rw [hq] at hk; simp at hk
          | some q => rw [hq] at hk; simpa using hk
        · simp at hk)
      (fun k hk => by rw [Nat.zero_add, cell_of_row w g k _ _ _ hg]; rw [hlen] at hk; simp [hc, hk])
      (fun k hk => by rw [Nat.zero_add]; exact frozen_of_row w g k _ _ hg) (fun v hv => by rw [List.mem_map] at hv; obtain ⟨q, _, rfl⟩ := hv; rfl)
    rw [hlen] at hr
    refine wpl_copy_run hgd d s ho _ _ hd hs hr ?_
    have hrow := row_setCells g 3 ((ys.take n).map (Value.int .i64)) 0 cur w hg
    have hl := putFrom_list ((ys.take n).map (Value.int .i64)) 0 cur (by rw [hlen, hc]; omega)
    have hp : putFrom cur 0 ((ys.take n).map (Value.int .i64)) = ((ys.take n).map (Value.int .i64)).toArray := by
      apply Array.ext'
      rw [hl, List.take_zero, List.nil_append, Nat.zero_add, hlen, List.drop_of_length_le (by simp [hc]), List.append_nil]
    rw [hp] at hrow
    exact h _ (E.chg j hj (chg_setCells g _ 0 w) hrow)
/-- a row that is filled is only read from now on -/
theorem Env.filled (E : Env w0 S w L) (j : Nat) {g : Nat} {xs : List Int} (hj : L[j]? = some (.obj g (.cells (xs.map (Value.int .i64)).toArray 3 (0, 0)))) (hl : xs.length ≤ 17592186044416) : Env w0 S w (L.set j (.ints xs (some ⟨g, 0, none⟩))) :=
  E.freeze j hj rfl (row_ints (E.obj j hj) hl (Or.inr (by simp [Fact.blk])))
end
end Go.Proofs.Ytdpdcjadedcglaa
