/- What a walk knows of memory, as one list of facts: variables of the call's own, rows that it appends to, and what is only read. Conditions: those of each lemma. -/
import Derived.Test.YtkbbdlibamcilaaBLD
import Derived.Test.YtkbbdlibamcilaaEDGE
import Derived.Test.YtkbbdlibamcilaaROT
import Derived.Test.YtkbbdlibamcilaaREF19
set_option linter.unusedVariables false
set_option linter.unusedSimpArgs false
namespace Go.Proofs.Ytkbbdlibamcilaa
open Go.RowKit
inductive Fact where
  | obj (b : Nat) (o : Obj)
  | arr (a : Arr) (sa na ia : Option Addr)
  | ints (xs : List Int) (ao : Option Addr)
  | items (l : List Arr) (ia : Option Addr)
  | rowI (ao : Option Addr) (cap : Nat) (xs : List Int)
  | rowA (ao : Option Addr) (cap : Nat) (l : List Arr)
  | arrF (a : Arr) (sa na ia : Option Addr)
  | intsF (xs : List Int) (ao : Option Addr)
  | itemsF (l : List Arr) (ia : Option Addr)
  | rowAF (ao : Option Addr) (cap : Nat) (l : List Arr)
def Fact.blk : Fact → List Nat
  | obj b _ => [b]
  | rowI ao _ _ => (rowOf ao).toList
  | rowA ao _ _ => (rowOf ao).toList
  | rowAF ao _ _ => (rowOf ao).toList
  | _ => []
def Fact.holds (B : Nat) (T : Nat → Prop) (w : World) : Fact → Prop
  | obj b o => w.heap[b]? = some o
  | arr a sa na ia => ArrAt w T a sa na ia
  | ints xs ao => IntsAt w T ao xs
  | items l ia => ItemsAt w T ia 0 l
  | rowI ao cap xs => OwnI w B ao cap xs
  | rowA ao cap l => OwnA w B T ao cap l
  | arrF a sa na ia => ArrAt w (fun b => T b ∧ B ≤ b) a sa na ia
  | intsF xs ao => IntsAt w (fun b => T b ∧ B ≤ b) ao xs
  | itemsF l ia => ItemsAt w (fun b => T b ∧ B ≤ b) ia 0 l
  | rowAF ao cap l => OwnA w B (fun b => T b ∧ B ≤ b) ao cap l
def blks : List Fact → List Nat
  | [] => []
  | f :: L => f.blk ++ blks L
theorem blks_append (L M : List Fact) : blks (L ++ M) = blks L ++ blks M := by
  induction L with
  | nil => rfl
  | cons f L ih => simp [blks, ih]
theorem mem_blks {L : List Fact} {b : Nat} : b ∈ blks L ↔ ∃ f ∈ L, b ∈ f.blk := by
  induction L with
  | nil => simp [blks]
  | cons f L ih => simp [blks, ih]
/-- what is only read: it came in, or is new; and it is no variable and no row in progress -/
def Tst (w0 : World) (S : Nat → Prop) (L : List Fact) (b : Nat) : Prop := (S b ∨ w0.heap.size ≤ b) ∧ b ∉ blks L
structure Env (w0 : World) (S : Nat → Prop) (w : World) (L : List Fact) : Prop where
  ext : Below w0.heap.size w0 w
  nd : (blks L).Nodup
  lo : ∀ b ∈ blks L, w0.heap.size ≤ b ∧ b < w.heap.size
  h : ∀ f ∈ L, f.holds w0.heap.size (Tst w0 S L) w
section
variable {w0 w w' V : World} {S : Nat → Prop} {L : List Fact}
theorem ArrAt.turn {T T' : Nat → Prop} {a : Arr} {sa na ia : Option Addr} (h : ArrAt w T a sa na ia) (hk : ∀ b, T b → b < w.heap.size → w'.heap[b]? = w.heap[b]?) (hT : ∀ b, b < w.heap.size → T b → T' b) : ArrAt w' T' a sa na ia :=
  ArrAt.mono (fun b _ hs => hs.2) a (ArrAt.keep (fun b hb hlt => hk b hb.1 hlt) a (ArrAt.mono (T := fun b => T b ∧ T' b) (fun b hlt hs => ⟨hs, hT b hlt hs⟩) a h))
theorem IntsAt.turn {T T' : Nat → Prop} {xs : List Int} {ao : Option Addr} (h : IntsAt w T ao xs) (hk : ∀ b, T b → b < w.heap.size → w'.heap[b]? = w.heap[b]?) (hT : ∀ b, b < w.heap.size → T b → T' b) : IntsAt w' T' ao xs :=
  (IntsAt.keep (IntsAt.mono (T := fun b => T b ∧ T' b) h (fun b hlt hs => ⟨hs, hT b hlt hs⟩)) (fun b hb hlt => hk b hb.1 hlt)).mono fun b _ hs => hs.2
theorem ItemsAt.turn {T T' : Nat → Prop} {l : List Arr} {ia : Option Addr} (h : ItemsAt w T ia 0 l) (hk : ∀ b, T b → b < w.heap.size → w'.heap[b]? = w.heap[b]?) (hT : ∀ b, b < w.heap.size → T b → T' b) : ItemsAt w' T' ia 0 l :=
  (ItemsAt.keep (ItemsAt.mono (T := fun b => T b ∧ T' b) h (fun b hlt hs => ⟨hs, hT b hlt hs⟩)) (fun b hb hlt => hk b hb.1 hlt)).mono fun b _ hs => hs.2
theorem OwnA.turn {B : Nat} {T T' : Nat → Prop} {ao : Option Addr} {cap : Nat} {l : List Arr} (h : OwnA w B T ao cap l) (hr : ∀ k, rowOf ao = some k → w'.heap[k]? = w.heap[k]?) (hk : ∀ b, T b → b < w.heap.size → w'.heap[b]? = w.heap[b]?) (hT : ∀ b, b < w.heap.size → T b → T' b) : OwnA w' B T' ao cap l :=
  (OwnA.keep (OwnA.mono (T := fun b => T b ∧ T' b) h (fun b hlt hs => ⟨hs, hT b hlt hs⟩)) hr (fun b hb hlt => hk b hb.1 hlt)).mono fun b _ hs => hs.2
theorem Fact.keep {B : Nat} {T T' : Nat → Prop} {f : Fact} (h : f.holds B T w) (hb : ∀ b ∈ f.blk, w'.heap[b]? = w.heap[b]?) (hk : ∀ b, T b → b < w.heap.size → w'.heap[b]? = w.heap[b]?) (hT : ∀ b, b < w.heap.size → T b → T' b) : f.holds B T' w' := by
  cases f with
  | obj b o => exact (hb b (by simp [Fact.blk])).trans h
  | arr a sa na ia => exact ArrAt.turn h hk hT
  | ints xs ao => exact IntsAt.turn h hk hT
  | items l ia => exact ItemsAt.turn h hk hT
  | rowI ao cap xs => exact OwnI.keep h fun k hk' => hb k (by simp [Fact.blk, hk'])
  | rowA ao cap l => exact OwnA.turn h (fun k hk' => hb k (by simp [Fact.blk, hk'])) hk hT
  | arrF a sa na ia => exact ArrAt.turn h (fun b hb => hk b hb.1) (fun b hlt hb => ⟨hT b hlt hb.1, hb.2⟩)
  | intsF xs ao => exact IntsAt.turn h (fun b hb => hk b hb.1) (fun b hlt hb => ⟨hT b hlt hb.1, hb.2⟩)
  | itemsF l ia => exact ItemsAt.turn h (fun b hb => hk b hb.1) (fun b hlt hb => ⟨hT b hlt hb.1, hb.2⟩)
  | rowAF ao cap l => exact OwnA.turn h (fun k hk' => hb k (by simp [Fact.blk, hk'])) (fun b hb => hk b hb.1) (fun b hlt hb => ⟨hT b hlt hb.1, hb.2⟩)
theorem Env.start (w : World) (S : Nat → Prop) : Env w S w [] := ⟨Below.refl _ _, by simp [blks], by simp [blks], by simp⟩
theorem Env.up (E : Env w0 S w L) (e : Ext w w') : Env w0 S w' L :=
  ⟨E.ext.trans (Below.mono e E.ext.size), E.nd, fun b hb => ⟨(E.lo b hb).1, Nat.lt_of_lt_of_le (E.lo b hb).2 e.size⟩, fun f hf => Fact.keep (E.h f hf) (fun b hb => e.block b (E.lo b (mem_blks.2 ⟨f, hf, hb⟩)).2) (fun b _ hlt => e.block b hlt) (fun _ _ h => h)⟩
theorem Env.size (E : Env w0 S w L) : w0.heap.size ≤ w.heap.size := E.ext.size
/-- a new object -/
theorem Env.alloc (E : Env w0 S w L) (o : Obj) : Env w0 S (w.alloc o) (L ++ [.obj w.heap.size o]) := by
  have E' := E.up (ext_alloc w o)
  have hb : blks (L ++ [.obj w.heap.size o]) = blks L ++ [w.heap.size] := by rw [blks_append]; rfl
  refine ⟨E'.ext, ?_, ?_, ?_⟩
  · rw [hb, List.nodup_append]
    refine ⟨E.nd, by simp, fun a ha b hb' => ?_⟩
    have := (E.lo a ha).2
    simp at hb'
    omega
  · intro b h
    rw [hb, List.mem_append] at h
    rcases h with h | h
    · exact E'.lo b h
    · simp at h; subst h; exact ⟨E.size, by simp⟩
  · intro f hf
    rw [List.mem_append] at hf
    rcases hf with hf | hf
    · refine Fact.keep (E.h f hf) (fun b hb => Below.heap_alloc w o b (E.lo b (mem_blks.2 ⟨f, hf, hb⟩)).2) (fun b _ hlt => Below.heap_alloc w o b hlt) (fun b hlt h => ?_)
      refine ⟨h.1, ?_⟩
      rw [hb, List.mem_append]
      rintro (h' | h')
      · exact h.2 h'
      · simp at h'; omega
    · simp at hf; subst hf
      exact heap_alloc_new w o
theorem Env.new (E : Env w0 S w L) {o : Obj} (h : w.alloc o = w') : Env w0 S w' (L ++ [.obj w.heap.size o]) := by subst h; exact E.alloc o
/-- an object that a region has made: u the world ahead of its making -/
theorem Env.made {u : World} {o : Obj} (E : Env w0 S w L) (e0 : Ext w u) (e : Ext (u.alloc o) w') (ew : Ext w w') : Env w0 S w' (L ++ [.obj u.heap.size o]) := by
  have E' := E.up ew
  have hb : blks (L ++ [.obj u.heap.size o]) = blks L ++ [u.heap.size] := by rw [blks_append]; rfl
  have hz := Below.size e0
  refine ⟨E'.ext, ?_, ?_, ?_⟩
  · rw [hb, List.nodup_append]
    refine ⟨E.nd, by simp, fun a ha b hb' => ?_⟩
    have := (E.lo a ha).2
    simp at hb'
    omega
  · intro b h
    rw [hb, List.mem_append] at h
    rcases h with h | h
    · exact E'.lo b h
    · simp at h; subst h; exact ⟨Nat.le_trans E.size hz, made_lt e⟩
  · intro f hf
    rw [List.mem_append] at hf
    rcases hf with hf | hf
    · have := Fact.keep (E.h f hf) (w' := w) (T' := Tst w0 S (L ++ [.obj u.heap.size o])) (fun _ _ => rfl) (fun _ _ _ => rfl) (fun b hlt h => by
        refine ⟨h.1, ?_⟩
        rw [hb, List.mem_append]
        rintro (h' | h')
        · exact h.2 h'
        · simp at h'; omega)
      exact Fact.keep this (fun b hb => ew.block b (E.lo b (mem_blks.2 ⟨f, hf, hb⟩)).2) (fun b _ hlt => ew.block b hlt) (fun _ _ h => h)
    · simp at hf; subst hf
      exact made_blk e
theorem Env.add (E : Env w0 S w L) {f : Fact} (hb : f.blk = []) (h : f.holds w0.heap.size (Tst w0 S L) w) : Env w0 S w (L ++ [f]) := by
  have hb' : blks (L ++ [f]) = blks L := by rw [blks_append]; simp [blks, hb]
  refine ⟨E.ext, by rw [hb']; exact E.nd, by rw [hb']; exact E.lo, fun g hg => ?_⟩
  unfold Tst
  rw [hb']
  rw [List.mem_append] at hg
  rcases hg with hg | hg
  · exact E.h g hg
  · simp at hg; subst hg; exact h
theorem Env.addArr (E : Env w0 S w L) {T : Nat → Prop} {a : Arr} {sa na ia : Option Addr} (h : ArrAt w T a sa na ia) (hS : ∀ b, b < w.heap.size → T b → Tst w0 S L b) : Env w0 S w (L ++ [.arr a sa na ia]) := E.add rfl (ArrAt.mono hS a h)
theorem Env.addInts (E : Env w0 S w L) {T : Nat → Prop} {xs : List Int} {ao : Option Addr} (h : IntsAt w T ao xs) (hS : ∀ b, b < w.heap.size → T b → Tst w0 S L b) : Env w0 S w (L ++ [.ints xs ao]) := E.add rfl (IntsAt.mono h hS)
theorem Env.addItems (E : Env w0 S w L) {T : Nat → Prop} {l : List Arr} {ia : Option Addr} (h : ItemsAt w T ia 0 l) (hS : ∀ b, b < w.heap.size → T b → Tst w0 S L b) : Env w0 S w (L ++ [.items l ia]) := E.add rfl (ItemsAt.mono h hS)
theorem Env.addArrF (E : Env w0 S w L) {u : World} {a : Arr} {sa na ia : Option Addr} (h : ArrAt w (fun b => u.heap.size ≤ b) a sa na ia) (hb : ∀ b ∈ blks L, b < u.heap.size) (hu : w0.heap.size ≤ u.heap.size) : Env w0 S w (L ++ [.arrF a sa na ia]) :=
  E.add rfl (ArrAt.mono (fun b _ hs => ⟨⟨Or.inr (Nat.le_trans hu hs), fun q => absurd (hb b q) (by omega)⟩, Nat.le_trans hu hs⟩) a h)
theorem Env.addIntsF (E : Env w0 S w L) {u : World} {xs : List Int} {ao : Option Addr} (h : IntsAt w (fun b => u.heap.size ≤ b) ao xs) (hb : ∀ b ∈ blks L, b < u.heap.size) (hu : w0.heap.size ≤ u.heap.size) : Env w0 S w (L ++ [.intsF xs ao]) :=
  E.add rfl (h.mono (fun b _ hs => ⟨⟨Or.inr (Nat.le_trans hu hs), fun q => absurd (hb b q) (by omega)⟩, Nat.le_trans hu hs⟩))
theorem Env.blt (E : Env w0 S w L) : ∀ b ∈ blks L, b < w.heap.size := fun b hb => (E.lo b hb).2
/-- what lies in new blocks is no variable -/
theorem Env.fresh {u : World} (E : Env w0 S w L) (e : Ext w u) {b : Nat} (h : u.heap.size ≤ b) : Tst w0 S L b := ⟨Or.inr (by have := E.size; have := Below.size e; omega), fun hb => by have := (E.lo b hb).2; have := Below.size e; omega⟩
theorem Env.res {u : World} (E : Env w0 S w L) (e : Ext w u) {b : Nat} (h : Tst w0 S L b ∨ u.heap.size ≤ b) : Tst w0 S L b := h.elim id (E.fresh e)
/-- what came in is no variable -/
theorem Env.old (E : Env w0 S w L) {b : Nat} (h : S b ∧ b < w0.heap.size) : Tst w0 S L b := ⟨Or.inl h.1, fun hb => by have := (E.lo b hb).1; omega⟩
theorem Env.arg (E : Env w0 S w L) {a : Arr} {sa na ia : Option Addr} (h : ArrAt w0 S a sa na ia) : Env w0 S w (L ++ [.arr a sa na ia]) :=
  E.addArr ((ArrAt.mono (T := fun b => S b ∧ b < w0.heap.size) (fun b hb hs => ⟨hs, hb⟩) a h).below E.ext fun b _ hb => hb.2) fun b _ hb => E.old hb
theorem Env.argI (E : Env w0 S w L) {xs : List Int} {ao : Option Addr} (h : IntsAt w0 S ao xs) : Env w0 S w (L ++ [.ints xs ao]) :=
  E.addInts ((IntsAt.mono (T := fun b => S b ∧ b < w0.heap.size) h (fun b hb hs => ⟨hs, hb⟩)).below E.ext fun b _ hb => hb.2) fun b _ hb => E.old hb
theorem Env.argL (E : Env w0 S w L) {l : List Arr} {ia : Option Addr} (h : ItemsAt w0 S ia 0 l) : Env w0 S w (L ++ [.items l ia]) :=
  E.addItems ((ItemsAt.mono (T := fun b => S b ∧ b < w0.heap.size) h (fun b hb hs => ⟨hs, hb⟩)).below E.ext fun b _ hb => hb.2) fun b _ hb => E.old hb
theorem Env.row0I (E : Env w0 S w L) : Env w0 S w (L ++ [.rowI none 0 []]) := E.add rfl (OwnI.nil _ _)
theorem Env.row0AF (E : Env w0 S w L) : Env w0 S w (L ++ [.rowAF none 0 []]) := E.add rfl (OwnA.nil _ _ _)
theorem Env.row0A (E : Env w0 S w L) : Env w0 S w (L ++ [.rowA none 0 []]) := E.add rfl (OwnA.nil _ _ _)
theorem Env.get (E : Env w0 S w L) (j : Nat) {f : Fact} (h : L[j]? = some f) : f.holds w0.heap.size (Tst w0 S L) w := E.h f (List.mem_of_getElem? h)
theorem Env.hdr (E : Env w0 S w L) (j : Nat) {b : Nat} {k s n i : Value} (h : L[j]? = some (.obj b (.cells #[k, s, n, i] 26 (0, 0)))) : Hdr w b k s n i := E.get j h
theorem Env.obj (E : Env w0 S w L) (j : Nat) {b : Nat} {o : Obj} (h : L[j]? = some (.obj b o)) : w.heap[b]? = some o := E.get j h
theorem Env.arr (E : Env w0 S w L) (j : Nat) {a : Arr} {sa na ia : Option Addr} (h : L[j]? = some (.arr a sa na ia)) : ArrAt w (Tst w0 S L) a sa na ia := E.get j h
theorem Env.ints (E : Env w0 S w L) (j : Nat) {xs : List Int} {ao : Option Addr} (h : L[j]? = some (.ints xs ao)) : IntsAt w (Tst w0 S L) ao xs := E.get j h
theorem Env.items (E : Env w0 S w L) (j : Nat) {l : List Arr} {ia : Option Addr} (h : L[j]? = some (.items l ia)) : ItemsAt w (Tst w0 S L) ia 0 l := E.get j h
theorem Env.rowI (E : Env w0 S w L) (j : Nat) {ao : Option Addr} {cap : Nat} {xs : List Int} (h : L[j]? = some (.rowI ao cap xs)) : OwnI w w0.heap.size ao cap xs := E.get j h
theorem Env.rowA (E : Env w0 S w L) (j : Nat) {ao : Option Addr} {cap : Nat} {l : List Arr} (h : L[j]? = some (.rowA ao cap l)) : OwnA w w0.heap.size (Tst w0 S L) ao cap l := E.get j h
theorem Env.arrF (E : Env w0 S w L) (j : Nat) {a : Arr} {sa na ia : Option Addr} (h : L[j]? = some (.arrF a sa na ia)) : ArrAt w (fun b => Tst w0 S L b ∧ w0.heap.size ≤ b) a sa na ia := E.get j h
theorem Env.intsF (E : Env w0 S w L) (j : Nat) {xs : List Int} {ao : Option Addr} (h : L[j]? = some (.intsF xs ao)) : IntsAt w (fun b => Tst w0 S L b ∧ w0.heap.size ≤ b) ao xs := E.get j h
theorem Env.itemsF (E : Env w0 S w L) (j : Nat) {l : List Arr} {ia : Option Addr} (h : L[j]? = some (.itemsF l ia)) : ItemsAt w (fun b => Tst w0 S L b ∧ w0.heap.size ≤ b) ia 0 l := E.get j h
theorem Env.rowAF (E : Env w0 S w L) (j : Nat) {ao : Option Addr} {cap : Nat} {l : List Arr} (h : L[j]? = some (.rowAF ao cap l)) : OwnA w w0.heap.size (fun b => Tst w0 S L b ∧ w0.heap.size ≤ b) ao cap l := E.get j h
theorem Env.lt (E : Env w0 S w L) (j : Nat) {b : Nat} {o : Obj} (h : L[j]? = some (.obj b o)) : w0.heap.size ≤ b ∧ b < w.heap.size := E.lo b (mem_blks.2 ⟨_, List.mem_of_getElem? h, by simp [Fact.blk]⟩)
/-- a row in progress, only read -/
theorem Env.rowIr (E : Env w0 S w L) (j : Nat) {ao : Option Addr} {cap : Nat} {xs : List Int} (h : L[j]? = some (.rowI ao cap xs)) (hl : xs.length ≤ 17592186044416) : IntsAt w (fun _ => True) ao xs := ((E.rowI j h).ints hl).mono fun _ _ _ => trivial
theorem Env.rowAr (E : Env w0 S w L) (j : Nat) {ao : Option Addr} {cap : Nat} {l : List Arr} (h : L[j]? = some (.rowA ao cap l)) : ItemsAt w (fun _ => True) ao 0 l := ((E.rowA j h).items).mono fun _ _ _ => trivial
theorem blks_set {L : List Fact} {j : Nat} {f g : Fact} (h : L[j]? = some f) : ∃ A C, blks L = A ++ f.blk ++ C ∧ blks (L.set j g) = A ++ g.blk ++ C := by
  induction L generalizing j with
  | nil => simp at h
  | cons x L ih =>
    cases j with
    | zero => simp at h; subst h; exact ⟨[], blks L, by simp [blks], by simp [blks]⟩
    | succ j =>
      obtain ⟨A, C, h1, h2⟩ := ih (j := j) (by simpa using h)
      exact ⟨x.blk ++ A, C, by simp [blks, h1], by simp [blks, h2]⟩
theorem mem_set_ne {L : List Fact} {j : Nat} {f g : Fact} (h : g ∈ L.set j f) : g = f ∨ ∃ i, i ≠ j ∧ L[i]? = some g := by
  obtain ⟨i, hi⟩ := List.mem_iff_getElem?.1 h
  by_cases e : j = i
  · subst e
    rw [List.getElem?_set] at hi
    simp at hi
    exact Or.inl hi.2.symm
  · rw [List.getElem?_set_ne e] at hi
    exact Or.inr ⟨i, fun h => e h.symm, hi⟩
theorem nd_apart {L : List Fact} (hnd : (blks L).Nodup) {i j : Nat} {f g : Fact} (hi : L[i]? = some f) (hj : L[j]? = some g) (hne : i ≠ j) {b : Nat} (hf : b ∈ f.blk) (hg : b ∈ g.blk) : False := by
  induction L generalizing i j with
  | nil => simp at hi
  | cons x L ih =>
    simp only [blks, List.nodup_append] at hnd
    cases i with
    | zero =>
      cases j with
      | zero => exact hne rfl
      | succ j =>
        simp at hi hj; subst hi
        exact hnd.2.2 b hf b (mem_blks.2 ⟨g, List.mem_of_getElem? hj, hg⟩) rfl
    | succ i =>
      cases j with
      | zero =>
        simp at hi hj; subst hj
        exact hnd.2.2 b hg b (mem_blks.2 ⟨f, List.mem_of_getElem? hi, hf⟩) rfl
      | succ j => exact ih hnd.2.1 (by simpa using hi) (by simpa using hj) (by omega)
/-- one fact turns: all blocks but those of the fact's old and new one are as they were, and the new one's blocks are old ones or new -/
theorem Env.turn (E : Env w0 S w L) (j : Nat) {f g : Fact} (h : L[j]? = some f) (hlow : Below w0.heap.size w0 V) (hsz : w.heap.size ≤ V.heap.size) (hblk : ∀ b, b < w.heap.size → b ∉ f.blk → V.heap[b]? = w.heap[b]?) (hnew : ∀ b ∈ g.blk, b ∈ f.blk ∨ (w.heap.size ≤ b ∧ b < V.heap.size)) (hgn : g.blk.Nodup)
    (hg : g.holds w0.heap.size (Tst w0 S (L.set j g)) V) : Env w0 S V (L.set j g) := by
  obtain ⟨A, C, h1, h2⟩ := blks_set (g := g) h
  have hlo := E.lo
  have hnd := E.nd
  rw [h1] at hlo hnd
  have hsub : ∀ b ∈ blks (L.set j g), b ∈ blks L ∨ (w.heap.size ≤ b ∧ b < V.heap.size) := by
    intro b hb
    rw [h2] at hb
    rw [h1]
    simp only [List.mem_append] at hb ⊢
    rcases hb with (hb | hb) | hb
    · exact Or.inl (Or.inl (Or.inl hb))
    · rcases hnew b hb with h' | h'
      · exact Or.inl (Or.inl (Or.inr h'))
      · exact Or.inr h'
    · exact Or.inl (Or.inr hb)
  refine ⟨hlow, ?_, ?_, ?_⟩
  · rw [h2]
    rw [List.nodup_append, List.nodup_append] at hnd ⊢
    obtain ⟨⟨hA, hf, hAf⟩, hC, hAC⟩ := hnd
    have hltA : ∀ a ∈ A, a < w.heap.size := fun a ha => (hlo a (by simp [ha])).2
    have hltC : ∀ a ∈ C, a < w.heap.size := fun a ha => (hlo a (by simp [ha])).2
    refine ⟨⟨hA, hgn, fun a ha b hb => ?_⟩, hC, fun a ha b hb => ?_⟩
    · rcases hnew b hb with h' | h'
      · exact hAf a ha b h'
      · have := hltA a ha; omega
    · rw [List.mem_append] at ha
      rcases ha with ha | ha
      · exact hAC a (by simp [ha]) b hb
      · rcases hnew a ha with h' | h'
        · exact hAC a (by simp [h']) b hb
        · have := hltC b hb; omega
  · intro b hb
    rcases hsub b hb with h' | h'
    · have := E.lo b h'; omega
    · have := E.size; omega
  · intro q hq
    rcases mem_set_ne hq with rfl | ⟨i, hne, hi⟩
    · exact hg
    · have hq' := E.h q (List.mem_of_getElem? hi)
      refine Fact.keep (T := Tst w0 S L) hq' (fun b hb => hblk b (E.lo b (mem_blks.2 ⟨q, List.mem_of_getElem? hi, hb⟩)).2 (fun hf => nd_apart E.nd hi h hne hb hf)) (fun b hb hlt => hblk b hlt (fun hf => hb.2 (mem_blks.2 ⟨f, List.mem_of_getElem? h, hf⟩))) (fun b hlt hb => ⟨hb.1, fun hb' => ?_⟩)
      rcases hsub b hb' with h' | h'
      · exact hb.2 h'
      · omega
/-- a variable is written -/
theorem Env.chg (E : Env w0 S w L) (j : Nat) {b : Nat} {o o' : Obj} (h : L[j]? = some (.obj b o)) (C : Chg w V b) (hV : V.heap[b]? = some o') : Env w0 S V (L.set j (.obj b o')) :=
  E.turn j h (C.below E.ext (E.lt j h).1) (Nat.le_of_eq C.z.symm) (fun q hq hne => C.blk hq (fun e => hne (by simp [Fact.blk, e]))) (fun q hq => Or.inl (by simpa [Fact.blk] using hq)) (by simp [Fact.blk]) hV
theorem nodup_opt (o : Option Nat) : o.toList.Nodup := by cases o <;> simp
/-- numbers are appended -/
theorem Env.appI (E : Env w0 S w L) (j : Nat) {ao ao' : Option Addr} {cap cap' : Nat} {xs xs' : List Int} (h : L[j]? = some (.rowI ao cap xs)) (hown : OwnI V w0.heap.size ao' cap' xs') (hg : w.grownBy V (rowOf ao)) (hr : rowOf ao' = rowOf ao ∨ rowOf ao' = some w.heap.size) : Env w0 S V (L.set j (.rowI ao' cap' xs')) := by
  have hrow := (E.rowI j h).row
  refine E.turn j h (E.ext.grown hg E.size (fun k hk => (hrow k hk).1)) hg.size (fun b hb hne => hg.block b hb (fun e => hne (by simp [Fact.blk, ← e]))) (fun b hb => ?_) (nodup_opt _) hown
  simp only [Fact.blk, Option.mem_toList, Option.mem_def] at hb ⊢
  rcases hr with e | e
  · exact Or.inl (e ▸ hb)
  · rw [e] at hb; injection hb with hb; subst hb
    exact Or.inr ⟨Nat.le_refl _, (hown.row _ e).2⟩
theorem Env.appA (E : Env w0 S w L) (j : Nat) {T : Nat → Prop} {ao ao' : Option Addr} {cap cap' : Nat} {l l' : List Arr} (h : L[j]? = some (.rowA ao cap l)) (hown : OwnA V w0.heap.size T ao' cap' l') (hS : ∀ b, b < V.heap.size → T b → Tst w0 S L b ∧ b < w.heap.size) (hg : w.grownBy V (rowOf ao)) (hr : rowOf ao' = rowOf ao ∨ rowOf ao' = some w.heap.size) : Env w0 S V (L.set j (.rowA ao' cap' l')) := by
  have hrow := (E.rowA j h).row
  have hnew : ∀ b ∈ (Fact.rowA ao' cap' l').blk, b ∈ (Fact.rowA ao cap l).blk ∨ (w.heap.size ≤ b ∧ b < V.heap.size) := fun b hb => by
    simp only [Fact.blk, Option.mem_toList, Option.mem_def] at hb ⊢
    rcases hr with e | e
    · exact Or.inl (e ▸ hb)
    · rw [e] at hb; injection hb with hb; subst hb
      exact Or.inr ⟨Nat.le_refl _, (hown.row _ e).2⟩
  refine E.turn j h (E.ext.grown hg E.size (fun k hk => (hrow k hk).1)) hg.size (fun b hb hne => hg.block b hb (fun e => hne (by simp [Fact.blk, ← e]))) hnew (nodup_opt _) (OwnA.mono hown fun b hlt hs => ⟨(hS b hlt hs).1.1, fun hb => ?_⟩)
  obtain ⟨A, C, h1, h2⟩ := blks_set (g := .rowA ao' cap' l') h
  obtain ⟨⟨_, hn⟩, hl⟩ := hS b hlt hs
  rw [h2] at hb
  rw [h1] at hn
  simp only [List.mem_append] at hb hn
  rcases hb with (hb | hb) | hb
  · exact hn (Or.inl (Or.inl hb))
  · rcases hnew b hb with h' | h'
    · exact hn (Or.inl (Or.inr h'))
    · omega
  · exact hn (Or.inr hb)
theorem Env.appAF (E : Env w0 S w L) (j : Nat) {T : Nat → Prop} {ao ao' : Option Addr} {cap cap' : Nat} {l l' : List Arr} (h : L[j]? = some (.rowAF ao cap l)) (hown : OwnA V w0.heap.size T ao' cap' l') (hS : ∀ b, b < V.heap.size → T b → (Tst w0 S L b ∧ w0.heap.size ≤ b) ∧ b < w.heap.size) (hg : w.grownBy V (rowOf ao)) (hr : rowOf ao' = rowOf ao ∨ rowOf ao' = some w.heap.size) : Env w0 S V (L.set j (.rowAF ao' cap' l')) := by
  have hrow := (E.rowAF j h).row
  have hnew : ∀ b ∈ (Fact.rowAF ao' cap' l').blk, b ∈ (Fact.rowAF ao cap l).blk ∨ (w.heap.size ≤ b ∧ b < V.heap.size) := fun b hb => by
    simp only [Fact.blk, Option.mem_toList, Option.mem_def] at hb ⊢
    rcases hr with e | e
    · exact Or.inl (e ▸ hb)
    · rw [e] at hb; injection hb with hb; subst hb
      exact Or.inr ⟨Nat.le_refl _, (hown.row _ e).2⟩
  refine E.turn j h (E.ext.grown hg E.size (fun k hk => (hrow k hk).1)) hg.size (fun b hb hne => hg.block b hb (fun e => hne (by simp [Fact.blk, ← e]))) hnew (nodup_opt _) (OwnA.mono hown fun b hlt hs => ⟨⟨(hS b hlt hs).1.1.1, fun hb => ?_⟩, (hS b hlt hs).1.2⟩)
  obtain ⟨A, C, h1, h2⟩ := blks_set (g := .rowAF ao' cap' l') h
  obtain ⟨⟨⟨_, hn⟩, _⟩, hl⟩ := hS b hlt hs
  rw [h2] at hb
  rw [h1] at hn
  simp only [List.mem_append] at hb hn
  rcases hb with (hb | hb) | hb
  · exact hn (Or.inl (Or.inl hb))
  · rcases hnew b hb with h' | h'
    · exact hn (Or.inl (Or.inr h'))
    · omega
  · exact hn (Or.inr hb)
/-- fewer facts -/
theorem blks_sub {L M : List Fact} (h : List.Sublist M L) : List.Sublist (blks M) (blks L) := by
  induction h with
  | slnil => exact List.Sublist.slnil
  | cons a _ ih => simp only [blks]; exact ih.trans (List.sublist_append_right _ _)
  | cons_cons a _ ih => simp only [blks]; exact List.Sublist.append (List.Sublist.refl _) ih
theorem Env.sub (E : Env w0 S w L) {M : List Fact} (h : List.Sublist M L) : Env w0 S w M := by
  have hs := blks_sub h
  exact ⟨E.ext, List.Nodup.sublist hs E.nd, fun b hb => E.lo b (hs.subset hb), fun f hf => Fact.keep (E.h f (h.subset hf)) (fun _ _ => rfl) (fun _ _ _ => rfl) (fun b _ hb => ⟨hb.1, fun hb' => hb.2 (hs.subset hb')⟩)⟩
/-- a row is done -/
theorem Env.freeze (E : Env w0 S w L) (j : Nat) {f g : Fact} (h : L[j]? = some f) (hb : g.blk = []) (hg : g.holds w0.heap.size (fun b => Tst w0 S L b ∨ b ∈ f.blk) w) : Env w0 S w (L.set j g) := by
  obtain ⟨A, C, h1, h2⟩ := blks_set (g := g) h
  rw [hb] at h2
  have hnd := E.nd
  rw [h1, List.nodup_append, List.nodup_append] at hnd
  obtain ⟨⟨hA, hf, hAf⟩, hC, hAC⟩ := hnd
  refine E.turn j h E.ext (Nat.le_refl _) (fun _ _ _ => rfl) (fun b hb' => by rw [hb] at hb'; simp at hb') (by rw [hb]; simp) (Fact.keep (T := fun b => Tst w0 S L b ∨ b ∈ f.blk) hg (fun _ _ => rfl) (fun _ _ _ => rfl) (fun b _ hs => ⟨?_, fun hb' => ?_⟩))
  · rcases hs with hs | hs
    · exact hs.1
    · exact Or.inr (E.lo b (mem_blks.2 ⟨f, List.mem_of_getElem? h, hs⟩)).1
  rw [h2] at hb'
  simp only [List.append_nil, List.mem_append] at hb'
  rcases hs with hs | hs
  · have hs := hs.2
    rw [h1] at hs
    simp only [List.mem_append] at hs
    rcases hb' with hb' | hb'
    · exact hs (Or.inl (Or.inl hb'))
    · exact hs (Or.inr hb')
  · rcases hb' with hb' | hb'
    · exact hAf b hb' b hs rfl
    · exact hAC b (by simp [hs]) b hb' rfl
theorem Env.doneI (E : Env w0 S w L) (j : Nat) {ao : Option Addr} {cap : Nat} {xs : List Int} (h : L[j]? = some (.rowI ao cap xs)) (hl : xs.length ≤ 17592186044416) : Env w0 S w (L.set j (.ints xs ao)) :=
  E.freeze j h rfl (((E.rowI j h).ints hl).mono fun b _ hb => Or.inr (by simp [Fact.blk, hb.2]))
theorem Env.doneIF (E : Env w0 S w L) (j : Nat) {ao : Option Addr} {cap : Nat} {xs : List Int} (h : L[j]? = some (.rowI ao cap xs)) (hl : xs.length ≤ 17592186044416) : Env w0 S w (L.set j (.intsF xs ao)) :=
  E.freeze j h rfl (((E.rowI j h).ints hl).mono fun b _ hb => ⟨Or.inr (by simp [Fact.blk, hb.2]), hb.1⟩)
theorem Env.doneAF (E : Env w0 S w L) (j : Nat) {ao : Option Addr} {cap : Nat} {l : List Arr} (h : L[j]? = some (.rowAF ao cap l)) : Env w0 S w (L.set j (.itemsF l ao)) :=
  E.freeze j h rfl (((E.rowAF j h).items).mono fun b _ hb => by
    rcases hb with hb | hb
    · exact ⟨Or.inl hb.1, hb.2⟩
    · exact ⟨Or.inr (by simp [Fact.blk, hb.2]), hb.1⟩)
theorem Env.doneA (E : Env w0 S w L) (j : Nat) {ao : Option Addr} {cap : Nat} {l : List Arr} (h : L[j]? = some (.rowA ao cap l)) : Env w0 S w (L.set j (.items l ao)) :=
  E.freeze j h rfl (((E.rowA j h).items).mono fun b _ hb => by
    rcases hb with hb | hb
    · exact Or.inl hb
    · exact Or.inr (by simp [Fact.blk, hb.2]))
end
theorem env1 (w : World) (S : Nat → Prop) {W : World} {k : Obj} (h : w.alloc k = W) : Env w S W [.obj w.heap.size k] := (Env.start w S).new h
theorem env2 (w : World) (S : Nat → Prop) {W : World} {k k2 : Obj} (h : (w.alloc k).alloc k2 = W) : Env w S W [.obj w.heap.size k, .obj (w.heap.size + 1) k2] := by
  have := (env1 w S (k := k) rfl).new h
  simpa using this
theorem env3 (w : World) (S : Nat → Prop) {W : World} {k k2 k3 : Obj} (h : ((w.alloc k).alloc k2).alloc k3 = W) : Env w S W [.obj w.heap.size k, .obj (w.heap.size + 1) k2, .obj (w.heap.size + 1 + 1) k3] := by
  have := (env2 w S (k := k) (k2 := k2) rfl).new h
  simpa using this
theorem env4 (w : World) (S : Nat → Prop) {W : World} {k k2 k3 k4 : Obj} (h : (((w.alloc k).alloc k2).alloc k3).alloc k4 = W) : Env w S W [.obj w.heap.size k, .obj (w.heap.size + 1) k2, .obj (w.heap.size + 1 + 1) k3, .obj (w.heap.size + 1 + 1 + 1) k4] := by
  have := (env3 w S (k := k) (k2 := k2) (k3 := k3) rfl).new h
  simpa using this
theorem env5 (w : World) (S : Nat → Prop) {W : World} {k k2 k3 k4 k5 : Obj} (h : ((((w.alloc k).alloc k2).alloc k3).alloc k4).alloc k5 = W) : Env w S W [.obj w.heap.size k, .obj (w.heap.size + 1) k2, .obj (w.heap.size + 1 + 1) k3, .obj (w.heap.size + 1 + 1 + 1) k4, .obj (w.heap.size + 1 + 1 + 1 + 1) k5] := by
  have := (env4 w S (k := k) (k2 := k2) (k3 := k3) (k4 := k4) rfl).new h
  simpa using this
section
variable {ops : Array Oper} {rest : List Oper} {o o1 o2 o3 : Oper} {a : Act} {Q : Exit → Act → World → Prop} {w0 w : World} {S : Nat → Prop} {L : List Fact}
/-- append to a row, its end into a slot -/
theorem wplE_appI (E : Env w0 S w L) (j : Nat) {ao : Option Addr} {cap : Nat} {xs : List Int} (hj : L[j]? = some (.rowI ao cap xs)) (hgd : o.guard = none) (s x : Operand) (ho : o.op = .call { callee := .builtin .append, args := #[s, x], argTypes := #[23, 23] })
    (hs : a.eval s = .slice ao xs.length cap) (T : Nat → Prop) (so : Option Addr) (sc : Nat) (ys : List Int) (hx : a.eval x = .slice so ys.length sc) (hys : IntsAt w T so ys) (hlen : xs.length + ys.length ≤ 17592186044416)
    (h : ∀ V ao' cap', Env w0 S V (L.set j (.rowI ao' cap' (xs ++ ys))) → wpList Try.prog ops Q rest (a.put o.dst (.slice ao' (xs ++ ys).length cap')) V) : wpList Try.prog ops Q (o :: rest) a w := by
  refine wpList_appI w hgd s x ho w0.heap.size ao cap xs hs (E.rowI j hj) T so sc ys hx hys hlen E.size ?_
  intro ao' cap' w4 hown hg hr
  exact h w4 ao' cap' (E.appI j hj hown hg hr)
theorem wplE_appA (E : Env w0 S w L) (j : Nat) {ao : Option Addr} {cap : Nat} {l : List Arr} (hj : L[j]? = some (.rowA ao cap l)) (hgd : o.guard = none) (s x : Operand) (ho : o.op = .call { callee := .builtin .append, args := #[s, x], argTypes := #[24, 24] })
    (hs : a.eval s = .slice ao l.length cap) (T : Nat → Prop) (so : Option Addr) (sc : Nat) (m : List Arr) (hx : a.eval x = .slice so m.length sc) (hm : ItemsAt w T so 0 m) (hS : ∀ b, b < w.heap.size → T b → Tst w0 S L b) (hlen : l.length + m.length ≤ 1759218604441)
    (h : ∀ V ao' cap', Env w0 S V (L.set j (.rowA ao' cap' (l ++ m))) → wpList Try.prog ops Q rest (a.put o.dst (.slice ao' (l ++ m).length cap')) V) : wpList Try.prog ops Q (o :: rest) a w := by
  refine wpList_appA w hgd s x ho w0.heap.size (Tst w0 S L) ao cap l hs (E.rowA j hj) T so sc m hx hm (fun b hlt hb => ⟨hS b hlt hb, fun e => (hS b hlt hb).2 (mem_blks.2 ⟨_, List.mem_of_getElem? hj, by simp [Fact.blk, ← e]⟩)⟩) hlen E.size ?_
  intro ao' cap' w4 hown hg hr
  exact h w4 ao' cap' (E.appA j hj hown (fun b _ hb => hb) hg hr)
theorem wplE_appAF (E : Env w0 S w L) (j : Nat) {ao : Option Addr} {cap : Nat} {l : List Arr} (hj : L[j]? = some (.rowAF ao cap l)) (hgd : o.guard = none) (s x : Operand) (ho : o.op = .call { callee := .builtin .append, args := #[s, x], argTypes := #[24, 24] })
    (hs : a.eval s = .slice ao l.length cap) (T : Nat → Prop) (so : Option Addr) (sc : Nat) (m : List Arr) (hx : a.eval x = .slice so m.length sc) (hm : ItemsAt w T so 0 m) (hS : ∀ b, b < w.heap.size → T b → Tst w0 S L b ∧ w0.heap.size ≤ b) (hlen : l.length + m.length ≤ 1759218604441)
    (h : ∀ V ao' cap', Env w0 S V (L.set j (.rowAF ao' cap' (l ++ m))) → wpList Try.prog ops Q rest (a.put o.dst (.slice ao' (l ++ m).length cap')) V) : wpList Try.prog ops Q (o :: rest) a w := by
  refine wpList_appA w hgd s x ho w0.heap.size (fun b => Tst w0 S L b ∧ w0.heap.size ≤ b) ao cap l hs (E.rowAF j hj) T so sc m hx hm (fun b hlt hb => ⟨hS b hlt hb, fun e => (hS b hlt hb).1.2 (mem_blks.2 ⟨_, List.mem_of_getElem? hj, by simp [Fact.blk, ← e]⟩)⟩) hlen E.size ?_
  intro ao' cap' w4 hown hg hr
  exact h w4 ao' cap' (E.appAF j hj hown (fun b _ hb => hb) hg hr)
/-- out.Nums = append(out.Nums, ..) -/
theorem wplE_addN (E : Env w0 S w L) (jv jr : Nat) {bx : Nat} {kd sv iv : Value} {na : Option Addr} {nc : Nat} {nums : List Int} (hv : L[jv]? = some (.obj bx (.cells #[kd, sv, .slice na nums.length nc, iv] 26 (0, 0)))) (hj : L[jr]? = some (.rowI na nc nums)) (hne : jv ≠ jr)
    (g1 : o1.guard = none) (g2 : o2.guard = none) (g3 : o3.guard = none) (s x p q r : Operand) (h1 : o1.op = .call { callee := .builtin .append, args := #[s, x], argTypes := #[23, 23] }) (h2 : o2.op = .fieldAddr 26 p 2) (h3 : o3.op = .store 23 q r)
    (T : Nat → Prop) (so : Option Addr) (sc : Nat) (ys : List Int) (hs : a.eval s = .slice na nums.length nc) (hx : a.eval x = .slice so ys.length sc) (hy : IntsAt w T so ys) (hlen : nums.length + ys.length ≤ 17592186044416)
    (hp : ∀ v, (a.put o1.dst v).eval p = .pointer (some ⟨bx, 0, none⟩)) (hq : ∀ v u, ((a.put o1.dst v).put o2.dst u).eval q = u) (hr : ∀ v u, ((a.put o1.dst v).put o2.dst u).eval r = v)
    (h : ∀ V na' nc', Env w0 S V ((L.set jr (.rowI na' nc' (nums ++ ys))).set jv (.obj bx (.cells #[kd, sv, .slice na' (nums ++ ys).length nc', iv] 26 (0, 0)))) → wpList Try.prog ops Q rest (((a.put o1.dst (.slice na' (nums ++ ys).length nc')).put o2.dst (.pointer (some ⟨bx, 2, none⟩))).put o3.dst undef) V) :
    wpList Try.prog ops Q (o1 :: o2 :: o3 :: rest) a w := by
  refine wplE_appI E jr hj g1 s x h1 hs T so sc ys hx hy hlen ?_
  intro w4 ao' cap' E4
  have hv4 : (L.set jr (.rowI ao' cap' (nums ++ ys)))[jv]? = some (.obj bx (.cells #[kd, sv, .slice na nums.length nc, iv] 26 (0, 0))) := by rw [List.getElem?_set_ne (Ne.symm hne)]; exact hv
  refine wpList_plain g2 fun K hK => ?_
  have step := fun h => hK ((a.put o1.dst (.slice ao' (nums ++ ys).length cap')).put o2.dst (.pointer (some ⟨bx, 2, none⟩))) w4 h
  have hfin : wpList Try.prog ops Q (o3 :: rest) ((a.put o1.dst (.slice ao' (nums ++ ys).length cap')).put o2.dst (.pointer (some ⟨bx, 2, none⟩))) w4 := by
    refine wpl_store2 g3 q r h3 bx (hq _ _) (hr _ _) (E4.hdr jv hv4) ?_
    intro V HV C
    exact h V ao' cap' (E4.chg jv hv4 C HV)
  have := step hfin
  unfold Oper.wp execOp
  simp only [h2, hp]
  simpa [go_sem] using this
/-- out.Items = append(out.Items, ..) -/
theorem wplE_addA (E : Env w0 S w L) (jv jr : Nat) {bx : Nat} {kd sv nv : Value} {ia : Option Addr} {ic : Nat} {items : List Arr} (hv : L[jv]? = some (.obj bx (.cells #[kd, sv, nv, .slice ia items.length ic] 26 (0, 0)))) (hj : L[jr]? = some (.rowA ia ic items)) (hne : jv ≠ jr)
    (g1 : o1.guard = none) (g2 : o2.guard = none) (g3 : o3.guard = none) (s x p q r : Operand) (h1 : o1.op = .call { callee := .builtin .append, args := #[s, x], argTypes := #[24, 24] }) (h2 : o2.op = .fieldAddr 26 p 3) (h3 : o3.op = .store 24 q r)
    (T : Nat → Prop) (so : Option Addr) (sc : Nat) (ys : List Arr) (hs : a.eval s = .slice ia items.length ic) (hx : a.eval x = .slice so ys.length sc) (hy : ItemsAt w T so 0 ys) (hST : ∀ b, b < w.heap.size → T b → Tst w0 S L b) (hlen : items.length + ys.length ≤ 1759218604441)
    (hp : ∀ v, (a.put o1.dst v).eval p = .pointer (some ⟨bx, 0, none⟩)) (hq : ∀ v u, ((a.put o1.dst v).put o2.dst u).eval q = u) (hr : ∀ v u, ((a.put o1.dst v).put o2.dst u).eval r = v)
    (h : ∀ V ia' ic', Env w0 S V ((L.set jr (.rowA ia' ic' (items ++ ys))).set jv (.obj bx (.cells #[kd, sv, nv, .slice ia' (items ++ ys).length ic'] 26 (0, 0)))) → wpList Try.prog ops Q rest (((a.put o1.dst (.slice ia' (items ++ ys).length ic')).put o2.dst (.pointer (some ⟨bx, 3, none⟩))).put o3.dst undef) V) :
    wpList Try.prog ops Q (o1 :: o2 :: o3 :: rest) a w := by
  refine wplE_appA E jr hj g1 s x h1 hs T so sc ys hx hy hST hlen ?_
  intro w4 ao' cap' E4
  have hv4 : (L.set jr (.rowA ao' cap' (items ++ ys)))[jv]? = some (.obj bx (.cells #[kd, sv, nv, .slice ia items.length ic] 26 (0, 0))) := by rw [List.getElem?_set_ne (Ne.symm hne)]; exact hv
  refine wpList_plain g2 fun K hK => ?_
  have step := fun h => hK ((a.put o1.dst (.slice ao' (items ++ ys).length cap')).put o2.dst (.pointer (some ⟨bx, 3, none⟩))) w4 h
  have hfin : wpList Try.prog ops Q (o3 :: rest) ((a.put o1.dst (.slice ao' (items ++ ys).length cap')).put o2.dst (.pointer (some ⟨bx, 3, none⟩))) w4 := by
    refine wpl_store3 g3 q r h3 bx (hq _ _) (hr _ _) (E4.hdr jv hv4) ?_
    intro V HV C
    exact h V ao' cap' (E4.chg jv hv4 C HV)
  have := step hfin
  unfold Oper.wp execOp
  simp only [h2, hp]
  simpa [go_sem] using this
/-- out.Items = append(out.Items, ..) -/
theorem wplE_addAF (E : Env w0 S w L) (jv jr : Nat) {bx : Nat} {kd sv nv : Value} {ia : Option Addr} {ic : Nat} {items : List Arr} (hv : L[jv]? = some (.obj bx (.cells #[kd, sv, nv, .slice ia items.length ic] 26 (0, 0)))) (hj : L[jr]? = some (.rowAF ia ic items)) (hne : jv ≠ jr)
    (g1 : o1.guard = none) (g2 : o2.guard = none) (g3 : o3.guard = none) (s x p q r : Operand) (h1 : o1.op = .call { callee := .builtin .append, args := #[s, x], argTypes := #[24, 24] }) (h2 : o2.op = .fieldAddr 26 p 3) (h3 : o3.op = .store 24 q r)
    (T : Nat → Prop) (so : Option Addr) (sc : Nat) (ys : List Arr) (hs : a.eval s = .slice ia items.length ic) (hx : a.eval x = .slice so ys.length sc) (hy : ItemsAt w T so 0 ys) (hST : ∀ b, b < w.heap.size → T b → Tst w0 S L b ∧ w0.heap.size ≤ b) (hlen : items.length + ys.length ≤ 1759218604441)
    (hp : ∀ v, (a.put o1.dst v).eval p = .pointer (some ⟨bx, 0, none⟩)) (hq : ∀ v u, ((a.put o1.dst v).put o2.dst u).eval q = u) (hr : ∀ v u, ((a.put o1.dst v).put o2.dst u).eval r = v)
    (h : ∀ V ia' ic', Env w0 S V ((L.set jr (.rowAF ia' ic' (items ++ ys))).set jv (.obj bx (.cells #[kd, sv, nv, .slice ia' (items ++ ys).length ic'] 26 (0, 0)))) → wpList Try.prog ops Q rest (((a.put o1.dst (.slice ia' (items ++ ys).length ic')).put o2.dst (.pointer (some ⟨bx, 3, none⟩))).put o3.dst undef) V) :
    wpList Try.prog ops Q (o1 :: o2 :: o3 :: rest) a w := by
  refine wplE_appAF E jr hj g1 s x h1 hs T so sc ys hx hy hST hlen ?_
  intro w4 ao' cap' E4
  have hv4 : (L.set jr (.rowAF ao' cap' (items ++ ys)))[jv]? = some (.obj bx (.cells #[kd, sv, nv, .slice ia items.length ic] 26 (0, 0))) := by rw [List.getElem?_set_ne (Ne.symm hne)]; exact hv
  refine wpList_plain g2 fun K hK => ?_
  have step := fun h => hK ((a.put o1.dst (.slice ao' (items ++ ys).length cap')).put o2.dst (.pointer (some ⟨bx, 3, none⟩))) w4 h
  have hfin : wpList Try.prog ops Q (o3 :: rest) ((a.put o1.dst (.slice ao' (items ++ ys).length cap')).put o2.dst (.pointer (some ⟨bx, 3, none⟩))) w4 := by
    refine wpl_store3 g3 q r h3 bx (hq _ _) (hr _ _) (E4.hdr jv hv4) ?_
    intro V HV C
    exact h V ao' cap' (E4.chg jv hv4 C HV)
  have := step hfin
  unfold Oper.wp execOp
  simp only [h2, hp]
  simpa [go_sem] using this
end
theorem box_items {u wf : World} {T : Nat → Prop} {z : Arr} {sa na ia : Option Addr} {sc nc ic : Nat} (e : Ext (u.alloc (.cells #[.int .i64 z.kind, .slice sa z.shape.length sc, .slice na z.nums.length nc, .slice ia z.items.length ic] 26)) wf) (hT : T u.heap.size) (h : ArrAt u T z sa na ia) : ItemsAt wf T (some ⟨u.heap.size, 0, none⟩) 0 [z] :=
  have hh : Hdr wf u.heap.size _ _ _ _ := made_blk e
  items_one hT hh.c0 hh.c1 hh.c2 hh.c3 ((h.up (ext_alloc _ _)).up e)
theorem RetAE.of {w V : World} {S : Nat → Prop} {a : Arr} {k : Int} {s n : List Int} {l : List Arr} {e e' : Int} {sa na ia : Option Addr} {sc nc ic : Nat} (E : a = .mk k s n l) (E2 : e = e') (h1 : IntsAt V S sa s) (h2 : IntsAt V S na n) (hl : l.length ≤ 1759218604441) (h3 : ItemsAt V S ia 0 l) (hb : Below w.heap.size w V) :
    RetAE w S a e (.returned (.tuple #[.agg #[.int .i64 k, .slice sa s.length sc, .slice na n.length nc, .slice ia l.length ic], .int .i64 e'])) V := by
  subst E; subst E2; exact ⟨sa, sc, na, nc, ia, ic, rfl, ArrAt.iff.2 ⟨h1, h2, hl, h3⟩, hb⟩
theorem RetA.wide {w V : World} {S T : Nat → Prop} {a : Arr} {e : Ending} (h : RetA w S a e V) (hS : ∀ b, b < V.heap.size → S b → T b) : RetA w T a e V := by
  obtain ⟨sa, sc, na, nc, ia, ic, h1, h2, h3⟩ := h
  exact ⟨sa, sc, na, nc, ia, ic, h1, ArrAt.mono hS _ h2, h3⟩
theorem RetAE.wide {w V : World} {S T : Nat → Prop} {a : Arr} {n : Int} {e : Ending} (h : RetAE w S a n e V) (hS : ∀ b, b < V.heap.size → S b → T b) : RetAE w T a n e V := by
  obtain ⟨sa, sc, na, nc, ia, ic, h1, h2, h3⟩ := h
  exact ⟨sa, sc, na, nc, ia, ic, h1, ArrAt.mono hS _ h2, h3⟩
end Go.Proofs.Ytkbbdlibamcilaa
