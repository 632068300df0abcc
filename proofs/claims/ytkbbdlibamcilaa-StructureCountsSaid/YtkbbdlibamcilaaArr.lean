/- The arrays of the language as plain trees, and what it means that a value in memory reads as one. Conditions: those of each lemma. -/
import Derived.Test.YtkbbdlibamcilaaBase
set_option linter.unusedVariables false
set_option linter.unusedSimpArgs false
namespace Go.Proofs.Ytkbbdlibamcilaa
open Go.RowKit

/-- An array: its kind, its shape, its numbers, its items. -/
inductive Arr where
  | mk (kind : Int) (shape nums : List Int) (items : List Arr)

namespace Arr
def kind : Arr → Int | mk k _ _ _ => k
def shape : Arr → List Int | mk _ s _ _ => s
def nums : Arr → List Int | mk _ _ n _ => n
def items : Arr → List Arr | mk _ _ _ l => l
def zero : Arr := mk 0 [] [] []
theorem eta (a : Arr) : mk a.kind a.shape a.nums a.items = a := by cases a; rfl
theorem lt_of_mem {x a : Arr} (h : x ∈ a.items) : SizeOf.sizeOf x < SizeOf.sizeOf a := by
  cases a with
  | mk k s n l =>
    simp only [items] at h
    have := List.sizeOf_lt_of_mem h
    simp only [Arr.mk.sizeOf_spec]
    omega
/-- An induction over arrays: what holds of an array if it holds of its items. -/
theorem ind {p : Arr → Prop} (h : ∀ a, (∀ x ∈ a.items, p x) → p a) (a : Arr) : p a := by
  have : ∀ n (a : Arr), SizeOf.sizeOf a ≤ n → p a := by
    intro n
    induction n with
    | zero => intro a ha; cases a; simp only [Arr.mk.sizeOf_spec] at ha; omega
    | succ n ih => intro a ha; exact h a fun x hx => ih x (by have := lt_of_mem hx; omega)
  exact this _ a (Nat.le_refl _)
end Arr

/-- A slice of int reads as a list: its blocks satisfy S. -/
def IntsAt (w : World) (S : Nat → Prop) (ao : Option Addr) (xs : List Int) : Prop :=
  xs.length ≤ 17592186044416 ∧ (0 < xs.length → ∃ b off, ao = some ⟨b, off, none⟩ ∧ S b ∧ b < w.heap.size ∧ ∀ k, k < xs.length → w.cell? ⟨b, off + k, none⟩ = some (.int .i64 (xs.getD k 0)))

mutual
/-- An array's four cells lead to its parts. -/
def ArrAt (w : World) (S : Nat → Prop) : Arr → Option Addr → Option Addr → Option Addr → Prop
  | .mk _ s n l, sa, na, ia => IntsAt w S sa s ∧ IntsAt w S na n ∧ l.length ≤ 1759218604441 ∧ ItemsAt w S ia 0 l
/-- A slice of arrays reads as a list, from element i on. -/
def ItemsAt (w : World) (S : Nat → Prop) (ia : Option Addr) : Nat → List Arr → Prop
  | _, [] => True
  | i, x :: xs => (∃ b off sa sc na nc ja jc, ia = some ⟨b, off, none⟩ ∧ S b ∧ b < w.heap.size ∧ w.cell? ⟨b, off + i * 4, none⟩ = some (.int .i64 x.kind) ∧ w.cell? ⟨b, off + i * 4 + 1, none⟩ = some (.slice sa x.shape.length sc) ∧
      w.cell? ⟨b, off + i * 4 + 2, none⟩ = some (.slice na x.nums.length nc) ∧ w.cell? ⟨b, off + i * 4 + 3, none⟩ = some (.slice ja x.items.length jc) ∧ ArrAt w S x sa na ja) ∧ ItemsAt w S ia (i + 1) xs
end

section
variable {w w' : World} {S T : Nat → Prop} {ao sa na ia : Option Addr} {xs : List Int} {a : Arr} {l : List Arr}

theorem ArrAt.iff : ArrAt w S a sa na ia ↔ IntsAt w S sa a.shape ∧ IntsAt w S na a.nums ∧ a.items.length ≤ 1759218604441 ∧ ItemsAt w S ia 0 a.items := by
  cases a; simp only [ArrAt, Arr.shape, Arr.nums, Arr.items]
theorem ArrAt.shape (h : ArrAt w S a sa na ia) : IntsAt w S sa a.shape := (ArrAt.iff.1 h).1
theorem ArrAt.nums (h : ArrAt w S a sa na ia) : IntsAt w S na a.nums := (ArrAt.iff.1 h).2.1
theorem ArrAt.len (h : ArrAt w S a sa na ia) : a.items.length ≤ 1759218604441 := (ArrAt.iff.1 h).2.2.1
theorem ArrAt.items (h : ArrAt w S a sa na ia) : ItemsAt w S ia 0 a.items := (ArrAt.iff.1 h).2.2.2
theorem IntsAt.nil (w : World) (S : Nat → Prop) (ao : Option Addr) : IntsAt w S ao [] := ⟨by simp, fun h => by simp at h⟩
theorem IntsAt.keep (h : IntsAt w S ao xs) (hk : ∀ b, S b → b < w.heap.size → w'.heap[b]? = w.heap[b]?) : IntsAt w' S ao xs := by
  refine ⟨h.1, fun h0 => ?_⟩
  obtain ⟨b, off, e, hS, hlt, hc⟩ := h.2 h0
  have hb := hk b hS hlt
  refine ⟨b, off, e, hS, ?_, fun k hk' => (World.cell?_of_block (a := ⟨b, off + k, none⟩) hb).trans (hc k hk')⟩
  rw [Array.getElem?_eq_getElem hlt] at hb
  exact lt_of_block hb
theorem IntsAt.mono (h : IntsAt w S ao xs) (hS : ∀ b, b < w.heap.size → S b → T b) : IntsAt w T ao xs :=
  ⟨h.1, fun h0 => by obtain ⟨b, off, e, hs, hlt, hc⟩ := h.2 h0; exact ⟨b, off, e, hS b hlt hs, hlt, hc⟩⟩
theorem IntsAt.below {B : Nat} (h : IntsAt w S ao xs) (hb : Below B w w') (hS : ∀ b, b < w.heap.size → S b → b < B) : IntsAt w' S ao xs :=
  h.keep fun b hs hlt => hb.block b (hS b hlt hs)

theorem ItemsAt.get : ∀ {l : List Arr} {i : Nat}, ItemsAt w S ia i l → ∀ j x, l[j]? = some x → ∃ b off sa sc na nc ja jc, ia = some ⟨b, off, none⟩ ∧ S b ∧ b < w.heap.size ∧ w.cell? ⟨b, off + (i + j) * 4, none⟩ = some (.int .i64 x.kind) ∧
    w.cell? ⟨b, off + (i + j) * 4 + 1, none⟩ = some (.slice sa x.shape.length sc) ∧ w.cell? ⟨b, off + (i + j) * 4 + 2, none⟩ = some (.slice na x.nums.length nc) ∧ w.cell? ⟨b, off + (i + j) * 4 + 3, none⟩ = some (.slice ja x.items.length jc) ∧ ArrAt w S x sa na ja
  | [], _, _, j, x, hx => by simp at hx
  | y :: ys, i, h, 0, x, hx => by
    simp only [ItemsAt] at h
    simp at hx; subst hx
    simpa using h.1
  | y :: ys, i, h, j + 1, x, hx => by
    simp only [ItemsAt] at h
    have := ItemsAt.get h.2 j x (by simpa using hx)
    rw [show i + 1 + j = i + (j + 1) from by omega] at this
    exact this
theorem ItemsAt.of_get : ∀ {l : List Arr} {i : Nat}, (∀ j x, l[j]? = some x → ∃ b off sa sc na nc ja jc, ia = some ⟨b, off, none⟩ ∧ S b ∧ b < w.heap.size ∧ w.cell? ⟨b, off + (i + j) * 4, none⟩ = some (.int .i64 x.kind) ∧
    w.cell? ⟨b, off + (i + j) * 4 + 1, none⟩ = some (.slice sa x.shape.length sc) ∧ w.cell? ⟨b, off + (i + j) * 4 + 2, none⟩ = some (.slice na x.nums.length nc) ∧ w.cell? ⟨b, off + (i + j) * 4 + 3, none⟩ = some (.slice ja x.items.length jc) ∧ ArrAt w S x sa na ja) → ItemsAt w S ia i l
  | [], _, _ => by simp only [ItemsAt]
  | y :: ys, i, h => by
    simp only [ItemsAt]
    refine ⟨by simpa using h 0 y rfl, ItemsAt.of_get fun j x hx => ?_⟩
    have := h (j + 1) x (by simpa using hx)
    rw [show i + (j + 1) = i + 1 + j from by omega] at this
    exact this

theorem ArrAt.keep (hk : ∀ b, S b → b < w.heap.size → w'.heap[b]? = w.heap[b]?) : ∀ (a : Arr) {sa na ia : Option Addr}, ArrAt w S a sa na ia → ArrAt w' S a sa na ia := by
  intro a
  induction a using Arr.ind with
  | h a ih =>
    intro sa na ia h
    rw [ArrAt.iff] at h ⊢
    refine ⟨h.1.keep hk, h.2.1.keep hk, h.2.2.1, ItemsAt.of_get fun j x hx => ?_⟩
    obtain ⟨b, off, sa', sc, na', nc, ja, jc, e, hS, hlt, c0, c1, c2, c3, hx'⟩ := h.2.2.2.get j x hx
    have hb := hk b hS hlt
    have hlt' : b < w'.heap.size := by
      rw [Array.getElem?_eq_getElem hlt] at hb
      exact lt_of_block hb
    have hc : ∀ o, w'.cell? ⟨b, o, none⟩ = w.cell? ⟨b, o, none⟩ := fun o => World.cell?_of_block (a := ⟨b, o, none⟩) hb
    exact ⟨b, off, sa', sc, na', nc, ja, jc, e, hS, hlt', (hc _).trans c0, (hc _).trans c1, (hc _).trans c2, (hc _).trans c3, ih x (List.mem_of_getElem? hx) hx'⟩
theorem ItemsAt.keep (h : ItemsAt w S ia 0 l) (hk : ∀ b, S b → b < w.heap.size → w'.heap[b]? = w.heap[b]?) : ItemsAt w' S ia 0 l := by
  refine ItemsAt.of_get fun j x hx => ?_
  obtain ⟨b, off, sa', sc, na', nc, ja, jc, e, hS, hlt, c0, c1, c2, c3, hx'⟩ := h.get j x hx
  have hb := hk b hS hlt
  have hlt' : b < w'.heap.size := by
    rw [Array.getElem?_eq_getElem hlt] at hb
    exact lt_of_block hb
  have hc : ∀ o, w'.cell? ⟨b, o, none⟩ = w.cell? ⟨b, o, none⟩ := fun o => World.cell?_of_block (a := ⟨b, o, none⟩) hb
  exact ⟨b, off, sa', sc, na', nc, ja, jc, e, hS, hlt', (hc _).trans c0, (hc _).trans c1, (hc _).trans c2, (hc _).trans c3, ArrAt.keep hk x hx'⟩
theorem ArrAt.mono (hS : ∀ b, b < w.heap.size → S b → T b) : ∀ (a : Arr) {sa na ia : Option Addr}, ArrAt w S a sa na ia → ArrAt w T a sa na ia := by
  intro a
  induction a using Arr.ind with
  | h a ih =>
    intro sa na ia h
    rw [ArrAt.iff] at h ⊢
    refine ⟨h.1.mono hS, h.2.1.mono hS, h.2.2.1, ItemsAt.of_get fun j x hx => ?_⟩
    obtain ⟨b, off, sa', sc, na', nc, ja, jc, e, hs, hlt, c0, c1, c2, c3, hx'⟩ := h.2.2.2.get j x hx
    exact ⟨b, off, sa', sc, na', nc, ja, jc, e, hS b hlt hs, hlt, c0, c1, c2, c3, ih x (List.mem_of_getElem? hx) hx'⟩
theorem ItemsAt.mono (h : ItemsAt w S ia 0 l) (hS : ∀ b, b < w.heap.size → S b → T b) : ItemsAt w T ia 0 l := by
  refine ItemsAt.of_get fun j x hx => ?_
  obtain ⟨b, off, sa', sc, na', nc, ja, jc, e, hs, hlt, c0, c1, c2, c3, hx'⟩ := h.get j x hx
  exact ⟨b, off, sa', sc, na', nc, ja, jc, e, hS b hlt hs, hlt, c0, c1, c2, c3, ArrAt.mono hS x hx'⟩
theorem ArrAt.below {B : Nat} (h : ArrAt w S a sa na ia) (hb : Below B w w') (hS : ∀ b, b < w.heap.size → S b → b < B) : ArrAt w' S a sa na ia :=
  ArrAt.keep (fun b hs hlt => hb.block b (hS b hlt hs)) a h
theorem ItemsAt.below {B : Nat} (h : ItemsAt w S ia 0 l) (hb : Below B w w') (hS : ∀ b, b < w.heap.size → S b → b < B) : ItemsAt w' S ia 0 l :=
  h.keep fun b hs hlt => hb.block b (hS b hlt hs)
theorem ArrAt.alloc (h : ArrAt w S a sa na ia) (o : Obj) : ArrAt (w.alloc o) S a sa na ia := ArrAt.keep (fun b _ hlt => Below.heap_alloc w o b hlt) a h
theorem IntsAt.alloc (h : IntsAt w S ao xs) (o : Obj) : IntsAt (w.alloc o) S ao xs := h.keep fun b _ hlt => Below.heap_alloc w o b hlt
theorem ItemsAt.alloc (h : ItemsAt w S ia 0 l) (o : Obj) : ItemsAt (w.alloc o) S ia 0 l := h.keep fun b _ hlt => Below.heap_alloc w o b hlt
/-- The one word that suits every later world: nothing that was there has turned. -/
theorem ArrAt.later (h : ArrAt w S a sa na ia) (hb : Below w.heap.size w w') : ArrAt w' S a sa na ia := h.below hb fun _ h _ => h
theorem IntsAt.later (h : IntsAt w S ao xs) (hb : Below w.heap.size w w') : IntsAt w' S ao xs := h.below hb fun _ h _ => h
theorem ItemsAt.later (h : ItemsAt w S ia 0 l) (hb : Below w.heap.size w w') : ItemsAt w' S ia 0 l := h.below hb fun _ h _ => h
theorem ArrAt.drew (h : ArrAt w S a sa na ia) : ArrAt w.drew S a sa na ia := ArrAt.keep (w := w) (w' := w.drew) (fun _ _ _ => rfl) a h
theorem ArrAt.drewN (h : ArrAt w S a sa na ia) (n : Nat) : ArrAt (w.drewN n) S a sa na ia := ArrAt.keep (w := w) (w' := w.drewN n) (fun _ _ _ => rfl) a h
theorem IntsAt.drew (h : IntsAt w S ao xs) : IntsAt w.drew S ao xs := h.keep fun _ _ _ => rfl
theorem IntsAt.drewN (h : IntsAt w S ao xs) (n : Nat) : IntsAt (w.drewN n) S ao xs := h.keep fun _ _ _ => rfl
theorem ItemsAt.drew (h : ItemsAt w S ia 0 l) : ItemsAt w.drew S ia 0 l := h.keep fun _ _ _ => rfl
theorem ItemsAt.drewN (h : ItemsAt w S ia 0 l) (n : Nat) : ItemsAt (w.drewN n) S ia 0 l := h.keep fun _ _ _ => rfl
/-- A slice of int: its element k. -/
theorem IntsAt.at (h : IntsAt w S ao xs) {k : Nat} (hk : k < xs.length) : ∃ b off, ao = some ⟨b, off, none⟩ ∧ b < w.heap.size ∧ S b ∧ w.cell? ⟨b, off + k, none⟩ = some (.int .i64 (xs.getD k 0)) := by
  obtain ⟨b, off, e, hS, hlt, hc⟩ := h.2 (by omega)
  exact ⟨b, off, e, hlt, hS, hc k hk⟩
/-- A slice of arrays: its element k. -/
theorem ItemsAt.at (h : ItemsAt w S ia 0 l) {k : Nat} (hk : k < l.length) : ∃ b off sa sc na nc ja jc, ia = some ⟨b, off, none⟩ ∧ S b ∧ b < w.heap.size ∧ w.cell? ⟨b, off + k * 4, none⟩ = some (.int .i64 (l[k]).kind) ∧
    w.cell? ⟨b, off + k * 4 + 1, none⟩ = some (.slice sa (l[k]).shape.length sc) ∧ w.cell? ⟨b, off + k * 4 + 2, none⟩ = some (.slice na (l[k]).nums.length nc) ∧ w.cell? ⟨b, off + k * 4 + 3, none⟩ = some (.slice ja (l[k]).items.length jc) ∧ ArrAt w S l[k] sa na ja := by
  have := h.get k l[k] (List.getElem?_eq_getElem hk)
  simpa using this
end
end Go.Proofs.Ytkbbdlibamcilaa
