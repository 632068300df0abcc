/- A group of texts (GA), each with its own conditions: those of each lemma. -/
import Derived.WalkKit
import Derived.WalkSpells
import Derived.WalkLawsBesides
import Derived.Deep.QuietTactic
import Derived.BigQuiet
import Derived.Test.YtdpdcjadedcglaaRows
import Derived.ProofKit
import Derived.SizedLaws
import Derived.Deep.Slices
import Derived.LoopTactic
import Derived.WalkMore
import Derived.Maps.AppendAt
import Derived.OwnWalk
set_option linter.unusedVariables false
set_option maxRecDepth 20000
set_option linter.unusedSimpArgs false
namespace Go.Proofs.Ytdpdcjadedcglaa
open Go.RowKit
theorem calls_post {P : Program} {f : FuncId} {args : Array Value} {w : World} {R : Ending → World → Prop} (h : ∀ R' : Ending → World → Prop, Hid (∀ e w', R e w' → R' e w') → Calls P f args w R') : Calls P f args w R := h R fun _ _ h => h
theorem hid {p : Prop} (h : p) : Hid p := h
theorem run_max2 {P : Program} {w : World} (ts : Array TypeId) (t : TypeId) (k k' : IntKind) (x y : Int) : (Builtin.max_ ts t #[.int k x, .int k' y]).run P w = .ok (.int k (max x y)) w := by
  rw [run_max_int2, show (if y > x then y else x) = max x y from by omega]
theorem run_min2 {P : Program} {w : World} (ts : Array TypeId) (t : TypeId) (k k' : IntKind) (x y : Int) : (Builtin.min_ ts t #[.int k x, .int k' y]).run P w = .ok (.int k (min x y)) w := by
  rw [run_min_int2, show (if y < x then y else x) = min x y from by omega]
theorem grownBy_drewN {w w' : World} {row : Option Nat} (h : w.grownBy w' row) (n : Nat) : w.grownBy (w'.drewN n) row := ⟨h.os, h.tape, h.output, h.size, h.block⟩
theorem grownBy_setCell (w : World) (m o : Nat) (v : Value) : w.grownBy (w.setCell ⟨m, o, none⟩ v) (some m) :=
  ⟨rfl, rfl, rfl, by simp [World.setCell], fun k _ hne => Below.heap_setCell w ⟨m, o, none⟩ v k (fun e => hne (by rw [e]))⟩
theorem bcell {W w1 : World} {B : Nat} (hb : Below B W w1) : (∀ b o, b < B → w1.cell? ⟨b, o, none⟩ = W.cell? ⟨b, o, none⟩) ∧ (∀ b o, b < B → w1.frozen? ⟨b, o, none⟩ = W.frozen? ⟨b, o, none⟩) :=
  ⟨fun b o h => hb.cell (p := ⟨b, o, none⟩) h, fun b o h => hb.frozen (p := ⟨b, o, none⟩) h⟩
theorem bgrown {a w w' : World} {m : Nat} (h : Below a.heap.size a w) (hg : w.grownBy w' (some m)) (hm : a.heap.size ≤ m) : Below a.heap.size a w' :=
  h.grown hg h.size (fun k hk => by injection hk with hk; omega)
theorem undrew {w w' : World} (h : Below w.drew.heap.size w.drew w') : Below w.heap.size w w' := ⟨h.os, h.tape, h.output, h.size, h.block⟩
theorem undrewN {w w' : World} {n : Nat} (h : Below (w.drewN n).heap.size (w.drewN n) w') : Below w.heap.size w w' := ⟨h.os, h.tape, h.output, h.size, h.block⟩
theorem grownBy_alloc' {w w' : World} {m : Nat} (o : Obj) (h : (w.alloc o).grownBy w' (some m)) : w.grownBy w' (some m) :=
  ⟨h.os, h.tape, h.output, Nat.le_trans (by simp) h.size, fun k hk hne => (h.block k (by simp; omega) hne).trans (Below.heap_alloc w o k hk)⟩
end Go.Proofs.Ytdpdcjadedcglaa
namespace Go.Proofs.Ytdpdcjadedcglaa
open Go.RowKit

/-- An array: its kind, its shape, its numbers, its items. -/
inductive Arr where
  | mk (kind : Int) (shape nums : List Int) (items : List Arr)

namespace Arr
def kind : Arr → Int | mk k _ _ _ => k
def shape : Arr → List Int | mk _ s _ _ => s
def nums : Arr → List Int | mk _ _ n _ => n
def items : Arr → List Arr | mk _ _ _ l => l
def zero : Arr := mk 0 [] [] []
theorem eta (a : Arr) : mk a.kind a.shape a.nums a.items = a := by cases a; rfl
theorem lt_of_mem {x a : Arr} (h : x ∈ a.items) : SizeOf.sizeOf x < SizeOf.sizeOf a := by
  cases a with
  | mk k s n l =>
    simp only [items] at h
    have := List.sizeOf_lt_of_mem h
    simp only [Arr.mk.sizeOf_spec]
    omega
/-- An induction over arrays: what holds of an array if it holds of its items. -/
theorem ind {p : Arr → Prop} (h : ∀ a, (∀ x ∈ a.items, p x) → p a) (a : Arr) : p a := by
  have : ∀ n (a : Arr), SizeOf.sizeOf a ≤ n → p a := by
    intro n
    induction n with
    | zero => intro a ha; cases a; simp only [Arr.mk.sizeOf_spec] at ha; omega
    | succ n ih => intro a ha; exact h a fun x hx => ih x (by have := lt_of_mem hx; omega)
  exact this _ a (Nat.le_refl _)
end Arr

/-- A slice of int reads as a list: its blocks satisfy S. -/
def IntsAt (w : World) (S : Nat → Prop) (ao : Option Addr) (xs : List Int) : Prop :=
  xs.length ≤ 17592186044416 ∧ (0 < xs.length → ∃ b off, ao = some ⟨b, off, none⟩ ∧ S b ∧ b < w.heap.size ∧ ∀ k, k < xs.length → w.cell? ⟨b, off + k, none⟩ = some (.int .i64 (xs.getD k 0)))

mutual
/-- An array's four cells lead to its parts. -/
def ArrAt (w : World) (S : Nat → Prop) : Arr → Option Addr → Option Addr → Option Addr → Prop
  | .mk _ s n l, sa, na, ia => IntsAt w S sa s ∧ IntsAt w S na n ∧ l.length ≤ 1759218604441 ∧ ItemsAt w S ia 0 l
/-- A slice of arrays reads as a list, from element i on. -/
def ItemsAt (w : World) (S : Nat → Prop) (ia : Option Addr) : Nat → List Arr → Prop
  | _, [] => True
  | i, x :: xs => (∃ b off sa sc na nc ja jc, ia = some ⟨b, off, none⟩ ∧ S b ∧ b < w.heap.size ∧ w.cell? ⟨b, off + i * 4, none⟩ = some (.int .i64 x.kind) ∧ w.cell? ⟨b, off + i * 4 + 1, none⟩ = some (.slice sa x.shape.length sc) ∧
      w.cell? ⟨b, off + i * 4 + 2, none⟩ = some (.slice na x.nums.length nc) ∧ w.cell? ⟨b, off + i * 4 + 3, none⟩ = some (.slice ja x.items.length jc) ∧ ArrAt w S x sa na ja) ∧ ItemsAt w S ia (i + 1) xs
end

section
variable {w w' : World} {S T : Nat → Prop} {ao sa na ia : Option Addr} {xs : List Int} {a : Arr} {l : List Arr}

theorem ArrAt.iff : ArrAt w S a sa na ia ↔ IntsAt w S sa a.shape ∧ IntsAt w S na a.nums ∧ a.items.length ≤ 1759218604441 ∧ ItemsAt w S ia 0 a.items := by
  cases a; simp only [ArrAt, Arr.shape, Arr.nums, Arr.items]
theorem ArrAt.shape (h : ArrAt w S a sa na ia) : IntsAt w S sa a.shape := (ArrAt.iff.1 h).1
theorem ArrAt.nums (h : ArrAt w S a sa na ia) : IntsAt w S na a.nums := (ArrAt.iff.1 h).2.1
theorem ArrAt.len (h : ArrAt w S a sa na ia) : a.items.length ≤ 1759218604441 := (ArrAt.iff.1 h).2.2.1
theorem ArrAt.items (h : ArrAt w S a sa na ia) : ItemsAt w S ia 0 a.items := (ArrAt.iff.1 h).2.2.2
theorem IntsAt.nil (w : World) (S : Nat → Prop) (ao : Option Addr) : IntsAt w S ao [] := ⟨by simp, fun h => by simp at h⟩
theorem IntsAt.keep (h : IntsAt w S ao xs) (hk : ∀ b, S b → b < w.heap.size → w'.heap[b]? = w.heap[b]?) : IntsAt w' S ao xs := by
  refine ⟨h.1, fun h0 => ?_⟩
  obtain ⟨b, off, e, hS, hlt, hc⟩ := h.2 h0
  have hb := hk b hS hlt
  refine ⟨b, off, e, hS, ?_, fun k hk' => (World.cell?_of_block (a := ⟨b, off + k, none⟩) hb).trans (hc k hk')⟩
  rw [Array.getElem?_eq_getElem hlt] at hb
  exact lt_of_block hb
theorem IntsAt.mono (h : IntsAt w S ao xs) (hS : ∀ b, b < w.heap.size → S b → T b) : IntsAt w T ao xs :=
  ⟨h.1, fun h0 => by obtain ⟨b, off, e, hs, hlt, hc⟩ := h.2 h0; exact ⟨b, off, e, hS b hlt hs, hlt, hc⟩⟩
theorem IntsAt.below {B : Nat} (h : IntsAt w S ao xs) (hb : Below B w w') (hS : ∀ b, b < w.heap.size → S b → b < B) : IntsAt w' S ao xs :=
  h.keep fun b hs hlt => hb.block b (hS b hlt hs)

theorem ItemsAt.get : ∀ {l : List Arr} {i : Nat}, ItemsAt w S ia i l → ∀ j x, l[j]? = some x → ∃ b off sa sc na nc ja jc, ia = some ⟨b, off, none⟩ ∧ S b ∧ b < w.heap.size ∧ w.cell? ⟨b, off + (i + j) * 4, none⟩ = some (.int .i64 x.kind) ∧
    w.cell? ⟨b, off + (i + j) * 4 + 1, none⟩ = some (.slice sa x.shape.length sc) ∧ w.cell? ⟨b, off + (i + j) * 4 + 2, none⟩ = some (.slice na x.nums.length nc) ∧ w.cell? ⟨b, off + (i + j) * 4 + 3, none⟩ = some (.slice ja x.items.length jc) ∧ ArrAt w S x sa na ja
  | [], _, _, j, x, hx => by simp at hx
  | y :: ys, i, h, 0, x, hx => by
    simp only [ItemsAt] at h
    simp at hx; subst hx
    simpa using h.1
  | y :: ys, i, h, j + 1, x, hx => by
    simp only [ItemsAt] at h
    have := ItemsAt.get h.2 j x (by simpa using hx)
    rw [show i + 1 + j = i + (j + 1) from by omega] at this
    exact this
theorem ItemsAt.of_get : ∀ {l : List Arr} {i : Nat}, (∀ j x, l[j]? = some x → ∃ b off sa sc na nc ja jc, ia = some ⟨b, off, none⟩ ∧ S b ∧ b < w.heap.size ∧ w.cell? ⟨b, off + (i + j) * 4, none⟩ = some (.int .i64 x.kind) ∧
    w.cell? ⟨b, off + (i + j) * 4 + 1, none⟩ = some (.slice sa x.shape.length sc) ∧ w.cell? ⟨b, off + (i + j) * 4 + 2, none⟩ = some (.slice na x.nums.length nc) ∧ w.cell? ⟨b, off + (i + j) * 4 + 3, none⟩ = some (.slice ja x.items.length jc) ∧ ArrAt w S x sa na ja) → ItemsAt w S ia i l
  | [], _, _ => by simp only [ItemsAt]
  | y :: ys, i, h => by
    simp only [ItemsAt]
    refine ⟨by simpa using h 0 y rfl, ItemsAt.of_get fun j x hx => ?_⟩
    have := h (j + 1) x (by simpa using hx)
    rw [show i + (j + 1) = i + 1 + j from by omega] at this
    exact this

theorem ArrAt.keep (hk : ∀ b, S b → b < w.heap.size → w'.heap[b]? = w.heap[b]?) : ∀ (a : Arr) {sa na ia : Option Addr}, ArrAt w S a sa na ia → ArrAt w' S a sa na ia := by
  intro a
  induction a using Arr.ind with
  | h a ih =>
    intro sa na ia h
    rw [ArrAt.iff] at h ⊢
    refine ⟨h.1.keep hk, h.2.1.keep hk, h.2.2.1, ItemsAt.of_get fun j x hx => ?_⟩
    obtain ⟨b, off, sa', sc, na', nc, ja, jc, e, hS, hlt, c0, c1, c2, c3, hx'⟩ := h.2.2.2.get j x hx
    have hb := hk b hS hlt
    have hlt' : b < w'.heap.size := by
      rw [Array.getElem?_eq_getElem hlt] at hb
      exact lt_of_block hb
    have hc : ∀ o, w'.cell? ⟨b, o, none⟩ = w.cell? ⟨b, o, none⟩ := fun o => World.cell?_of_block (a := ⟨b, o, none⟩) hb
    exact ⟨b, off, sa', sc, na', nc, ja, jc, e, hS, hlt', (hc _).trans c0, (hc _).trans c1, (hc _).trans c2, (hc _).trans c3, ih x (List.mem_of_getElem? hx) hx'⟩
theorem ItemsAt.keep (h : ItemsAt w S ia 0 l) (hk : ∀ b, S b → b < w.heap.size → w'.heap[b]? = w.heap[b]?) : ItemsAt w' S ia 0 l := by
  refine ItemsAt.of_get fun j x hx => ?_
  obtain ⟨b, off, sa', sc, na', nc, ja, jc, e, hS, hlt, c0, c1, c2, c3, hx'⟩ := h.get j x hx
  have hb := hk b hS hlt
  have hlt' : b < w'.heap.size := by
    rw [Array.getElem?_eq_getElem hlt] at hb
    exact lt_of_block hb
  have hc : ∀ o, w'.cell? ⟨b, o, none⟩ = w.cell? ⟨b, o, none⟩ := fun o => World.cell?_of_block (a := ⟨b, o, none⟩) hb
  exact ⟨b, off, sa', sc, na', nc, ja, jc, e, hS, hlt', (hc _).trans c0, (hc _).trans c1, (hc _).trans c2, (hc _).trans c3, ArrAt.keep hk x hx'⟩
theorem ArrAt.mono (hS : ∀ b, b < w.heap.size → S b → T b) : ∀ (a : Arr) {sa na ia : Option Addr}, ArrAt w S a sa na ia → ArrAt w T a sa na ia := by
  intro a
  induction a using Arr.ind with
  | h a ih =>
    intro sa na ia h
    rw [ArrAt.iff] at h ⊢
    refine ⟨h.1.mono hS, h.2.1.mono hS, h.2.2.1, ItemsAt.of_get fun j x hx => ?_⟩
    obtain ⟨b, off, sa', sc, na', nc, ja, jc, e, hs, hlt, c0, c1, c2, c3, hx'⟩ := h.2.2.2.get j x hx
    exact ⟨b, off, sa', sc, na', nc, ja, jc, e, hS b hlt hs, hlt, c0, c1, c2, c3, ih x (List.mem_of_getElem? hx) hx'⟩
theorem ItemsAt.mono (h : ItemsAt w S ia 0 l) (hS : ∀ b, b < w.heap.size → S b → T b) : ItemsAt w T ia 0 l := by
  refine ItemsAt.of_get fun j x hx => ?_
  obtain ⟨b, off, sa', sc, na', nc, ja, jc, e, hs, hlt, c0, c1, c2, c3, hx'⟩ := h.get j x hx
  exact ⟨b, off, sa', sc, na', nc, ja, jc, e, hS b hlt hs, hlt, c0, c1, c2, c3, ArrAt.mono hS x hx'⟩
theorem ArrAt.below {B : Nat} (h : ArrAt w S a sa na ia) (hb : Below B w w') (hS : ∀ b, b < w.heap.size → S b → b < B) : ArrAt w' S a sa na ia :=
  ArrAt.keep (fun b hs hlt => hb.block b (hS b hlt hs)) a h
theorem ItemsAt.below {B : Nat} (h : ItemsAt w S ia 0 l) (hb : Below B w w') (hS : ∀ b, b < w.heap.size → S b → b < B) : ItemsAt w' S ia 0 l :=
  h.keep fun b hs hlt => hb.block b (hS b hlt hs)
theorem ArrAt.alloc (h : ArrAt w S a sa na ia) (o : Obj) : ArrAt (w.alloc o) S a sa na ia := ArrAt.keep (fun b _ hlt => Below.heap_alloc w o b hlt) a h
theorem IntsAt.alloc (h : IntsAt w S ao xs) (o : Obj) : IntsAt (w.alloc o) S ao xs := h.keep fun b _ hlt => Below.heap_alloc w o b hlt
theorem ItemsAt.alloc (h : ItemsAt w S ia 0 l) (o : Obj) : ItemsAt (w.alloc o) S ia 0 l := h.keep fun b _ hlt => Below.heap_alloc w o b hlt
/-- The one word that suits every later world: nothing that was there has turned. -/
theorem ArrAt.later (h : ArrAt w S a sa na ia) (hb : Below w.heap.size w w') : ArrAt w' S a sa na ia := h.below hb fun _ h _ => h
theorem IntsAt.later (h : IntsAt w S ao xs) (hb : Below w.heap.size w w') : IntsAt w' S ao xs := h.below hb fun _ h _ => h
theorem ItemsAt.later (h : ItemsAt w S ia 0 l) (hb : Below w.heap.size w w') : ItemsAt w' S ia 0 l := h.below hb fun _ h _ => h
theorem ArrAt.drew (h : ArrAt w S a sa na ia) : ArrAt w.drew S a sa na ia := ArrAt.keep (w := w) (w' := w.drew) (fun _ _ _ => rfl) a h
theorem ArrAt.drewN (h : ArrAt w S a sa na ia) (n : Nat) : ArrAt (w.drewN n) S a sa na ia := ArrAt.keep (w := w) (w' := w.drewN n) (fun _ _ _ => rfl) a h
theorem IntsAt.drew (h : IntsAt w S ao xs) : IntsAt w.drew S ao xs := h.keep fun _ _ _ => rfl
theorem IntsAt.drewN (h : IntsAt w S ao xs) (n : Nat) : IntsAt (w.drewN n) S ao xs := h.keep fun _ _ _ => rfl
theorem ItemsAt.drew (h : ItemsAt w S ia 0 l) : ItemsAt w.drew S ia 0 l := h.keep fun _ _ _ => rfl
theorem ItemsAt.drewN (h : ItemsAt w S ia 0 l) (n : Nat) : ItemsAt (w.drewN n) S ia 0 l := h.keep fun _ _ _ => rfl
/-- A slice of int: its element k. -/
theorem IntsAt.at (h : IntsAt w S ao xs) {k : Nat} (hk : k < xs.length) : ∃ b off, ao = some ⟨b, off, none⟩ ∧ b < w.heap.size ∧ S b ∧ w.cell? ⟨b, off + k, none⟩ = some (.int .i64 (xs.getD k 0)) := by
  obtain ⟨b, off, e, hS, hlt, hc⟩ := h.2 (by omega)
  exact ⟨b, off, e, hlt, hS, hc k hk⟩
/-- A slice of arrays: its element k. -/
theorem ItemsAt.at (h : ItemsAt w S ia 0 l) {k : Nat} (hk : k < l.length) : ∃ b off sa sc na nc ja jc, ia = some ⟨b, off, none⟩ ∧ S b ∧ b < w.heap.size ∧ w.cell? ⟨b, off + k * 4, none⟩ = some (.int .i64 (l[k]).kind) ∧
    w.cell? ⟨b, off + k * 4 + 1, none⟩ = some (.slice sa (l[k]).shape.length sc) ∧ w.cell? ⟨b, off + k * 4 + 2, none⟩ = some (.slice na (l[k]).nums.length nc) ∧ w.cell? ⟨b, off + k * 4 + 3, none⟩ = some (.slice ja (l[k]).items.length jc) ∧ ArrAt w S l[k] sa na ja := by
  have := h.get k l[k] (List.getElem?_eq_getElem hk)
  simpa using this
end
end Go.Proofs.Ytdpdcjadedcglaa
namespace Go.Proofs.Ytdpdcjadedcglaa

/-- the product of the dimensions other than 0 -/
def prodNZ : List Int → Int
  | [] => 1
  | d :: l => if d = 0 then prodNZ l else d * prodNZ l
theorem prodNZ_append (l m : List Int) : prodNZ (l ++ m) = prodNZ l * prodNZ m := by
  induction l with
  | nil => simp [prodNZ]
  | cons d l ih =>
    simp only [List.cons_append, prodNZ, ih]
    split
    · rfl
    · rw [Int.mul_assoc]
theorem prodNZ_pos {l : List Int} (h : ∀ d ∈ l, 0 ≤ d) : 1 ≤ prodNZ l := by
  induction l with
  | nil => simp [prodNZ]
  | cons d l ih =>
    have h1 := ih fun x hx => h x (List.mem_cons_of_mem _ hx)
    have h2 := h d (List.mem_cons_self ..)
    simp only [prodNZ]
    split
    · exact h1
    · have h3 : 1 ≤ d := by omega
      calc (1 : Int) = 1 * 1 := by rfl
        _ ≤ d * prodNZ l := Int.mul_le_mul h3 h1 (by omega) (by omega)
theorem mem_take {l : List Int} {k : Nat} {d : Int} (h : d ∈ l.take k) : d ∈ l := List.mem_of_mem_take h
theorem mem_drop {l : List Int} {k : Nat} {d : Int} (h : d ∈ l.drop k) : d ∈ l := List.mem_of_mem_drop h
theorem prodNZ_take_le {l : List Int} (h : ∀ d ∈ l, 0 ≤ d) (k : Nat) : prodNZ (l.take k) ≤ prodNZ l := by
  have e : prodNZ l = prodNZ (l.take k) * prodNZ (l.drop k) := by rw [← prodNZ_append, List.take_append_drop]
  have h1 := prodNZ_pos fun d hd => h d (mem_take (k := k) hd)
  have h2 := prodNZ_pos fun d hd => h d (mem_drop (k := k) hd)
  rw [e]
  calc prodNZ (l.take k) = prodNZ (l.take k) * 1 := by rw [Int.mul_one]
    _ ≤ prodNZ (l.take k) * prodNZ (l.drop k) := Int.mul_le_mul_of_nonneg_left h2 (by omega)
theorem prodNZ_drop_le {l : List Int} (h : ∀ d ∈ l, 0 ≤ d) (k : Nat) : prodNZ (l.drop k) ≤ prodNZ l := by
  have e : prodNZ l = prodNZ (l.take k) * prodNZ (l.drop k) := by rw [← prodNZ_append, List.take_append_drop]
  have h1 := prodNZ_pos fun d hd => h d (mem_take (k := k) hd)
  have h2 := prodNZ_pos fun d hd => h d (mem_drop (k := k) hd)
  rw [e]
  calc prodNZ (l.drop k) = 1 * prodNZ (l.drop k) := by rw [Int.one_mul]
    _ ≤ prodNZ (l.take k) * prodNZ (l.drop k) := Int.mul_le_mul_of_nonneg_right h1 (by omega)
theorem take_succ_getD {l : List Int} {k : Nat} (h : k < l.length) : l.take (k + 1) = l.take k ++ [l.getD k 0] := by
  rw [List.take_succ_eq_append_getElem h]
  simp [h]
theorem getD_mem {l : List Int} {k : Nat} (h : k < l.length) : l.getD k 0 ∈ l := by
  have : l.getD k 0 = l[k] := by simp [h]
  rw [this]; exact List.getElem_mem h
theorem prodNZ_one (d : Int) : prodNZ [d] = if d = 0 then 1 else d := by simp only [prodNZ]; split <;> simp
theorem prodNZ_take_succ {l : List Int} {k : Nat} (h : k < l.length) : prodNZ (l.take (k + 1)) = if l.getD k 0 = 0 then prodNZ (l.take k) else prodNZ (l.take k) * l.getD k 0 := by
  rw [take_succ_getD h, prodNZ_append, prodNZ_one]
  split <;> simp
theorem prodNZ_ge_mem {l : List Int} (h : ∀ d ∈ l, 0 ≤ d) {d : Int} (hd : d ∈ l) : d ≤ prodNZ l := by
  induction l with
  | nil => simp at hd
  | cons x l ih =>
    have hl : ∀ d ∈ l, 0 ≤ d := fun y hy => h y (List.mem_cons_of_mem _ hy)
    have h1 := prodNZ_pos hl
    have hx := h x (List.mem_cons_self ..)
    simp only [prodNZ]
    rcases List.mem_cons.1 hd with rfl | hd
    · split
      · omega
      · calc d = d * 1 := by rw [Int.mul_one]
          _ ≤ d * prodNZ l := Int.mul_le_mul_of_nonneg_left h1 hx
    · have h2 := ih hl hd
      split
      · exact h2
      · calc d ≤ prodNZ l := h2
          _ = 1 * prodNZ l := by rw [Int.one_mul]
          _ ≤ x * prodNZ l := Int.mul_le_mul_of_nonneg_right (by omega) (by omega)

/-- a valid shape -/
def shapeB (s : List Int) : Bool := decide (s.length ≤ 8 ∧ (∀ d ∈ s, 0 ≤ d) ∧ prodNZ s ≤ 65536)
theorem shapeB_iff {s : List Int} : shapeB s = true ↔ s.length ≤ 8 ∧ (∀ d ∈ s, 0 ≤ d) ∧ prodNZ s ≤ 65536 := by simp [shapeB]
theorem shapeB_false {s : List Int} (h : ¬ (s.length ≤ 8 ∧ (∀ d ∈ s, 0 ≤ d) ∧ prodNZ s ≤ 65536)) : shapeB s = false := by
  cases e : shapeB s with
  | false => rfl
  | true => exact absurd (shapeB_iff.1 e) h
/-- the number of elements of a valid shape -/
def cnt (s : List Int) : Int := if 0 ∈ s then 0 else prodNZ s
theorem shapeB_len {s : List Int} (h : 8 < s.length) : shapeB s = false := shapeB_false fun h' => by omega
theorem shapeB_neg {s : List Int} {k : Nat} (hk : k < s.length) (h : s.getD k 0 < 0) : shapeB s = false := shapeB_false fun h' => by
  have := h'.2.1 _ (getD_mem hk); omega
theorem shapeB_big {s : List Int} {k : Nat} (hk : k < s.length) (h : 65536 < s.getD k 0) : shapeB s = false := shapeB_false fun h' => by
  have := prodNZ_ge_mem h'.2.1 (getD_mem hk); omega
theorem shapeB_over {s : List Int} {k : Nat} (hk : k < s.length) (h0 : s.getD k 0 ≠ 0) (h : 65536 < prodNZ (s.take k) * s.getD k 0) : shapeB s = false := shapeB_false fun h' => by
  have h1 := prodNZ_take_le h'.2.1 (k + 1)
  rw [prodNZ_take_succ hk, if_neg h0] at h1
  omega
theorem nn_take_succ {s : List Int} {k : Nat} (hk : k < s.length) (h : ∀ d ∈ s.take k, 0 ≤ d) (h1 : 0 ≤ s.getD k 0) : ∀ d ∈ s.take (k + 1), 0 ≤ d := by
  intro d hd
  rw [take_succ_getD hk, List.mem_append] at hd
  rcases hd with hd | hd
  · exact h d hd
  · simp only [List.mem_singleton] at hd; rw [hd]; exact h1
theorem cnt_nonneg {s : List Int} (h : ∀ d ∈ s, 0 ≤ d) : 0 ≤ cnt s := by
  unfold cnt
  split
  · omega
  · have := prodNZ_pos h; omega
theorem cnt_le {s : List Int} (h : shapeB s = true) : 0 ≤ cnt s ∧ cnt s ≤ 65536 := by
  obtain ⟨_, h1, h2⟩ := shapeB_iff.1 h
  refine ⟨cnt_nonneg h1, ?_⟩
  unfold cnt
  split <;> omega
/-- the place of the first v, or -1 -/
def idxS (s : List Int) (v : Int) : Int := if v ∈ s then (s.idxOf v : Int) else -1
theorem idxS_at {s : List Int} {v : Int} {k : Nat} (hk : k < s.length) (h : s.getD k 0 = v) (hb : ∀ j, j < k → s.getD j 0 ≠ v) : idxS s v = k := by
  have hm : v ∈ s := by rw [← h]; exact getD_mem hk
  rw [idxS, if_pos hm]
  have hlt := List.idxOf_lt_length_of_mem hm
  have hget : s.getD (s.idxOf v) 0 = v := by simp [hlt]
  have h1 : ¬ s.idxOf v < k := fun h1 => hb _ h1 hget
  have h2 : ¬ k < s.idxOf v := fun h2 => by
    have hne := List.not_of_lt_findIdx (p := (· == v)) (xs := s) h2
    have e : s[k] = v := by simpa [hk] using h
    simp [e] at hne
  have : s.idxOf v = k := by omega
  rw [this]
theorem idxS_none {s : List Int} {v : Int} (hb : ∀ j, j < s.length → s.getD j 0 ≠ v) : idxS s v = -1 := by
  rw [idxS, if_neg]
  intro hm
  obtain ⟨j, hj, e⟩ := List.getElem_of_mem hm
  exact hb j hj (by simpa [hj] using e)
theorem idxS_pos {s : List Int} {v : Int} : decide (0 ≤ idxS s v) = decide (v ∈ s) := by
  unfold idxS
  by_cases h : v ∈ s <;> simp [h]
/-- the place of the first element with p, or -1 -/
def idxF (s : List Int) (p : Int → Bool) : Int := if s.any p then (s.findIdx p : Int) else -1
theorem idxF_at {s : List Int} {p : Int → Bool} {k : Nat} (hk : k < s.length) (h : p (s.getD k 0) = true) (hb : ∀ j, j < k → p (s.getD j 0) = false) : idxF s p = k := by
  have hm : s.any p = true := List.any_eq_true.2 ⟨_, getD_mem hk, h⟩
  rw [idxF, if_pos hm]
  have e : s.findIdx p = k := by
    rw [List.findIdx_eq hk]
    refine ⟨by simpa [hk] using h, fun j hj => ?_⟩
    have hjl : j < s.length := by omega
    simpa [hjl] using hb j hj
  rw [e]
theorem idxF_none {s : List Int} {p : Int → Bool} (hb : ∀ j, j < s.length → p (s.getD j 0) = false) : idxF s p = -1 := by
  rw [idxF, if_neg]
  intro hm
  obtain ⟨x, hx, e⟩ := List.any_eq_true.1 hm
  obtain ⟨j, hj, rfl⟩ := List.getElem_of_mem hx
  have := hb j hj
  simp [hj, e] at this
theorem idxF_pos {s : List Int} {p : Int → Bool} : decide (0 ≤ idxF s p) = s.any p := by
  unfold idxF
  cases h : s.any p <;> simp
theorem cnt_zero {s : List Int} (h : (0 : Int) ∈ s) : cnt s = 0 := by simp [cnt, h]
theorem cnt_prod {s : List Int} (h : (0 : Int) ∉ s) : cnt s = prodNZ s := by simp [cnt, h]
theorem prodNZ_take_step {s : List Int} {k : Nat} (hk : k < s.length) (h : (0 : Int) ∉ s) : prodNZ (s.take (k + 1)) = prodNZ (s.take k) * s.getD k 0 := by
  rw [prodNZ_take_succ hk, if_neg]
  intro e
  exact h (e ▸ getD_mem hk)
/-- a shape's size, or -1 -/
def sizeS (s : List Int) : Int := if shapeB s then cnt s else -1
theorem sizeS_true {s : List Int} (h : shapeB s = true) : sizeS s = cnt s := by simp [sizeS, h]
theorem sizeS_false {s : List Int} (h : shapeB s = false) : sizeS s = -1 := by simp [sizeS, h]
end Go.Proofs.Ytdpdcjadedcglaa
namespace Go.Proofs.Ytdpdcjadedcglaa

def numB (n : Int) : Bool := decide (-4611686018427387903 ≤ n ∧ n ≤ 4611686018427387903)
def chrB (n : Int) : Bool := decide (0 ≤ n ∧ n ≤ 1114111 ∧ (n < 55296 ∨ 57343 < n))
def negB (d : Int) : Bool := decide (d < 0)
/-- is n an element of kind k? -/
def elemB (k n : Int) : Bool := if k = 1 then numB n else if k = 2 then chrB n else true
/-- the first error of everything but the elements -/
def formE (k : Int) (s : List Int) (nn ni : Nat) : Int :=
  if ¬ (k = 1 ∨ k = 2 ∨ k = 3) then 14 else if 8 < s.length then 15 else if s.any negB = true then 16 else if shapeB s = false then 21
  else if k = 3 then (if (ni : Int) ≠ cnt s ∨ nn ≠ 0 then 16 else 0) else (if (nn : Int) ≠ cnt s ∨ ni ≠ 0 then 16 else 0)
/-- what the items leave -/
def chkEnd : Option (Int × Int) → Int × Int × Int
  | none => (17, 0, 0)
  | some r => if 16 < r.1 ∨ 262144 < r.2 then (21, 0, 0) else (0, r.1, r.2)
mutual
/-- the first error, the depth and the weight of an array -/
def chk : Arr → Int × Int × Int
  | .mk k s n l => if formE k s n.length l.length ≠ 0 then (formE k s n.length l.length, 0, 0) else if n.any (fun x => !elemB k x) = true then (17, 0, 0) else
    chkEnd (chkL l 0 ((n.length : Int) + l.length))
def chkL : List Arr → Int → Int → Option (Int × Int)
  | [], d, w => some (d, w)
  | x :: l, d, w => if (chk x).1 ≠ 0 then none else chkL l (max d ((chk x).2.1 + 1)) (min (w + (chk x).2.2) 262145)
end
def rightS (a : Arr) : Int := (chk a).1
theorem chk_eq (a : Arr) : chk a = if formE a.kind a.shape a.nums.length a.items.length ≠ 0 then (formE a.kind a.shape a.nums.length a.items.length, 0, 0) else if a.nums.any (fun x => !elemB a.kind x) = true then (17, 0, 0) else
    chkEnd (chkL a.items 0 ((a.nums.length : Int) + a.items.length)) := by
  cases a; simp only [chk, Arr.kind, Arr.shape, Arr.nums, Arr.items]; rfl
theorem chkL_nn : ∀ {l : List Arr} {d w : Int} {r : Int × Int}, (∀ x ∈ l, 0 ≤ (chk x).2.1 ∧ 0 ≤ (chk x).2.2) → 0 ≤ d → 0 ≤ w → chkL l d w = some r → 0 ≤ r.1 ∧ 0 ≤ r.2
  | [], d, w, r, _, hd, hw, h => by
    simp only [chkL, Option.some.injEq] at h
    subst h; exact ⟨hd, hw⟩
  | x :: l, d, w, r, hx, hd, hw, h => by
    simp only [chkL] at h
    have h1 := hx x (List.mem_cons_self ..)
    split at h
    · cases h
    · exact chkL_nn (fun y hy => hx y (List.mem_cons_of_mem _ hy)) (by omega) (by omega) h
theorem chk_bd (a : Arr) : (0 ≤ (chk a).2.1 ∧ (chk a).2.1 ≤ 16) ∧ (0 ≤ (chk a).2.2 ∧ (chk a).2.2 ≤ 262144) := by
  induction a using Arr.ind with
  | h a ih =>
    rw [chk_eq]
    split
    · simp
    split
    · simp
    cases hr : chkL a.items 0 ((a.nums.length : Int) + a.items.length) with
    | none => simp [chkEnd]
    | some r =>
      simp only [chkEnd]
      have := chkL_nn (fun x hx => ⟨(ih x hx).1.1, (ih x hx).2.1⟩) (by omega) (by omega) hr
      split
      · simp
      · simp; omega
theorem formE_zero {k : Int} {s : List Int} {nn ni : Nat} (h : formE k s nn ni = 0) : (k = 1 ∨ k = 2 ∨ k = 3) ∧ shapeB s = true ∧ ((k = 3 ∧ (ni : Int) = cnt s ∧ nn = 0) ∨ (k ≠ 3 ∧ (nn : Int) = cnt s ∧ ni = 0)) := by
  unfold formE at h
  split at h
  · omega
  · rename_i hk
    split at h
    · omega
    · split at h
      · omega
      · split at h
        · omega
        · rename_i hs
          have hs' : shapeB s = true := by simpa using hs
          split at h
          · rename_i h3
            split at h
            · omega
            · rename_i hh
              exact ⟨Or.inr (Or.inr h3), hs', Or.inl ⟨h3, by omega, by omega⟩⟩
          · rename_i h3
            split at h
            · omega
            · rename_i hh
              exact ⟨by omega, hs', Or.inr ⟨h3, by omega, by omega⟩⟩
theorem formE_kind {k : Int} {s : List Int} {nn ni : Nat} (h1 : k ≠ 1) (h2 : k ≠ 2) (h3 : k ≠ 3) : formE k s nn ni = 14 := by
  unfold formE; rw [if_pos (by omega)]
theorem formE_rank {k : Int} {s : List Int} {nn ni : Nat} (hk : k = 1 ∨ k = 2 ∨ k = 3) (h : 8 < s.length) : formE k s nn ni = 15 := by
  unfold formE; rw [if_neg (by omega), if_pos h]
theorem formE_neg {k : Int} {s : List Int} {nn ni : Nat} (hk : k = 1 ∨ k = 2 ∨ k = 3) (h : ¬ 8 < s.length) (hn : s.any negB = true) : formE k s nn ni = 16 := by
  unfold formE; rw [if_neg (by omega), if_neg h, if_pos hn]
theorem formE_limit {k : Int} {s : List Int} {nn ni : Nat} (hk : k = 1 ∨ k = 2 ∨ k = 3) (h : ¬ 8 < s.length) (hn : s.any negB = false) (hs : shapeB s = false) : formE k s nn ni = 21 := by
  unfold formE; rw [if_neg (by omega), if_neg h, if_neg (by simp [hn]), if_pos hs]
theorem formE_last3 {k : Int} {s : List Int} {nn ni : Nat} (hk : k = 3) (h : ¬ 8 < s.length) (hn : s.any negB = false) (hs : shapeB s = true) : formE k s nn ni = if (ni : Int) ≠ cnt s ∨ nn ≠ 0 then 16 else 0 := by
  unfold formE; rw [if_neg (by omega), if_neg h, if_neg (by simp [hn]), if_neg (by simp [hs]), if_pos hk]
theorem formE_last {k : Int} {s : List Int} {nn ni : Nat} (hk : k = 1 ∨ k = 2) (h : ¬ 8 < s.length) (hn : s.any negB = false) (hs : shapeB s = true) : formE k s nn ni = if (nn : Int) ≠ cnt s ∨ ni ≠ 0 then 16 else 0 := by
  unfold formE; rw [if_neg (by omega), if_neg h, if_neg (by simp [hn]), if_neg (by simp [hs]), if_neg (by omega)]
/-- the number of elements, by kind -/
def szN (k : Int) (nn ni : Nat) : Nat := if k = 1 ∨ k = 2 then nn else if k = 3 then ni else 0
mutual
/-- the weight, at most 262145 -/
def wtS : Arr → Int
  | .mk k _ n l => if k = 3 then wtL l (min (l.length : Int) 262145) else min (szN k n.length l.length : Int) 262145
def wtL : List Arr → Int → Int
  | [], w => w
  | x :: l, w => wtL l (min (w + wtS x) 262145)
end
theorem wtS_eq (a : Arr) : wtS a = if a.kind = 3 then wtL a.items (min (a.items.length : Int) 262145) else min (szN a.kind a.nums.length a.items.length : Int) 262145 := by
  cases a; simp only [wtS, Arr.kind, Arr.nums, Arr.items]; rfl
theorem wtL_nn : ∀ {l : List Arr} {w : Int}, (∀ x ∈ l, 0 ≤ wtS x) → 0 ≤ w → 0 ≤ wtL l w
  | [], w, _, h => by simpa only [wtL] using h
  | x :: l, w, hx, h => by
    simp only [wtL]
    have := hx x (List.mem_cons_self ..)
    exact wtL_nn (fun y hy => hx y (List.mem_cons_of_mem _ hy)) (by omega)
theorem wtL_le : ∀ {l : List Arr} {w : Int}, w ≤ 262145 → wtL l w ≤ 262145
  | [], w, h => by simpa only [wtL] using h
  | x :: l, w, h => by simp only [wtL]; exact wtL_le (by omega)
theorem wtS_bd (a : Arr) : 0 ≤ wtS a ∧ wtS a ≤ 262145 := by
  induction a using Arr.ind with
  | h a ih =>
    rw [wtS_eq]
    split
    · exact ⟨wtL_nn (fun x hx => (ih x hx).1) (by omega), wtL_le (by omega)⟩
    · omega
theorem wtL_cap : ∀ {l : List Arr} {w : Int}, 262145 ≤ w → wtL l (min w 262145) = 262145
  | [], w, h => by simp only [wtL]; omega
  | x :: l, w, h => by
    simp only [wtL]
    have := wtS_bd x
    rw [show min (min w 262145 + wtS x) 262145 = min (262145 + wtS x) 262145 from by omega]
    exact wtL_cap (by omega)
theorem wtL_step (x : Arr) (l : List Arr) {w : Int} (h : 0 ≤ w) : wtL (x :: l) (min w 262145) = wtL l (min (w + wtS x) 262145) := by
  simp only [wtL]
  have := wtS_bd x
  rw [show min (min w 262145 + wtS x) 262145 = min (w + wtS x) 262145 from by omega]
theorem chkL_wt : ∀ {l : List Arr} {d w : Int} {r : Int × Int}, (∀ x ∈ l, (chk x).1 = 0 → (chk x).2.2 = wtS x) → chkL l d w = some r → r.2 = wtL l w
  | [], d, w, r, _, h => by simp only [chkL, Option.some.injEq] at h; subst h; simp only [wtL]
  | x :: l, d, w, r, hx, h => by
    simp only [chkL] at h
    split at h
    · cases h
    · rename_i h0
      have h1 := hx x (List.mem_cons_self ..) (by omega)
      simp only [wtL]
      rw [← h1]
      exact chkL_wt (fun y hy => hx y (List.mem_cons_of_mem _ hy)) h
/-- what is known of an array whose elements have been looked into -/
theorem chk_ok {a : Arr} (h : (chk a).1 = 0) : formE a.kind a.shape a.nums.length a.items.length = 0 ∧ a.nums.any (fun x => !elemB a.kind x) = false ∧ ∃ r, chkL a.items 0 ((a.nums.length : Int) + a.items.length) = some r ∧ ¬ (16 < r.1 ∨ 262144 < r.2) ∧ chk a = (0, r.1, r.2) := by
  rw [chk_eq] at h ⊢
  split at h
  · rename_i h1; exact absurd h h1
  · rename_i h1
    split at h
    · omega
    · rename_i h2
      rw [if_neg h1, if_neg h2]
      cases hr : chkL a.items 0 ((a.nums.length : Int) + a.items.length) with
      | none => rw [hr] at h; simp [chkEnd] at h
      | some r =>
        rw [hr] at h
        simp only [chkEnd] at h ⊢
        split at h
        · omega
        · rename_i h3
          exact ⟨by simpa using h1, by simpa using h2, r, rfl, h3, by rw [if_neg h3]⟩
theorem form_items {k : Int} {s : List Int} {nn ni : Nat} (h : formE k s nn ni = 0) (hk : k ≠ 3) : ni = 0 := by
  obtain ⟨_, _, h1 | h1⟩ := formE_zero h <;> omega
theorem form_len {k : Int} {s : List Int} {nn ni : Nat} (h : formE k s nn ni = 0) : nn + ni ≤ 65536 := by
  obtain ⟨_, h2, h1 | h1⟩ := formE_zero h <;> (have := cnt_le h2; omega)
theorem chk_wtL {a : Arr} (hf : formE a.kind a.shape a.nums.length a.items.length = 0) : wtS a = wtL a.items ((a.nums.length : Int) + a.items.length) := by
  have hl := form_len hf
  rw [wtS_eq]
  obtain ⟨hk, _, ⟨h3, _, h4⟩ | ⟨h3, _, h4⟩⟩ := formE_zero hf
  · rw [if_pos h3, h4]
    congr 1
    omega
  · rw [if_neg h3]
    have : a.items = [] := List.eq_nil_of_length_eq_zero h4
    rw [this]
    simp only [wtL, szN]
    rw [if_pos (by omega)]
    simp
    omega
theorem chk_wt (a : Arr) : (chk a).1 = 0 → (chk a).2.2 = wtS a := by
  induction a using Arr.ind with
  | h a ih =>
    intro h
    obtain ⟨hf, _, r, hr, h3, he⟩ := chk_ok h
    rw [he, chk_wtL hf]
    exact chkL_wt (fun x hx => ih x hx) hr
/-- the product of the positive numbers, at most 65537 -/
def posOf (s : List Int) : List Int := s.map fun d => max d 0
def prodC (s : List Int) : Int := if prodNZ (posOf s) ≤ 65536 then prodNZ (posOf s) else 65537
theorem posOf_nn (s : List Int) : ∀ d ∈ posOf s, 0 ≤ d := by
  intro d hd
  obtain ⟨x, _, rfl⟩ := List.mem_map.1 hd
  omega
theorem posOf_id {s : List Int} (h : ∀ d ∈ s, 0 ≤ d) : posOf s = s := by
  unfold posOf
  conv => rhs; rw [← List.map_id s]
  exact List.map_congr_left fun d hd => by have := h d hd; simp; omega
theorem posOf_take (s : List Int) (k : Nat) : posOf (s.take k) = (posOf s).take k := by simp [posOf]
theorem posOf_getD (s : List Int) (k : Nat) : (posOf s).getD k 0 = max (s.getD k 0) 0 := by
  unfold posOf
  by_cases h : k < s.length
  · simp [h]
  · simp [h]
theorem posOf_len (s : List Int) : (posOf s).length = s.length := by simp [posOf]
/-- the first error of a list of dimensions -/
def dimsE (s : List Int) : Int := if 8 < s.length then 15 else if s.any negB = true then 16 else if 65536 < prodNZ (posOf s) then 21 else 0
/-- the size of a list of dimensions -/
def cntC (s : List Int) : Int := if 0 ∈ s then 0 else prodC s
theorem any_negB {s : List Int} : s.any negB = false ↔ ∀ d ∈ s, 0 ≤ d := by
  simp [negB, List.any_eq_false]
theorem dimsE_zero {s : List Int} : dimsE s = 0 ↔ shapeB s = true := by
  rw [shapeB_iff]
  unfold dimsE
  constructor
  · intro h
    split at h
    · omega
    · split at h
      · omega
      · rename_i h1 h2
        have h2' := any_negB.1 (by simpa using h2)
        rw [posOf_id h2'] at h
        split at h
        · omega
        · exact ⟨by omega, h2', by omega⟩
  · rintro ⟨h1, h2, h3⟩
    have := any_negB.2 h2
    rw [if_neg (by omega), if_neg (by simp [this]), posOf_id h2, if_neg (by omega)]
theorem dimsE_form {k : Int} {s : List Int} {nn ni : Nat} (hk : k = 1 ∨ k = 2 ∨ k = 3) (h : dimsE s ≠ 0) : formE k s nn ni = dimsE s := by
  unfold dimsE at *
  split at h
  · rename_i h1; rw [if_pos h1]; exact formE_rank hk h1
  · rename_i h1
    rw [if_neg h1]
    split at h
    · rename_i h2; rw [if_pos h2]; exact formE_neg hk h1 h2
    · rename_i h2
      rw [if_neg h2]
      split at h
      · rename_i h3
        rw [if_pos h3]
        have h2' : s.any negB = false := by simpa using h2
        refine formE_limit hk h1 h2' (shapeB_false fun h' => ?_)
        rw [posOf_id (any_negB.1 h2')] at h3
        omega
      · omega
theorem cntC_eq {s : List Int} (h : shapeB s = true) : cntC s = cnt s := by
  obtain ⟨h1, h2, h3⟩ := shapeB_iff.1 h
  unfold cntC cnt prodC
  rw [posOf_id h2]
  split
  · rfl
  · first | rfl | rw [if_pos h3]
theorem formE_szN {k : Int} {s : List Int} {nn ni : Nat} (hk : k = 1 ∨ k = 2 ∨ k = 3) (hs : shapeB s = true) : formE k s nn ni = if (szN k nn ni : Int) ≠ cnt s ∨ (if k = 3 then nn else ni) ≠ 0 then 16 else 0 := by
  obtain ⟨h1, h2, h3⟩ := shapeB_iff.1 hs
  have hn := any_negB.2 h2
  rcases hk with hk | hk | hk
  · rw [formE_last (Or.inl hk) (by omega) hn hs]; simp [szN, hk]
  · rw [formE_last (Or.inr hk) (by omega) hn hs]; simp [szN, hk]
  · rw [formE_last3 hk (by omega) hn hs]; simp [szN, hk]
end Go.Proofs.Ytdpdcjadedcglaa
namespace Go.Proofs.Ytdpdcjadedcglaa
open Go.ChangeShapes Go.WideShapes Go.ChangeAt Go.RowKit Go.Deep

theorem sized_at {H : Type} {P : Program} {ts : List TypeId} {ds : List (DataW H)} (h : (DataW.weightsEach P ts ds).all (fun x => decide (x ≤ reachBytes)) = true) {j : Nat} {t : TypeId} {d : DataW H} (ht : ts[j]? = some t) (hd : ds[j]? = some d) :
    ∀ n ∈ d.weights P t, n ≤ reachBytes := fun n hn => by simpa using List.all_eq_true.1 h _ (DataW.weights_mem_each ht hd n hn)
theorem mem_weightsAll {H : Type} {P : Program} {e : TypeId} : ∀ {l : List (DataW H)} {d : DataW H}, d ∈ l → ∀ n ∈ d.weights P e, n ∈ DataW.weightsAll P e l
  | x :: r, d, h, n, hn => by
    simp only [DataW.weightsAll, List.mem_append]
    rcases List.mem_cons.1 h with rfl | h
    · exact Or.inl hn
    · exact Or.inr (mem_weightsAll h n hn)
theorem reach_eq : reachBytes = 140737488351232 := by decide
theorem bytesInt : Program.bytesOf Try.prog 3 = 8 := by kernel_rfl
theorem bytesArr : Program.bytesOf Try.prog 27 = 80 := by kernel_rfl
theorem cellsInt : Program.cellsOf Try.prog 3 = 1 := by kernel_rfl
theorem cellsArr : Program.cellsOf Try.prog 27 = 4 := by kernel_rfl
theorem cellsKind : Program.cellsOf Try.prog 23 = 1 := by kernel_rfl
theorem cellsInts : Program.cellsOf Try.prog 24 = 1 := by kernel_rfl
theorem cellsArrs : Program.cellsOf Try.prog 25 = 1 := by kernel_rfl

/-- a slice of int -/
theorem open_ints_at {H : Type} {enc : TypeId × Value → H} {W : World} {fuel : Nat} {v : Value} {x : DataW H × List MemPlace}
    (h : DataW.trod enc Try.prog W 0 (fun _ => true) true fuel 24 [v] = some x) (hz : ∀ n ∈ x.1.weights Try.prog 24, n ≤ reachBytes) :
    ∃ ao xs cap, v = .slice ao (List.length xs) cap ∧ IntsAt W (fun b => b < W.heap.size) ao xs := by
  rcases open_ints Try.underlying24 Try.underlying3 cellsInt h with ⟨hcs, _⟩ | ⟨a, l, c, zs, hcs, _, hl, hm, hzl, hx, hcell, hwz⟩
  · simp at hcs
    subst hcs
    exact ⟨none, [], 0, rfl, IntsAt.nil _ _ _⟩
  · simp at hcs
    subst hcs
    have hzl' : zs.length = c := by simpa using hzl
    have hsz := hz
    rw [hx] at hsz
    have h1 := hsz (zs.length * Program.bytesOf Try.prog 3) (by simp [DataW.weights, Try.underlying24, lits]; left; congr 1; omega)
    rw [bytesInt, reach_eq] at h1
    refine ⟨some a, zs.take l, c, by simp; omega, by simp; omega, fun h0 => ?_⟩
    simp at h0
    have c0 := hcell 0 (by omega)
    obtain ⟨b, off, spot⟩ := a
    have hspot : spot = none := by simpa [Addr.add] using World.cell?_spot c0
    subst hspot
    have hblk := World.block_lt_of_cell? W _ c0
    have hb : b < W.heap.size := by simpa [Addr.add] using hblk
    refine ⟨b, off, rfl, hb, hb, fun k hk => ?_⟩
    simp at hk
    have ck := hcell k (by omega)
    simp only [Addr.add_lit] at ck
    rw [ck]
    have hk' : k < l := by omega
    simp [List.getElem?_take, hk']
/-- an array, cell by cell -/
theorem open_arr_cells {H : Type} {enc : TypeId × Value → H} {W : World} : ∀ (fuel : Nat) (cs : List Value) (x : DataW H × List MemPlace),
    DataW.trod enc Try.prog W 0 (fun _ => true) true fuel 27 cs = some x → (∀ n ∈ x.1.weights Try.prog 27, n ≤ reachBytes) →
    ∃ a sa sc na nc ia ic, cs = [.int .i64 (Arr.kind a), .slice sa a.shape.length sc, .slice na a.nums.length nc, .slice ia a.items.length ic] ∧ ArrAt W (fun b => b < W.heap.size) a sa na ia := by
  intro fuel
  induction fuel using Nat.strongRecOn with
  | _ fuel IH =>
    intro cs x h hz
    obtain ⟨xs, n, hfuel, rfl, hl, hlen, hf⟩ := DataW.trod_struct Try.underlying27 h
    have hl4 : cs.length = 4 := hl.trans cellsArr
    match xs, hlen with
    | [y0, y1, y2, y3], _ =>
      match cs, hl4 with
      | [c0, c1, c2, c3], _ =>
        have t0 : DataW.trod enc Try.prog W 0 (fun _ => true) true n 23 [c0] = some y0 := by simpa [cellsKind] using hf 0 _ rfl
        have t1 : DataW.trod enc Try.prog W 0 (fun _ => true) true n 24 [c1] = some y1 := by simpa [cellsInts] using hf 1 _ rfl
        have t2 : DataW.trod enc Try.prog W 0 (fun _ => true) true n 24 [c2] = some y2 := by simpa [cellsInts] using hf 2 _ rfl
        have t3 : DataW.trod enc Try.prog W 0 (fun _ => true) true n 25 [c3] = some y3 := by simpa [cellsArrs] using hf 3 _ rfl
        have z1 : ∀ n ∈ y1.1.weights Try.prog 24, n ≤ reachBytes := fun n hn => hz n (by simp [DataW.weights, Try.underlying27, DataW.weightsEach, hn])
        have z2 : ∀ n ∈ y2.1.weights Try.prog 24, n ≤ reachBytes := fun n hn => hz n (by simp [DataW.weights, Try.underlying27, DataW.weightsEach, hn])
        have z3 : ∀ n ∈ y3.1.weights Try.prog 25, n ≤ reachBytes := fun n hn => hz n (by simp [DataW.weights, Try.underlying27, DataW.weightsEach, hn])
        obtain ⟨kd, hk, _, _⟩ := DataW.trod_int Try.underlying23 t0
        simp at hk
        subst hk
        obtain ⟨sa, s, sc, rfl, hs⟩ := open_ints_at t1 z1
        obtain ⟨na, ns, nc, rfl, hn⟩ := open_ints_at t2 z2
        rcases DataW.trod_slice Try.underlying25 t3 with ⟨hcs, _⟩ | ⟨a, len, cap, elems, rest, m, hm, hcs, hx, _, hlc, hcm, hel, hall, _, _⟩
        · simp at hcs
          subst hcs
          exact ⟨.mk kd s ns [], sa, sc, na, nc, none, 0, by simp [Arr.kind, Arr.shape, Arr.nums, Arr.items], by rw [ArrAt.iff]; exact ⟨hs, hn, by simp [Arr.items], by simp [Arr.items, ItemsAt]⟩⟩
        · simp at hcs
          subst hcs
          rw [cellsArr] at hall
          have each : ∀ i, ∃ q : Arr, i < len → ∃ sa sc na nc ia ic, W.cells? 0 (a.add (i * 4)) 4 = some [.int .i64 q.kind, .slice sa q.shape.length sc, .slice na q.nums.length nc, .slice ia q.items.length ic] ∧ ArrAt W (fun b => b < W.heap.size) q sa na ia := by
            intro i
            by_cases hi : i < len
            · have hb := hall i hi
              have hiel : i < elems.length := by omega
              rw [List.getElem?_eq_getElem hiel] at hb
              obtain ⟨cs', hc', ht'⟩ := Option.bind_eq_some_iff.1 hb
              have hzi : ∀ n ∈ (elems[i]).1.weights Try.prog 27, n ≤ reachBytes := fun n hn => z3 n (by
                rw [hx]
                simp only [DataW.weights, Try.underlying25, List.mem_cons, List.mem_append]
                exact Or.inr (Or.inl (mem_weightsAll (List.mem_map.2 ⟨elems[i], List.getElem_mem _, rfl⟩) n hn)))
              obtain ⟨q, sa', sc', na', nc', ia', ic', rfl, hq⟩ := IH m (by omega) cs' _ ht' hzi
              exact ⟨q, fun _ => ⟨sa', sc', na', nc', ia', ic', hc', hq⟩⟩
            · exact ⟨Arr.zero, fun h => absurd h hi⟩
          obtain ⟨q, hq⟩ := Classical.axiomOfChoice each
          have hlen' : len ≤ 1759218604441 := by
            have h1 := z3 ((elems.length + rest.length) * Program.bytesOf Try.prog 27) (by rw [hx]; simp [DataW.weights, Try.underlying25])
            rw [bytesArr, reach_eq] at h1
            omega
          refine ⟨.mk kd s ns ((List.range len).map q), sa, sc, na, nc, some a, cap, by simp [Arr.kind, Arr.shape, Arr.nums, Arr.items], ?_⟩
          rw [ArrAt.iff]
          refine ⟨hs, hn, by simpa [Arr.items] using hlen', ItemsAt.of_get fun j y hy => ?_⟩
          simp only [Arr.items] at hy
          have hj : j < len := by
            have := (List.getElem?_eq_some_iff.1 hy).1
            simpa using this
          have hy' : q j = y := by simpa [hj] using hy
          subst hy'
          obtain ⟨sa', sc', na', nc', ia', ic', hc', hq'⟩ := hq j hj
          obtain ⟨_, _, hcell⟩ := World.cells?_some hc'
          have e0 := hcell 0 (by omega)
          have e1 := hcell 1 (by omega)
          have e2 := hcell 2 (by omega)
          have e3 := hcell 3 (by omega)
          obtain ⟨b, off, spot⟩ := a
          have hspot : spot = none ∨ j ≠ 0 := by
            by_cases hj0 : j = 0
            · subst hj0
              left
              have := World.cell?_spot e0
              simpa [Addr.add] using this
            · exact Or.inr hj0
          have hspot : spot = none := by
            obtain ⟨sa0, sc0, na0, nc0, ia0, ic0, hc0, _⟩ := hq 0 (by omega)
            obtain ⟨_, _, hcell0⟩ := World.cells?_some hc0
            have f0 := hcell0 0 (by omega)
            have := World.cell?_spot f0
            simpa [Addr.add] using this
          subst hspot
          simp only [Addr.add_lit, Nat.add_zero] at e0 e1 e2 e3
          have hb : b < W.heap.size := World.block_lt_of_cell? W _ e0
          refine ⟨b, off, sa', sc', na', nc', ia', ic', rfl, hb, hb, ?_, ?_, ?_, ?_, hq'⟩
          · simpa using e0
          · simpa using e1
          · simpa using e2
          · simpa using e3
/-- an array by value -/
theorem open_arr {H : Type} {enc : TypeId × Value → H} {W : World} {r : Reach} {b0 : Nat} {v : Value} {d : DataW H} {p : List MemPlace} (hv : Value.okWide Try.prog W r b0 27 v)
    (h : DataW.Trod enc Try.prog W 0 (fun _ => true) true 27 v d p) (hz : ∀ n ∈ d.weights Try.prog 27, n ≤ reachBytes) :
    ∃ (a : Arr) (sa : Option Addr) (sc : Nat) (na : Option Addr) (nc : Nat) (ia : Option Addr) (ic : Nat), v = .agg #[.int .i64 a.kind, .slice sa a.shape.length sc, .slice na a.nums.length nc, .slice ia a.items.length ic] ∧ ArrAt W (fun b => b < W.heap.size) a sa na ia := by
  obtain ⟨cs, rfl, hsz⟩ := okWide_struct Try.underlying27 hv
  obtain ⟨fuel, hf⟩ := h
  obtain ⟨a, sa, sc, na, nc, ia, ic, e, ha⟩ := open_arr_cells fuel _ _ hf hz
  refine ⟨a, sa, sc, na, nc, ia, ic, ?_, ha⟩
  simp only [Value.cells] at e
  rw [← Array.toArray_toList (xs := cs), e]
/-- a list of numbers -/
theorem open_intsV {H : Type} {enc : TypeId × Value → H} {W : World} {ao : Option Addr} {len cap : Nat} {d : DataW H} {p : List MemPlace}
    (h : DataW.Trod enc Try.prog W 0 (fun _ => true) true 24 (.slice ao len cap) d p) (hz : ∀ n ∈ d.weights Try.prog 24, n ≤ reachBytes) :
    ∃ xs : List Int, len = xs.length ∧ IntsAt W (fun b => b < W.heap.size) ao xs := by
  obtain ⟨fuel, hf⟩ := h
  obtain ⟨ao', xs, cap', e, hx⟩ := open_ints_at (by simpa [Value.cells] using hf) hz
  injection e with e1 e2 e3
  subst e1
  exact ⟨xs, e2, hx⟩
end Go.Proofs.Ytdpdcjadedcglaa
namespace Go.Proofs.Ytdpdcjadedcglaa
open Go.ChangeShapes Go.WideShapes Go.ChangeAt Go.RowKit
theorem ints_cap {H : Type} {enc : TypeId × Value → H} {W : World} {fuel : Nat} {x : DataW H × List MemPlace} {ao : Option Addr} {n c : Nat}
    (h : DataW.trod enc Try.prog W 0 (fun _ => true) true fuel 24 [.slice ao n c] = some x) : n ≤ c := by
  rcases open_ints Try.underlying24 Try.underlying3 cellsInt h with ⟨hcs, _⟩ | ⟨a, l, c', zs, hcs, _, hl, _⟩
  · simp at hcs; omega
  · simp at hcs; omega
theorem arrs_cap {H : Type} {enc : TypeId × Value → H} {W : World} {fuel : Nat} {x : DataW H × List MemPlace} {ao : Option Addr} {n c : Nat}
    (h : DataW.trod enc Try.prog W 0 (fun _ => true) true fuel 25 [.slice ao n c] = some x) : n ≤ c := by
  rcases DataW.trod_slice Try.underlying25 h with ⟨hcs, _⟩ | ⟨a, len, cap, elems, rest, m, hm, hcs, hx, _, hlc, _⟩
  · simp at hcs; omega
  · simp at hcs; omega
theorem arr_caps {H : Type} {enc : TypeId × Value → H} {W : World} {d : DataW H} {p : List MemPlace} {k : Value} {sa na ia : Option Addr} {l1 l2 l3 sc nc ic : Nat}
    (h : DataW.Trod enc Try.prog W 0 (fun _ => true) true 27 (.agg #[k, .slice sa l1 sc, .slice na l2 nc, .slice ia l3 ic]) d p) : l1 ≤ sc ∧ l2 ≤ nc ∧ l3 ≤ ic := by
  obtain ⟨fuel, hf0⟩ := h
  obtain ⟨xs, n, hfuel, hpair, hl, hlen, hf⟩ := DataW.trod_struct Try.underlying27 hf0
  match xs, hlen with
  | [y0, y1, y2, y3], _ =>
    have t1 : DataW.trod enc Try.prog W 0 (fun _ => true) true n 24 [.slice sa l1 sc] = some y1 := by simpa [cellsKind, cellsInts, Value.cells] using hf 1 _ rfl
    have t2 : DataW.trod enc Try.prog W 0 (fun _ => true) true n 24 [.slice na l2 nc] = some y2 := by simpa [cellsKind, cellsInts, Value.cells] using hf 2 _ rfl
    have t3 : DataW.trod enc Try.prog W 0 (fun _ => true) true n 25 [.slice ia l3 ic] = some y3 := by simpa [cellsKind, cellsInts, cellsArrs, Value.cells] using hf 3 _ rfl
    exact ⟨ints_cap t1, ints_cap t2, arrs_cap t3⟩
end Go.Proofs.Ytdpdcjadedcglaa
namespace Go.Proofs.Ytdpdcjadedcglaa
open Go.RowKit
attribute [local go_sem ↓] run_max2 run_min2

set_option maxHeartbeats 1000000 in
theorem shape_Right (s : List Int) (ao : Option Addr) (cap : Nat) (S : Nat → Prop) (w : World) (h : IntsAt w S ao s) :
    Calls Try.prog 30 #[.slice ao s.length cap] w fun e w' => e = .returned (.bool (shapeB s)) ∧ w = w' := by
  refine calls_post fun R' hR => ?_
  have hl := h.1
  by_cases h8 : 8 < s.length
  · have e := shapeB_len h8
    have E := hid e; clear e
    go_enter Try.func30, Try.ntmps30
    go_wp2
    go_step3
    go_wp2
    exact hR.out _ _ ⟨by rw [E.out] <;> rfl, rfl⟩
  · go_enter Try.func30, Try.ntmps30
    go_wp2
    go_step3
    go_wp2
    go_step3
    go_wp2
    go_loop [3, 11] (fun p i => ∃ k : Nat, k ≤ s.length ∧ i = .int .i64 k ∧ p = .int .i64 (prodNZ (s.take k)) ∧ 1 ≤ prodNZ (s.take k) ∧ prodNZ (s.take k) ≤ 65536 ∧ Hid (∀ d ∈ s.take k, 0 ≤ d)) (fun _ i => s.length - (intOf i).toNat)
    case atStart => exact ⟨0, Nat.zero_le _, rfl, rfl, by simp [prodNZ], by simp [prodNZ], fun d hd => by simp at hd⟩
    case round =>
      obtain ⟨k, hk, rfl, rfl, hp1, hp2, hnn⟩ := hrel
      by_cases hlt : k < s.length
      · obtain ⟨b, off, rfl, hbl, hS, hc⟩ := h.at hlt
        have hsN := hid (shapeB_neg hlt)
        have hsB := hid (shapeB_big hlt)
        have hsO := hid (shapeB_over hlt)
        have hT := hid (prodNZ_take_succ hlt)
        have hNN := hid (nn_take_succ hlt hnn.out)
        generalize s.getD k 0 = d at hc hsN hsB hsO hT hNN
        generalize prodNZ (s.take k) = p at hp1 hp2 hsO hT ⊢
        by_cases c1 : d < 0
        · go_wp2
          exact hR.out _ _ ⟨by rw [hsN.out c1] <;> rfl, rfl⟩
        by_cases c2 : 65536 < d
        · go_wp2
          exact hR.out _ _ ⟨by rw [hsB.out c2] <;> rfl, rfl⟩
        by_cases c3 : d = 0
        · have c3' := hid c3
          have e3 : (d == 0) = true := by simp [c3]
          clear c3
          go_wp2
          go_round
          case rel => exact ⟨k + 1, by omega, by go_num, by rw [hT.out, if_pos c3'.out], by rw [hT.out, if_pos c3'.out]; omega, by rw [hT.out, if_pos c3'.out]; omega, hNN.out (by omega)⟩
          case measure => simp [intOf]; omega
        have e3 : (d == 0) = false := by simp [c3]
        have hm1 : 1 ≤ p * d := by
          have := Int.mul_le_mul hp1 (show 1 ≤ d by omega) (by omega) (by omega)
          omega
        have hm2 : p * d ≤ 4294967296 := by
          have := Int.mul_le_mul hp2 (show d ≤ 65536 by omega) (by omega) (by omega)
          omega
        by_cases c4 : 65536 < p * d
        · have c3' := hid c3
          clear c3
          go_wp2
          exact hR.out _ _ ⟨by rw [hsO.out c3'.out c4] <;> rfl, rfl⟩
        · have c3' := hid c3
          clear c3
          go_wp2
          go_round
          case rel => exact ⟨k + 1, by omega, by go_num, by rw [hT.out, if_neg c3'.out], by rw [hT.out, if_neg c3'.out]; omega, by rw [hT.out, if_neg c3'.out]; omega, hNN.out (by omega)⟩
          case measure => simp [intOf]; omega
      · have hke : k = s.length := by omega
        have e : shapeB s = true := by
          rw [shapeB_iff]
          have h1 := hnn.out
          rw [hke, List.take_length] at h1 hp2
          exact ⟨by omega, h1, hp2⟩
        have E := hid e; clear e hke
        go_wp2
        exact hR.out _ _ ⟨by rw [E.out] <;> rfl, rfl⟩

set_option maxHeartbeats 1000000 in
theorem slices_Index (s : List Int) (v : Int) (ao : Option Addr) (cap : Nat) (S : Nat → Prop) (w : World) (h : IntsAt w S ao s) :
    Calls Try.prog 102 #[.slice ao s.length cap, .int .i64 v] w fun e w' => e = .returned (.int .i64 (idxS s v)) ∧ w = w' := by
  refine calls_post fun R' hR => ?_
  have hl := h.1
  go_enter Try.func102, Try.ntmps102
  go_wp2
  go_loop [8] (fun i => ∃ k : Nat, k ≤ s.length ∧ i = .int .i64 k ∧ Hid (∀ j, j < k → s.getD j 0 ≠ v)) (fun i => s.length - (intOf i).toNat)
  case atStart => exact ⟨0, Nat.zero_le _, rfl, fun j hj => by omega⟩
  case round =>
    obtain ⟨k, hk, rfl, hb⟩ := hrel
    by_cases hlt : k < s.length
    · obtain ⟨b, off, rfl, hbl, hS, hc⟩ := h.at hlt
      have hI := hid (fun e => idxS_at hlt e hb.out)
      have hN : Hid (s.getD k 0 ≠ v → ∀ j, j < k + 1 → s.getD j 0 ≠ v) := fun e j hj => by
        rcases Nat.lt_succ_iff_lt_or_eq.1 hj with h1 | h1
        · exact hb.out j h1
        · rw [h1]; exact e
      generalize s.getD k 0 = d at hc hI hN
      by_cases c1 : d = v
      · have e1 : (v == d) = true := by simp [c1]
        have c1' := hid c1
        clear c1
        go_wp2
        exact hR.out _ _ ⟨by rw [hI.out c1'.out] <;> rfl, rfl⟩
      · have e1 : (v == d) = false := by simp [Ne.symm c1]
        have c1' := hid c1
        clear c1
        go_wp2
        go_round
        case rel => exact ⟨k + 1, by omega, by go_num, hN.out c1'.out⟩
        case measure => simp [intOf]; omega
    · have e := idxS_none (s := s) (v := v) (fun j hj => hb.out j (by omega))
      have E := hid e; clear e
      go_wp2
      exact hR.out _ _ ⟨by rw [E.out] <;> rfl, rfl⟩
set_option maxHeartbeats 1000000 in
theorem slices_Contains (s : List Int) (v : Int) (ao : Option Addr) (cap : Nat) (S : Nat → Prop) (w : World) (h : IntsAt w S ao s) :
    Calls Try.prog 90 #[.slice ao s.length cap, .int .i64 v] w fun e w' => e = .returned (.bool (decide (v ∈ s))) ∧ w = w' := by
  refine calls_post fun R' hR => ?_
  go_enter Try.func90, Try.ntmps90
  go_wp2_with (go_at_call 102; refine (slices_Index _ _ _ _ _ _ h).mono ?_; rintro e w' ⟨rfl, rfl⟩)
  exact hR.out _ _ ⟨by rw [← idxS_pos] <;> rfl, rfl⟩
set_option maxHeartbeats 1000000 in
theorem shape_product (s : List Int) (ao : Option Addr) (cap : Nat) (S : Nat → Prop) (w : World) (h : IntsAt w S ao s) (hs : shapeB s = true) :
    Calls Try.prog 71 #[.slice ao s.length cap] w fun e w' => e = .returned (.int .i64 (cnt s)) ∧ w = w' := by
  refine calls_post fun R' hR => ?_
  have hl := h.1
  have hs' := hid hs
  clear hs
  by_cases hz : (0 : Int) ∈ s
  · have hzd : decide ((0 : Int) ∈ s) = true := by simpa using hz
    have e := hid (cnt_zero hz)
    clear hz
    go_enter Try.func71, Try.ntmps71
    go_wp2_with (go_at_call 90; refine (slices_Contains _ _ _ _ _ _ h).mono ?_; rintro e w' ⟨rfl, rfl⟩; rw [hzd])
    exact hR.out _ _ ⟨by rw [e.out] <;> rfl, rfl⟩
  · have hzd : decide ((0 : Int) ∈ s) = false := by simpa using hz
    have e := hid (cnt_prod hz)
    have hz' := hid hz
    clear hz
    go_enter Try.func71, Try.ntmps71
    go_wp2_with (go_at_call 90; refine (slices_Contains _ _ _ _ _ _ h).mono ?_; rintro e w' ⟨rfl, rfl⟩; rw [hzd])
    go_loop [3, 10] (fun p i => ∃ k : Nat, k ≤ s.length ∧ i = .int .i64 k ∧ p = .int .i64 (prodNZ (s.take k))) (fun _ i => s.length - (intOf i).toNat)
    case atStart => exact ⟨0, Nat.zero_le _, rfl, rfl⟩
    case round =>
      obtain ⟨k, hk, rfl, rfl⟩ := hrel
      have hsB := shapeB_iff.1 hs'.out
      have hp1 := prodNZ_pos fun d hd => hsB.2.1 d (mem_take (k := k) hd)
      have hp2 := prodNZ_take_le hsB.2.1 k
      by_cases hlt : k < s.length
      · obtain ⟨b, off, rfl, hbl, hS, hc⟩ := h.at hlt
        have hT := hid (prodNZ_take_step hlt hz'.out)
        have hd0 := hsB.2.1 _ (getD_mem hlt)
        have hd1 := prodNZ_ge_mem hsB.2.1 (getD_mem hlt)
        have h65 := hsB.2.2
        clear hsB
        generalize s.getD k 0 = d at hc hT hd0 hd1
        generalize prodNZ (s.take k) = p at hp1 hp2 hT ⊢
        have hm1 : 0 ≤ p * d := Int.mul_nonneg (by omega) hd0
        have hm2 : p * d ≤ 4294967296 := by
          have := Int.mul_le_mul (show p ≤ 65536 by omega) (show d ≤ 65536 by omega) (by omega) (by omega)
          omega
        clear hd1 h65 hp2
        go_wp2
        go_round
        case rel => exact ⟨k + 1, by omega, by go_num, by rw [hT.out]⟩
        case measure => simp [intOf]; omega
      · have hke : s.take k = s := by rw [show k = s.length from by omega, List.take_length]
        rw [hke]
        clear hsB hp1 hp2 hke
        go_wp2
        exact hR.out _ _ ⟨by rw [e.out] <;> rfl, rfl⟩
set_option maxHeartbeats 1000000 in
theorem shape_Size (s : List Int) (ao : Option Addr) (cap : Nat) (S : Nat → Prop) (w : World) (h : IntsAt w S ao s) :
    Calls Try.prog 39 #[.slice ao s.length cap] w fun e w' => e = .returned (.int .i64 (sizeS s)) ∧ w = w' := by
  refine calls_post fun R' hR => ?_
  have hl := h.1
  cases hs : shapeB s with
  | true =>
    have E := hid (sizeS_true hs)
    have hs' := hid hs
    clear hs
    go_enter Try.func39, Try.ntmps39
    go_wp2_with (first | (go_at_call 30; refine (shape_Right _ _ _ _ _ h).mono ?_; rintro e w' ⟨rfl, rfl⟩; rw [hs'.out]) | (go_at_call 71; refine (shape_product _ _ _ _ _ h hs'.out).mono ?_; rintro e w' ⟨rfl, rfl⟩))
    exact hR.out _ _ ⟨by rw [E.out] <;> rfl, rfl⟩
  | false =>
    have E := hid (sizeS_false hs)
    have hs' := hid hs
    clear hs
    go_enter Try.func39, Try.ntmps39
    go_wp2_with (go_at_call 30; refine (shape_Right _ _ _ _ _ h).mono ?_; rintro e w' ⟨rfl, rfl⟩; rw [hs'.out])
    exact hR.out _ _ ⟨by rw [E.out] <;> rfl, rfl⟩
set_option maxHeartbeats 1000000 in
theorem slices_IndexFunc_array_form_1 (p : Int → Bool) (s : List Int) (ao : Option Addr) (cap : Nat) (S : Nat → Prop) (w : World) (h : IntsAt w S ao s)
    (hf : ∀ n : Int, Calls Try.prog 86 #[.int .i64 n] w fun e w' => e = .returned (.bool (p n)) ∧ w = w') :
    Calls Try.prog 56 #[.slice ao s.length cap, .func (.func 86) #[] #[]] w fun e w' => e = .returned (.int .i64 (idxF s p)) ∧ w = w' := by
  refine calls_post fun R' hR => ?_
  have hl := h.1
  have hf' := hid hf
  clear hf
  go_enter Try.func56, Try.ntmps56
  go_wp2
  go_loop [8] (fun i => ∃ k : Nat, k ≤ s.length ∧ i = .int .i64 k ∧ Hid (∀ j, j < k → p (s.getD j 0) = false)) (fun i => s.length - (intOf i).toNat)
  case atStart => exact ⟨0, Nat.zero_le _, rfl, fun j hj => by omega⟩
  case round =>
    obtain ⟨k, hk, rfl, hb⟩ := hrel
    by_cases hlt : k < s.length
    · obtain ⟨b, off, rfl, hbl, hS, hc⟩ := h.at hlt
      have hI := hid (fun e => idxF_at hlt e hb.out)
      have hN : Hid (p (s.getD k 0) = false → ∀ j, j < k + 1 → p (s.getD j 0) = false) := fun e j hj => by
        rcases Nat.lt_succ_iff_lt_or_eq.1 hj with h1 | h1
        · exact hb.out j h1
        · rw [h1]; exact e
      generalize s.getD k 0 = d at hc hI hN
      go_wp2_with fail
      refine (hf'.out _).mono ?_
      rintro e w' ⟨rfl, rfl⟩
      cases c1 : p d with
      | true =>
        have c1' := hid c1
        clear c1
        go_wp2_with fail
        exact hR.out _ _ ⟨by rw [hI.out c1'.out] <;> rfl, rfl⟩
      | false =>
        have c1' := hid c1
        clear c1
        go_wp2_with fail
        go_round
        case rel => exact ⟨k + 1, by omega, by go_num, hN.out c1'.out⟩
        case measure => simp [intOf]; omega
    · have e := idxF_none (s := s) (p := p) (fun j hj => hb.out j (by omega))
      have E := hid e; clear e
      go_wp2
      exact hR.out _ _ ⟨by rw [E.out] <;> rfl, rfl⟩
set_option maxHeartbeats 1000000 in
theorem slices_ContainsFunc_array_form_1 (p : Int → Bool) (s : List Int) (ao : Option Addr) (cap : Nat) (S : Nat → Prop) (w : World) (h : IntsAt w S ao s)
    (hf : ∀ n : Int, Calls Try.prog 86 #[.int .i64 n] w fun e w' => e = .returned (.bool (p n)) ∧ w = w') :
    Calls Try.prog 25 #[.slice ao s.length cap, .func (.func 86) #[] #[]] w fun e w' => e = .returned (.bool (s.any p)) ∧ w = w' := by
  refine calls_post fun R' hR => ?_
  have hf' := hid hf
  clear hf
  go_enter Try.func25, Try.ntmps25
  go_wp2_with fail
  refine (slices_IndexFunc_array_form_1 p _ _ _ _ _ h hf'.out).mono ?_
  rintro e w' ⟨rfl, rfl⟩
  go_wp2_with fail
  exact hR.out _ _ ⟨by rw [← idxF_pos] <;> rfl, rfl⟩
set_option maxHeartbeats 1000000 in
theorem slices_IndexFunc_copying_Copy_1 (p : Int → Bool) (s : List Int) (ao : Option Addr) (cap : Nat) (S : Nat → Prop) (w : World) (h : IntsAt w S ao s)
    (hf : ∀ n : Int, Calls Try.prog 26 #[.int .i64 n] w fun e w' => e = .returned (.bool (p n)) ∧ w = w') :
    Calls Try.prog 56 #[.slice ao s.length cap, .func (.func 26) #[] #[]] w fun e w' => e = .returned (.int .i64 (idxF s p)) ∧ w = w' := by
  refine calls_post fun R' hR => ?_
  have hl := h.1
  have hf' := hid hf
  clear hf
  go_enter Try.func56, Try.ntmps56
  go_wp2
  go_loop [8] (fun i => ∃ k : Nat, k ≤ s.length ∧ i = .int .i64 k ∧ Hid (∀ j, j < k → p (s.getD j 0) = false)) (fun i => s.length - (intOf i).toNat)
  case atStart => exact ⟨0, Nat.zero_le _, rfl, fun j hj => by omega⟩
  case round =>
    obtain ⟨k, hk, rfl, hb⟩ := hrel
    by_cases hlt : k < s.length
    · obtain ⟨b, off, rfl, hbl, hS, hc⟩ := h.at hlt
      have hI := hid (fun e => idxF_at hlt e hb.out)
      have hN : Hid (p (s.getD k 0) = false → ∀ j, j < k + 1 → p (s.getD j 0) = false) := fun e j hj => by
        rcases Nat.lt_succ_iff_lt_or_eq.1 hj with h1 | h1
        · exact hb.out j h1
        · rw [h1]; exact e
      generalize s.getD k 0 = d at hc hI hN
      go_wp2_with fail
      refine (hf'.out _).mono ?_
      rintro e w' ⟨rfl, rfl⟩
      cases c1 : p d with
      | true =>
        have c1' := hid c1
        clear c1
        go_wp2_with fail
        exact hR.out _ _ ⟨by rw [hI.out c1'.out] <;> rfl, rfl⟩
      | false =>
        have c1' := hid c1
        clear c1
        go_wp2_with fail
        go_round
        case rel => exact ⟨k + 1, by omega, by go_num, hN.out c1'.out⟩
        case measure => simp [intOf]; omega
    · have e := idxF_none (s := s) (p := p) (fun j hj => hb.out j (by omega))
      have E := hid e; clear e
      go_wp2
      exact hR.out _ _ ⟨by rw [E.out] <;> rfl, rfl⟩
set_option maxHeartbeats 1000000 in
theorem slices_ContainsFunc_copying_Copy_1 (p : Int → Bool) (s : List Int) (ao : Option Addr) (cap : Nat) (S : Nat → Prop) (w : World) (h : IntsAt w S ao s)
    (hf : ∀ n : Int, Calls Try.prog 26 #[.int .i64 n] w fun e w' => e = .returned (.bool (p n)) ∧ w = w') :
    Calls Try.prog 25 #[.slice ao s.length cap, .func (.func 26) #[] #[]] w fun e w' => e = .returned (.bool (s.any p)) ∧ w = w' := by
  refine calls_post fun R' hR => ?_
  have hf' := hid hf
  clear hf
  go_enter Try.func25, Try.ntmps25
  go_wp2_with fail
  refine (slices_IndexFunc_copying_Copy_1 p _ _ _ _ _ h hf'.out).mono ?_
  rintro e w' ⟨rfl, rfl⟩
  go_wp2_with fail
  exact hR.out _ _ ⟨by rw [← idxF_pos] <;> rfl, rfl⟩
set_option maxHeartbeats 1000000 in
theorem slices_IndexFunc_copying_unbinary (p : Int → Bool) (s : List Int) (ao : Option Addr) (cap : Nat) (S : Nat → Prop) (w : World) (h : IntsAt w S ao s)
    (hf : ∀ n : Int, Calls Try.prog 46 #[.int .i64 n] w fun e w' => e = .returned (.bool (p n)) ∧ w = w') :
    Calls Try.prog 56 #[.slice ao s.length cap, .func (.func 46) #[] #[]] w fun e w' => e = .returned (.int .i64 (idxF s p)) ∧ w = w' := by
  refine calls_post fun R' hR => ?_
  have hl := h.1
  have hf' := hid hf
  clear hf
  go_enter Try.func56, Try.ntmps56
  go_wp2
  go_loop [8] (fun i => ∃ k : Nat, k ≤ s.length ∧ i = .int .i64 k ∧ Hid (∀ j, j < k → p (s.getD j 0) = false)) (fun i => s.length - (intOf i).toNat)
  case atStart => exact ⟨0, Nat.zero_le _, rfl, fun j hj => by omega⟩
  case round =>
    obtain ⟨k, hk, rfl, hb⟩ := hrel
    by_cases hlt : k < s.length
    · obtain ⟨b, off, rfl, hbl, hS, hc⟩ := h.at hlt
      have hI := hid (fun e => idxF_at hlt e hb.out)
      have hN : Hid (p (s.getD k 0) = false → ∀ j, j < k + 1 → p (s.getD j 0) = false) := fun e j hj => by
        rcases Nat.lt_succ_iff_lt_or_eq.1 hj with h1 | h1
        · exact hb.out j h1
        · rw [h1]; exact e
      generalize s.getD k 0 = d at hc hI hN
      go_wp2_with fail
      refine (hf'.out _).mono ?_
      rintro e w' ⟨rfl, rfl⟩
      cases c1 : p d with
      | true =>
        have c1' := hid c1
        clear c1
        go_wp2_with fail
        exact hR.out _ _ ⟨by rw [hI.out c1'.out] <;> rfl, rfl⟩
      | false =>
        have c1' := hid c1
        clear c1
        go_wp2_with fail
        go_round
        case rel => exact ⟨k + 1, by omega, by go_num, hN.out c1'.out⟩
        case measure => simp [intOf]; omega
    · have e := idxF_none (s := s) (p := p) (fun j hj => hb.out j (by omega))
      have E := hid e; clear e
      go_wp2
      exact hR.out _ _ ⟨by rw [E.out] <;> rfl, rfl⟩
set_option maxHeartbeats 1000000 in
theorem slices_ContainsFunc_copying_unbinary (p : Int → Bool) (s : List Int) (ao : Option Addr) (cap : Nat) (S : Nat → Prop) (w : World) (h : IntsAt w S ao s)
    (hf : ∀ n : Int, Calls Try.prog 46 #[.int .i64 n] w fun e w' => e = .returned (.bool (p n)) ∧ w = w') :
    Calls Try.prog 25 #[.slice ao s.length cap, .func (.func 46) #[] #[]] w fun e w' => e = .returned (.bool (s.any p)) ∧ w = w' := by
  refine calls_post fun R' hR => ?_
  have hf' := hid hf
  clear hf
  go_enter Try.func25, Try.ntmps25
  go_wp2_with fail
  refine (slices_IndexFunc_copying_unbinary p _ _ _ _ _ h hf'.out).mono ?_
  rintro e w' ⟨rfl, rfl⟩
  go_wp2_with fail
  exact hR.out _ _ ⟨by rw [← idxF_pos] <;> rfl, rfl⟩
end Go.Proofs.Ytdpdcjadedcglaa
namespace Go.Proofs.Ytdpdcjadedcglaa
open Go.RowKit

theorem infoInt : (Try.prog.info? 3).map (fun i => (i.zero, i.size, i.bytes)) = some (some (.int .i64 0), 1, 8) := by kernel_rfl
theorem infoArr : (Try.prog.info? 27).map (fun i => (i.zero, i.size, i.bytes)) = some (some (.agg #[.int .i64 0, .slice none 0 0, .slice none 0 0, .slice none 0 0]), 4, 80) := by kernel_rfl

theorem eql_ints_nil (w : World) (a : Option Addr) (n c : Nat) : (binOp .eql 24 (.slice a n c) (.slice none 0 0)).run Try.prog w = .ok (.bool a.isNone) w := Lib.run_eql_slice_nil (P := Try.prog) w 24 3 a n c 0 0 Try.underlying24
theorem eql_arrs_nil (w : World) (a : Option Addr) (n c : Nat) : (binOp .eql 25 (.slice a n c) (.slice none 0 0)).run Try.prog w = .ok (.bool a.isNone) w := Lib.run_eql_slice_nil (P := Try.prog) w 25 27 a n c 0 0 Try.underlying25
/-- the row in which a slice lies -/
def rowOf (ao : Option Addr) : Option Nat := ao.map (·.block)
theorem ownBlock_slice (ao : Option Addr) (n c : Nat) : (Value.slice ao n c).ownBlock = rowOf ao := by cases ao <;> rfl
/-- a slice of int that the call owns -/
def OwnI (w : World) (base : Nat) (ao : Option Addr) (cap : Nat) (xs : List Int) : Prop := w.ownsRow base 3 1 (.slice ao xs.length cap) xs.length (xs.map (Value.int .i64))
/-- the cells of arrays in a row, and what they lead to -/
def CellsAt (w : World) (S : Nat → Prop) : List Arr → List Value → Prop
  | [], cs => cs = []
  | x :: l, cs => ∃ sa sc na nc ja jc rest, cs = .int .i64 x.kind :: .slice sa x.shape.length sc :: .slice na x.nums.length nc :: .slice ja x.items.length jc :: rest ∧ ArrAt w S x sa na ja ∧ CellsAt w S l rest
/-- a slice of arrays that the call owns; what its elements lead to lies elsewhere -/
def OwnA (w : World) (base : Nat) (S : Nat → Prop) (ao : Option Addr) (cap : Nat) (l : List Arr) : Prop :=
  ∃ cs, w.ownsRow base 27 4 (.slice ao l.length cap) l.length cs ∧ CellsAt w (fun b => S b ∧ some b ≠ rowOf ao) l cs

section
variable {w w' : World} {base : Nat} {S T : Nat → Prop} {ao : Option Addr} {cap : Nat} {xs : List Int} {l : List Arr} {cs : List Value}
theorem OwnI.nil (w : World) (base : Nat) : OwnI w base none 0 [] := World.ownsRow_nil _ _ _ _
theorem OwnI.row (h : OwnI w base ao cap xs) : ∀ k, rowOf ao = some k → base ≤ k ∧ k < w.heap.size := fun k hk => World.ownsRow.lt h k (by rw [ownBlock_slice]; exact hk)
theorem OwnI.kept {row : Option Nat} (h : OwnI w base ao cap xs) (hg : w.grownBy w' row) (hne : rowOf ao = none ∨ rowOf ao ≠ row) : OwnI w' base ao cap xs :=
  World.ownsRow.kept h hg (by rw [ownBlock_slice]; exact hne)
theorem OwnI.keep (h : OwnI w base ao cap xs) (hk : ∀ k, rowOf ao = some k → w'.heap[k]? = w.heap[k]?) : OwnI w' base ao cap xs := by
  refine ⟨h.1, ?_⟩
  rcases h.2 with hn | ⟨g, c, cur, e, hb, hgg, rest⟩
  · exact Or.inl hn
  · injection e with e1 e2 e3
    exact Or.inr ⟨g, c, cur, by rw [e1, e3], hb, (hk g (by rw [e1]; rfl)).trans hgg, by rw [e3] at *; exact rest⟩
theorem OwnI.alloc (h : OwnI w base ao cap xs) (o : Obj) : OwnI (w.alloc o) base ao cap xs := World.ownsRow.alloc h o
theorem OwnI.setCell (h : OwnI w base ao cap xs) {a : Addr} (ha : rowOf ao ≠ some a.block) (u : Value) : OwnI (w.setCell a u) base ao cap xs := ownsRow_setCell_other h (by rw [ownBlock_slice]; exact ha) u
theorem OwnI.ints (h : OwnI w base ao cap xs) (hl : xs.length ≤ 17592186044416) : IntsAt w (fun b => base ≤ b ∧ rowOf ao = some b) ao xs := by
  refine ⟨hl, fun h0 => ?_⟩
  rcases h.2 with ⟨_, hn⟩ | ⟨g, c, cur, e, hb, hgg, _⟩
  · omega
  · injection e with e1 e2 e3
    subst e1
    refine ⟨g, 0, rfl, ⟨hb, rfl⟩, lt_of_block hgg, fun k hk => ?_⟩
    have := World.ownsRow.cells h (g := g) rfl k (.int .i64 (xs.getD k 0)) (by simp [hk])
    simpa [Addr.add_lit] using this

theorem CellsAt.length : ∀ {l : List Arr} {cs : List Value}, CellsAt w S l cs → cs.length = l.length * 4
  | [], cs, h => by simp only [CellsAt] at h; simp [h]
  | x :: l, cs, h => by
    simp only [CellsAt] at h
    obtain ⟨_, _, _, _, _, _, rest, rfl, _, h2⟩ := h
    have := CellsAt.length h2
    simp [this]; omega
theorem CellsAt.one : ∀ {l : List Arr} {cs : List Value}, CellsAt w S l cs → ∀ u ∈ cs, u.oneCell' = true
  | [], cs, h, u, hu => by simp only [CellsAt] at h; simp [h] at hu
  | x :: l, cs, h, u, hu => by
    simp only [CellsAt] at h
    obtain ⟨_, _, _, _, _, _, rest, rfl, _, h2⟩ := h
    simp only [List.mem_cons] at hu
    rcases hu with rfl | rfl | rfl | rfl | hu
    · rfl
    · rfl
    · rfl
    · rfl
    · exact CellsAt.one h2 u hu
theorem CellsAt.keep : ∀ {l : List Arr} {cs : List Value}, CellsAt w S l cs → (∀ b, S b → b < w.heap.size → w'.heap[b]? = w.heap[b]?) → CellsAt w' S l cs
  | [], cs, h, _ => by simp only [CellsAt] at h ⊢; exact h
  | x :: l, cs, h, hk => by
    simp only [CellsAt] at h ⊢
    obtain ⟨sa, sc, na, nc, ja, jc, rest, e, h1, h2⟩ := h
    exact ⟨sa, sc, na, nc, ja, jc, rest, e, ArrAt.keep hk x h1, CellsAt.keep h2 hk⟩
theorem CellsAt.mono : ∀ {l : List Arr} {cs : List Value}, CellsAt w S l cs → (∀ b, b < w.heap.size → S b → T b) → CellsAt w T l cs
  | [], cs, h, _ => by simp only [CellsAt] at h ⊢; exact h
  | x :: l, cs, h, hk => by
    simp only [CellsAt] at h ⊢
    obtain ⟨sa, sc, na, nc, ja, jc, rest, e, h1, h2⟩ := h
    exact ⟨sa, sc, na, nc, ja, jc, rest, e, ArrAt.mono hk x h1, CellsAt.mono h2 hk⟩
theorem CellsAt.append : ∀ {l m : List Arr} {cs ds : List Value}, CellsAt w S l cs → CellsAt w S m ds → CellsAt w S (l ++ m) (cs ++ ds)
  | [], m, cs, ds, h, k => by simp only [CellsAt] at h; subst h; simpa using k
  | x :: l, m, cs, ds, h, k => by
    simp only [CellsAt, List.cons_append] at h ⊢
    obtain ⟨sa, sc, na, nc, ja, jc, rest, rfl, h1, h2⟩ := h
    exact ⟨sa, sc, na, nc, ja, jc, rest ++ ds, by simp, h1, CellsAt.append h2 k⟩
theorem CellsAt.get : ∀ {l : List Arr} {cs : List Value}, CellsAt w S l cs → ∀ j x, l[j]? = some x → ∃ sa sc na nc ja jc, cs[j * 4]? = some (.int .i64 x.kind) ∧ cs[j * 4 + 1]? = some (.slice sa x.shape.length sc) ∧
    cs[j * 4 + 2]? = some (.slice na x.nums.length nc) ∧ cs[j * 4 + 3]? = some (.slice ja x.items.length jc) ∧ ArrAt w S x sa na ja
  | [], cs, h, j, x, hx => by simp at hx
  | y :: l, cs, h, 0, x, hx => by
    simp only [CellsAt] at h
    simp at hx; subst hx
    obtain ⟨sa, sc, na, nc, ja, jc, rest, rfl, h1, h2⟩ := h
    exact ⟨sa, sc, na, nc, ja, jc, rfl, rfl, rfl, rfl, h1⟩
  | y :: l, cs, h, j + 1, x, hx => by
    simp only [CellsAt] at h
    obtain ⟨_, _, _, _, _, _, rest, rfl, h1, h2⟩ := h
    obtain ⟨sa, sc, na, nc, ja, jc, e0, e1, e2, e3, h3⟩ := CellsAt.get h2 j x (by simpa using hx)
    refine ⟨sa, sc, na, nc, ja, jc, ?_, ?_, ?_, ?_, h3⟩
    · rw [show (j + 1) * 4 = j * 4 + 4 from by omega]; simpa using e0
    · rw [show (j + 1) * 4 + 1 = (j * 4 + 1) + 4 from by omega]; simpa using e1
    · rw [show (j + 1) * 4 + 2 = (j * 4 + 2) + 4 from by omega]; simpa using e2
    · rw [show (j + 1) * 4 + 3 = (j * 4 + 3) + 4 from by omega]; simpa using e3
/-- the cells of a slice of arrays, as a list -/
theorem ItemsAt.cells : ∀ {l : List Arr} {i : Nat} {ia : Option Addr}, ItemsAt w S ia i l → ∃ cs, CellsAt w S l cs ∧ ∀ b off, ia = some ⟨b, off, none⟩ → ∀ j u, cs[j]? = some u → w.cell? ⟨b, off + i * 4 + j, none⟩ = some u
  | [], i, ia, _ => ⟨[], by simp only [CellsAt], fun b off _ j u hu => by simp at hu⟩
  | x :: l, i, ia, h => by
    simp only [ItemsAt] at h
    obtain ⟨⟨b, off, sa, sc, na, nc, ja, jc, rfl, hS, hb, c0, c1, c2, c3, hx⟩, h2⟩ := h
    obtain ⟨cs, h3, h4⟩ := ItemsAt.cells h2
    refine ⟨.int .i64 x.kind :: .slice sa x.shape.length sc :: .slice na x.nums.length nc :: .slice ja x.items.length jc :: cs, ?_, ?_⟩
    · simp only [CellsAt]
      exact ⟨sa, sc, na, nc, ja, jc, cs, rfl, hx, h3⟩
    · intro b' off' e j u hu
      injection e with e
      injection e with e1 e2
      subst e1; subst e2
      match j, hu with
      | 0, hu => simp at hu; subst hu; simpa using c0
      | 1, hu => simp at hu; subst hu; simpa using c1
      | 2, hu => simp at hu; subst hu; simpa using c2
      | 3, hu => simp at hu; subst hu; simpa using c3
      | j + 4, hu =>
        have := h4 b off rfl j u (by simpa using hu)
        rw [show off + i * 4 + (j + 4) = off + (i + 1) * 4 + j from by omega]
        exact this
theorem OwnA.nil (w : World) (base : Nat) (S : Nat → Prop) : OwnA w base S none 0 [] := ⟨[], World.ownsRow_nil _ _ _ _, by simp only [CellsAt]⟩
theorem OwnA.row (h : OwnA w base S ao cap l) : ∀ k, rowOf ao = some k → base ≤ k ∧ k < w.heap.size := by
  obtain ⟨cs, h1, _⟩ := h
  exact fun k hk => World.ownsRow.lt h1 k (by rw [ownBlock_slice]; exact hk)
theorem OwnA.keep (h : OwnA w base S ao cap l) (hr : ∀ k, rowOf ao = some k → w'.heap[k]? = w.heap[k]?) (hk : ∀ b, S b → b < w.heap.size → w'.heap[b]? = w.heap[b]?) : OwnA w' base S ao cap l := by
  obtain ⟨cs, h1, h2⟩ := h
  refine ⟨cs, ⟨h1.1, ?_⟩, h2.keep fun b hb hlt => hk b hb.1 hlt⟩
  rcases h1.2 with hn | ⟨g, c, cur, e, hb, hgg, rest⟩
  · exact Or.inl hn
  · injection e with e1 e2 e3
    exact Or.inr ⟨g, c, cur, by rw [e1, e3], hb, (hr g (by rw [e1]; rfl)).trans hgg, by rw [e3] at *; exact rest⟩
theorem OwnA.mono (h : OwnA w base S ao cap l) (hS : ∀ b, b < w.heap.size → S b → T b) : OwnA w base T ao cap l := by
  obtain ⟨cs, h1, h2⟩ := h
  exact ⟨cs, h1, h2.mono fun b hb hs => ⟨hS b hb hs.1, hs.2⟩⟩
theorem OwnA.alloc (h : OwnA w base S ao cap l) (o : Obj) : OwnA (w.alloc o) base S ao cap l :=
  h.keep (fun k hk => Below.heap_alloc w o k (h.row k hk).2) fun b _ hlt => Below.heap_alloc w o b hlt
theorem OwnA.items (h : OwnA w base S ao cap l) : ItemsAt w (fun b => S b ∨ (base ≤ b ∧ rowOf ao = some b)) ao 0 l := by
  obtain ⟨cs, h1, h2⟩ := h
  refine ItemsAt.of_get fun j x hx => ?_
  obtain ⟨sa, sc, na, nc, ja, jc, e0, e1, e2, e3, h3⟩ := h2.get j x hx
  rcases h1.2 with ⟨_, hn⟩ | ⟨g, c, cur, e, hb, hgg, _⟩
  · have := (List.getElem?_eq_some_iff.1 hx).1; omega
  · injection e with f1 f2 f3
    subst f1
    have hc := World.ownsRow.cells h1 (g := g) rfl
    have k0 := hc _ _ e0
    have k1 := hc _ _ e1
    have k2 := hc _ _ e2
    have k3 := hc _ _ e3
    simp only [Addr.add_lit] at k0 k1 k2 k3
    exact ⟨g, 0, sa, sc, na, nc, ja, jc, rfl, Or.inr ⟨hb, rfl⟩, lt_of_block hgg, by simpa using k0, by simpa [Nat.add_assoc] using k1, by simpa [Nat.add_assoc] using k2, by simpa [Nat.add_assoc] using k3, ArrAt.mono (fun b _ hs => Or.inl hs.1) x h3⟩
end

/-- append of nothing -/
theorem run_append_nothing {P : Program} (w : World) (base : Nat) (t ty e : TypeId) (i : TypeInfo) (size : Nat) (ht : P.underlying t = some (.slice e)) (hi : P.info? e = some i)
    (v : Value) (n : Nat) (xs : List Value) (hown : w.ownsRow base e size v n xs) (c : Nat) : (Builtin.append_ #[t, t] ty #[v, .slice none 0 c]).run P w = .ok v w := by
  rcases hown.2 with ⟨rfl, rfl⟩ | ⟨g, cap, cur, rfl, _, _, hnc, _⟩
  · simp [Builtin.append_, run_underlying ht, sizeOf, typeInfo, hi, Builtin.lenOf, Builtin.firstCells]
  · simp [Builtin.append_, run_underlying ht, sizeOf, typeInfo, hi, Builtin.lenOf, Builtin.firstCells, hnc, storeCells]
theorem slice_form {w : World} {base : Nat} {e size : Nat} {v : Value} {n : Nat} {xs : List Value} (h : w.ownsRow base e size v n xs) : ∃ ao cap, v = .slice ao n cap := by
  rcases h.2 with ⟨rfl, rfl⟩ | ⟨g, c, _, rfl, _⟩
  · exact ⟨none, 0, rfl⟩
  · exact ⟨_, c, rfl⟩

theorem run_appI (w : World) (ty : TypeId) (base : Nat) (ao : Option Addr) (cap : Nat) (xs : List Int) (hown : OwnI w base ao cap xs) (S : Nat → Prop) (so : Option Addr) (sc : Nat) (ys : List Int) (hys : IntsAt w S so ys)
    (hlen : xs.length + ys.length ≤ 17592186044416) (hbase : base ≤ w.heap.size) :
    ∃ ao' cap' w', (Builtin.append_ #[24, 24] ty #[.slice ao xs.length cap, .slice so ys.length sc]).run Try.prog w = .ok (.slice ao' (xs ++ ys).length cap') w' ∧ OwnI w' base ao' cap' (xs ++ ys) ∧ w.grownBy w' (rowOf ao) ∧
      (rowOf ao' = rowOf ao ∨ rowOf ao' = some w.heap.size) := by
  obtain ⟨i0, hi, hz0, hz1, hz2⟩ := info_parts infoInt
  cases so with
  | none =>
    have hy : ys = [] := by
      cases ys with
      | nil => rfl
      | cons y l => obtain ⟨_, _, e, _⟩ := hys.2 (by simp); cases e
    subst hy
    refine ⟨ao, cap, w, ?_, by simpa using hown, World.grownBy.refl _ _, Or.inl rfl⟩
    have := run_append_nothing (P := Try.prog) w base 24 ty 3 i0 1 Try.underlying24 hi _ _ _ hown sc
    simpa using this
  | some ad =>
    have hnews : ∀ j u, (ys.map (Value.int .i64))[j]? = some u → w.cell? (ad.add j) = some u := by
      intro j u hu
      have hj : j < ys.length := by have := (List.getElem?_eq_some_iff.1 hu).1; simpa using this
      obtain ⟨b, off, e, _, _, hc⟩ := hys.2 (by omega)
      injection e with e
      subst e
      have := hc j hj
      simp [hj] at hu
      subst hu
      simpa [Addr.add_lit, hj] using this
    obtain ⟨v', w', hr, ho, hg, _, hb⟩ := run_append_own_at (P := Try.prog) w base 24 ty 3 i0 (.int .i64 0) 1 8 Try.underlying24 hi hz0 hz1 hz2 rfl (by decide) (.slice ao xs.length cap) xs.length (xs.map (Value.int .i64)) hown
      ad ys.length sc (ys.map (Value.int .i64)) (by simp) hnews (ints_oneCell _ _) (by unfold maxLen; omega) (by omega) hbase
    obtain ⟨ao', cap', rfl⟩ := slice_form ho
    rw [ownBlock_slice] at hg
    rw [ownBlock_slice, ownBlock_slice] at hb
    exact ⟨ao', cap', w', by simpa using hr, by unfold OwnI; simpa using ho, hg, hb⟩

theorem wpList_appI {ops : Array Oper} {rest : List Oper} {o : Oper} {a : Act} {Q : Exit → Act → World → Prop} (w : World) (hgd : o.guard = none) (s x : Operand)
    (ho : o.op = .call { callee := .builtin .append, args := #[s, x], argTypes := #[24, 24] })
    (base : Nat) (ao : Option Addr) (cap : Nat) (xs : List Int) (hs : a.eval s = .slice ao xs.length cap) (hown : OwnI w base ao cap xs) (S : Nat → Prop) (so : Option Addr) (sc : Nat) (ys : List Int) (hx : a.eval x = .slice so ys.length sc)
    (hys : IntsAt w S so ys) (hlen : xs.length + ys.length ≤ 17592186044416) (hbase : base ≤ w.heap.size)
    (h : ∀ ao' cap' w', OwnI w' base ao' cap' (xs ++ ys) → w.grownBy w' (rowOf ao) → (rowOf ao' = rowOf ao ∨ rowOf ao' = some w.heap.size) → wpList Try.prog ops Q rest (a.put o.dst (.slice ao' (xs ++ ys).length cap')) w') :
    wpList Try.prog ops Q (o :: rest) a w := by
  refine wpList_plain hgd fun K hK => ?_
  obtain ⟨ao', cap', w', hrun, h1, h2, h3⟩ := run_appI w o.type base ao cap xs hown S so sc ys hys hlen hbase
  unfold Oper.wp
  simp [execOp, ho, resolve, invoke, builtin, hs, hx, hrun, Result.andThen]
  have := hK _ _ (h ao' cap' w' h1 h2 h3)
  simp at this
  exact this

theorem run_appA (w : World) (ty : TypeId) (base : Nat) (S : Nat → Prop) (ao : Option Addr) (cap : Nat) (l : List Arr) (hown : OwnA w base S ao cap l) (T : Nat → Prop) (so : Option Addr) (sc : Nat) (m : List Arr) (hm : ItemsAt w T so 0 m)
    (hTS : ∀ b, b < w.heap.size → T b → S b ∧ some b ≠ rowOf ao)
    (hlen : l.length + m.length ≤ 1759218604441) (hbase : base ≤ w.heap.size) :
    ∃ ao' cap' w', (Builtin.append_ #[25, 25] ty #[.slice ao l.length cap, .slice so m.length sc]).run Try.prog w = .ok (.slice ao' (l ++ m).length cap') w' ∧ OwnA w' base (fun b => S b ∧ b < w.heap.size) ao' cap' (l ++ m) ∧ w.grownBy w' (rowOf ao) ∧
      (rowOf ao' = rowOf ao ∨ rowOf ao' = some w.heap.size) := by
  obtain ⟨i0, hi, hz0, hz1, hz2⟩ := info_parts infoArr
  obtain ⟨cs, hrow, hcs⟩ := hown
  have hcs' : CellsAt w (fun b => (S b ∧ b < w.heap.size) ∧ some b ≠ rowOf ao) l cs := hcs.mono fun b hb hs => ⟨⟨hs.1, hb⟩, hs.2⟩
  cases so with
  | none =>
    have hy : m = [] := by
      cases m with
      | nil => rfl
      | cons y l => simp only [ItemsAt] at hm; obtain ⟨⟨_, _, _, _, _, _, _, _, e, _⟩, _⟩ := hm; cases e
    subst hy
    refine ⟨ao, cap, w, ?_, ⟨cs, by simpa using hrow, by simpa using hcs'⟩, World.grownBy.refl _ _, Or.inl rfl⟩
    have := run_append_nothing (P := Try.prog) w base 25 ty 27 i0 4 Try.underlying25 hi _ _ _ hrow sc
    simpa using this
  | some ad =>
    obtain ⟨ds, hds, hdc⟩ := hm.cells
    have hds' : CellsAt w (fun b => (S b ∧ b < w.heap.size) ∧ some b ≠ rowOf ao) m ds := hds.mono fun b hb hs => ⟨⟨(hTS b hb hs).1, hb⟩, (hTS b hb hs).2⟩
    have hnews : ∀ j u, ds[j]? = some u → w.cell? (ad.add j) = some u := by
      intro j u hu
      cases m with
      | nil => have := hds.length; simp at this; subst this; simp at hu
      | cons y r =>
        simp only [ItemsAt] at hm
        obtain ⟨⟨b, off, _, _, _, _, _, _, e, _⟩, _⟩ := hm
        injection e with e
        subst e
        have := hdc b off rfl j u hu
        simpa [Addr.add_lit] using this
    obtain ⟨v', w', hr, ho, hg, _, hb⟩ := run_append_own_at (P := Try.prog) w base 25 ty 27 i0 (.agg #[.int .i64 0, .slice none 0 0, .slice none 0 0, .slice none 0 0]) 4 80 Try.underlying25 hi hz0 hz1 hz2 rfl (by decide) (.slice ao l.length cap) l.length cs hrow
      ad m.length sc ds hds.length hnews hds.one (by unfold maxLen; omega) (by omega) hbase
    obtain ⟨ao', cap', rfl⟩ := slice_form ho
    rw [ownBlock_slice] at hg
    rw [ownBlock_slice, ownBlock_slice] at hb
    refine ⟨ao', cap', w', by simpa using hr, ⟨cs ++ ds, by simpa using ho, ?_⟩, hg, hb⟩
    have hall := hcs'.append hds'
    refine (hall.keep fun b hs hlt => hg.block b hlt hs.2).mono fun b hb' hs => ⟨hs.1, ?_⟩
    rcases hb with hb | hb
    · rw [hb]; exact hs.2
    · rw [hb]; intro e; injection e with e; have := hs.1.2; omega

theorem wpList_appA {ops : Array Oper} {rest : List Oper} {o : Oper} {a : Act} {Q : Exit → Act → World → Prop} (w : World) (hgd : o.guard = none) (s x : Operand)
    (ho : o.op = .call { callee := .builtin .append, args := #[s, x], argTypes := #[25, 25] })
    (base : Nat) (S : Nat → Prop) (ao : Option Addr) (cap : Nat) (l : List Arr) (hs : a.eval s = .slice ao l.length cap) (hown : OwnA w base S ao cap l) (T : Nat → Prop) (so : Option Addr) (sc : Nat) (m : List Arr) (hx : a.eval x = .slice so m.length sc)
    (hm : ItemsAt w T so 0 m) (hTS : ∀ b, b < w.heap.size → T b → S b ∧ some b ≠ rowOf ao) (hlen : l.length + m.length ≤ 1759218604441) (hbase : base ≤ w.heap.size)
    (h : ∀ ao' cap' w', OwnA w' base (fun b => S b ∧ b < w.heap.size) ao' cap' (l ++ m) → w.grownBy w' (rowOf ao) → (rowOf ao' = rowOf ao ∨ rowOf ao' = some w.heap.size) → wpList Try.prog ops Q rest (a.put o.dst (.slice ao' (l ++ m).length cap')) w') :
    wpList Try.prog ops Q (o :: rest) a w := by
  refine wpList_plain hgd fun K hK => ?_
  obtain ⟨ao', cap', w', hrun, h1, h2, h3⟩ := run_appA w o.type base S ao cap l hown T so sc m hm hTS hlen hbase
  unfold Oper.wp
  simp [execOp, ho, resolve, invoke, builtin, hs, hx, hrun, Result.andThen]
  have := hK _ _ (h ao' cap' w' h1 h2 h3)
  simp at this
  exact this
end Go.Proofs.Ytdpdcjadedcglaa
namespace Go.Proofs.Ytdpdcjadedcglaa
open Go.RowKit
attribute [local go_sem ↓] run_max2 run_min2
attribute [local go_sem] eql_ints_nil eql_arrs_nil
theorem below_grownI {a w w' : World} {row : Option Nat} (h : Below a.heap.size a w) (hg : w.grownBy w' row) (hr : ∀ k, row = some k → a.heap.size ≤ k) : Below a.heap.size a w' :=
  h.grown hg h.size hr
def ClonedI (w : World) (s : List Int) (e : Ending) (w' : World) : Prop :=
  ∃ ao cap, e = .returned (.slice ao s.length cap) ∧ OwnI w' w.heap.size ao cap s ∧ Below w.heap.size w w'
set_option maxHeartbeats 1000000 in
theorem slices_Clone (s : List Int) (ao : Option Addr) (cap : Nat) (S : Nat → Prop) (w : World) (h : IntsAt w S ao s) :
    Calls Try.prog 67 #[.slice ao s.length cap] w (ClonedI w s) := by
  refine calls_post fun R' hR => ?_
  have hl := h.1
  cases ao with
  | none =>
    have hs : s = [] := by
      cases s with
      | nil => rfl
      | cons y l => obtain ⟨_, _, e, _⟩ := h.2 (by simp); cases e
    subst hs
    go_enter Try.func67, Try.ntmps67
    go_wp2
    exact hR.out _ _ ⟨none, 0, rfl, OwnI.nil _ _, Below.refl _ _⟩
  | some ad =>
    have h' := h.alloc (.cells #[] 3)
    go_enter Try.func67, Try.ntmps67
    go_wp2_with (at_builtin; refine wpList_appI _ rfl _ _ rfl w.heap.size (some ⟨w.heap.size, 0, none⟩) 0 [] rfl (World.ownsRow_made w #[] 0 (Nat.le_refl _) (Nat.zero_le _) rfl) S (some ad) cap s rfl h' ?c1 ?c2 ?_)
    case c1 => simpa using hl
    case c2 => simp
    · intro ao' cap' w' hown hg hrow
      clear h'
      go_wp2
      exact hR.out _ _ ⟨ao', cap', rfl, hown, below_grownI ((Below.refl _ _).alloc (Nat.le_refl _) _) hg (by intro k hk; simp [rowOf] at hk; omega)⟩
end Go.Proofs.Ytdpdcjadedcglaa
namespace Go.Proofs.Ytdpdcjadedcglaa
/-- the depth of a valid array -/
def depA (a : Arr) : Int := (chk a).2.1
/-- the weight of a list of arrays -/
def sumW : List Arr → Int
  | [] => 0
  | x :: l => wtS x + sumW l
/-- the depth below which all lie -/
def maxD : List Arr → Int → Int
  | [], d => d
  | x :: l, d => maxD l (max d (depA x + 1))
theorem sumW_nn (l : List Arr) : 0 ≤ sumW l := by
  induction l with
  | nil => simp [sumW]
  | cons x l ih => have := (wtS_bd x).1; simp only [sumW]; omega
theorem sumW_append (l m : List Arr) : sumW (l ++ m) = sumW l + sumW m := by
  induction l with
  | nil => simp [sumW]
  | cons x l ih => simp only [List.cons_append, sumW, ih]; omega
theorem chkL_some : ∀ {l : List Arr} {d w : Int}, (∀ x ∈ l, rightS x = 0) → 0 ≤ w → chkL l d (min w 262145) = some (maxD l d, min (w + sumW l) 262145)
  | [], d, w, _, _ => by simp [chkL, maxD, sumW]
  | x :: l, d, w, h, hw => by
    have hx := h x (List.mem_cons_self ..)
    have hwt := chk_wt x hx
    have hb := wtS_bd x
    simp only [chkL]
    rw [if_neg (by unfold rightS at hx; simp [hx]), hwt, show min (min w 262145 + wtS x) 262145 = min (w + wtS x) 262145 by omega]
    rw [chkL_some (fun y hy => h y (List.mem_cons_of_mem _ hy)) (by omega)]
    simp only [maxD, sumW, depA, Int.add_assoc]
theorem chkL_none : ∀ {l : List Arr} {d w : Int} {x : Arr}, x ∈ l → rightS x ≠ 0 → chkL l d w = none
  | y :: l, d, w, x, hx, h => by
    simp only [chkL]
    by_cases c : (chk y).1 ≠ 0
    · rw [if_pos c]
    · rw [if_neg c]
      rcases List.mem_cons.1 hx with rfl | hx
      · exact absurd h c
      · exact chkL_none hx h
theorem maxD_le : ∀ {l : List Arr} {d m : Int}, maxD l d ≤ m ↔ d ≤ m ∧ ∀ x ∈ l, depA x + 1 ≤ m
  | [], d, m => by simp [maxD]
  | x :: l, d, m => by
    simp only [maxD, maxD_le, List.forall_mem_cons]
    rw [show (max d (depA x + 1) ≤ m) ↔ (d ≤ m ∧ depA x + 1 ≤ m) from by omega, and_assoc]
theorem right_iff {a : Arr} : rightS a = 0 ↔ formE a.kind a.shape a.nums.length a.items.length = 0 ∧ (∀ n ∈ a.nums, elemB a.kind n = true) ∧ (∀ x ∈ a.items, rightS x = 0 ∧ depA x + 1 ≤ 16) ∧ (a.nums.length : Int) + a.items.length + sumW a.items ≤ 262144 := by
  unfold rightS
  rw [chk_eq]
  by_cases hf : formE a.kind a.shape a.nums.length a.items.length = 0
  · rw [if_neg (by simp [hf])]
    have hl := form_len hf
    by_cases hn : a.nums.any (fun x => !elemB a.kind x) = true
    · rw [if_pos hn]
      refine ⟨fun h => by simp at h, fun h => ?_⟩
      obtain ⟨x, hx, hb⟩ := List.any_eq_true.1 hn
      simp [h.2.1 x hx] at hb
    · rw [if_neg hn]
      have hn' : ∀ n ∈ a.nums, elemB a.kind n = true := fun n hm => by
        cases e : elemB a.kind n with
        | true => rfl
        | false => exact absurd (List.any_eq_true.2 ⟨n, hm, by simp [e]⟩) hn
      by_cases hi : ∀ x ∈ a.items, rightS x = 0
      · have e := chkL_some (l := a.items) (d := 0) (w := (a.nums.length : Int) + a.items.length) hi (by omega)
        rw [show min ((a.nums.length : Int) + a.items.length) 262145 = (a.nums.length : Int) + a.items.length by omega] at e
        rw [e]
        simp only [chkEnd]
        have hs := sumW_nn a.items
        by_cases c : 16 < maxD a.items 0 ∨ 262144 < min ((a.nums.length : Int) + a.items.length + sumW a.items) 262145
        · rw [if_pos c]
          refine ⟨fun h => by simp at h, fun h => ?_⟩
          have : maxD a.items 0 ≤ 16 := maxD_le.2 ⟨by omega, fun x hx => (h.2.2.1 x hx).2⟩
          have := h.2.2.2
          omega
        · rw [if_neg c]
          refine ⟨fun _ => ⟨hf, hn', fun x hx => ⟨hi x hx, (maxD_le.1 (by omega : maxD a.items 0 ≤ 16)).2 x hx⟩, by omega⟩, fun _ => rfl⟩
      · obtain ⟨x, hx⟩ := Classical.not_forall.1 hi
        obtain ⟨hx1, hx2⟩ := Classical.not_imp.1 hx
        rw [chkL_none hx1 hx2]
        exact ⟨fun h => by simp [chkEnd] at h, fun h => absurd (h.2.2.1 x hx1).1 hx2⟩
  · rw [if_pos hf]
    exact ⟨fun h => absurd h hf, fun h => absurd h.1 hf⟩
theorem right_form {a : Arr} (h : rightS a = 0) : formE a.kind a.shape a.nums.length a.items.length = 0 := (right_iff.1 h).1
/-- the form, from its parts -/
theorem form_of {k : Int} {s : List Int} {nn ni : Nat} (hk : k = 1 ∨ k = 2 ∨ k = 3) (hs : shapeB s = true) (h : (k = 3 ∧ (ni : Int) = cnt s ∧ nn = 0) ∨ (k ≠ 3 ∧ (nn : Int) = cnt s ∧ ni = 0)) : formE k s nn ni = 0 := by
  have h8 := (shapeB_iff.1 hs).1
  have hneg : s.any negB = false := any_negB.2 (shapeB_iff.1 hs).2.1
  rcases h with ⟨h3, h1, h2⟩ | ⟨h3, h1, h2⟩
  · rw [formE_last3 h3 (by omega) hneg hs, if_neg (by omega)]
  · rw [formE_last (by omega) (by omega) hneg hs, if_neg (by omega)]
theorem wtS_k3 {a : Arr} (hk : a.kind = 3) : wtS a = min ((a.items.length : Int) + sumW a.items) 262145 := by
  rw [wtS_eq, if_pos hk]
  have : ∀ (l : List Arr) (w : Int), 0 ≤ w → wtL l (min w 262145) = min (w + sumW l) 262145 := by
    intro l
    induction l with
    | nil => intro w _; simp [wtL, sumW]
    | cons x l ih =>
      intro w hw
      have hb := wtS_bd x
      rw [wtL_step x l hw, ih _ (by omega)]
      simp only [sumW, Int.add_assoc]
  exact this _ _ (by omega)
theorem wtS_nk3 {a : Arr} (hk : a.kind ≠ 3) : wtS a = min (szN a.kind a.nums.length a.items.length : Int) 262145 := by rw [wtS_eq, if_neg hk]
theorem cnt_one {n : Int} : cnt [n] = n := by
  unfold cnt
  by_cases h : n = 0
  · simp [h]
  · rw [if_neg (by simp; omega)]; simp [prodNZ, h]
theorem cnt_nil : cnt [] = 1 := by simp [cnt, prodNZ]
theorem shapeB_one {n : Int} (h0 : 0 ≤ n) (h1 : n ≤ 65536) : shapeB [n] = true := shapeB_iff.2 ⟨by simp, by simpa using h0, by simp only [prodNZ]; split <;> omega⟩
theorem shapeB_nil : shapeB [] = true := shapeB_iff.2 ⟨by simp, by simp, by simp [prodNZ]⟩
/-- numbers only -/
theorem right_nums {s n : List Int} (hs : shapeB s = true) (hc : (n.length : Int) = cnt s) (hn : ∀ x ∈ n, numB x = true) : rightS (.mk 1 s n []) = 0 := by
  have := cnt_le hs
  rw [right_iff]
  simp only [Arr.kind, Arr.shape, Arr.nums, Arr.items]
  exact ⟨form_of (Or.inl rfl) hs (Or.inr ⟨by omega, hc, rfl⟩), fun x hx => by simp [elemB, hn x hx], by simp, by simp [sumW]; omega⟩
/-- the same elements in another shape -/
theorem right_reshape {y : Arr} (h : rightS y = 0) {s : List Int} (hs : shapeB s = true) (hc : cnt s = cnt y.shape) : rightS (.mk y.kind s y.nums y.items) = 0 := by
  obtain ⟨h1, h2, h3, h4⟩ := right_iff.1 h
  obtain ⟨hk, _, hh⟩ := formE_zero h1
  rw [right_iff]
  simp only [Arr.kind, Arr.shape, Arr.nums, Arr.items]
  exact ⟨form_of hk hs (by rw [hc]; exact hh), h2, h3, h4⟩
end Go.Proofs.Ytdpdcjadedcglaa
namespace Go.Proofs.Ytdpdcjadedcglaa
/-- all dimensions are at least 1 -/
def posB (s : List Int) : Prop := ∀ d ∈ s, 1 ≤ d
theorem posB_of {s : List Int} (h : shapeB s = true) {k : Int} (h0 : 0 ≤ k) (h1 : k < cnt s) : posB s := by
  obtain ⟨_, h2, _⟩ := shapeB_iff.1 h
  have h3 : (0 : Int) ∉ s := fun h3 => by rw [cnt_zero h3] at h1; omega
  intro d hd
  have := h2 d hd
  have : d ≠ 0 := fun e => h3 (e ▸ hd)
  omega
theorem posB_nz {s : List Int} (h : posB s) : (0 : Int) ∉ s := fun h0 => by have := h 0 h0; omega
theorem posB_cnt {s : List Int} (h : posB s) : cnt s = prodNZ s := cnt_prod (posB_nz h)
theorem posB_drop {s : List Int} (h : posB s) (i : Nat) : posB (s.drop i) := fun d hd => h d (List.mem_of_mem_drop hd)
theorem posB_take {s : List Int} (h : posB s) (i : Nat) : posB (s.take i) := fun d hd => h d (List.mem_of_mem_take hd)
theorem posB_prod {s : List Int} (h : posB s) : 1 ≤ prodNZ s := prodNZ_pos fun d hd => by have := h d hd; omega
theorem prodNZ_drop {s : List Int} (h : posB s) {i : Nat} (hi : i < s.length) : prodNZ (s.drop i) = s.getD i 0 * prodNZ (s.drop (i + 1)) := by
  rw [List.drop_eq_getElem_cons hi]
  have e : s[i] = s.getD i 0 := by simp [hi]
  simp only [prodNZ]
  rw [if_neg, e]
  intro e0
  have := h s[i] (List.getElem_mem hi)
  omega
/-- digit number i of an offset -/
def dig (s : List Int) (k : Int) (i : Nat) : Int := k / prodNZ (s.drop (i + 1)) % s.getD i 0
def digs (s : List Int) (k : Int) : List Int := (List.range s.length).map (dig s k)
theorem digs_len (s : List Int) (k : Int) : (digs s k).length = s.length := by simp [digs]
theorem digs_getD {s : List Int} {k : Int} {i : Nat} (hi : i < s.length) : (digs s k).getD i 0 = dig s k i := by simp [digs, hi]
theorem digs_take_succ {s : List Int} {k : Int} {i : Nat} (hi : i < s.length) : (digs s k).take (i + 1) = (digs s k).take i ++ [dig s k i] := by
  have hl : i < (digs s k).length := by rw [digs_len]; exact hi
  rw [← List.take_append_getElem hl]
  congr 2
  simp [digs]
theorem getD_pos {s : List Int} (h : posB s) {i : Nat} (hi : i < s.length) : 1 ≤ s.getD i 0 := h _ (getD_mem hi)
theorem dig_bd {s : List Int} (h : posB s) (k : Int) {i : Nat} (hi : i < s.length) : 0 ≤ dig s k i ∧ dig s k i < s.getD i 0 := by
  have := getD_pos h hi
  exact ⟨Int.emod_nonneg _ (by omega), Int.emod_lt_of_pos _ (by omega)⟩
theorem mod_div (k p d : Int) (hp : 0 < p) (hd : 0 < d) : k % (d * p) / p = k / p % d := by
  have h1 : k % (d * p) = k - (d * p) * (k / (d * p)) := Int.emod_def _ _
  have h2 : k / (d * p) = k / p / d := by rw [Int.mul_comm d p, Int.ediv_ediv_of_nonneg (by omega)]
  rw [h1, h2, Int.emod_def]
  have e : k - d * p * (k / p / d) = k + p * (-(d * (k / p / d))) := by
    rw [Int.mul_neg, Int.mul_comm d p, Int.mul_assoc]; omega
  rw [e, Int.add_mul_ediv_left _ _ (by omega)]
  omega
/-- the reference's step -/
theorem dig_ref {s : List Int} (h : posB s) (k : Int) {i : Nat} (hi : i < s.length) : k % prodNZ (s.drop i) / prodNZ (s.drop (i + 1)) = dig s k i ∧ k % prodNZ (s.drop i) % prodNZ (s.drop (i + 1)) = k % prodNZ (s.drop (i + 1)) := by
  rw [prodNZ_drop h hi]
  have h1 := getD_pos h hi
  have h2 := posB_prod (posB_drop h (i + 1))
  exact ⟨mod_div k _ _ (by omega) (by omega), Int.emod_emod_of_dvd _ (Int.dvd_mul_left _ _)⟩
theorem dig_start {s : List Int} {k : Int} (h0 : 0 ≤ k) (h1 : k < prodNZ s) : k % prodNZ (s.drop 0) = k := by
  simp only [List.drop_zero]; exact Int.emod_eq_of_lt h0 h1
/-- the program's step -/
theorem dig_prog {s : List Int} (h : posB s) (k : Int) {i : Nat} (hi : i < s.length) : k / prodNZ (s.drop (i + 1)) / s.getD i 0 = k / prodNZ (s.drop i) := by
  rw [prodNZ_drop h hi, Int.mul_comm, Int.ediv_ediv_of_nonneg]
  have h2 := posB_prod (posB_drop h (i + 1))
  omega
/-- the offset of an index -/
def offF (s l : List Int) (i : Nat) : Int := match i with
  | 0 => 0
  | i + 1 => offF s l i * s.getD i 0 + l.getD i 0
def offS (s l : List Int) : Int := offF s l s.length
/-- an index of a shape -/
def inS (s l : List Int) : Prop := l.length = s.length ∧ ∀ i, i < s.length → 0 ≤ l.getD i 0 ∧ l.getD i 0 < s.getD i 0
theorem inS_pos {s l : List Int} (h : inS s l) : posB s := fun d hd => by
  obtain ⟨i, hi, rfl⟩ := List.getElem_of_mem hd
  have := h.2 i hi
  simp [hi] at this
  omega
theorem offF_bd {s l : List Int} (h : inS s l) : ∀ i, i ≤ s.length → 0 ≤ offF s l i ∧ offF s l i < prodNZ (s.take i)
  | 0, _ => by simp [offF, prodNZ]
  | i + 1, hi => by
    obtain ⟨h1, h2⟩ := offF_bd h i (by omega)
    obtain ⟨h3, h4⟩ := h.2 i (by omega)
    have hp := posB_prod (posB_take (inS_pos h) i)
    rw [prodNZ_take_step (by omega) (posB_nz (inS_pos h))]
    simp only [offF]
    have h5 : 0 ≤ offF s l i * s.getD i 0 := Int.mul_nonneg h1 (by omega)
    have h6 : (offF s l i + 1) * s.getD i 0 ≤ prodNZ (s.take i) * s.getD i 0 := Int.mul_le_mul_of_nonneg_right (by omega) (by omega)
    rw [Int.add_mul] at h6
    exact ⟨by omega, by omega⟩
theorem offS_bd {s l : List Int} (h : inS s l) : 0 ≤ offS s l ∧ offS s l < cnt s := by
  have := offF_bd h s.length (Nat.le_refl _)
  rw [List.take_length] at this
  rw [posB_cnt (inS_pos h)]
  exact this
theorem digs_in {s : List Int} (h : posB s) (k : Int) : inS s (digs s k) := ⟨digs_len _ _, fun i hi => by rw [digs_getD hi]; exact dig_bd h k hi⟩
/-- an offset's digits lead back to it -/
theorem off_digs {s : List Int} (h : posB s) {k : Int} (h0 : 0 ≤ k) (h1 : k < cnt s) : offS s (digs s k) = k := by
  have : ∀ i, i ≤ s.length → offF s (digs s k) i = k / prodNZ (s.drop i) := by
    intro i
    induction i with
    | zero =>
      intro _
      simp only [offF, List.drop_zero]
      rw [posB_cnt h] at h1
      rw [Int.ediv_eq_zero_of_lt h0 h1]
    | succ i ih =>
      intro hi
      have hi' : i < s.length := by omega
      simp only [offF]
      rw [ih (by omega), digs_getD hi', ← dig_prog h k hi', dig, Int.mul_comm]
      exact Int.mul_ediv_add_emod _ _
  have h2 := this s.length (Nat.le_refl _)
  simpa [offS, prodNZ] using h2
/-- an index is the digits of its offset -/
theorem digs_off {s l : List Int} (h : inS s l) : digs s (offS s l) = l := by
  have hp := inS_pos h
  have key : ∀ j i, i + j = s.length → offS s l / prodNZ (s.drop i) = offF s l i := by
    intro j
    induction j with
    | zero =>
      intro i hi
      have : i = s.length := by omega
      subst this
      simp [prodNZ, offS]
    | succ j ih =>
      intro i hi
      have hi' : i < s.length := by omega
      have h1 := ih (i + 1) (by omega)
      rw [← dig_prog hp _ hi', h1]
      simp only [offF]
      obtain ⟨h3, h4⟩ := h.2 i hi'
      rw [Int.add_comm, Int.add_mul_ediv_right _ _ (by omega), Int.ediv_eq_zero_of_lt h3 h4]
      omega
  apply List.ext_getElem
  · rw [digs_len, h.1]
  · intro i h1 h2
    have hi : i < s.length := by rw [digs_len] at h1; exact h1
    have e1 : (digs s (offS s l))[i] = dig s (offS s l) i := by simp [digs]
    rw [e1, dig, key (s.length - (i + 1)) (i + 1) (by omega)]
    simp only [offF]
    obtain ⟨h3, h4⟩ := h.2 i hi
    have e2 : l.getD i 0 = l[i] := by simp [h2]
    rw [Int.add_comm, Int.add_mul_emod_self_right, Int.emod_eq_of_lt h3 h4, e2]
end Go.Proofs.Ytdpdcjadedcglaa
