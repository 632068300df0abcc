/- Fill, the program's and the reference's: contracts. Condition: the array is read. -/
import Derived.Test.YtkbbdlibamcilaaCln
import Derived.Test.YtkbbdlibamcilaaR03
set_option linter.unusedVariables false
set_option linter.unusedSimpArgs false
namespace Go.Proofs.Ytkbbdlibamcilaa
open Go.RowKit Go.Sort
attribute [local go_sem ↓] run_max2 run_min2
attribute [local go_sem] eql_ints_nil eql_arrs_nil
/-- what a function that returns an array gives back -/
def RetA (w : World) (S : Nat → Prop) (a : Arr) (e : Ending) (w' : World) : Prop :=
  ∃ sa sc na nc ia ic, e = .returned (.agg #[.int .i64 a.kind, .slice sa a.shape.length sc, .slice na a.nums.length nc, .slice ia a.items.length ic]) ∧ ArrAt w' S a sa na ia ∧ Below w.heap.size w w'
def unitA : Arr := .mk 1 [0] [] []
def fillS (a : Arr) : Arr := if a.kind = 1 then .mk 1 [] [0] [] else if a.kind = 2 then .mk 2 [] [32] [] else if a.kind = 3 then .mk 3 [] [] [unitA] else .zero
theorem zero_at (w : World) (S : Nat → Prop) (sa na ia : Option Addr) : ArrAt w S .zero sa na ia := by
  rw [ArrAt.iff]; exact ⟨IntsAt.nil _ _ _, IntsAt.nil _ _ _, by simp [Arr.zero, Arr.items], by simp [Arr.zero, Arr.items, ItemsAt]⟩
theorem IntsAt.one {w : World} {S : Nat → Prop} {b : Nat} {o : Nat} {n : Int} (hS : S b) (hb : b < w.heap.size) (hc : w.cell? ⟨b, o, none⟩ = some (.int .i64 n)) : IntsAt w S (some ⟨b, o, none⟩) [n] :=
  ⟨by simp, fun _ => ⟨b, o, rfl, hS, hb, fun k hk => by simp at hk; subst hk; simpa using hc⟩⟩
theorem RetA.mk {w w' : World} {S : Nat → Prop} {a : Arr} {k : Int} {s n : List Int} {l : List Arr} {ns nn ni : Nat} (E : a = .mk k s n l) (sa : Option Addr) (sc : Nat) (na : Option Addr) (nc : Nat) (ia : Option Addr) (ic : Nat) (e1 : ns = s.length) (e2 : nn = n.length) (e3 : ni = l.length)
    (h1 : IntsAt w' S sa s) (h2 : IntsAt w' S na n) (hl : l.length ≤ 1759218604441) (h3 : ItemsAt w' S ia 0 l) (hb : Below w.heap.size w w') :
    RetA w S a (.returned (.agg #[.int .i64 k, .slice sa ns sc, .slice na nn nc, .slice ia ni ic])) w' := by
  subst e1; subst e2; subst e3; subst E
  exact ⟨sa, sc, na, nc, ia, ic, rfl, ArrAt.iff.2 ⟨h1, h2, hl, h3⟩, hb⟩
theorem IntsAt.box {w : World} {S : Nat → Prop} {b : Nat} {o : Nat} {n : Int} (hS : S b) (hc : w.cell? ⟨b, o, none⟩ = some (.int .i64 n)) : IntsAt w S (some ⟨b, o, none⟩) [n] := IntsAt.one hS (block_lt_of_cell hc) hc
theorem unit_item {w : World} {S : Nat → Prop} {b b2 : Nat} (hS : S b) (hS2 : S b2) (c0 : w.cell? ⟨b, 0, none⟩ = some (.int .i64 1)) (c1 : w.cell? ⟨b, 1, none⟩ = some (.slice (some ⟨b2, 0, none⟩) 1 1)) (c2 : w.cell? ⟨b, 2, none⟩ = some (.slice none 0 0)) (c3 : w.cell? ⟨b, 3, none⟩ = some (.slice none 0 0))
    (d : w.cell? ⟨b2, 0, none⟩ = some (.int .i64 0)) : ItemsAt w S (some ⟨b, 0, none⟩) 0 [unitA] := by
  refine ItemsAt.of_get fun j x hx => ?_
  have hj : j = 0 := by have := (List.getElem?_eq_some_iff.1 hx).1; simp at this; omega
  subst hj
  simp at hx
  subst hx
  refine ⟨b, 0, some ⟨b2, 0, none⟩, 1, none, 0, none, 0, rfl, hS, block_lt_of_cell c0, c0, c1, c2, c3, ?_⟩
  rw [ArrAt.iff]
  exact ⟨IntsAt.box hS2 d, IntsAt.nil _ _ _, by simp [unitA, Arr.items], by simp [unitA, Arr.items, ItemsAt]⟩
set_option maxHeartbeats 1000000 in
theorem fill_array_Fill (a : Arr) (sa : Option Addr) (sc : Nat) (na : Option Addr) (nc : Nat) (ia : Option Addr) (ic : Nat) (w : World) :
    Calls Try.prog 61 #[.agg #[.int .i64 a.kind, .slice sa a.shape.length sc, .slice na a.nums.length nc, .slice ia a.items.length ic]] w (RetA w (fun b => w.heap.size ≤ b) (fillS a)) := by
  refine calls_post fun R' hR => ?_
  by_cases h1 : a.kind = 1
  · have e1 : (a.kind == 1) = true := by simp [h1]
    have E : Hid (fillS a = .mk 1 [] [0] []) := if_pos h1
    replace h1 := hid h1
    go_enter Try.func61, Try.ntmps61
    go_wp2_with fail
    refine bodyPost_ret (v := .agg #[.int .i64 1, .slice none 0 0, .slice (some ⟨w.heap.size + 1 + 1, 0, none⟩) 1 1, .slice none 0 0]) (by simp [results, Try.results61, go_sem]) rfl (hR.out _ _ ?_)
    refine RetA.mk E.out none 0 _ 1 none 0 rfl rfl rfl (IntsAt.nil _ _ _) (IntsAt.box (b := w.heap.size + 1 + 1) (o := 0) (show w.heap.size ≤ w.heap.size + 1 + 1 by omega) (by simp [go_sem])) (by simp) (by simp only [ItemsAt]) ?_
    repeat' (first | with_reducible exact Below.refl _ _ | with_reducible refine Below.setCell ?_ ?_ _ | with_reducible refine Below.alloc ?_ ?_ _ | with_reducible refine Below.drew ?_ | with_reducible refine below_drewN ?_ _ | omega | (simp; done) | (simp; omega))
  by_cases h2 : a.kind = 2
  · have e1 : (a.kind == 1) = false := by simp [h2]
    have e2 : (a.kind == 2) = true := by simp [h2]
    have E : Hid (fillS a = .mk 2 [] [32] []) := by unfold fillS; rw [if_neg h1, if_pos h2]; exact rfl
    replace h1 := hid h1
    replace h2 := hid h2
    go_enter Try.func61, Try.ntmps61
    go_wp2_with fail
    refine bodyPost_ret (v := .agg #[.int .i64 2, .slice none 0 0, .slice (some ⟨w.heap.size + 1 + 1, 0, none⟩) 1 1, .slice none 0 0]) (by simp [results, Try.results61, go_sem]) rfl (hR.out _ _ ?_)
    refine RetA.mk E.out none 0 _ 1 none 0 rfl rfl rfl (IntsAt.nil _ _ _) (IntsAt.box (b := w.heap.size + 1 + 1) (o := 0) (show w.heap.size ≤ w.heap.size + 1 + 1 by omega) (by simp [go_sem])) (by simp) (by simp only [ItemsAt]) ?_
    repeat' (first | with_reducible exact Below.refl _ _ | with_reducible refine Below.setCell ?_ ?_ _ | with_reducible refine Below.alloc ?_ ?_ _ | with_reducible refine Below.drew ?_ | with_reducible refine below_drewN ?_ _ | omega | (simp; done) | (simp; omega))
  by_cases h3 : a.kind = 3
  · have e1 : (a.kind == 1) = false := by simp [h3]
    have e2 : (a.kind == 2) = false := by simp [h3]
    have e3 : (a.kind == 3) = true := by simp [h3]
    have E : Hid (fillS a = .mk 3 [] [] [unitA]) := by unfold fillS; rw [if_neg h1, if_neg h2, if_pos h3]; exact rfl
    replace h1 := hid h1
    replace h2 := hid h2
    replace h3 := hid h3
    go_enter Try.func61, Try.ntmps61
    go_wp2_with fail
    refine bodyPost_ret (v := .agg #[.int .i64 3, .slice none 0 0, .slice none 0 0, .slice (some ⟨w.heap.size + 1 + 1 + 1, 0, none⟩) 1 1]) (by simp [results, Try.results61, go_sem]) rfl (hR.out _ _ ?_)
    refine RetA.mk E.out none 0 none 0 _ 1 rfl rfl rfl (IntsAt.nil _ _ _) (IntsAt.nil _ _ _) (by simp) ?_ ?_
    · exact unit_item (b := w.heap.size + 1 + 1 + 1) (b2 := w.heap.size + 1 + 1) (show w.heap.size ≤ _ by omega) (show w.heap.size ≤ _ by omega) (by simp [go_sem]) (by simp [go_sem]) (by simp [go_sem]) (by simp [go_sem]) (by simp [go_sem])
    · repeat' (first | with_reducible exact Below.refl _ _ | with_reducible refine Below.setCell ?_ ?_ _ | with_reducible refine Below.alloc ?_ ?_ _ | with_reducible refine Below.drew ?_ | with_reducible refine below_drewN ?_ _ | omega | (simp; done) | (simp; omega))
  · have e1 : (a.kind == 1) = false := by simpa using h1
    have e2 : (a.kind == 2) = false := by simpa using h2
    have e3 : (a.kind == 3) = false := by simpa using h3
    have E : Hid (fillS a = .mk 0 [] [] []) := by unfold fillS; rw [if_neg h1, if_neg h2, if_neg h3]; exact rfl
    replace h1 := hid h1
    replace h2 := hid h2
    replace h3 := hid h3
    go_enter Try.func61, Try.ntmps61
    go_wp2_with fail
    refine bodyPost_ret (v := .agg #[.int .i64 0, .slice none 0 0, .slice none 0 0, .slice none 0 0]) (by simp [results, Try.results61, go_sem]) rfl (hR.out _ _ ?_)
    refine RetA.mk E.out none 0 none 0 none 0 rfl rfl rfl (IntsAt.nil _ _ _) (IntsAt.nil _ _ _) (by simp) (by simp only [ItemsAt]) ?_
    repeat' (first | with_reducible exact Below.refl _ _ | with_reducible refine Below.setCell ?_ ?_ _ | with_reducible refine Below.alloc ?_ ?_ _ | with_reducible refine Below.drew ?_ | with_reducible refine below_drewN ?_ _ | omega | (simp; done) | (simp; omega))
set_option maxHeartbeats 1000000 in
theorem fill_ref03_Fill (a : Arr) (sa : Option Addr) (sc : Nat) (na : Option Addr) (nc : Nat) (ia : Option Addr) (ic : Nat) (w : World) :
    Calls Try.prog 63 #[.agg #[.int .i64 a.kind, .slice sa a.shape.length sc, .slice na a.nums.length nc, .slice ia a.items.length ic]] w (RetA w (fun b => w.heap.size ≤ b) (fillS a)) := by
  refine calls_post fun R' hR => ?_
  by_cases h1 : a.kind = 1
  · have e1 : (a.kind == 1) = true := by simp [h1]
    have E : Hid (fillS a = .mk 1 [] [0] []) := if_pos h1
    replace h1 := hid h1
    go_enter Try.func63, Try.ntmps63
    go_wp2_with fail
    refine bodyPost_ret (v := .agg #[.int .i64 1, .slice none 0 0, .slice (some ⟨w.heap.size + 1 + 1, 0, none⟩) 1 1, .slice none 0 0]) (by simp [results, Try.results63, go_sem]) rfl (hR.out _ _ ?_)
    refine RetA.mk E.out none 0 _ 1 none 0 rfl rfl rfl (IntsAt.nil _ _ _) (IntsAt.box (b := w.heap.size + 1 + 1) (o := 0) (show w.heap.size ≤ w.heap.size + 1 + 1 by omega) (by simp [go_sem])) (by simp) (by simp only [ItemsAt]) ?_
    repeat' (first | with_reducible exact Below.refl _ _ | with_reducible refine Below.setCell ?_ ?_ _ | with_reducible refine Below.alloc ?_ ?_ _ | with_reducible refine Below.drew ?_ | with_reducible refine below_drewN ?_ _ | omega | (simp; done) | (simp; omega))
  by_cases h2 : a.kind = 2
  · have e1 : (a.kind == 1) = false := by simp [h2]
    have e2 : (a.kind == 2) = true := by simp [h2]
    have E : Hid (fillS a = .mk 2 [] [32] []) := by unfold fillS; rw [if_neg h1, if_pos h2]; exact rfl
    replace h1 := hid h1
    replace h2 := hid h2
    go_enter Try.func63, Try.ntmps63
    go_wp2_with fail
    refine bodyPost_ret (v := .agg #[.int .i64 2, .slice none 0 0, .slice (some ⟨w.heap.size + 1 + 1, 0, none⟩) 1 1, .slice none 0 0]) (by simp [results, Try.results63, go_sem]) rfl (hR.out _ _ ?_)
    refine RetA.mk E.out none 0 _ 1 none 0 rfl rfl rfl (IntsAt.nil _ _ _) (IntsAt.box (b := w.heap.size + 1 + 1) (o := 0) (show w.heap.size ≤ w.heap.size + 1 + 1 by omega) (by simp [go_sem])) (by simp) (by simp only [ItemsAt]) ?_
    repeat' (first | with_reducible exact Below.refl _ _ | with_reducible refine Below.setCell ?_ ?_ _ | with_reducible refine Below.alloc ?_ ?_ _ | with_reducible refine Below.drew ?_ | with_reducible refine below_drewN ?_ _ | omega | (simp; done) | (simp; omega))
  by_cases h3 : a.kind = 3
  · have e1 : (a.kind == 1) = false := by simp [h3]
    have e2 : (a.kind == 2) = false := by simp [h3]
    have e3 : (a.kind == 3) = true := by simp [h3]
    have E : Hid (fillS a = .mk 3 [] [] [unitA]) := by unfold fillS; rw [if_neg h1, if_neg h2, if_pos h3]; exact rfl
    replace h1 := hid h1
    replace h2 := hid h2
    replace h3 := hid h3
    go_enter Try.func63, Try.ntmps63
    go_wp2_with fail
    refine bodyPost_ret (v := .agg #[.int .i64 3, .slice none 0 0, .slice none 0 0, .slice (some ⟨w.heap.size + 1 + 1 + 1, 0, none⟩) 1 1]) (by simp [results, Try.results63, go_sem]) rfl (hR.out _ _ ?_)
    refine RetA.mk E.out none 0 none 0 _ 1 rfl rfl rfl (IntsAt.nil _ _ _) (IntsAt.nil _ _ _) (by simp) ?_ ?_
    · exact unit_item (b := w.heap.size + 1 + 1 + 1) (b2 := w.heap.size + 1 + 1) (show w.heap.size ≤ _ by omega) (show w.heap.size ≤ _ by omega) (by simp [go_sem]) (by simp [go_sem]) (by simp [go_sem]) (by simp [go_sem]) (by simp [go_sem])
    · repeat' (first | with_reducible exact Below.refl _ _ | with_reducible refine Below.setCell ?_ ?_ _ | with_reducible refine Below.alloc ?_ ?_ _ | with_reducible refine Below.drew ?_ | with_reducible refine below_drewN ?_ _ | omega | (simp; done) | (simp; omega))
  · have e1 : (a.kind == 1) = false := by simpa using h1
    have e2 : (a.kind == 2) = false := by simpa using h2
    have e3 : (a.kind == 3) = false := by simpa using h3
    have E : Hid (fillS a = .mk 0 [] [] []) := by unfold fillS; rw [if_neg h1, if_neg h2, if_neg h3]; exact rfl
    replace h1 := hid h1
    replace h2 := hid h2
    replace h3 := hid h3
    go_enter Try.func63, Try.ntmps63
    go_wp2_with fail
    refine bodyPost_ret (v := .agg #[.int .i64 0, .slice none 0 0, .slice none 0 0, .slice none 0 0]) (by simp [results, Try.results63, go_sem]) rfl (hR.out _ _ ?_)
    refine RetA.mk E.out none 0 none 0 none 0 rfl rfl rfl (IntsAt.nil _ _ _) (IntsAt.nil _ _ _) (by simp) (by simp only [ItemsAt]) ?_
    repeat' (first | with_reducible exact Below.refl _ _ | with_reducible refine Below.setCell ?_ ?_ _ | with_reducible refine Below.alloc ?_ ?_ _ | with_reducible refine Below.drew ?_ | with_reducible refine below_drewN ?_ _ | omega | (simp; done) | (simp; omega))
end Go.Proofs.Ytkbbdlibamcilaa
