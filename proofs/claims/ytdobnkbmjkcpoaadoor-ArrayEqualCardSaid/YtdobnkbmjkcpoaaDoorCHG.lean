/- law03.changed: numbers in some blocks turn into other numbers, and nothing else is written. Condition: the array is read, in blocks that are not frozen. -/
import Derived.Test.YtdobnkbmjkcpoaaDoorACLU
set_option linter.unusedVariables false
set_option linter.unusedSimpArgs false
namespace Go.Proofs.YtdobnkbmjkcpoaaDoor
open Go.RowKit Go.Sort
attribute [local go_sem ↓] run_max2 run_min2
attribute [local go_sem] eql_ints_nil eql_arrs_nil
/-- w' is w, but for numbers in the blocks of T, and for new blocks -/
structure Loose (T : Nat → Prop) (w w' : World) : Prop where
  os : w'.os = w.os
  tape : w'.tape = w.tape
  output : w'.output = w.output
  size : w.heap.size ≤ w'.heap.size
  block : ∀ b, b < w.heap.size → ¬ T b → w'.heap[b]? = w.heap[b]?
  cell : ∀ b o v, T b → w.cell? ⟨b, o, none⟩ = some v → w'.cell? ⟨b, o, none⟩ = some v ∨ ((∃ x, v = .int .i64 x) ∧ ∃ x, w'.cell? ⟨b, o, none⟩ = some (.int .i64 x))
  unf : ∀ b, T b → b < w.heap.size → Unf w b → Unf w' b
section
variable {T : Nat → Prop} {w w' w2 : World}
theorem Loose.of_ext (e : Ext w w') : Loose T w w' :=
  ⟨Below.os e, Below.tape e, Below.output e, Below.size e, fun b hb _ => e.block b hb, fun b o v _ h => Or.inl (up_cell h e), fun b _ hb h => h.keep (e.block b hb)⟩
theorem Loose.refl : Loose T w w := Loose.of_ext (Ext.refl _)
theorem Loose.trans (h : Loose T w w') (g : Loose T w' w2) : Loose T w w2 := by
  refine ⟨g.os.trans h.os, g.tape.trans h.tape, g.output.trans h.output, Nat.le_trans h.size g.size, fun b hb hn => (g.block b (Nat.lt_of_lt_of_le hb h.size) hn).trans (h.block b hb hn), fun b o v hT hv => ?_, fun b hT hb hu => g.unf b hT (Nat.lt_of_lt_of_le hb h.size) (h.unf b hT hb hu)⟩
  rcases h.cell b o v hT hv with h1 | ⟨h1, x, h2⟩
  · exact g.cell b o v hT h1
  · rcases g.cell b o _ hT h2 with g1 | ⟨_, g2⟩
    · exact Or.inr ⟨h1, x, g1⟩
    · exact Or.inr ⟨h1, g2⟩
theorem Loose.set (h : Loose T w w') {b o : Nat} (hT : T b) {x : Int} (hc : w'.cell? ⟨b, o, none⟩ = some (.int .i64 x)) (y : Int) : Loose T w (w'.setCell ⟨b, o, none⟩ (.int .i64 y)) := by
  refine h.trans ⟨rfl, rfl, rfl, by simp [World.setCell], fun k hk hn => Below.heap_setCell w' ⟨b, o, none⟩ _ k (fun e => hn (by rw [e]; exact hT)), fun k q v _ hv => ?_, fun k _ _ hu q => by rw [World.frozen?_setCell]; exact hu q⟩
  by_cases e : (⟨b, o, none⟩ : Addr) = ⟨k, q, none⟩
  · rw [← e] at hv ⊢
    rw [hc] at hv
    injection hv with hv
    exact Or.inr ⟨⟨x, hv.symm⟩, y, World.cell?_setCell_same _ _ _ hc⟩
  · exact Or.inl ((World.cell?_setCell_other _ _ _ _ e).trans hv)
theorem Loose.int (h : Loose T w w') {b o : Nat} {x : Int} (hT : T b) (hc : w.cell? ⟨b, o, none⟩ = some (.int .i64 x)) : ∃ y, w'.cell? ⟨b, o, none⟩ = some (.int .i64 y) := by
  rcases h.cell b o _ hT hc with h1 | ⟨_, h1⟩
  · exact ⟨x, h1⟩
  · exact h1
theorem Loose.slice (h : Loose T w w') {b o : Nat} {s : Option Addr} {n c : Nat} (hT : T b) (hc : w.cell? ⟨b, o, none⟩ = some (.slice s n c)) : w'.cell? ⟨b, o, none⟩ = some (.slice s n c) := by
  rcases h.cell b o _ hT hc with h1 | ⟨⟨x, h1⟩, _⟩
  · exact h1
  · cases h1
theorem Loose.hdr (h : Loose T w w') {b : Nat} {k s n i : Value} (hh : Hdr w b k s n i) (hT : ¬ T b) : Hdr w' b k s n i := hh.keep (h.block b hh.lt hT)
theorem Loose.below (h : Loose T w w') {B : Nat} (hB : ∀ b, T b → B ≤ b) (hw : B ≤ w.heap.size) : Below B w w' :=
  ⟨h.os, h.tape, h.output, h.size, fun b hb => h.block b (Nat.lt_of_lt_of_le hb hw) (fun hT => by have := hB b hT; omega)⟩
end
theorem end_nothing {fn : Func} (hres : fn.results = #[]) {w : World} {tmps : Array Value} : (results fn tmps).run Tryd.prog w = .ok (.tuple #[]) w := by
  simp [results, hres]
set_option maxRecDepth 100000 in
set_option maxHeartbeats 4000000 in
theorem law03_changed (a : Arr) : ∀ (sa : Option Addr) (sc : Nat) (na : Option Addr) (nc : Nat) (ia : Option Addr) (ic : Nat) (kd : Int) (T : Nat → Prop) (w0 w : World), ArrAt w0 T a sa na ia → (∀ b, T b → b < w0.heap.size ∧ Unf w0 b) → Loose T w0 w →
    Calls Tryd.prog 23 #[.agg #[.int .i64 kd, .slice sa a.shape.length sc, .slice na a.nums.length nc, .slice ia a.items.length ic]] w (fun e w' => (∃ v, e = .returned v) ∧ Loose T w w') := by
  induction a using Arr.ind with
  | h a IH =>
    intro sa sc na nc ia ic kd T w0 w h hT0 hL0
    have IH := hid IH
    refine calls_post fun R' hR => ?_
    have hil := h.len
    have hsl := h.shape.1
    have hnl := h.nums.1
    have h0 := hid h
    have hT := hid hT0
    have hL := hid hL0
    clear h hT0 hL0
    go_enter Tryd.func23, Tryd.ntmps23
    go_wp2_with fail
    generalize hW : w.alloc (.cells #[.int .i64 kd, .slice sa a.shape.length sc, .slice na a.nums.length nc, .slice ia a.items.length ic] 26) = W
    obtain ⟨hx, heW, zW⟩ := boxes1 w hW
    clear hW
    have nb : ¬ T w.heap.size := fun hb => by have := (hT.out _ hb).1; have := hL.out.size; omega
    generalize w.heap.size = bx at hx nb
    replace nb := hid nb
    have hLW := hid (hL.out.trans (Loose.of_ext heW))
    have hE := hid heW
    clear heW zW
    go_loopw [2] (fun i wr => ∃ k : Nat, k ≤ a.shape.length ∧ i = .int .i64 k ∧ Loose T W wr) (fun i _ => a.shape.length - (intOf i).toNat)
    case atStart => exact ⟨0, Nat.zero_le _, rfl, Loose.refl⟩
    case round =>
      obtain ⟨k, hk, rfl, hr⟩ := hrel
      have hr := hid hr
      have q1 := (hr.out.hdr hx nb.out).c1
      by_cases hlt : k < a.shape.length
      · obtain ⟨b, off, rfl, hbl, hS, hc⟩ := h0.out.shape.at hlt
        obtain ⟨d, hd⟩ := (hLW.out.trans hr.out).int hS hc
        have f := (hLW.out.trans hr.out).unf b hS hbl (hT.out b hS).2 (off + k)
        have ki0 : (0 : Int) ≤ (k : Int) := Int.natCast_nonneg _
        have ki1 : (k : Int) < (a.shape.length : Int) := by omega
        have hn := fun y => hid (hr.out.set hS hd y)
        clear hc
        go_wp2_with fail
        clear q1 hd f
        go_roundw
        case rel => exact ⟨k + 1, by omega, by go_num, (hn _).out⟩
        case measure => simp [intOf]; omega
      · clear hk
        have hLr := hr
        go_wp2_with fail
        clear q1 hlt hr
        go_loopw [3] (fun i wr => ∃ k : Nat, k ≤ a.nums.length ∧ i = .int .i64 k ∧ Loose T W wr) (fun i _ => a.nums.length - (intOf i).toNat)
        case atStart => exact ⟨0, Nat.zero_le _, rfl, hLr.out⟩
        case round =>
          clear hLr
          obtain ⟨k, hk, rfl, hr⟩ := hrel
          have hr := hid hr
          have q1 := (hr.out.hdr hx nb.out).c2
          by_cases hlt : k < a.nums.length
          · obtain ⟨b, off, rfl, hbl, hS, hc⟩ := h0.out.nums.at hlt
            obtain ⟨d, hd⟩ := (hLW.out.trans hr.out).int hS hc
            have f := (hLW.out.trans hr.out).unf b hS hbl (hT.out b hS).2 (off + k)
            have ki0 : (0 : Int) ≤ (k : Int) := Int.natCast_nonneg _
            have ki1 : (k : Int) < (a.nums.length : Int) := by omega
            have hn := fun y => hid (hr.out.set hS hd y)
            clear hc
            go_wp2_with fail
            clear q1 hd f
            go_roundw
            case rel => exact ⟨k + 1, by omega, by go_num, (hn _).out⟩
            case measure => simp [intOf]; omega
          · clear hk
            have hLr := hr
            go_wp2_with fail
            clear q1 hlt hr
            go_loopw [4] (fun i wr => ∃ k : Nat, k ≤ a.items.length ∧ i = .int .i64 k ∧ Loose T W wr) (fun i _ => a.items.length - (intOf i).toNat)
            case atStart => exact ⟨0, Nat.zero_le _, rfl, hLr.out⟩
            case round =>
              clear hLr
              obtain ⟨k, hk, rfl, hr⟩ := hrel
              have hr := hid hr
              have q1 := (hr.out.hdr hx nb.out).c3
              by_cases hlt : k < a.items.length
              · obtain ⟨b, off, sa', sc', na', nc', ja', jc', rfl, hS, hbl, c0, c1, c2, c3, hy⟩ := h0.out.items.at hlt
                have hmem := hid (List.getElem_mem hlt)
                generalize a.items[k] = y at hy hmem c0 c1 c2 c3
                obtain ⟨d, e0⟩ := (hLW.out.trans hr.out).int hS c0
                have e1 := (hLW.out.trans hr.out).slice hS c1
                have e2 := (hLW.out.trans hr.out).slice hS c2
                have e3 := (hLW.out.trans hr.out).slice hS c3
                have hy := hid hy
                have ki0 : (0 : Int) ≤ (k : Int) := Int.natCast_nonneg _
                have ki1 : (k : Int) < (a.items.length : Int) := by omega
                have hc0 := hid c0
                clear c0 c1 c2 c3
                go_wp2_with fail
                clear q1 e0 e1 e2 e3
                refine (IH.out y hmem.out sa' sc' na' nc' ja' jc' d T w0 _ hy.out hT.out (hLW.out.trans hr.out)).mono ?_
                rintro e w2 ⟨⟨v, rfl⟩, hL2⟩
                have h2 := hid (hr.out.trans hL2)
                clear hL2
                have q1 := (h2.out.hdr hx nb.out).c3
                obtain ⟨d2, e0⟩ := (hLW.out.trans h2.out).int hS hc0.out
                have f := (hLW.out.trans h2.out).unf b hS hbl (hT.out b hS).2 (off + k * 4)
                have hn := fun y => hid (h2.out.set hS e0 y)
                go_wp2_with fail
                clear q1 e0 f
                go_roundw
                case rel => exact ⟨k + 1, by omega, by go_num, (hn _).out⟩
                case measure => simp [intOf]; omega
              · go_wp2_with fail
                exact bodyPost_ret (end_nothing rfl) rfl (hR.out _ _ ⟨⟨_, rfl⟩, (Loose.of_ext hE.out).trans hr.out⟩)
end Go.Proofs.YtdobnkbmjkcpoaaDoor
