/- A group of texts (GD), each with its own conditions: those of each lemma. -/
import Derived.Test.YtolnbmmkpmajdaaGA
import Derived.Test.YtolnbmmkpmajdaaGC
import Derived.Laws.Rows
set_option linter.unusedVariables false
set_option maxRecDepth 20000
set_option linter.unusedSimpArgs false
namespace Go.Proofs.Ytolnbmmkpmajdaa
open Go.RowKit Go.Sort
attribute [local go_sem ↓] run_max2 run_min2
attribute [local go_sem] eql_ints_nil eql_arrs_nil
def IdxR (w : World) (l : List Int) (e : Ending) (w' : World) : Prop :=
  ∃ ao cap, e = .returned (.tuple #[.slice ao l.length cap, .bool true]) ∧ OwnI w' w.heap.size ao cap l ∧ Below w.heap.size w w'
theorem IdxR.mk {w w' : World} {l : List Int} {ao : Option Addr} {n cap : Nat} (e : n = l.length) (h : OwnI w' w.heap.size ao cap l) (hb : Below w.heap.size w w') : IdxR w l (.returned (.tuple #[.slice ao n cap, .bool true])) w' := by
  subst e; exact ⟨ao, cap, rfl, h, hb⟩
end Go.Proofs.Ytolnbmmkpmajdaa
namespace Go.Proofs.Ytolnbmmkpmajdaa
open Go.RowKit Go.Sort
attribute [local go_sem ↓] run_max2 run_min2
attribute [local go_sem] eql_ints_nil eql_arrs_nil
set_option maxHeartbeats 2000000 in
theorem shape_Offset (s l : List Int) (ao : Option Addr) (cap : Nat) (bo : Option Addr) (bcap : Nat) (S T : Nat → Prop) (w : World) (h : IntsAt w S ao s) (g : IntsAt w T bo l) (hs : shapeB s = true) (hin : inS s l) :
    Calls Try.prog 82 #[.slice ao s.length cap, .slice bo l.length bcap] w fun e w' => e = .returned (.tuple #[.int .i64 (offS s l), .bool true]) ∧ w = w' := by
  refine calls_post fun R' hR => ?_
  have hl := h.1
  have gl := g.1
  have hs' := hid hs
  have hll := hin.1
  have hin' := hid hin
  have hB := shapeB_iff.1 hs
  have hpr : Hid (∀ i, i ≤ s.length → 0 ≤ offF s l i ∧ offF s l i < 65536) := fun i hi => by
    have h1 := offF_bd hin i hi
    have h2 := prodNZ_take_le hB.2.1 i
    have := hB.2.2
    omega
  have hel : Hid (∀ i, i < s.length → s.getD i 0 ≤ 65536) := fun i hi => Int.le_trans (prodNZ_ge_mem hB.2.1 (getD_mem hi)) hB.2.2
  have h' := hid h
  have g' := hid g
  clear hs hB hin
  have e0 : ((l.length : Int) != (s.length : Int)) = false := by simp [hll]
  replace hll := hid hll
  go_enter Try.func82, Try.ntmps82
  go_wp2_with (go_at_call 46; refine (shape_Right _ _ _ _ _ h'.out).mono ?_; rintro e w' ⟨rfl, rfl⟩; rw [hs'.out])
  go_loop [6, 21] (fun o i => ∃ j : Nat, j ≤ l.length ∧ i = .int .i64 j ∧ o = .int .i64 (offF s l j)) (fun _ i => l.length - (intOf i).toNat)
  case atStart => exact ⟨0, Nat.zero_le _, rfl, rfl⟩
  case round =>
    obtain ⟨j, hj, rfl, rfl⟩ := hrel
    by_cases hlt : j < l.length
    · have hlt2 : j < s.length := by have := hll.out; omega
      obtain ⟨b, off, rfl, hbl, hS, hc⟩ := h.at hlt2
      obtain ⟨b', off', rfl, hbl', hS', hc'⟩ := g.at hlt
      obtain ⟨i1, i2⟩ := hin'.out.2 j hlt2
      have f1 := (hpr.out j (by omega)).1
      have f2 := (hpr.out j (by omega)).2
      have f3 := (hpr.out (j + 1) (by omega)).2
      have f4 := hel.out j hlt2
      have hF : Hid (offF s l (j + 1) = offF s l j * s.getD j 0 + l.getD j 0) := rfl
      rw [hF.out] at f3
      generalize s.getD j 0 = d at hc i1 i2 f3 f4 hF
      generalize l.getD j 0 = x at hc' i1 i2 f3 hF
      generalize offF s l j = y at f1 f2 f3 hF ⊢
      have m0 : 0 ≤ y * d := Int.mul_nonneg f1 (by omega)
      go_wp2_with fail
      go_round
      case rel => exact ⟨j + 1, by omega, by go_num, by rw [hF.out]⟩
      case measure => simp [intOf]; omega
    · have hje : j = l.length := by omega
      have E : Hid (offS s l = offF s l j) := by rw [hje, hll.out]; exact rfl
      clear hje
      go_wp2_with fail
      exact hR.out _ _ ⟨by rw [E.out] <;> rfl, rfl⟩
theorem OwnI.base {w : World} {base base' : Nat} {ao : Option Addr} {cap : Nat} {xs : List Int} (h : OwnI w base ao cap xs) (hb : base' ≤ base) : OwnI w base' ao cap xs :=
  ⟨h.1, h.2.imp id fun ⟨g, c, cur, e, h1, h2⟩ => ⟨g, c, cur, e, Nat.le_trans hb h1, h2⟩⟩
theorem OwnA.base {w : World} {base base' : Nat} {S : Nat → Prop} {ao : Option Addr} {cap : Nat} {l : List Arr} (h : OwnA w base S ao cap l) (hb : base' ≤ base) : OwnA w base' S ao cap l := by
  obtain ⟨cs, h1, h2⟩ := h
  exact ⟨cs, ⟨h1.1, h1.2.imp id fun ⟨g, c, cur, e, h1, h2⟩ => ⟨g, c, cur, e, Nat.le_trans hb h1, h2⟩⟩, h2⟩
def IxRel (wc : World) (b : Nat) (s : List Int) (k : Int) (o i : Value) (wr : World) : Prop :=
  ∃ (j : Nat) (n : Int), j ≤ s.length ∧ n = j - 1 ∧ i = .int .i64 n ∧ o = .int .i64 (k / prodNZ (s.drop j)) ∧ wc.grownBy wr (some b) ∧ (∀ m, m < 8 → (wr.cell? ⟨b, m, none⟩).isSome = true) ∧ (∀ m, wr.frozen? ⟨b, m, none⟩ = false) ∧
    ∀ m, j ≤ m → m < s.length → wr.cell? ⟨b, m, none⟩ = some (.int .i64 (dig s k m))
theorem grown_set {w w' : World} {b : Nat} (h : w.grownBy w' (some b)) (o : Nat) (v : Value) : w.grownBy (w'.setCell ⟨b, o, none⟩ v) (some b) :=
  ⟨h.os, h.tape, h.output, by simp [World.setCell]; exact h.size, fun k hk hne => by rw [Below.heap_setCell w' ⟨b, o, none⟩ v k (fun e => hne (by rw [e]))]; exact h.block k hk hne⟩
set_option maxHeartbeats 2000000 in
theorem shape_Index (s : List Int) (k : Int) (ao : Option Addr) (cap : Nat) (S : Nat → Prop) (w : World) (h : IntsAt w S ao s) (hs : shapeB s = true) (h0 : 0 ≤ k) (h1 : k < cnt s) (hS : ∀ b, S b → b < w.heap.size) :
    Calls Try.prog 81 #[.slice ao s.length cap, .int .i64 k] w (IdxR w (digs s k)) := by
  refine calls_post fun R' hR => ?_
  have hl := h.1
  have h' := hid h
  have hP := posB_of hs h0 h1
  have hcn := posB_cnt hP
  have hz := hid (sizeS_true hs)
  have hsB := shapeB_iff.1 hs
  have h8 := hsB.1
  have hkp : k < prodNZ s := by rw [← hcn]; exact h1
  have HP := hid hP
  have h1' : k < sizeS s := by rw [hz.out]; exact h1
  have hs' := hid hs
  have hkl : k ≤ 65536 := by have := (cnt_le hs).2; omega
  clear hs hP hcn hsB h hkp h1
  go_enter Try.func81, Try.ntmps81
  go_wp2_with (go_at_call 33; refine (shape_Size _ _ _ _ _ h'.out).mono ?_; rintro e w' ⟨rfl, rfl⟩)
  generalize hwc : w.alloc (.cells #[.int .i64 0, .int .i64 0, .int .i64 0, .int .i64 0, .int .i64 0, .int .i64 0, .int .i64 0, .int .i64 0] 68) = wc
  have hcell : ∀ m, m < 8 → (wc.cell? ⟨w.heap.size, m, none⟩).isSome = true := by
    intro m hm
    rw [← hwc]
    match m, hm with
    | 0, _ => simp [go_sem]
    | 1, _ => simp [go_sem]
    | 2, _ => simp [go_sem]
    | 3, _ => simp [go_sem]
    | 4, _ => simp [go_sem]
    | 5, _ => simp [go_sem]
    | 6, _ => simp [go_sem]
    | 7, _ => simp [go_sem]
  have hfr : ∀ m, wc.frozen? ⟨w.heap.size, m, none⟩ = false := by intro m; rw [← hwc]; simp [go_sem]
  have hB := hid (show Below w.heap.size w wc by rw [← hwc]; exact (Below.refl _ _).alloc (Nat.le_refl _) _)
  have hI : Hid (IntsAt wc S ao s) := by rw [← hwc]; exact h'.out.alloc _
  have hszc : w.heap.size < wc.heap.size := by rw [← hwc]; simp
  have hdr : Hid (k / prodNZ (s.drop s.length) = k) := by simp [Hid, prodNZ]
  replace hwc := hid hwc
  replace hcell := hid hcell
  replace hfr := hid hfr
  replace hS := hid hS
  go_loopw [1, 7] (fun o i wr => IxRel wc w.heap.size s k o i wr) (fun _ i _ => (intOf i + 1).toNat)
  case atStart => exact ⟨s.length, _, Nat.le_refl _, rfl, rfl, by rw [hdr.out], World.grownBy.refl _ _, hcell.out, hfr.out, fun m h1 h2 => by omega⟩
  case round =>
    obtain ⟨j, n, hj, hn, rfl, rfl, hg, hc8, hf8, hd⟩ := hrel
    have hc8 := hid hc8
    have hf8 := hid hf8
    have hd := hid hd
    have hgs := hg.size
    have hgs0 : w.heap.size ≤ wr.heap.size := by omega
    cases j with
    | zero =>
      have hn1 : n < 0 := by omega
      have hc0 : ¬ 0 ≤ n := by omega
      replace hn := hid hn
      have hsl : (digs s k).length = s.length := digs_len s k
      have hI2 : Hid (IntsAt wr (fun _ => True) (some ⟨w.heap.size, 0, none⟩) (digs s k)) := ⟨by rw [hsl]; exact hl, fun _ => ⟨w.heap.size, 0, rfl, trivial, by omega, fun m hm => by
        rw [hsl] at hm
        rw [digs_getD hm]
        simpa using hd.out m (Nat.zero_le _) hm⟩⟩
      have hBr := hid (hB.out.grown hg hB.out.size (fun q hq => by injection hq with hq; omega))
      have h8i : (s.length : Int) ≤ 8 := by omega
      have hcl := slices_Clone (digs s k) (some ⟨w.heap.size, 0, none⟩) 8 _ wr hI2.out
      rw [hsl] at hcl
      have HCL := hid hcl
      have hsl' := hid hsl
      clear hcl hsl hj
      have hj0 : (0 : Int) ≤ (s.length : Int) := by omega
      go_wp2_with (go_at_call 21; refine HCL.out.mono ?_; rintro e w' ⟨co, ccap, rfl, hown, hb⟩)
      exact hR.out _ _ (IdxR.mk rfl (hown.base hgs0) (hBr.out.trans (hb.mono hgs0)))
    | succ m =>
      have hnm : n = (m : Int) := by omega
      subst hnm
      clear hn
      have hmlt : m < s.length := by omega
      obtain ⟨b, off, rfl, hbl, hSb, hc⟩ := hI.out.at hmlt
      have hne : b ≠ w.heap.size := by have := hS.out b hSb; omega
      have hcr : wr.cell? ⟨b, off + m, none⟩ = some (.int .i64 (s.getD m 0)) := hg.cell (a := ⟨b, off + m, none⟩) hc (by simpa using hne)
      have hdp := hid (dig_prog HP.out k hmlt)
      have hdg : Hid (dig s k m = k / prodNZ (s.drop (m + 1)) % s.getD m 0) := rfl
      have hd1 := getD_pos HP.out hmlt
      have hk1 : 0 ≤ k / prodNZ (s.drop (m + 1)) := Int.ediv_nonneg h0 (by have := posB_prod (posB_drop HP.out (m + 1)); omega)
      have hk2 : k / prodNZ (s.drop (m + 1)) ≤ k := Int.ediv_le_self _ h0
      obtain ⟨u, hu⟩ := Option.isSome_iff_exists.1 (hc8.out m (by omega))
      have hfm := hf8.out m
      clear hc
      generalize s.getD m 0 = d at hcr hdp hdg hd1
      generalize k / prodNZ (s.drop (m + 1)) = q at hdp hdg hk1 hk2 ⊢
      have m8 : (m : Int) < 8 := by omega
      go_wp2_with fail
      have hcs : ∀ o x, o ≠ m → (wr.setCell ⟨w.heap.size, m, none⟩ x).cell? ⟨w.heap.size, o, none⟩ = wr.cell? ⟨w.heap.size, o, none⟩ := fun o x ho => World.cell?_setCell_other _ _ _ _ (by intro e; injection e with _ e; exact ho e.symm)
      have hcm : ∀ x, (wr.setCell ⟨w.heap.size, m, none⟩ x).cell? ⟨w.heap.size, m, none⟩ = some x := fun x => World.cell?_setCell_same _ _ _ hu
      go_roundw
      case rel =>
        refine ⟨m, (m : Int) - 1, by omega, by omega, by go_num, by rw [hdp.out], grown_set hg _ _, fun o ho => ?_, fun o => by rw [World.frozen?_setCell]; exact hf8.out o, fun o h1 h2 => ?_⟩
        · by_cases e : o = m
          · subst e; rw [hcm]; rfl
          · rw [hcs o _ e]; exact hc8.out o ho
        · by_cases e : o = m
          · subst e; rw [hcm, hdg.out]
          · rw [hcs o _ e]; exact hd.out o (by omega) h2
      case measure => simp [intOf]
end Go.Proofs.Ytolnbmmkpmajdaa
