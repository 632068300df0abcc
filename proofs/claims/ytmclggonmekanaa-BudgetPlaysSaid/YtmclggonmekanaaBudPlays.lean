/- BudgetPlays returns true: its walk. No conditions but that the arguments are read. -/
import Derived.Test.YtmclggonmekanaaBudDos
import Derived.Deep.RegionWith
import Derived.Deep.RegionHeld3
import Derived.Deep.DeepCutAuto
import Derived.LoopTactic
set_option linter.unusedVariables false
set_option linter.unusedSimpArgs false
namespace Go.Proofs.Ytmclggonmekanaa
open Go.RowKit
attribute [local go_sem ↓] run_max2 run_min2
/-- the reference's meter in a variable -/
def RefM (w : World) (r : Nat) (S C K st ce ca : Int) : Prop :=
  w.heap[r]? = some (.cells #[.int .i64 S, .int .i64 C, .int .i64 K, .int .i64 st, .int .i64 ce, .int .i64 ca] 29 (0, 0))
theorem RefM.cell {w : World} {m : Nat} {S C K st ce ca : Int} (h : RefM w m S C K st ce ca) :
    w.cell? ⟨m, 0, none⟩ = some (.int .i64 S) ∧ w.cell? ⟨m, 1, none⟩ = some (.int .i64 C) ∧ w.cell? ⟨m, 2, none⟩ = some (.int .i64 K) ∧
    w.cell? ⟨m, 3, none⟩ = some (.int .i64 st) ∧ w.cell? ⟨m, 4, none⟩ = some (.int .i64 ce) ∧ w.cell? ⟨m, 5, none⟩ = some (.int .i64 ca) ∧
    (∀ o, w.frozen? ⟨m, o, none⟩ = false) := by
  unfold RefM at h
  simp [World.cell?, World.frozen?, h]
theorem RefM.lt {w : World} {m : Nat} {S C K st ce ca : Int} (h : RefM w m S C K st ce ca) : m < w.heap.size := lt_of_block h
theorem RefM.grown {w w' : World} {m r : Nat} {S C K st ce ca S' C' K' st' ce' ca' : Int} (h : RefM w r S C K st ce ca) (hm : Met w m S' C' K' st' ce' ca') (hg : w.grownBy w' (some m)) : RefM w' r S C K st ce ca := by
  have hne : r ≠ m := by
    rintro rfl
    unfold RefM at h; unfold Met at hm
    rw [h] at hm
    simp at hm
  exact (hg.block r h.lt (by intro e; injection e with e; exact hne e)).trans h
theorem RefM.below {w w' : World} {r B : Nat} {S C K st ce ca : Int} (h : RefM w r S C K st ce ca) (hb : Below B w w') (hr : r < B) : RefM w' r S C K st ce ca := (hb.block r hr).trans h
theorem store6 {w : World} {r : Nat} {t : TypeId} {a0 a1 a2 a3 a4 a5 b0 b1 b2 b3 b4 b5 : Value} (h : w.heap[r]? = some (.cells #[a0, a1, a2, a3, a4, a5] t (0, 0))) :
    ((((((w.setCell ⟨r, 0, none⟩ b0).setCell ⟨r, 1, none⟩ b1).setCell ⟨r, 2, none⟩ b2).setCell ⟨r, 3, none⟩ b3).setCell ⟨r, 4, none⟩ b4).setCell ⟨r, 5, none⟩ b5).heap[r]? = some (.cells #[b0, b1, b2, b3, b4, b5] t (0, 0)) := by
  simp [World.setCell, Array.getElem?_modify, h]
theorem store6_other {w : World} {r k : Nat} {b0 b1 b2 b3 b4 b5 : Value} (h : k ≠ r) :
    ((((((w.setCell ⟨r, 0, none⟩ b0).setCell ⟨r, 1, none⟩ b1).setCell ⟨r, 2, none⟩ b2).setCell ⟨r, 3, none⟩ b3).setCell ⟨r, 4, none⟩ b4).setCell ⟨r, 5, none⟩ b5).heap[k]? = w.heap[k]? := by
  simp [World.setCell, Array.getElem?_modify, Ne.symm h]
theorem Met.alloc' {w : World} {m : Nat} {S C K st ce ca : Int} (h : Met w m S C K st ce ca) (o : Obj) : Met (w.alloc o) m S C K st ce ca :=
  (Below.heap_alloc w o m h.lt).trans h
def PlaysMid (S C K : Int) (w : World) (s5 s6 : Value) (wx : World) : Prop :=
  ∃ m r, s5 = .pointer (some ⟨m, 0, none⟩) ∧ s6 = .pointer (some ⟨r, 0, none⟩) ∧ Met wx m S C K 0 0 0 ∧ RefM wx r S C K 0 0 0 ∧ w.heap.size ≤ m ∧ w.heap.size ≤ r ∧ Below w.heap.size w wx
def PlaysIn (S C K : Int) (w : World) (st ce ca E : Int) (m r : Nat) (s9 s10 : Value) (wx : World) : Prop :=
  ∃ q, s9 = .pointer (some ⟨q, 0, none⟩) ∧ s10 = .int .i64 E ∧ RefM wx q S C K st ce ca ∧ Met wx m S C K st ce ca ∧ r < wx.heap.size ∧ q ≠ r ∧ Below w.heap.size w wx ∧
    ∃ x0 x1 x2 x3 x4 x5, RefM wx r x0 x1 x2 x3 x4 x5
theorem op_bd' (j n K : Int) {st ce ca : Int} (h0 : 0 ≤ st) (h1 : st ≤ 4611686018427387903) (h2 : 0 ≤ ce) (h3 : ce ≤ 4611686018427387903) (h4 : 0 ≤ ca) (h5 : ca ≤ 200) :
    (0 ≤ opSt j n st ∧ opSt j n st ≤ 4611686018427387903) ∧ (0 ≤ opCe j n ce ∧ opCe j n ce ≤ 4611686018427387903) ∧ (0 ≤ opCa j K ca ∧ opCa j K ca ≤ 200) := by
  have a := satS_bd st n h0
  have b := satS_bd ce n h2
  refine ⟨?_, ?_, ?_⟩
  · unfold opSt; split <;> omega
  · unfold opCe; split <;> omega
  · unfold opCa enterN; (repeat' split) <;> omega
def PlaysRel (S C K : Int) (w : World) (len m r : Nat) (i : Value) (wr : World) : Prop :=
  ∃ (k : Nat) (st ce ca : Int), k ≤ len ∧ i = .int .i64 k ∧ Met wr m S C K st ce ca ∧ RefM wr r S C K st ce ca ∧ Below w.heap.size w wr ∧
    0 ≤ st ∧ st ≤ 4611686018427387903 ∧ 0 ≤ ce ∧ ce ≤ 4611686018427387903 ∧ 0 ≤ ca ∧ ca ≤ 200
set_option maxHeartbeats 2000000 in
theorem plays_any (S C K : Int) (ao : Option Addr) (len cap : Nat) (ds : List (Int × Int)) (w : World) (hd : DosIn w w.heap.size ao len ds) :
    Calls Try.prog 3 #[.agg #[.int .i64 S, .int .i64 C, .int .i64 K], .slice ao len cap] w fun e w' => e = .returned (.bool true) ∧ Below w.heap.size w w' := by
  refine calls_post fun R' hR => ?_
  have hlen := hd.2.1
  by_cases h : 100 < len
  · go_enter Try.func3, Try.ntmps3
    go_wp2_with (go_at_call 15; refine (knows_any _).mono ?_; rintro e w' ⟨rfl, hb⟩)
    refine hR.out _ _ ⟨rfl, ?_⟩
    repeat' (first | with_reducible exact Below.refl _ _ | with_reducible refine Below.setCell ?_ ?_ _ | with_reducible refine Below.alloc ?_ ?_ _ | with_reducible refine Below.trans ?_ (Below.mono hb ?_) | omega | (simp; done) | (simp; omega))
  · go_enter Try.func3, Try.ntmps3
    go_upto_region 3 with (fail)
    go_cut [5, 6] (fun s5 s6 wx => PlaysMid S C K w s5 s6 wx)
    case first =>
      go_region_held3 (fun w' => w'.cell? ⟨w.heap.size, 0, none⟩ = some (.int .i64 S) ∧ w'.cell? ⟨w.heap.size, 1, none⟩ = some (.int .i64 C) ∧ w'.cell? ⟨w.heap.size, 2, none⟩ = some (.int .i64 K)) (simp [go_sem, World.cell?_alloc_past, *]) (first | (go_at_call 16; refine (new_any _ _ _ _).mono ?_; rintro e w1 ⟨m, rfl, hm1, hs1, hb1⟩; obtain ⟨hc, hf⟩ := bcell hb1; have hlt : w.heap.size < w1.heap.size := by have := hb1.size; simp at this; omega))
      all_goals go_wp2_with fail
      all_goals go_meet
      · have hz := hb1.size
        simp at hz
        exact ⟨m, w1.heap.size, rfl, rfl, hm1.alloc' _, heap_alloc_new w1 _, by simp at hs1; omega, by omega, by repeat' (first | with_reducible exact Below.refl _ _ | with_reducible refine Below.setCell ?_ ?_ _ | with_reducible refine Below.alloc ?_ ?_ _ | with_reducible refine Below.drew ?_ | with_reducible refine below_drewN ?_ _ | with_reducible refine Below.trans ?_ (Below.mono hb1 ?_) | omega | (simp; done) | (simp; omega) | (have Z0 := hb1.size; (try simp at Z0); (try simp); omega))⟩
      · have hz := hb1.size
        simp at hz hs1
        refine ⟨m, w.heap.size + 1, rfl, rfl, (store6_other (by omega)).trans hm1, store6 (a0 := .int .i64 0) (a1 := .int .i64 0) (a2 := .int .i64 0) (a3 := .int .i64 0) (a4 := .int .i64 0) (a5 := .int .i64 0) ?_, by omega, by omega, ?_⟩
        · rw [hb1.block _ (by simp)]
          have h := heap_alloc_new (w.alloc (.cells #[.int .i64 S, .int .i64 C, .int .i64 K] 23)) (.cells #[.int .i64 0, .int .i64 0, .int .i64 0, .int .i64 0, .int .i64 0, .int .i64 0] 29)
          rwa [show (w.alloc (.cells #[.int .i64 S, .int .i64 C, .int .i64 K] 23)).heap.size = w.heap.size + 1 from by simp] at h
        · repeat' (first | with_reducible exact Below.refl _ _ | with_reducible refine Below.setCell ?_ ?_ _ | with_reducible refine Below.alloc ?_ ?_ _ | with_reducible refine Below.drew ?_ | with_reducible refine below_drewN ?_ _ | with_reducible refine Below.trans ?_ (Below.mono hb1 ?_) | omega | (simp; done) | (simp; omega) | (have Z0 := hb1.size; (try simp at Z0); (try simp); omega))
    case rest =>
      obtain ⟨m, r, rfl, rfl, hm, hr, hms, hrs, hb⟩ := hcut
      go_wp2_with fail
      have hlen' := hid hlen
      go_loopw [7] (fun i wr => PlaysRel S C K w len m r i wr) (fun i _ => len - (intOf i).toNat)
      case atStart => exact ⟨0, 0, 0, 0, by omega, rfl, hm, hr, hb, by omega, by omega, by omega, by omega, by omega, by omega⟩
      case round =>
        obtain ⟨k, st, ce, ca, hk, rfl, hm, hr, hb, h0, h1, h2, h3, h4, h5⟩ := hrel
        by_cases hlt : k < len
        · obtain ⟨b, off, rfl, hbB, hcell⟩ := hd.2.2.2 (by omega)
          obtain ⟨ck, cn⟩ := hcell k hlt
          rw [← hb.cell (p := ⟨b, _, none⟩) hbB] at ck cn
          have hkd := hd.2.2.1 k
          clear hcell
          generalize (ds.getD k (0, 0)).1 = kd at ck hkd
          generalize (ds.getD k (0, 0)).2 = n at cn
          obtain ⟨r0, r1, r2, r3, r4, r5, rf⟩ := hr.cell
          clear r0 r1 r2 r3 r4 r5 rf
          go_wp2_with fail
          refine (run_any m _ _ _ _ _ _ _ _ wr hm h0 h1 h2 h3 h4 h5 hkd.1 hkd.2).mono ?_
          rintro e w1 ⟨rfl, hm1, hg1⟩
          have hr1 := hr.grown hm hg1
          have hb1 := bgrown hb hg1 hms
          have ck1 := hg1.cell ck (by simp; omega)
          have cn1 := hg1.cell cn (by simp; omega)
          clear ck cn
          have hbd := op_bd' (kd % 4) n K h0 h1 h2 h3 h4 h5
          go_upto_region 8 with (fail)
          go_cut [9, 10] (fun s9 s10 wx => PlaysIn S C K w (opSt (kd % 4) n st) (opCe (kd % 4) n ce) (opCa (kd % 4) K ca) (opE (kd % 4) n S C K st ce ca) m r s9 s10 wx)
          case first =>
            obtain ⟨r0, r1, r2, r3, r4, r5, rf⟩ := hr1.cell
            clear rf
            have hrl := hr1.lt
            have hbl : b < w1.heap.size := by have := hb1.size; omega
            go_region_held3 (fun w' => w'.cell? ⟨r, 0, none⟩ = some (.int .i64 S) ∧ w'.cell? ⟨r, 1, none⟩ = some (.int .i64 C) ∧ w'.cell? ⟨r, 2, none⟩ = some (.int .i64 K) ∧ w'.cell? ⟨r, 3, none⟩ = some (.int .i64 st) ∧ w'.cell? ⟨r, 4, none⟩ = some (.int .i64 ce) ∧ w'.cell? ⟨r, 5, none⟩ = some (.int .i64 ca) ∧ w'.cell? ⟨b, off + k * 2, none⟩ = some (.int .u8 kd) ∧ w'.cell? ⟨b, off + k * 2 + 1, none⟩ = some (.int .i64 n)) (simp [go_sem, World.cell?_alloc_past, *]) (first | (go_at_call 18; refine (plain_any _ _ _ _ _ _ _ _ _ h0 h1 h2 h3 h4 h5 hkd.1 hkd.2).mono ?_; rintro e w2 ⟨rfl, hb2⟩; (try replace hb2 := undrew hb2); obtain ⟨hc2, hf2⟩ := bcell hb2; have hlt2 : w1.heap.size ≤ w2.heap.size := (by have := hb2.size; (try simp at this); omega); have hr2 : r < w2.heap.size := (by omega); have hbl2 : b < w2.heap.size := (by omega)))
            all_goals go_wp2_with fail
            all_goals go_meet
            · exact ⟨w2.heap.size, rfl, rfl, heap_alloc_new w2 _, (hm1.below hb2 hm1.lt).alloc' _, by simp; omega, by omega, by repeat' (first | with_reducible exact Below.refl _ _ | with_reducible refine Below.setCell ?_ ?_ _ | with_reducible refine Below.alloc ?_ ?_ _ | with_reducible refine Below.drew ?_ | with_reducible refine below_drewN ?_ _ | with_reducible refine Below.trans ?_ (Below.mono hb2 ?_) | with_reducible refine Below.trans ?_ (Below.mono hb1 ?_) | omega | (simp; done) | (simp; omega) | (have Z0 := hb2.size; (try simp at Z0); have Z1 := hb1.size; (try simp at Z1); (try simp); omega)), _, _, _, _, _, _, (Below.heap_alloc w2 _ r hr2).trans (hr1.below hb2 hr1.lt)⟩
            · have hml := hm1.lt
              refine ⟨w1.heap.size, rfl, rfl, store6 (a0 := .int .i64 0) (a1 := .int .i64 0) (a2 := .int .i64 0) (a3 := .int .i64 0) (a4 := .int .i64 0) (a5 := .int .i64 0) ?_, (store6_other (by omega)).trans ((hm1.alloc' _).below hb2 (by simp; omega)), by simp [World.setCell]; omega, by omega, ?_, _, _, _, _, _, _, (store6_other (by omega)).trans (RefM.below ((Below.heap_alloc w1 _ r hr1.lt).trans hr1) hb2 (by simp; omega))⟩
              · rw [hb2.block _ (by simp)]
                exact heap_alloc_new w1 _
              · repeat' (first | with_reducible exact Below.refl _ _ | with_reducible refine Below.setCell ?_ ?_ _ | with_reducible refine Below.alloc ?_ ?_ _ | with_reducible refine Below.drew ?_ | with_reducible refine below_drewN ?_ _ | with_reducible refine Below.trans ?_ (Below.mono hb2 ?_) | with_reducible refine Below.trans ?_ (Below.mono hb1 ?_) | omega | (simp; done) | (simp; omega) | (have Z0 := hb2.size; (try simp at Z0); have Z1 := hb1.size; (try simp at Z1); (try simp); omega))
          case rest =>
            obtain ⟨q, rfl, rfl, hq, hm2, hrl, hqr, hb2, x0, x1, x2, x3, x4, x5, hr2⟩ := hcut
            clear hr1 hr hb hb1 hm hm1 hg1 ck1 cn1
            have hm3 : Met (((((((wc.setCell ⟨r, 0, none⟩ (.int .i64 S)).setCell ⟨r, 1, none⟩ (.int .i64 C)).setCell ⟨r, 2, none⟩ (.int .i64 K)).setCell ⟨r, 3, none⟩ (.int .i64 (opSt (kd % 4) n st))).setCell ⟨r, 4, none⟩ (.int .i64 (opCe (kd % 4) n ce))).setCell ⟨r, 5, none⟩ (.int .i64 (opCa (kd % 4) K ca)))) m S C K (opSt (kd % 4) n st) (opCe (kd % 4) n ce) (opCa (kd % 4) K ca) := by
              refine (store6_other ?_).trans hm2
              rintro rfl
              unfold Met at hm2; unfold RefM at hr2
              rw [hm2] at hr2
              simp at hr2
            have hr3 := store6 (b0 := .int .i64 S) (b1 := .int .i64 C) (b2 := .int .i64 K) (b3 := .int .i64 (opSt (kd % 4) n st)) (b4 := .int .i64 (opCe (kd % 4) n ce)) (b5 := .int .i64 (opCa (kd % 4) K ca)) hr2
            have HM := hid hm3
            have HR := hid hr3
            have hb3 : Below w.heap.size w (((((((wc.setCell ⟨r, 0, none⟩ (.int .i64 S)).setCell ⟨r, 1, none⟩ (.int .i64 C)).setCell ⟨r, 2, none⟩ (.int .i64 K)).setCell ⟨r, 3, none⟩ (.int .i64 (opSt (kd % 4) n st))).setCell ⟨r, 4, none⟩ (.int .i64 (opCe (kd % 4) n ce))).setCell ⟨r, 5, none⟩ (.int .i64 (opCa (kd % 4) K ca)))) := by
              repeat' (first | with_reducible exact Below.refl _ _ | with_reducible refine Below.setCell ?_ ?_ _ | with_reducible refine Below.alloc ?_ ?_ _ | with_reducible refine Below.drew ?_ | with_reducible refine below_drewN ?_ _ | with_reducible refine Below.trans ?_ (Below.mono hb2 ?_) | omega | (simp; done) | (simp; omega) | (have Z0 := hb2.size; (try simp at Z0); (try simp); omega))
            have HB := hid hb3
            clear hb3
            obtain ⟨q0, q1, q2, q3, q4, q5, qf⟩ := hq.cell
            obtain ⟨y0, y1, y2, y3, y4, y5, yf⟩ := RefM.cell hr2
            clear qf hm3 hr3 hm2 hr2 hb2 hq
            go_upto_region 10 with (fail)
            clear q0 q1 q2 q3 q4 q5 y0 y1 y2 y3 y4 y5 yf hrl hqr
            generalize (((((((wc.setCell ⟨r, 0, none⟩ (.int .i64 S)).setCell ⟨r, 1, none⟩ (.int .i64 C)).setCell ⟨r, 2, none⟩ (.int .i64 K)).setCell ⟨r, 3, none⟩ (.int .i64 (opSt (kd % 4) n st))).setCell ⟨r, 4, none⟩ (.int .i64 (opCe (kd % 4) n ce))).setCell ⟨r, 5, none⟩ (.int .i64 (opCa (kd % 4) K ca)))) = w3 at HM HR HB ⊢
            obtain ⟨q0, q1, q2, q3, q4, q5, qf⟩ := RefM.cell HR.out
            clear qf
            go_quiet ((first | (go_at_call 19; exact Calls.quiet_of_same ((steps_any _ _ _ _ _ _ _ _ (HM.out.drewN _)).mono fun _ _ h => ⟨h.1, h.2.symm⟩)) | (go_at_call 20; exact Calls.quiet_of_same ((cells_any _ _ _ _ _ _ _ _ (HM.out.drewN _)).mono fun _ _ h => ⟨h.1, h.2.symm⟩))))
            go_wp2_with fail
            go_roundw
            case rel => exact ⟨k + 1, _, _, _, by omega, by go_num, HM.out.drewN _, HR.out, below_drewN HB.out _, hbd.1.1, hbd.1.2, hbd.2.1.1, hbd.2.1.2, hbd.2.2.1, hbd.2.2.2⟩
            case measure => simp [intOf]; omega
        · have hke : len ≤ k := by omega
          go_wp2_with (go_at_call 15; refine (knows_any _).mono ?_; rintro e w' ⟨rfl, hb'⟩)
          exact hR.out _ _ ⟨rfl, by repeat' (first | with_reducible exact Below.refl _ _ | with_reducible refine Below.setCell ?_ ?_ _ | with_reducible refine Below.alloc ?_ ?_ _ | with_reducible refine Below.drew ?_ | with_reducible refine below_drewN ?_ _ | with_reducible refine Below.trans ?_ (Below.mono hb' ?_) | with_reducible refine Below.trans ?_ (Below.mono hb ?_) | omega | (simp; done) | (simp; omega) | (have Z0 := hb'.size; (try simp at Z0); have Z1 := hb.size; (try simp at Z1); (try simp); omega))⟩
end Go.Proofs.Ytmclggonmekanaa
