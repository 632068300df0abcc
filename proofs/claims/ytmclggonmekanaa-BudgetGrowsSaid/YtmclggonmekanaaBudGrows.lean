/- BudgetGrows returns true: its walk. No conditions but that the arguments are read. -/
import Derived.Test.YtmclggonmekanaaBudDos
import Derived.Deep.RegionWith
import Derived.Deep.RegionHeld3
import Derived.Deep.DeepCutAuto
import Derived.LoopTactic
set_option linter.unusedVariables false
set_option linter.unusedSimpArgs false
namespace Go.Proofs.Ytmclggonmekanaa
open Go.RowKit
attribute [local go_sem ↓] run_max2 run_min2
theorem grows_E (j n st ce ca : Int) {S C K S' C' K' : Int} (h1 : S ≤ S') (h2 : C ≤ C') (h3 : K ≤ K') (h : opE j n S C K st ce ca = 0) : opE j n S' C' K' st ce ca = 0 := by
  unfold opE stepE holdE enterE at *
  (repeat' split at h) <;> (repeat' split) <;> omega
theorem grows_ca (j n S C K S' C' K' st ce ca : Int) (h : opE j n S C K st ce ca = opE j n S' C' K' st ce ca) : opCa j K ca = opCa j K' ca := by
  unfold opE enterE at h
  unfold opCa enterN
  by_cases h2 : j = 2
  · subst h2
    simp at h ⊢
    (repeat' split at h) <;> (repeat' split) <;> omega
  · simp [h2]
theorem op_bd (j n K : Int) {st ce ca : Int} (h0 : 0 ≤ st) (h1 : st ≤ 4611686018427387903) (h2 : 0 ≤ ce) (h3 : ce ≤ 4611686018427387903) (h4 : 0 ≤ ca) (h5 : ca ≤ 200) :
    (0 ≤ opSt j n st ∧ opSt j n st ≤ 4611686018427387903) ∧ (0 ≤ opCe j n ce ∧ opCe j n ce ≤ 4611686018427387903) ∧ (0 ≤ opCa j K ca ∧ opCa j K ca ≤ 200) := by
  have a := satS_bd st n h0
  have b := satS_bd ce n h2
  refine ⟨?_, ?_, ?_⟩
  · unfold opSt; split <;> omega
  · unfold opCe; split <;> omega
  · unfold opCa enterN; (repeat' split) <;> omega
theorem Met.other {w w' : World} {m q : Nat} {S C K st ce ca : Int} (h : Met w m S C K st ce ca) (hg : w.grownBy w' (some q)) (hne : m ≠ q) : Met w' m S C K st ce ca :=
  (hg.block m h.lt (by intro e; injection e with e; exact hne e)).trans h
def GrowsMid (S C K S' C' K' : Int) (w : World) (s7 s8 : Value) (wx : World) : Prop :=
  ∃ m q, s7 = .pointer (some ⟨m, 0, none⟩) ∧ s8 = .pointer (some ⟨q, 0, none⟩) ∧ Met wx m S C K 0 0 0 ∧ Met wx q S' C' K' 0 0 0 ∧ m ≠ q ∧ w.heap.size ≤ m ∧ w.heap.size ≤ q ∧ Below w.heap.size w wx
def GrowsIn (S C K S' C' K' : Int) (w : World) (st ce ca ca' E E' : Int) (m q : Nat) (s10 s11 : Value) (wx : World) : Prop :=
  s10 = .int .i64 E ∧ s11 = .int .i64 E' ∧ Met wx m S C K st ce ca ∧ Met wx q S' C' K' st ce ca' ∧ Below w.heap.size w wx
def GrowsRel (S C K S' C' K' : Int) (w : World) (len m q : Nat) (i : Value) (wr : World) : Prop :=
  ∃ (k : Nat) (st ce ca : Int), k ≤ len ∧ i = .int .i64 k ∧ Met wr m S C K st ce ca ∧ Met wr q S' C' K' st ce ca ∧ Below w.heap.size w wr ∧
    0 ≤ st ∧ st ≤ 4611686018427387903 ∧ 0 ≤ ce ∧ ce ≤ 4611686018427387903 ∧ 0 ≤ ca ∧ ca ≤ 200
set_option maxHeartbeats 2000000 in
theorem grows_any (S C K S' C' K' : Int) (ao : Option Addr) (len cap : Nat) (ds : List (Int × Int)) (w : World) (hd : DosIn w w.heap.size ao len ds) :
    Calls Try.prog 4 #[.agg #[.int .i64 S, .int .i64 C, .int .i64 K], .agg #[.int .i64 S', .int .i64 C', .int .i64 K'], .slice ao len cap] w fun e w' => e = .returned (.bool true) ∧ Below w.heap.size w w' := by
  refine calls_post fun R' hR => ?_
  have hlen := hd.2.1
  by_cases h : 100 < len
  · go_enter Try.func4, Try.ntmps4
    go_wp2_with (go_at_call 15; refine (knows_any _).mono ?_; rintro e w' ⟨rfl, hb⟩)
    exact hR.out _ _ ⟨rfl, by repeat' (first | with_reducible exact Below.refl _ _ | with_reducible refine Below.setCell ?_ ?_ _ | with_reducible refine Below.alloc ?_ ?_ _ | with_reducible refine Below.drew ?_ | with_reducible refine below_drewN ?_ _ | with_reducible refine Below.trans ?_ (Below.mono hb ?_) | omega | (simp; done) | (simp; omega) | (have Z0 := hb.size; (try simp at Z0); (try simp); omega))⟩
  by_cases h1 : S' < S
  · go_enter Try.func4, Try.ntmps4
    go_wp2_with (go_at_call 15; refine (knows_any _).mono ?_; rintro e w' ⟨rfl, hb⟩)
    exact hR.out _ _ ⟨rfl, by repeat' (first | with_reducible exact Below.refl _ _ | with_reducible refine Below.setCell ?_ ?_ _ | with_reducible refine Below.alloc ?_ ?_ _ | with_reducible refine Below.drew ?_ | with_reducible refine below_drewN ?_ _ | with_reducible refine Below.trans ?_ (Below.mono hb ?_) | omega | (simp; done) | (simp; omega) | (have Z0 := hb.size; (try simp at Z0); (try simp); omega))⟩
  by_cases h2 : C' < C
  · go_enter Try.func4, Try.ntmps4
    go_wp2_with (go_at_call 15; refine (knows_any _).mono ?_; rintro e w' ⟨rfl, hb⟩)
    exact hR.out _ _ ⟨rfl, by repeat' (first | with_reducible exact Below.refl _ _ | with_reducible refine Below.setCell ?_ ?_ _ | with_reducible refine Below.alloc ?_ ?_ _ | with_reducible refine Below.drew ?_ | with_reducible refine below_drewN ?_ _ | with_reducible refine Below.trans ?_ (Below.mono hb ?_) | omega | (simp; done) | (simp; omega) | (have Z0 := hb.size; (try simp at Z0); (try simp); omega))⟩
  by_cases h3 : K' < K
  · go_enter Try.func4, Try.ntmps4
    go_wp2_with (go_at_call 15; refine (knows_any _).mono ?_; rintro e w' ⟨rfl, hb⟩)
    exact hR.out _ _ ⟨rfl, by repeat' (first | with_reducible exact Below.refl _ _ | with_reducible refine Below.setCell ?_ ?_ _ | with_reducible refine Below.alloc ?_ ?_ _ | with_reducible refine Below.drew ?_ | with_reducible refine below_drewN ?_ _ | with_reducible refine Below.trans ?_ (Below.mono hb ?_) | omega | (simp; done) | (simp; omega) | (have Z0 := hb.size; (try simp at Z0); (try simp); omega))⟩
  go_enter Try.func4, Try.ntmps4
  go_upto_region 3 with (fail)
  go_cut [7, 8] (fun s7 s8 wx => GrowsMid S C K S' C' K' w s7 s8 wx)
  case first =>
    go_region_held3 (fun w' => w'.cell? ⟨w.heap.size, 0, none⟩ = some (.int .i64 S) ∧ w'.cell? ⟨w.heap.size, 1, none⟩ = some (.int .i64 C) ∧ w'.cell? ⟨w.heap.size, 2, none⟩ = some (.int .i64 K) ∧ w'.cell? ⟨w.heap.size + 1, 0, none⟩ = some (.int .i64 S') ∧ w'.cell? ⟨w.heap.size + 1, 1, none⟩ = some (.int .i64 C') ∧ w'.cell? ⟨w.heap.size + 1, 2, none⟩ = some (.int .i64 K')) (simp [go_sem, World.cell?_alloc_past, *]) (first | (go_at_call_of 16 (Value.int IntKind.i64 S); refine (new_any _ _ _ _).mono ?_; rintro e w1 ⟨m, rfl, hm1, hs1, hb1⟩; (try replace hb1 := undrew hb1); obtain ⟨hc, hf⟩ := bcell hb1; have hlt : w.heap.size + 1 < w1.heap.size := (by have := hb1.size; (try simp at this); omega); have hlt' : w.heap.size < w1.heap.size := (by omega)) | (go_at_call_of 16 (Value.int IntKind.i64 S'); refine (new_any _ _ _ _).mono ?_; rintro e w2 ⟨q, rfl, hm2, hs2, hb2⟩; (try replace hb2 := undrew hb2); obtain ⟨hc2, hf2⟩ := bcell hb2; have hlt2 : w.heap.size + 1 < w2.heap.size := (by have := hb2.size; (try simp at this); omega)))
    all_goals go_wp2_with fail
    all_goals go_meet
    · have hml := hm1.lt
      (try simp at hs1); (try simp at hs2)
      exact ⟨m, q, rfl, rfl, hm1.below hb2 hml, hm2, by omega, by omega, by omega, by repeat' (first | with_reducible exact Below.refl _ _ | with_reducible refine Below.setCell ?_ ?_ _ | with_reducible refine Below.alloc ?_ ?_ _ | with_reducible refine Below.drew ?_ | with_reducible refine below_drewN ?_ _ | with_reducible refine Below.trans ?_ (Below.mono hb2 ?_) | with_reducible refine Below.trans ?_ (Below.mono hb1 ?_) | omega | (simp; done) | (simp; omega) | (have Z0 := hb2.size; (try simp at Z0); have Z1 := hb1.size; (try simp at Z1); (try simp); omega))⟩
  case rest =>
    obtain ⟨m, q, rfl, rfl, hm, hq, hne, hms, hqs, hb⟩ := hcut
    go_wp2_with fail
    go_loopw [9] (fun i wr => GrowsRel S C K S' C' K' w len m q i wr) (fun i _ => len - (intOf i).toNat)
    case atStart => exact ⟨0, 0, 0, 0, by omega, rfl, hm, hq, hb, by omega, by omega, by omega, by omega, by omega, by omega⟩
    case round =>
      obtain ⟨k, st, ce, ca, hk, rfl, hm, hq, hb, i0, i1, i2, i3, i4, i5⟩ := hrel
      by_cases hlt : k < len
      · obtain ⟨b, off, rfl, hbB, hcell⟩ := hd.2.2.2 (by omega)
        obtain ⟨ck, cn⟩ := hcell k hlt
        rw [← hb.cell (p := ⟨b, _, none⟩) hbB] at ck cn
        have hkd := hd.2.2.1 k
        clear hcell
        generalize (ds.getD k (0, 0)).1 = kd at ck hkd
        generalize (ds.getD k (0, 0)).2 = n at cn
        have hbd := op_bd (kd % 4) n K i0 i1 i2 i3 i4 i5
        have hgE := hid (grows_E (kd % 4) n st ce ca (S := S) (S' := S') (C := C) (C' := C') (K := K) (K' := K') (by omega) (by omega) (by omega))
        have hgC := hid (grows_ca (kd % 4) n S C K S' C' K' st ce ca)
        go_upto_region 7 with (fail)
        go_cut [10, 11] (fun s10 s11 wx => GrowsIn S C K S' C' K' w (opSt (kd % 4) n st) (opCe (kd % 4) n ce) (opCa (kd % 4) K ca) (opCa (kd % 4) K' ca) (opE (kd % 4) n S C K st ce ca) (opE (kd % 4) n S' C' K' st ce ca) m q s10 s11 wx)
        case first =>
          have HM := hid hm
          have HQ := hid hq
          have hbm : b ≠ m := by omega
          have hbq : b ≠ q := by omega
          clear hm hq
          go_region_held3 (fun w' => w'.cell? ⟨b, off + k * 2, none⟩ = some (.int .u8 kd) ∧ w'.cell? ⟨b, off + k * 2 + 1, none⟩ = some (.int .i64 n)) (first | (refine ⟨?_, ?_⟩ <;> assumption) | (simp [go_sem, World.cell?_alloc_past, *]; done)) (first | (go_at_call_of 17 (Value.pointer (some ⟨m, 0, none⟩)); refine (run_any m _ _ _ _ _ _ _ _ _ (by exact HM.out) i0 i1 i2 i3 i4 i5 hkd.1 hkd.2).mono ?_; rintro e w1 ⟨rfl, hm1, hg1⟩; have hq1 := Met.other (by exact HQ.out) hg1 (Ne.symm hne); have dk := hg1.cell (a := ⟨b, off + k * 2, none⟩) (v := .int .u8 kd) (by exact ck) (by simp; omega); have dn := hg1.cell (a := ⟨b, off + k * 2 + 1, none⟩) (v := .int .i64 n) (by exact cn) (by simp; omega)) | (go_at_call_of 17 (Value.pointer (some ⟨q, 0, none⟩)); refine (run_any q _ _ _ _ _ _ _ _ _ (by exact hq1) i0 i1 i2 i3 i4 i5 hkd.1 hkd.2).mono ?_; rintro e w2 ⟨rfl, hq2, hg2⟩; have hm2 := Met.other (by exact hm1) hg2 hne; have fk := hg2.cell (a := ⟨b, off + k * 2, none⟩) (v := .int .u8 kd) (by exact dk) (by simp; omega); have fn := hg2.cell (a := ⟨b, off + k * 2 + 1, none⟩) (v := .int .i64 n) (by exact dn) (by simp; omega)))
          all_goals go_wp2_with fail
          all_goals go_meet
          all_goals exact ⟨rfl, rfl, hm2, hq2, bgrown (bgrown hb ⟨hg1.os, hg1.tape, hg1.output, hg1.size, hg1.block⟩ hms) hg2 hqs⟩
        case rest =>
          obtain ⟨rfl, rfl, hm2, hq2, hb2⟩ := hcut
          clear hm hq hb ck cn
          generalize opE (kd % 4) n S C K st ce ca = E at hgE hgC ⊢
          generalize opE (kd % 4) n S' C' K' st ce ca = E' at hgE hgC ⊢
          by_cases e0 : E = 0
          · have e1 := hgE.out e0
            subst e0; subst e1
            go_wp2_with fail
            go_roundw
            case rel =>
              have hca := hgC.out rfl
              rw [← hca] at hq2
              exact ⟨k + 1, _, _, _, by omega, by go_num, hm2, hq2, hb2, hbd.1.1, hbd.1.2, hbd.2.1.1, hbd.2.1.2, hbd.2.2.1, hbd.2.2.2⟩
            case measure => simp [intOf]; omega
          · have e0' : (E == 0) = false := by simp [e0]
            by_cases e2 : E = E'
            · subst e2
              have e0'' := hid e0
              clear e0
              go_wp2_with fail
              go_roundw
              case rel =>
                have hca := hgC.out rfl
                rw [← hca] at hq2
                exact ⟨k + 1, _, _, _, by omega, by go_num, hm2, hq2, hb2, hbd.1.1, hbd.1.2, hbd.2.1.1, hbd.2.1.2, hbd.2.2.1, hbd.2.2.2⟩
              case measure => simp [intOf]; omega
            · have e3 : (E != E') = true := by simp [e2]
              have e0'' := hid e0
              have e2' := hid e2
              clear e0 e2
              go_wp2_with (go_at_call 15; refine (knows_any _).mono ?_; rintro e w' ⟨rfl, hb'⟩)
              exact hR.out _ _ ⟨rfl, by repeat' (first | with_reducible exact Below.refl _ _ | with_reducible refine Below.setCell ?_ ?_ _ | with_reducible refine Below.alloc ?_ ?_ _ | with_reducible refine Below.drew ?_ | with_reducible refine below_drewN ?_ _ | with_reducible refine Below.trans ?_ (Below.mono hb' ?_) | with_reducible refine Below.trans ?_ (Below.mono hb2 ?_) | omega | (simp; done) | (simp; omega) | (have Z0 := hb'.size; (try simp at Z0); have Z1 := hb2.size; (try simp at Z1); (try simp); omega))⟩
      · have hke : len ≤ k := by omega
        go_wp2_with (go_at_call 15; refine (knows_any _).mono ?_; rintro e w' ⟨rfl, hb'⟩)
        exact hR.out _ _ ⟨rfl, by repeat' (first | with_reducible exact Below.refl _ _ | with_reducible refine Below.setCell ?_ ?_ _ | with_reducible refine Below.alloc ?_ ?_ _ | with_reducible refine Below.drew ?_ | with_reducible refine below_drewN ?_ _ | with_reducible refine Below.trans ?_ (Below.mono hb' ?_) | with_reducible refine Below.trans ?_ (Below.mono hb ?_) | omega | (simp; done) | (simp; omega) | (have Z0 := hb'.size; (try simp at Z0); have Z1 := hb.size; (try simp at Z1); (try simp); omega))⟩
end Go.Proofs.Ytmclggonmekanaa
