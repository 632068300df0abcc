/- array.Right and what it visits: contracts. Conditions: the array is read. -/
import Derived.Test.YtkbbdlibamcilaaA03
import Derived.Laws.EntriesVeiled
set_option linter.unusedVariables false
set_option linter.unusedSimpArgs false
namespace Go.Proofs.Ytkbbdlibamcilaa
open Go.RowKit
attribute [local go_sem ↓] run_max2 run_min2
attribute [local go_sem] eql_ints_nil eql_arrs_nil
set_option maxHeartbeats 4000000 in
theorem array_visit (a : Arr) : ∀ (sa : Option Addr) (sc : Nat) (na : Option Addr) (nc : Nat) (ia : Option Addr) (ic : Nat) (S : Nat → Prop) (vb : Nat) (w : World), ArrAt w S a sa na ia → w.cell? ⟨vb, 0, none⟩ = some (.func (.func 74) #[] #[.pointer (some ⟨vb, 0, none⟩)]) →
    Calls Try.prog 74 #[.agg #[.int .i64 a.kind, .slice sa a.shape.length sc, .slice na a.nums.length nc, .slice ia a.items.length ic], .pointer (some ⟨vb, 0, none⟩)] w fun e w' => e = .returned (.tuple #[.int .i64 (chk a).1, .int .i64 (chk a).2.1, .int .i64 (chk a).2.2]) ∧ Below w.heap.size w w' := by
  induction a using Arr.ind with
  | h a IH =>
    intro sa sc na nc ia ic S vb w h hv
    have IH := hid IH
    refine calls_post fun R' hR => ?_
    have hC := hid (chk_eq a)
    have hvb := World.block_lt_of_cell? w _ hv
    simp only at hvb
    have h0 := hid (h.alloc (.cells #[.int .i64 a.kind, .slice sa a.shape.length sc, .slice na a.nums.length nc, .slice ia a.items.length ic] 26))
    have hnl := h.nums.1
    have hil := h.len
    clear h
    by_cases hE : formE a.kind a.shape a.nums.length a.items.length = 0
    · obtain ⟨hk, hsb, hlen⟩ := formE_zero hE
      have hcle := cnt_le hsb
      have fE : (formE a.kind a.shape a.nums.length a.items.length != 0) = false := by simp [hE]
      rw [if_neg (by simp [hE])] at hC
      have hsum : a.nums.length + a.items.length ≤ 65536 := by omega
      have hl3 := hid hlen
      have HE := hid hE
      have HK := hid hk
      clear hE hk hlen hcle hsb
      go_enter Try.func74, Try.ntmps74
      go_wp2_with (go_at_call 75; refine (array_form a _ _ _ _ _ _ _ _ h0.out).mono ?_; rintro e w1 ⟨rfl, hb1⟩; have c0 : w1.cell? ⟨w.heap.size, 0, none⟩ = some (.int .i64 a.kind) := box_cell hb1 0; have c2 : w1.cell? ⟨w.heap.size, 2, none⟩ = some (.slice na a.nums.length nc) := box_cell hb1 2; have c3 : w1.cell? ⟨w.heap.size, 3, none⟩ = some (.slice ia a.items.length ic) := box_cell hb1 3)
      have h1 := h0.out.later hb1
      have hv1 : w1.cell? ⟨vb, 0, none⟩ = some (.func (.func 74) #[] #[.pointer (some ⟨vb, 0, none⟩)]) := by
        rw [hb1.cell (p := ⟨vb, 0, none⟩) (by simp; omega), World.cell?_alloc_lt _ _ _ hvb]; exact hv
      have hB := hid (below_alloc hb1)
      have HN := hid h1.nums
      have HI := hid h1.items
      have hwl : w.heap.size < w1.heap.size := by have := hb1.size; simp at this; omega
      clear h1 hb1 h0 hv
      go_loop [24] (fun i => ∃ k : Nat, k ≤ a.nums.length ∧ i = .int .i64 k ∧ Hid ((a.nums.take k).any (fun x => !elemB a.kind x) = false)) (fun i => a.nums.length - (intOf i).toNat)
      case atStart => exact ⟨0, Nat.zero_le _, rfl, by simp [Hid]⟩
      case round =>
        obtain ⟨k, hk, rfl, hany⟩ := hrel
        by_cases hlt : k < a.nums.length
        · obtain ⟨b, off, rfl, hbl, hS, hc⟩ := HN.out.at hlt
          have hst := hid (any_take_succ (p := fun x => !elemB a.kind x) hlt hany.out)
          have hbad := hid (any_of_at (p := fun x => !elemB a.kind x) hlt)
          generalize a.nums.getD k 0 = d at hc hst hbad
          rcases HK.out with h3 | h3 | h3
          · have e1 : (a.kind == 1) = true := by simp [h3]
            have e2 : (a.kind == 2) = false := by simp [h3]
            cases hd : numB d with
            | true =>
              have Hd : Hid (elemB a.kind d = true) := by rw [h3]; exact elemB1.trans hd
              replace hd := hid hd
              clear h3
              go_wp2_with (go_at_call 76; refine (array_number _ _).mono ?_; rintro e w' ⟨rfl, rfl⟩; rw [hd.out])
              go_round
              case rel => exact ⟨k + 1, by omega, by go_num, hst.out (by simp [Hd.out])⟩
              case measure => simp [intOf]; omega
            | false =>
              have Hd : Hid (elemB a.kind d = false) := by rw [h3]; exact elemB1.trans hd
              replace hd := hid hd
              clear h3
              rw [if_pos (hbad.out (by simp [Hd.out]))] at hC
              go_wp2_with (go_at_call 76; refine (array_number _ _).mono ?_; rintro e w' ⟨rfl, rfl⟩; rw [hd.out])
              go_ret3
              exact hR.out _ _ ⟨by rw [hC.out] <;> rfl, hB.out⟩
          · have e1 : (a.kind == 1) = false := by simp [h3]
            have e2 : (a.kind == 2) = true := by simp [h3]
            cases hd : chrB d with
            | true =>
              have Hd : Hid (elemB a.kind d = true) := by rw [h3]; exact elemB2.trans hd
              replace hd := hid hd
              clear h3
              go_wp2_with (go_at_call 77; refine (array_character _ _).mono ?_; rintro e w' ⟨rfl, rfl⟩; rw [hd.out])
              go_round
              case rel => exact ⟨k + 1, by omega, by go_num, hst.out (by simp [Hd.out])⟩
              case measure => simp [intOf]; omega
            | false =>
              have Hd : Hid (elemB a.kind d = false) := by rw [h3]; exact elemB2.trans hd
              replace hd := hid hd
              clear h3
              rw [if_pos (hbad.out (by simp [Hd.out]))] at hC
              go_wp2_with (go_at_call 77; refine (array_character _ _).mono ?_; rintro e w' ⟨rfl, rfl⟩; rw [hd.out])
              go_ret3
              exact hR.out _ _ ⟨by rw [hC.out] <;> rfl, hB.out⟩
          · have := hl3.out
            omega
        · have hke : k = a.nums.length := by omega
          have hany' := hany.out
          rw [hke, List.take_length] at hany'
          rw [if_neg (by simp [hany'])] at hC
          clear hany hany' hke
          go_wp2_with fail
          go_quiet (fail)
          go_wp2_with fail
          go_loopw [57, 9, 10] (fun i d m wr => VisRel w1 a.items 0 ((a.nums.length : Int) + a.items.length) i d m wr) (fun i _ _ _ => a.items.length - (intOf i).toNat)
          case atStart => exact ⟨0, 0, _, Nat.zero_le _, rfl, rfl, rfl, rfl, by omega, by omega, by omega, by omega, below_drewN (Below.refl _ _) _⟩
          case round =>
            obtain ⟨j, d, m, hj, rfl, rfl, rfl, hch, d0, d1, m0, m1, hb⟩ := hrel
            have hch := hid hch
            by_cases hlt : j < a.items.length
            · obtain ⟨b, off, sa', sc', na', nc', ja', jc', rfl, hS, hbl, e0, e1, e2, e3, hx⟩ := (HI.out.later hb).at hlt
              have hmem := hid (List.getElem_mem hlt)
              have hst := hid (chkL_step (x := a.items[j]) (l := a.items.drop (j + 1)) (d := d) (w := m))
              have hsp := hid (chkL_stop (x := a.items[j]) (l := a.items.drop (j + 1)) (d := d) (w := m))
              rw [drop_at hlt] at hch
              generalize a.items[j] = x at e0 e1 e2 e3 hx hmem hst hsp hch
              have hX := hid (hx.alloc (.cells #[.int .i64 x.kind, .slice sa' x.shape.length sc', .slice na' x.nums.length nc', .slice ja' x.items.length jc'] 26))
              have hvr : wr.cell? ⟨vb, 0, none⟩ = some (.func (.func 74) #[] #[.pointer (some ⟨vb, 0, none⟩)]) := (hb.cell (p := ⟨vb, 0, none⟩) (by simp; omega)).trans hv1
              have hvrl : vb < wr.heap.size := by have := hb.size; omega
              have hbd := chk_bd x
              obtain ⟨⟨g0, g1⟩, g2, g3⟩ := hbd
              clear hx
              by_cases hx0 : (chk x).1 = 0
              · have f1 : ((chk x).1 != 0) = false := by simp [hx0]
                have hst' := hst.out hx0
                have hst'' := hid hst'
                clear hx0 hst'
                go_wp2_with fail
                refine (IH.out x hmem.out sa' sc' na' nc' ja' jc' S vb _ hX.out (by simp [World.cell?_alloc_lt, hvrl, hvr])).mono ?_
                rintro e w2 ⟨rfl, hb2⟩
                go_wp2_with fail
                go_roundw
                case rel =>
                  have hb3 := hb.trans ((below_alloc hb2).mono hb.size)
                  exact ⟨j + 1, _, _, by omega, by go_num, rfl, rfl, hch.out.trans hst''.out, by omega, by omega, by omega, by omega, hb3⟩
                case measure => simp [intOf]; omega
              · have f1 : ((chk x).1 != 0) = true := by simpa using hx0
                have hsp' := hid (hsp.out hx0)
                replace hx0 := hid hx0
                go_wp2_with fail
                refine (IH.out x hmem.out sa' sc' na' nc' ja' jc' S vb _ hX.out (by simp [World.cell?_alloc_lt, hvrl, hvr])).mono ?_
                rintro e w2 ⟨rfl, hb2⟩
                go_wp2_with fail
                go_ret3
                have hb3 := hb.trans ((below_alloc hb2).mono hb.size)
                refine hR.out _ _ ⟨?_, hB.out.trans (hb3.mono (by omega))⟩
                rw [hC.out, hch.out, hsp'.out] <;> rfl
            · have hje : a.items.drop j = [] := List.drop_eq_nil_of_le (by omega)
              rw [hje] at hch
              rw [hch.out] at hC
              simp only [chkL, chkEnd] at hC
              clear hje hch
              have hb3 := hB.out.trans (hb.mono (by omega))
              have HB3 := hid hb3
              clear hb3
              by_cases c1 : 16 < d
              · rw [if_pos (Or.inl c1)] at hC
                go_wp2_with fail
                go_ret3
                exact hR.out _ _ ⟨by rw [hC.out] <;> rfl, HB3.out⟩
              · by_cases c2 : 262144 < m
                · rw [if_pos (Or.inr c2)] at hC
                  go_wp2_with fail
                  go_ret3
                  exact hR.out _ _ ⟨by rw [hC.out] <;> rfl, HB3.out⟩
                · rw [if_neg (by omega)] at hC
                  go_wp2_with fail
                  go_ret3
                  exact hR.out _ _ ⟨by rw [hC.out] <;> rfl, HB3.out⟩
    · have fE : (formE a.kind a.shape a.nums.length a.items.length != 0) = true := by simp [hE]
      rw [if_pos hE] at hC
      replace hE := hid hE
      go_enter Try.func74, Try.ntmps74
      go_wp2_with (go_at_call 75; refine (array_form a _ _ _ _ _ _ _ _ h0.out).mono ?_; rintro e w1 ⟨rfl, hb1⟩)
      go_ret3
      exact hR.out _ _ ⟨by rw [hC.out] <;> rfl, below_alloc hb1⟩
set_option maxHeartbeats 1000000 in
theorem array_Right (a : Arr) (sa : Option Addr) (sc : Nat) (na : Option Addr) (nc : Nat) (ia : Option Addr) (ic : Nat) (S : Nat → Prop) (w : World) (h : ArrAt w S a sa na ia) :
    Calls Try.prog 66 #[.agg #[.int .i64 a.kind, .slice sa a.shape.length sc, .slice na a.nums.length nc, .slice ia a.items.length ic]] w fun e w' => e = .returned (.int .i64 (rightS a)) ∧ Below w.heap.size w w' := by
  refine calls_post fun R' hR => ?_
  have h0 := hid ((h.alloc (.cells #[.int .i64 a.kind, .slice sa a.shape.length sc, .slice na a.nums.length nc, .slice ia a.items.length ic] 26)).alloc (.cells #[.func (.func 74) #[] #[.pointer (some ⟨w.heap.size + 1, 0, none⟩)]] 52))
  clear h
  go_enter Try.func66, Try.ntmps66
  go_wp2_with fail
  refine (array_visit a sa sc na nc ia ic S (w.heap.size + 1) _ (by exact h0.out) (by simp)).mono ?_
  rintro e w1 ⟨rfl, hb⟩
  go_wp2_with fail
  exact hR.out _ _ ⟨rfl, below_alloc (below_alloc hb)⟩
end Go.Proofs.Ytkbbdlibamcilaa
