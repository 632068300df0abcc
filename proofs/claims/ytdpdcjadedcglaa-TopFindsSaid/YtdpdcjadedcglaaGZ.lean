/- A group of texts (GZ), each with its own conditions: those of each lemma. -/
import Derived.Test.YtdpdcjadedcglaaGY
set_option linter.unusedVariables false
set_option maxRecDepth 20000
set_option linter.unusedSimpArgs false
namespace Go.Proofs.Ytdpdcjadedcglaa
open Go.RowKit Go.Sort
attribute [local go_sem ↓] run_max2 run_min2
attribute [local go_sem] eql_ints_nil eql_arrs_nil
set_option maxRecDepth 1000000 in
set_option maxHeartbeats 8000000 in
theorem slices_sym3 {c : Int → Int → Int} {P : Int → Prop} (hO : Ordr c P) (lv : Value) (ao : Option Addr) (cap : Nat) (w0 : World) (S : Nat → Prop) (M : List Fact) (hK : CmpK c P lv ao cap w0 S M) (N : Nat) (ih : SymC N c P lv ao cap w0 S M)
    (l : List Int) (x m y : Nat) (w : World) (hE : Env w0 S w (.rowI ao cap l :: M)) (hP : AllP P l) (h1 : x < m) (h2 : m < y) (h3 : y ≤ l.length) (h4 : l.length ≤ 1000000) (S1 : SrtS c l x m) (S2 : SrtS c l m y) (hm : x + 1 < m ∧ m + 1 < y ∧ y - x ≤ N) :
    Calls Try.prog 110 #[.slice ao l.length cap, .int .i64 (x : Int), .int .i64 (m : Int), .int .i64 (y : Int), .func (.func 94) #[lv] #[]] w fun e w' => e = .returned (.tuple #[]) ∧ ∃ l', SegP x y l l' ∧ SrtS c l' x y ∧ Env w0 S w' (.rowI ao cap l' :: M) := by
  refine calls_post fun R' hR => ?_
  have E := hid hE
  clear hE
  replace hK := hid hK
  replace hO := hid hO
  obtain ⟨g, hao, _, _, _⟩ := (E.out.rowI 0 rfl).cellAt (k := x) (by omega)
  subst hao
  obtain ⟨len, hlen⟩ : ∃ len, len = l.length := ⟨_, rfl⟩
  rw [← hlen] at h3 h4 ⊢
  obtain ⟨d0, hd0⟩ : ∃ d, d = m - x := ⟨_, rfl⟩
  have w1 : IntKind.i64.wrap ((m : Int) - (x : Int)) = (d0 : Int) := by rw [IntWalk.i64_in _ (by omega)]; omega
  have w1b : ((d0 : Int) == 1) = false := by simp; omega
  obtain ⟨d1, hd1⟩ : ∃ d, d = y - m := ⟨_, rfl⟩
  have w2 : IntKind.i64.wrap ((y : Int) - (m : Int)) = (d1 : Int) := by rw [IntWalk.i64_in _ (by omega)]; omega
  have w2b : ((d1 : Int) == 1) = false := by simp; omega
  obtain ⟨d, hd⟩ : ∃ d, d = (x + y) / 2 := ⟨_, rfl⟩
  have w3 : ((x : Int) + (y : Int)) / 2 = (d : Int) := by omega
  obtain ⟨n, hn⟩ : ∃ n, n = d + m := ⟨_, rfl⟩
  have w4 : IntKind.i64.wrap ((d : Int) + (m : Int)) = (n : Int) := by rw [IntWalk.i64_in _ (by omega)]; omega
  obtain ⟨s0, hs0⟩ : ∃ s, s = if d < m then n - y else x := ⟨_, rfl⟩
  obtain ⟨r0, hr0⟩ : ∃ s, s = if d < m then d else m := ⟨_, rfl⟩
  have hs1 : (d < m → s0 = n - y ∧ r0 = d) ∧ (¬ d < m → s0 = x ∧ r0 = m) := ⟨fun q => ⟨hs0.trans (if_pos q), hr0.trans (if_pos q)⟩, fun q => ⟨hs0.trans (if_neg q), hr0.trans (if_neg q)⟩⟩
  have hB0 : SymB c l x m y (n - 1) s0 r0 s0 r0 := by
    refine ⟨?_, fun t _ _ => by omega, fun t _ _ => by omega⟩
    by_cases q : d < m
    · obtain ⟨e1, e2⟩ := hs1.1 q; omega
    · obtain ⟨e1, e2⟩ := hs1.2 q; omega
  replace hB0 := hid hB0
  replace hs0 := hid hs0
  replace hr0 := hid hr0
  replace hs1 := hid hs1
  replace hd0 := hid hd0
  replace hd1 := hid hd1
  have hdn : Hid (d = (x + y) / 2 ∧ n = d + m) := hid ⟨hd, hn⟩
  clear hd hn
  replace hlen := hid hlen
  replace hP := hid hP
  replace S1 := hid S1
  replace S2 := hid S2
  replace ih := hid ih
  go_enter Try.func110, Try.ntmps110
  go_upto_if 140 with fail
  clear w1 w2 w1b w2b w3 w4
  go_cut [20, 21] (fun p q wc => p = .int .i64 s0 ∧ q = .int .i64 r0 ∧ Env w0 S wc (.rowI (some ⟨g, 0, none⟩) cap l :: M))
  case first =>
    as_aux_lemma =>
    by_cases q : d < m
    case pos =>
      have w5 : IntKind.i64.wrap ((n : Int) - (y : Int)) = (s0 : Int) := by have := hs1.out.1 q; have := hdn.out; rw [IntWalk.i64_in _ (by omega)]; omega
      have e2 : r0 = d := (hs1.out.1 q).2
      replace e2 := hid e2
      go_wp2_with fail
      go_meet
      case rel => exact ⟨rfl, by rw [e2.out], E.out⟩
    case neg =>
      have e1 : Hid (s0 = x ∧ r0 = m) := hid (hs1.out.2 q)
      go_wp2_with fail
      go_meet
      case rel => exact ⟨by rw [e1.out.1], by rw [e1.out.2], E.out⟩
  case rest =>
  clear E
  obtain ⟨rfl, rfl, E⟩ := hcut
  replace E := hid E
  obtain ⟨pp, hpp⟩ : ∃ p, p = n - 1 := ⟨_, rfl⟩
  have w6 : IntKind.i64.wrap ((n : Int) - 1) = (pp : Int) := by have := hdn.out; rw [IntWalk.i64_in _ (by omega)]; omega
  rw [← hpp] at hB0
  replace hpp := hid hpp
  go_wp2_with fail
  clear w6
  go_loopw [20, 21] (fun p q wr => ∃ s r : Nat, p = .int .i64 s ∧ q = .int .i64 r ∧ SymB c l x m y pp s0 r0 s r ∧ Env w0 S wr (.rowI (some ⟨g, 0, none⟩) cap l :: M)) (fun p q _ => (intOf q).toNat - (intOf p).toNat)
  case atStart => exact ⟨s0, r0, rfl, rfl, hB0.out, E.out⟩
  case round =>
    clear E hB0
    obtain ⟨s, r, rfl, rfl, hB, E⟩ := hrel
    replace E := hid E
    obtain ⟨q1, q2, q3, q4, q5, q6, q7⟩ := hB.rng
    by_cases hlt : s < r
    case pos =>
      obtain ⟨h, hh⟩ : ∃ h, h = (s + r) / 2 := ⟨_, rfl⟩
      have wh : ((s : Int) + (r : Int)) / 2 = (h : Int) := by omega
      have hhb : s ≤ h ∧ h < r := by omega
      obtain ⟨k, hk⟩ : ∃ k, k = pp - h := ⟨_, rfl⟩
      have wk : IntKind.i64.wrap ((pp : Int) - (h : Int)) = (k : Int) := by rw [IntWalk.i64_in _ (by omega)]; omega
      obtain ⟨vk, hvk⟩ : ∃ v, v = l.getD k 0 := ⟨_, rfl⟩
      obtain ⟨vh, hvh⟩ : ∃ v, v = l.getD h 0 := ⟨_, rfl⟩
      have pk : Hid (P vk) := hid (by rw [hvk]; exact hP.out k (by have := hlen.out; omega))
      have ph : Hid (P vh) := hid (by rw [hvh]; exact hP.out h (by have := hlen.out; omega))
      obtain ⟨cv, hcv⟩ : ∃ v, v = c vk vh := ⟨_, rfl⟩
      obtain ⟨c1, f1⟩ := (E.out.rowI 0 rfl).cellG (k := h) (by have := hlen.out; omega)
      obtain ⟨c2, f2⟩ := (E.out.rowI 0 rfl).cellG (k := k) (by have := hlen.out; omega)
      rw [← hvh] at c1
      rw [← hvk] at c2
      have g2 : (h : Int) < (len : Int) := by omega
      have g3 : (k : Int) < (len : Int) := by omega
      replace hh := hid hh
      by_cases hneg : cv < 0
      case pos =>
        have hnew := hid (SymB.down hO.out hP.out (by have := hlen.out; omega) S1.out S2.out hB (t0 := h) (by omega) (by omega) (by rw [← hk, ← hvk, ← hvh, ← hcv]; exact hneg))
        replace hB := hid hB
        replace hk := hid hk
        replace hvk := hid hvk
        replace hvh := hid hvh
        replace hcv := hid hcv
        as_aux_lemma =>
        go_upto_region 35 with fail
        obtain ⟨T, hT1, hT2, hT3⟩ := E.out.tw
        refine wp_region_mono (Sees wr [(⟨g, h, none⟩, .int .i64 vh), (⟨g, k, none⟩, .int .i64 vk)]) [11] (fun k v u u' => match k with | 11 => v = .int .i64 cv | _ => False) (fun _ _ h e => h.up e) (Sees.start (all_cons (c1) (all_cons (c2) (all_nil)))) (by kernel_rfl) (by kernel_rfl) ?_
        repeat (first | (refine m_plain (v := ?_) (by rfl) (by rfl) ?_ ?_; rotate_left; (intro wz hSw; obtain ⟨-, hSc⟩ := hSw; (try simp only [List.forall_mem_cons, List.forall_mem_nil, and_true] at hSc); go_simp; (first | done | with_reducible rfl)); (intro K hK; (try simp only [Act.put, List.setIfInBounds_toArray, List.set_cons_zero, List.set_cons_succ]); refine hK _ _ ?_; clear hK K)) | (refine m_skip (by rfl) (by rfl) ?_; (intro K hK; (try simp only [Act.put, List.setIfInBounds_toArray, List.set_cons_zero, List.set_cons_succ]); refine hK _ _ ?_; clear hK K)))
        refine m_make (by rfl) (by rfl) ?_ ?_
        · intro wz hSw hdep R hRz
          obtain ⟨hSe, hSc⟩ := hSw
          (try simp only [List.forall_mem_cons, List.forall_mem_nil, and_true] at hSc)
          unfold does
          (go_simp; refine Calls.mono (hK.out l wz (E.out.up hSe) vk vh pk.out ph.out) ?_; rintro e wq ⟨rfl, hqb⟩; rw [← hcv.out]; exact ⟨_, rfl, hRz.out _ _ ⟨hqb, rfl⟩⟩)
        intro v11 u11 x11 hG11 K hK
        have hF11 := hG11.fact
        (try dsimp only at hF11)
        subst hF11
        (try simp only [Act.put, List.setIfInBounds_toArray, List.set_cons_zero, List.set_cons_succ]); refine hK _ _ ?_; clear hK K
        repeat (first | (refine m_plain (v := ?_) (by rfl) (by rfl) ?_ ?_; rotate_left; (intro wz hSw; obtain ⟨-, hSc⟩ := hSw; (try simp only [List.forall_mem_cons, List.forall_mem_nil, and_true] at hSc); go_simp; (first | done | with_reducible rfl)); (intro K hK; (try simp only [Act.put, List.setIfInBounds_toArray, List.set_cons_zero, List.set_cons_succ]); refine hK _ _ ?_; clear hK K)) | (refine m_skip (by rfl) (by rfl) ?_; (intro K hK; (try simp only [Act.put, List.setIfInBounds_toArray, List.set_cons_zero, List.set_cons_succ]); refine hK _ _ ?_; clear hK K)))
        refine m_nil ?_
        intro wf hSf hAf
        replace E := hid (E.out.up hSf.1)
        clear hSf hAf c1 c2 f1 f2
        go_wp2_with fail
        go_roundw
        case rel => exact ⟨s, h, rfl, rfl, hnew.out, E.out⟩
        case measure => simp [intOf]; omega
      case neg =>
        have hnew := hid (SymB.up hO.out hP.out (by have := hlen.out; omega) S1.out S2.out hB (t0 := h) (by omega) (by omega) (by rw [← hk, ← hvk, ← hvh, ← hcv]; exact hneg))
        replace hB := hid hB
        replace hk := hid hk
        replace hvk := hid hvk
        replace hvh := hid hvh
        replace hcv := hid hcv
        as_aux_lemma =>
        go_upto_region 35 with fail
        obtain ⟨T, hT1, hT2, hT3⟩ := E.out.tw
        refine wp_region_mono (Sees wr [(⟨g, h, none⟩, .int .i64 vh), (⟨g, k, none⟩, .int .i64 vk)]) [11] (fun k v u u' => match k with | 11 => v = .int .i64 cv | _ => False) (fun _ _ h e => h.up e) (Sees.start (all_cons (c1) (all_cons (c2) (all_nil)))) (by kernel_rfl) (by kernel_rfl) ?_
        repeat (first | (refine m_plain (v := ?_) (by rfl) (by rfl) ?_ ?_; rotate_left; (intro wz hSw; obtain ⟨-, hSc⟩ := hSw; (try simp only [List.forall_mem_cons, List.forall_mem_nil, and_true] at hSc); go_simp; (first | done | with_reducible rfl)); (intro K hK; (try simp only [Act.put, List.setIfInBounds_toArray, List.set_cons_zero, List.set_cons_succ]); refine hK _ _ ?_; clear hK K)) | (refine m_skip (by rfl) (by rfl) ?_; (intro K hK; (try simp only [Act.put, List.setIfInBounds_toArray, List.set_cons_zero, List.set_cons_succ]); refine hK _ _ ?_; clear hK K)))
        refine m_make (by rfl) (by rfl) ?_ ?_
        · intro wz hSw hdep R hRz
          obtain ⟨hSe, hSc⟩ := hSw
          (try simp only [List.forall_mem_cons, List.forall_mem_nil, and_true] at hSc)
          unfold does
          (go_simp; refine Calls.mono (hK.out l wz (E.out.up hSe) vk vh pk.out ph.out) ?_; rintro e wq ⟨rfl, hqb⟩; rw [← hcv.out]; exact ⟨_, rfl, hRz.out _ _ ⟨hqb, rfl⟩⟩)
        intro v11 u11 x11 hG11 K hK
        have hF11 := hG11.fact
        (try dsimp only at hF11)
        subst hF11
        (try simp only [Act.put, List.setIfInBounds_toArray, List.set_cons_zero, List.set_cons_succ]); refine hK _ _ ?_; clear hK K
        repeat (first | (refine m_plain (v := ?_) (by rfl) (by rfl) ?_ ?_; rotate_left; (intro wz hSw; obtain ⟨-, hSc⟩ := hSw; (try simp only [List.forall_mem_cons, List.forall_mem_nil, and_true] at hSc); go_simp; (first | done | with_reducible rfl)); (intro K hK; (try simp only [Act.put, List.setIfInBounds_toArray, List.set_cons_zero, List.set_cons_succ]); refine hK _ _ ?_; clear hK K)) | (refine m_skip (by rfl) (by rfl) ?_; (intro K hK; (try simp only [Act.put, List.setIfInBounds_toArray, List.set_cons_zero, List.set_cons_succ]); refine hK _ _ ?_; clear hK K)))
        refine m_nil ?_
        intro wf hSf hAf
        replace E := hid (E.out.up hSf.1)
        clear hSf hAf c1 c2 f1 f2
        go_wp2_with fail
        go_roundw
        case rel => exact ⟨h + 1, r, by go_num, rfl, hnew.out, E.out⟩
        case measure => simp [intOf]; omega
    case neg =>
      have hsr : s = r := by omega
      subst hsr
      rw [hpp.out] at hB q6 q7
      obtain ⟨hdd, hnn⟩ := hdn.out
      obtain ⟨e, he⟩ : ∃ e, e = n - s := ⟨_, rfl⟩
      have we : IntKind.i64.wrap ((n : Int) - (s : Int)) = (e : Int) := by rw [IntWalk.i64_in _ (by omega)]; omega
      have hrg : Hid ((x ≤ s ∧ s ≤ m ∧ s ≤ d ∧ m ≤ e ∧ d ≤ e ∧ e ≤ y ∧ x < d ∧ d < y)) := hid (by omega)
      have hhalf := hid (fun (l1 : List Int) (hR : RotP l l1 s m e) => half_of hO.out hP.out (by have := hlen.out; omega) S1.out S2.out h1 h2 hdd hnn hB hs1.out he hR)
      have hN := hm.2.2
      have hrec : Hid (d - x < N ∧ y - d < N) := hid (by omega)
      clear hB q1 q2 q3 q4 q5 q6 q7
      replace he := hid he
      replace hdd := hid hdd
      replace hnn := hid hnn
      go_upto_region 39 with fail
      clear we
      go_cut [185] (fun v wc => ∃ bb : Bool, v = .bool bb ∧ (bb = true ↔ s < m ∧ m < e) ∧ Env w0 S wc (.rowI (some ⟨g, 0, none⟩) cap l :: M))
      case first =>
        as_aux_lemma =>
        by_cases t1 : s < m
        case neg =>
          go_wp2_with fail
          go_meet
          case rel => exact ⟨false, rfl, ⟨fun q => (by cases q), fun q => absurd q.1 t1⟩, E.out⟩
        case pos =>
          by_cases t2 : m < e
          case neg =>
            go_wp2_with fail
            go_meet
            case rel => exact ⟨false, rfl, ⟨fun q => (by cases q), fun q => absurd q.2 t2⟩, E.out⟩
          case pos =>
            have t1' := hid t1
            have t2' := hid t2
            go_wp2_with fail
            go_meet
            case rel => exact ⟨true, rfl, ⟨fun _ => ⟨t1'.out, t2'.out⟩, fun _ => rfl⟩, E.out⟩
      case rest =>
      clear E
      obtain ⟨bb, rfl, hbb, E⟩ := hcut
      replace E := hid E
      replace hbb := hid hbb
      go_upto_if 185 with fail
      go_cut [] (fun wc => ∃ l1, RotP l l1 s m e ∧ Env w0 S wc (.rowI (some ⟨g, 0, none⟩) cap l1 :: M))
      case first =>
        as_aux_lemma =>
        cases bb with
        | false =>
          have hid1 : Hid (RotP l l s m e) := hid (by
            have := hrg.out
            have hn := hbb.out
            by_cases t1 : s < m
            · have t2 : ¬ m < e := fun q => by have := hn.2 ⟨t1, q⟩; cases this
              rw [show e = m by omega]; exact RotP.idR l s m
            · rw [show s = m by omega]; exact RotP.idL l m e)
          go_wp2_with fail
          go_meet
          case rel => exact ⟨l, hid1.out, E.out⟩
        | true =>
          obtain ⟨t1, t2⟩ := hbb.out.1 rfl
          have hc := slices_rotate (some ⟨g, 0, none⟩) cap l s m e (.func (.func 94) #[lv] #[]) w0 S M _ E.out t1 t2 (by have := hlen.out; have := hrg.out; omega) (by have := hlen.out; omega)
          rw [← hlen.out] at hc
          replace hc := hid hc
          go_wp2_with fail
          refine hc.out.mono ?_
          rintro e' w2 ⟨rfl, l1, hs, E2⟩
          have hs := hid hs
          have E2 := hid E2
          go_wp2_with fail
          go_meet
          case rel => exact ⟨l1, hs.out, E2.out⟩
      case rest =>
      clear E
      as_aux_lemma =>
      obtain ⟨l1, hRot, E⟩ := hcut
      replace E := hid E
      have hH := hid (hhalf.out l1 hRot)
      have hl1 : Hid (l1.length = len) := hid (hRot.len.trans hlen.out.symm)
      have hsg1 := hid (hRot.seg hrg.out.2.1 hrg.out.2.2.2.1)
      have hP1 := hid (hsg1.out.allP (by have := hlen.out; have := hrg.out; omega) hP.out)
      clear hRot hhalf
      clear hbb
      go_upto_region 41 with fail
      go_cut [199] (fun v wc => ∃ bb : Bool, v = .bool bb ∧ (bb = true ↔ x < s ∧ s < d) ∧ Env w0 S wc (.rowI (some ⟨g, 0, none⟩) cap l1 :: M))
      case first =>
        as_aux_lemma =>
        by_cases t1 : x < s
        case neg =>
          go_wp2_with fail
          go_meet
          case rel => exact ⟨false, rfl, ⟨fun q => (by cases q), fun q => absurd q.1 t1⟩, E.out⟩
        case pos =>
          by_cases t2 : s < d
          case neg =>
            go_wp2_with fail
            go_meet
            case rel => exact ⟨false, rfl, ⟨fun q => (by cases q), fun q => absurd q.2 t2⟩, E.out⟩
          case pos =>
            have t1' := hid t1
            have t2' := hid t2
            go_wp2_with fail
            go_meet
            case rel => exact ⟨true, rfl, ⟨fun _ => ⟨t1'.out, t2'.out⟩, fun _ => rfl⟩, E.out⟩
      case rest =>
      clear E
      obtain ⟨bb, rfl, hbb, E⟩ := hcut
      replace E := hid E
      replace hbb := hid hbb
      go_upto_if 199 with fail
      go_cut [] (fun wc => ∃ l2, SegP x d l1 l2 ∧ SrtS c l2 x d ∧ Env w0 S wc (.rowI (some ⟨g, 0, none⟩) cap l2 :: M))
      case first =>
        as_aux_lemma =>
        cases bb with
        | false =>
          have hid1 : Hid (SrtS c l1 x d) := hid (by
            have := hrg.out
            have hn := hbb.out
            by_cases t1 : x < s
            · have t2 : ¬ s < d := fun q => by have := hn.2 ⟨t1, q⟩; cases this
              have := hH.out.p1; rw [show s = d by omega] at this; exact this
            · have := hH.out.p2; rw [show s = x by omega] at this; exact this)
          go_wp2_with fail
          go_meet
          case rel => exact ⟨l1, SegP.refl _ _ _, hid1.out, E.out⟩
        | true =>
          obtain ⟨t1, t2⟩ := hbb.out.1 rfl
          have hc := ih.out l1 x s d _ hrec.out.1 E.out hP1.out t1 t2 (by have := hl1.out; have := hrg.out; omega) (by have := hl1.out; omega) hH.out.p1 hH.out.p2
          rw [hl1.out] at hc
          replace hc := hid hc
          go_wp2_with fail
          refine hc.out.mono ?_
          rintro e' w2 ⟨rfl, l2, hs, hs2, E2⟩
          have hs := hid hs
          have hs2 := hid hs2
          have E2 := hid E2
          go_wp2_with fail
          go_meet
          case rel => exact ⟨l2, hs.out, hs2.out, E2.out⟩
      case rest =>
      clear E hbb
      as_aux_lemma =>
      obtain ⟨l2, hsg2, hst2, E⟩ := hcut
      replace E := hid E
      have hl2 : Hid (l2.length = len) := hid (hsg2.len.trans hl1.out)
      have hP2 := hid (hsg2.allP (by have := hl1.out; have := hrg.out; omega) hP1.out)
      have hp3 : Hid (SrtS c l2 d e) := hid (hH.out.p3.eq fun k g1 g2 => hsg2.out k (by omega))
      have hp4 : Hid (SrtS c l2 e y) := hid (hH.out.p4.eq fun k g1 g2 => hsg2.out k (by have := hrg.out; omega))
      have hend := hid (fun (l3 : List Int) (p : SegP d y l2 l3) (q : SrtS c l3 d y) => (show SegP x y l l3 ∧ SrtS c l3 x y from ⟨((hsg1.out.wide (by have := hrg.out; omega) (by have := hrg.out; omega)).trans (hsg2.wide (Nat.le_refl _) (by have := hrg.out; omega))).trans (p.wide (by have := hrg.out; omega) (Nat.le_refl _)), half_done hH.out (by have := hrg.out; omega) (by have := hrg.out; omega) hsg2 hst2 p q⟩))
      clear hsg2 hst2
      by_cases t1 : d < e
      case neg =>
        have hid1 : Hid (SrtS c l2 d y) := hid (by have := hrg.out; have := hp4.out; rw [show e = d by omega] at this; exact this)
        go_wp2_with fail
        exact bodyPost_ret (end_noneS rfl) rfl (hR.out _ _ ⟨rfl, l2, (hend.out l2 (SegP.refl _ _ _) hid1.out).1, (hend.out l2 (SegP.refl _ _ _) hid1.out).2, E.out⟩)
      case pos =>
        by_cases t2 : e < y
        case neg =>
          have hid1 : Hid (SrtS c l2 d y) := hid (by have := hrg.out; have := hp3.out; rw [show e = y by omega] at this; exact this)
          go_wp2_with fail
          exact bodyPost_ret (end_noneS rfl) rfl (hR.out _ _ ⟨rfl, l2, (hend.out l2 (SegP.refl _ _ _) hid1.out).1, (hend.out l2 (SegP.refl _ _ _) hid1.out).2, E.out⟩)
        case pos =>
          have hc := ih.out l2 d e y _ hrec.out.2 E.out hP2.out t1 t2 (by have := hl2.out; omega) (by have := hl2.out; omega) hp3.out hp4.out
          rw [hl2.out] at hc
          replace hc := hid hc
          go_wp2_with fail
          refine hc.out.mono ?_
          rintro e' w2 ⟨rfl, l3, hs, hs2, E2⟩
          have hs := hid hs
          have hs2 := hid hs2
          have E2 := hid E2
          go_wp2_with fail
          exact bodyPost_ret (end_noneS rfl) rfl (hR.out _ _ ⟨rfl, l3, (hend.out l3 hs.out hs2.out).1, (hend.out l3 hs.out hs2.out).2, E2.out⟩)
/-- two parts side by side are merged -/
theorem slices_symMerge {c : Int → Int → Int} {P : Int → Prop} (hO : Ordr c P) (lv : Value) (ao : Option Addr) (cap : Nat) (w0 : World) (S : Nat → Prop) (M : List Fact) (hK : CmpK c P lv ao cap w0 S M) : ∀ n, SymC n c P lv ao cap w0 S M
  | 0 => fun l x m y w hn => absurd hn (by omega)
  | n + 1 => fun l x m y w hn hE hP h1 h2 h3 h4 S1 S2 => by
    by_cases q1 : m = x + 1
    · exact slices_sym1 hO lv ao cap w0 S M hK l x m y w hE hP h1 h2 h3 h4 S1 S2 q1
    · by_cases q2 : y = m + 1
      · exact slices_sym2 hO lv ao cap w0 S M hK l x m y w hE hP h1 h2 h3 h4 S1 S2 ⟨by omega, q2⟩
      · exact slices_sym3 hO lv ao cap w0 S M hK n (slices_symMerge hO lv ao cap w0 S M hK n) l x m y w hE hP h1 h2 h3 h4 S1 S2 ⟨by omega, by omega, by omega⟩
end Go.Proofs.Ytdpdcjadedcglaa
namespace Go.Proofs.Ytdpdcjadedcglaa
open Go.RowKit Go.Sort
attribute [local go_sem ↓] run_max2 run_min2
attribute [local go_sem] eql_ints_nil eql_arrs_nil
set_option maxRecDepth 1000000 in
set_option maxHeartbeats 8000000 in
theorem slices_stable {c : Int → Int → Int} {P : Int → Prop} (hO : Ordr c P) (lv : Value) (ao : Option Addr) (cap : Nat) (w0 : World) (S : Nat → Prop) (M : List Fact) (hK : CmpK c P lv ao cap w0 S M)
    (l : List Int) (w : World) (hE : Env w0 S w (.rowI ao cap l :: M)) (hP : AllP P l) (h3 : l.length ≤ 1000000) :
    Calls Try.prog 103 #[.slice ao l.length cap, .int .i64 (l.length : Int), .func (.func 94) #[lv] #[]] w fun e w' => e = .returned (.tuple #[]) ∧ ∃ l', SegP 0 l.length l l' ∧ SrtS c l' 0 l.length ∧ Env w0 S w' (.rowI ao cap l' :: M) := by
  refine calls_post fun R' hR => ?_
  have E := hid hE
  clear hE
  replace hK := hid hK
  replace hO := hid hO
  obtain ⟨n, hn⟩ : ∃ n, n = l.length := ⟨_, rfl⟩
  rw [← hn] at h3 hR ⊢
  replace hn := hid hn
  replace hP := hid hP
  go_enter Try.func103, Try.ntmps103
  go_wp2_with fail
  go_loopw [7, 8] (fun p q wr => ∃ (k a b : Nat) (l1 : List Int), a = k * 20 ∧ b = a + 20 ∧ p = .int .i64 a ∧ q = .int .i64 b ∧ a ≤ n ∧ SegP 0 n l l1 ∧ BlkS c l1 20 0 a ∧ Env w0 S wr (.rowI ao cap l1 :: M)) (fun p q _ => n + 20 - (intOf q).toNat)
  case atStart => exact ⟨0, 0, 20, l, rfl, rfl, rfl, rfl, Nat.zero_le _, SegP.refl _ _ _, fun i j h1 h2 h3 => by omega, E.out⟩
  case round =>
    clear E
    obtain ⟨k, a, b, l1, hak, hba, rfl, rfl, ha, hs, hB, E⟩ := hrel
    replace E := hid E
    have hl1 : Hid (l1.length = n) := hid (hs.len.trans hn.out.symm)
    have hP1 := hid (hs.allP (by have := hn.out; omega) hP.out)
    replace hs := hid hs
    by_cases hlt : b ≤ n
    case pos =>
      as_aux_lemma =>
      have hc := slices_insertion hO.out lv ao cap w0 S M hK.out l1 a b wr E.out hP1.out (by omega) (by have := hl1.out; omega) (by have := hl1.out; omega)
      rw [hl1.out] at hc
      replace hc := hid hc
      have hg : Hid (∀ l2, SegP a b l1 l2 → SrtS c l2 a b → SegP 0 n l l2 ∧ BlkS c l2 20 0 b) := hid (fun l2 p q => by
        refine ⟨hs.out.trans (p.wide (Nat.zero_le _) hlt), ?_⟩
        rw [hak] at hB p q
        exact hB.grow (by omega) p q (by omega))
      have hnx : Hid (b = (k + 1) * 20 ∧ b < 1000020) := hid (by omega)
      replace hB := hid hB
      replace hak := hid hak
      have hba2 := hid hba
      clear hba
      go_wp2_with fail
      refine hc.out.mono ?_
      rintro e' w2 ⟨rfl, l2, p2, q2, E2⟩
      replace p2 := hid p2
      replace q2 := hid q2
      replace E2 := hid E2
      go_wp2_with fail
      go_roundw
      case rel => exact ⟨k + 1, b, b + 20, l2, hnx.out.1, rfl, rfl, by have := hnx.out; go_num, hlt, (hg.out l2 p2.out q2.out).1, (hg.out l2 p2.out q2.out).2, E2.out⟩
      case measure => have := hnx.out; simp [intOf]; omega
    case neg =>
      have hc := slices_insertion hO.out lv ao cap w0 S M hK.out l1 a n wr E.out hP1.out ha (by have := hl1.out; omega) (by have := hl1.out; omega)
      rw [hl1.out] at hc
      replace hc := hid hc
      have hg : Hid (∀ l2, SegP a n l1 l2 → SrtS c l2 a n → SegP 0 n l l2 ∧ BlkS c l2 20 0 n) := hid (fun l2 p q => by
        refine ⟨hs.out.trans (p.wide (Nat.zero_le _) (Nat.le_refl _)), ?_⟩
        have hle : n ≤ (k + 1) * 20 := by omega
        rw [hak] at hB p q
        exact hB.grow (by omega) p q hle)
      replace hB := hid hB
      replace hak := hid hak
      replace hba := hid hba
      go_wp2_with fail
      refine hc.out.mono ?_
      rintro e' w2 ⟨rfl, l2, p2, q2, E2⟩
      obtain ⟨g1, g2⟩ := hg.out l2 p2 q2
      clear hg hB hs hP1 hl1 hlt hc p2 q2 hak hba ha
      replace g1 := hid g1
      replace g2 := hid g2
      replace E2 := hid E2
      clear E
      go_wp2_with fail
      go_loopw [6] (fun p wr => ∃ (bs : Nat) (l1 : List Int), p = .int .i64 bs ∧ 0 < bs ∧ bs ≤ 4000000 ∧ SegP 0 n l l1 ∧ BlkS c l1 bs 0 n ∧ Env w0 S wr (.rowI ao cap l1 :: M)) (fun p _ => n - (intOf p).toNat)
      case atStart => exact ⟨20, l2, rfl, by omega, by omega, g1.out, g2.out, E2.out⟩
      case round =>
        clear E2 g1 g2
        obtain ⟨bs, l1, rfl, hb0, hb1, hs, hB, E⟩ := hrel
        replace E := hid E
        replace hs := hid hs
        by_cases hlt : bs < n
        case neg =>
          have hS := hid (blkS_all hB (by omega))
          replace hB := hid hB
          go_wp2_with fail
          exact bodyPost_ret (end_noneS rfl) rfl (hR.out _ _ ⟨rfl, l1, hs.out, hS.out, E.out⟩)
        case pos =>
          obtain ⟨d, hd⟩ : ∃ d, d = 2 * bs := ⟨_, rfl⟩
          have wd : IntKind.i64.wrap (2 * (bs : Int)) = (d : Int) := by rw [IntWalk.i64_in _ (by omega)]; omega
          have wd2 : IntKind.i64.wrap ((bs : Int) * 2) = (d : Int) := by rw [IntWalk.i64_in _ (by omega)]; omega
          obtain ⟨wo, rfl⟩ : ∃ wo : World, wo = wr := ⟨_, rfl⟩
          have hdd : Hid (d = 2 * bs ∧ bs < n) := hid ⟨hd, hlt⟩
          replace hd := hid hd
          replace hB := hid hB
          go_wp2_with fail
          go_loopw [7, 8] (fun p q wr => ∃ (k a b : Nat) (l2 : List Int), a = k * d ∧ b = a + d ∧ p = .int .i64 a ∧ q = .int .i64 b ∧ a ≤ n ∧ SegP 0 n l l2 ∧ BlkS c l2 d 0 a ∧ BlkS c l2 bs a n ∧ Env w0 S wr (.rowI ao cap l2 :: M)) (fun p q _ => n + d - (intOf q).toNat)
          case atStart => exact ⟨0, 0, d, l1, by rw [Nat.zero_mul], by omega, rfl, rfl, Nat.zero_le _, hs.out, fun i j h1 h2 h3 => by omega, hB.out, E.out⟩
          case round =>
            clear E hB hs
            obtain ⟨k, a, b, l2, hak, hba, rfl, rfl, ha, hs, hB1, hB2, E⟩ := hrel
            replace E := hid E
            have hl2 : Hid (l2.length = n) := hid (hs.len.trans hn.out.symm)
            have hP2 := hid (hs.allP (by have := hn.out; omega) hP.out)
            replace hs := hid hs
            have a1 : Hid (2 * k * bs = a) := hid (by rw [hak, hd.out, Nat.mul_comm 2 k, Nat.mul_assoc])
            have a2 : Hid ((2 * k + 1) * bs = a + bs) := hid (by rw [Nat.add_mul, a1.out, Nat.one_mul])
            have a3 : Hid ((2 * k + 1 + 1) * bs = a + 2 * bs) := hid (by rw [Nat.add_mul, a2.out, Nat.one_mul]; omega)
            have a4 : Hid ((k + 1) * d = b) := hid (by rw [Nat.add_mul, ← hak, Nat.one_mul, hba])
            have wm : IntKind.i64.wrap ((a : Int) + (bs : Int)) = ((a + bs : Nat) : Int) := by rw [IntWalk.i64_in _ (by omega)]; omega
            obtain ⟨m, hm⟩ : ∃ m, m = a + bs := ⟨_, rfl⟩
            rw [← hm] at wm
            have hT1 : Hid (m ≤ n → SrtS c l2 a m) := hid (fun q => hB2.seg (q := 2 * k) hb0 (Nat.le_refl _) q (Nat.le_of_eq a1.out) (by rw [a2.out]; omega))
            by_cases hlt2 : b ≤ n
            case pos =>
              as_aux_lemma =>
              have hd1 := hd.out
              have hT2 : SrtS c l2 m b := hB2.seg (q := 2 * k + 1) hb0 (by omega) hlt2 (by rw [a2.out]; omega) (by rw [a3.out]; omega)
              have hc := slices_symMerge hO.out lv ao cap w0 S M hK.out (b - a + 1) l2 a m b wr (by omega) E.out hP2.out (by omega) (by omega) (by have := hl2.out; omega) (by have := hl2.out; omega) (hT1.out (by omega)) hT2
              rw [hl2.out] at hc
              replace hc := hid hc
              have hg : Hid (∀ l3, SegP a b l2 l3 → SrtS c l3 a b → SegP 0 n l l3 ∧ BlkS c l3 d 0 b ∧ BlkS c l3 bs b n) := hid (fun l3 p q => by
                refine ⟨hs.out.trans (p.wide (Nat.zero_le _) hlt2), ?_, ?_⟩
                · have hle : b ≤ (k + 1) * d := Nat.le_of_eq a4.out.symm
                  rw [hak] at hB1 p q
                  exact hB1.grow (by omega) p q hle
                · have := hB2.drop p hlt2
                  rw [show max a b = b by omega] at this
                  exact this)
              have wn : IntKind.i64.wrap ((b : Int) + (d : Int)) = (b : Int) + (d : Int) := IntWalk.i64_in _ (by omega)
              have hbn : Hid (b = a + d ∧ 0 < d) := hid (by omega)
              replace hB1 := hid hB1
              replace hB2 := hid hB2
              replace hak := hid hak
              replace hT2 := hid hT2
              replace hba := hid hba
              replace hm := hid hm
              replace hd1 := hid hd1
              go_wp2_with fail
              refine hc.out.mono ?_
              rintro e' w2 ⟨rfl, l3, p2, q2, E2⟩
              replace p2 := hid p2
              replace q2 := hid q2
              replace E2 := hid E2
              go_wp2_with fail
              go_roundw
              case rel => exact ⟨k + 1, b, b + d, l3, a4.out.symm, rfl, rfl, by go_num, hlt2, (hg.out l3 p2.out q2.out).1, (hg.out l3 p2.out q2.out).2.1, (hg.out l3 p2.out q2.out).2.2, E2.out⟩
              case measure => have := hbn.out; simp [intOf]; omega
            case neg =>
              as_aux_lemma =>
              by_cases hmn : m < n
              case pos =>
                have hd1 := hd.out
                have hT2 : SrtS c l2 m n := hB2.seg (q := 2 * k + 1) hb0 (by omega) (Nat.le_refl _) (by rw [a2.out]; omega) (by rw [a3.out]; omega)
                have hc := slices_symMerge hO.out lv ao cap w0 S M hK.out (n - a + 1) l2 a m n wr (by omega) E.out hP2.out (by omega) (by omega) (by have := hl2.out; omega) (by have := hl2.out; omega) (hT1.out (by omega)) hT2
                rw [hl2.out] at hc
                replace hc := hid hc
                have hg : Hid (∀ l3, SegP a n l2 l3 → SrtS c l3 a n → SegP 0 n l l3 ∧ BlkS c l3 d 0 n) := hid (fun l3 p q => by
                  refine ⟨hs.out.trans (p.wide (Nat.zero_le _) (Nat.le_refl _)), ?_⟩
                  have hle : n ≤ (k + 1) * d := by rw [a4.out]; omega
                  rw [hak] at hB1 p q
                  exact hB1.grow (by omega) p q hle)
                replace hB1 := hid hB1
                replace hB2 := hid hB2
                replace hak := hid hak
                replace hT2 := hid hT2
                replace hba := hid hba
                replace hm := hid hm
                replace hd1 := hid hd1
                go_wp2_with fail
                refine hc.out.mono ?_
                rintro e' w2 ⟨rfl, l3, p2, q2, E2⟩
                replace p2 := hid p2
                replace q2 := hid q2
                replace E2 := hid E2
                go_wp2_with fail
                go_roundw
                case rel => exact ⟨d, l3, by first | rfl | go_num, by have := hdd.out; omega, by have := hdd.out; omega, (hg.out l3 p2.out q2.out).1, (hg.out l3 p2.out q2.out).2, E2.out⟩
                case measure => have := hdd.out; simp [intOf]; omega
              case neg =>
                have hg : Hid (SegP 0 n l l2 ∧ BlkS c l2 d 0 n) := hid (by
                  have hd1 := hd.out
                  refine ⟨hs.out, ?_⟩
                  have hle : n ≤ (k + 1) * d := by rw [a4.out]; omega
                  have hT : SrtS c l2 a n := hB2.seg (q := 2 * k) hb0 (Nat.le_refl _) (Nat.le_refl _) (Nat.le_of_eq a1.out) (by rw [a2.out]; omega)
                  rw [hak] at hB1 hT
                  exact hB1.grow (by omega) (SegP.refl (k * d) n l2) hT hle)
                replace hB1 := hid hB1
                replace hB2 := hid hB2
                replace hak := hid hak
                replace hba := hid hba
                replace hm := hid hm
                go_wp2_with fail
                go_roundw
                case rel => exact ⟨d, l2, by first | rfl | go_num, by have := hdd.out; omega, by have := hdd.out; omega, hg.out.1, hg.out.2, E.out⟩
                case measure => have := hdd.out; simp [intOf]; omega
set_option maxRecDepth 1000000 in
set_option maxHeartbeats 8000000 in
theorem slices_SortStable {c : Int → Int → Int} {P : Int → Prop} (hO : Ordr c P) (lv : Value) (ao : Option Addr) (cap : Nat) (w0 : World) (S : Nat → Prop) (M : List Fact) (hK : CmpK c P lv ao cap w0 S M)
    (l : List Int) (w : World) (hE : Env w0 S w (.rowI ao cap l :: M)) (hP : AllP P l) (h3 : l.length ≤ 1000000) :
    Calls Try.prog 93 #[.slice ao l.length cap, .func (.func 94) #[lv] #[]] w fun e w' => e = .returned (.tuple #[]) ∧ ∃ l', SegP 0 l.length l l' ∧ SrtS c l' 0 l.length ∧ Env w0 S w' (.rowI ao cap l' :: M) := by
  refine calls_post fun R' hR => ?_
  have hc := hid (slices_stable hO lv ao cap w0 S M hK l w hE hP h3)
  clear hE hP hK hO
  go_enter Try.func93, Try.ntmps93
  go_wp2_with fail
  refine hc.out.mono ?_
  rintro e' w2 ⟨rfl, l2, p2, q2, E2⟩
  replace p2 := hid p2
  replace q2 := hid q2
  replace E2 := hid E2
  go_wp2_with fail
  exact bodyPost_ret (end_noneS rfl) rfl (hR.out _ _ ⟨rfl, l2, p2.out, q2.out, E2.out⟩)
end Go.Proofs.Ytdpdcjadedcglaa
