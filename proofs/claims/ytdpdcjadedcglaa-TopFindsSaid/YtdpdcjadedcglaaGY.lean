/- A group of texts (GY), each with its own conditions: those of each lemma. -/
import Derived.Test.YtdpdcjadedcglaaGW
import Derived.Test.YtdpdcjadedcglaaGG
import Derived.BigRegion
set_option linter.unusedVariables false
set_option maxRecDepth 20000
set_option linter.unusedSimpArgs false
namespace Go.Proofs.Ytdpdcjadedcglaa
open Go.RowKit Go.Sort
attribute [local go_sem ↓] run_max2 run_min2
attribute [local go_sem] eql_ints_nil eql_arrs_nil
theorem end_noneS {fn : Func} (hres : fn.results = #[]) {w : World} {tmps : Array Value} : (results fn tmps).run Try.prog w = .ok (.tuple #[]) w := by
  simp [results, hres]
theorem OwnI.cellAt {w : World} {B : Nat} {ao : Option Addr} {cap : Nat} {xs : List Int} (h : OwnI w B ao cap xs) {k : Nat} (hk : k < xs.length) : ∃ g, ao = some ⟨g, 0, none⟩ ∧ B ≤ g ∧ g < w.heap.size ∧ ∀ j, j < xs.length → w.cell? ⟨g, j, none⟩ = some (.int .i64 (xs.getD j 0)) ∧ w.frozen? ⟨g, j, none⟩ = false := by
  obtain ⟨g, e, h1, h2, _⟩ := h.set hk
  refine ⟨g, e, h1, h2, fun j hj => ?_⟩
  obtain ⟨g', e', _, _, _, hf, _⟩ := h.set hj
  rw [e] at e'
  injection e' with e'
  injection e' with e'
  subst e'
  subst e
  have := World.ownsRow.cells h (g := g) rfl j (.int .i64 (xs.getD j 0)) (by simp [hj])
  exact ⟨by simpa [Addr.add_lit] using this, hf⟩
theorem OwnI.cellG {w : World} {B : Nat} {g cap : Nat} {xs : List Int} (h : OwnI w B (some ⟨g, 0, none⟩) cap xs) {k : Nat} (hk : k < xs.length) : w.cell? ⟨g, k, none⟩ = some (.int .i64 (xs.getD k 0)) ∧ w.frozen? ⟨g, k, none⟩ = false := by
  obtain ⟨g', e, _, _, hc⟩ := h.cellAt hk
  injection e with e
  injection e with e
  subst e
  exact hc k hk
/-- two numbers of a row are exchanged -/
theorem Env.swp2 {w0 w : World} {S : Nat → Prop} {L : List Fact} (E : Env w0 S w L) (q : Nat) {g cap : Nat} {xs : List Int} (h : L[q]? = some (.rowI (some ⟨g, 0, none⟩) cap xs)) {i j : Nat} (hi : i < xs.length) (hj : j < xs.length) :
    Env w0 S ((w.setCell ⟨g, i, none⟩ (.int .i64 (xs.getD j 0))).setCell ⟨g, j, none⟩ (.int .i64 (xs.getD i 0))) (L.set q (.rowI (some ⟨g, 0, none⟩) cap (swp xs i j))) := by
  obtain ⟨g1, e1, hb, _, _, _, h1⟩ := (E.rowI q h).set hi
  injection e1 with e1
  injection e1 with e1
  subst e1
  have E1 := E.setI q h rfl hb (h1 (xs.getD j 0)) (chg_setCell _ _ _ _)
  have hq : q < L.length := (List.getElem?_eq_some_iff.1 h).1
  have hL : (L.set q (.rowI (some ⟨g, 0, none⟩) cap (xs.set i (xs.getD j 0))))[q]? = some (.rowI (some ⟨g, 0, none⟩) cap (xs.set i (xs.getD j 0))) := by simp [hq]
  obtain ⟨g2, e2, hb2, _, _, _, h2⟩ := (E1.rowI q hL).set (j := j) (by simpa using hj)
  injection e2 with e2
  injection e2 with e2
  subst e2
  have E2 := E1.setI q hL rfl hb2 (h2 (xs.getD i 0)) (chg_setCell _ _ _ _)
  rw [List.set_set] at E2
  exact E2
set_option maxRecDepth 1000000 in
set_option maxHeartbeats 8000000 in
theorem slices_swapRange (ao : Option Addr) (cap : Nat) (l : List Int) (x y n : Nat) (cv : Value) (w0 : World) (S : Nat → Prop) (M : List Fact) (w : World) (hE : Env w0 S w (.rowI ao cap l :: M)) (h1 : x + n ≤ y) (h2 : y + n ≤ l.length) (h3 : l.length ≤ 1000000) :
    Calls Try.prog 114 #[.slice ao l.length cap, .int .i64 (x : Int), .int .i64 (y : Int), .int .i64 (n : Int), cv] w fun e w' => e = .returned (.tuple #[]) ∧ ∃ l', SwpR l l' x y n ∧ Env w0 S w' (.rowI ao cap l' :: M) := by
  refine calls_post fun R' hR => ?_
  have E := hid hE
  clear hE
  obtain ⟨len, hlen⟩ : ∃ len, len = l.length := ⟨_, rfl⟩
  rw [← hlen] at h2 h3 ⊢
  go_enter Try.func114, Try.ntmps114
  go_wp2_with fail
  go_loopw [10] (fun r wr => ∃ (k : Nat) (l' : List Int), k ≤ n ∧ r = .int .i64 k ∧ SwpR l l' x y k ∧ Env w0 S wr (.rowI ao cap l' :: M)) (fun r _ => n - (intOf r).toNat)
  case atStart => exact ⟨0, l, Nat.zero_le _, rfl, SwpR.zero l x y, E.out⟩
  case round =>
    clear E
    obtain ⟨k, l', hk, rfl, hs, E⟩ := hrel
    replace E := hid E
    have hll := hs.len
    replace hs := hid hs
    by_cases hlt : k < n
    case pos =>
      obtain ⟨g, hao, _, _, hc⟩ := (E.out.rowI 0 rfl).cellAt (k := x + k) (by omega)
      subst hao
      obtain ⟨c1, f1⟩ := hc (x + k) (by omega)
      obtain ⟨c2, f2⟩ := hc (y + k) (by omega)
      have hsw := fun (wd : World) (e : Env w0 S wd (.rowI (some ⟨g, 0, none⟩) cap l' :: M)) => e.swp2 0 rfl (i := x + k) (j := y + k) (by omega) (by omega)
      generalize l'.getD (x + k) 0 = vx at c1 hsw
      generalize l'.getD (y + k) 0 = vy at c2 hsw
      have hw1 : IntKind.i64.wrap ((x : Int) + (k : Int)) = (x : Int) + (k : Int) := IntWalk.i64_in _ (by omega)
      have hw2 : IntKind.i64.wrap ((y : Int) + (k : Int)) = (y : Int) + (k : Int) := IntWalk.i64_in _ (by omega)
      have b1 : (x : Int) + (k : Int) < (len : Int) := by omega
      have b2 : (y : Int) + (k : Int) < (len : Int) := by omega
      have b3 : (0 : Int) ≤ (x : Int) + (k : Int) := by omega
      have b4 : (0 : Int) ≤ (y : Int) + (k : Int) := by omega
      have b5 : ((x : Int) + (k : Int)).toNat = x + k := by omega
      have b6 : ((y : Int) + (k : Int)).toNat = y + k := by omega
      replace hlen := hid hlen
      replace hll := hid hll
      replace hsw := hid hsw
      clear hc
      go_wp2_with fail
      go_region
      replace E := hid ((hsw.out wr E.out).up (ext_drawn _))
      (try simp only [List.cons_append, List.nil_append, List.set_cons_zero, List.set_cons_succ] at E)
      generalize (World.setCell _ _ _).drew = wv at E ⊢
      go_wp2_with fail
      go_roundw
      case rel => exact ⟨k + 1, _, by omega, by go_num, SwpR.step hs.out (by omega) (by have := hlen.out; omega), E.out⟩
      case measure => simp [intOf]; omega
    case neg =>
      have hkn : k = n := by omega
      go_wp2_with fail
      exact bodyPost_ret (end_noneS rfl) rfl (hR.out _ _ ⟨rfl, l', hkn ▸ hs.out, E.out⟩)
set_option maxRecDepth 1000000 in
set_option maxHeartbeats 8000000 in
theorem slices_rotate (ao : Option Addr) (cap : Nat) (l : List Int) (x m y : Nat) (cv : Value) (w0 : World) (S : Nat → Prop) (M : List Fact) (w : World) (hE : Env w0 S w (.rowI ao cap l :: M)) (h1 : x < m) (h2 : m < y) (h3 : y ≤ l.length) (h4 : l.length ≤ 1000000) :
    Calls Try.prog 112 #[.slice ao l.length cap, .int .i64 (x : Int), .int .i64 (m : Int), .int .i64 (y : Int), cv] w fun e w' => e = .returned (.tuple #[]) ∧ ∃ l', RotP l l' x m y ∧ Env w0 S w' (.rowI ao cap l' :: M) := by
  refine calls_post fun R' hR => ?_
  have E := hid hE
  clear hE
  obtain ⟨len, hlen⟩ : ∃ len, len = l.length := ⟨_, rfl⟩
  rw [← hlen] at h3 h4 ⊢
  obtain ⟨i0, hi0⟩ : ∃ i, i = m - x := ⟨_, rfl⟩
  obtain ⟨j0, hj0⟩ : ∃ j, j = y - m := ⟨_, rfl⟩
  have w1 : IntKind.i64.wrap ((m : Int) - (x : Int)) = (i0 : Int) := by rw [IntWalk.i64_in _ (by omega)]; omega
  have w2 : IntKind.i64.wrap ((y : Int) - (m : Int)) = (j0 : Int) := by rw [IntWalk.i64_in _ (by omega)]; omega
  replace hlen := hid hlen
  replace hi0 := hid hi0
  replace hj0 := hid hj0
  go_enter Try.func112, Try.ntmps112
  go_wp2_with fail
  clear w1 w2
  go_loopw [10, 11] (fun p q wr => ∃ (i j : Nat) (l' : List Int), p = .int .i64 i ∧ q = .int .i64 j ∧ (0 < i ∧ 0 < j ∧ i ≤ m - x ∧ j ≤ y - m) ∧ l'.length = len ∧ (∀ r, RotP l' r (m - i) m (m + j) → RotP l r x m y) ∧ Env w0 S wr (.rowI ao cap l' :: M)) (fun p q _ => (intOf p).toNat + (intOf q).toNat)
  case atStart =>
    have a1 := hi0.out
    have a2 := hj0.out
    exact ⟨i0, j0, l, rfl, rfl, by omega, hlen.out.symm, fun r hr => by rw [show m - i0 = x by omega, show m + j0 = y by omega] at hr; exact hr, E.out⟩
  case round =>
    clear E hlen hi0 hj0
    obtain ⟨i, j, l', rfl, rfl, ⟨q1, q2, q3, q4⟩, hll, hrot, E⟩ := hrel
    replace E := hid E
    replace hrot := hid hrot
    have w1 : IntKind.i64.wrap ((m : Int) - (i : Int)) = ((m - i : Nat) : Int) := by rw [IntWalk.i64_in _ (by omega)]; omega
    obtain ⟨p1, hp1⟩ : ∃ p, p = m - i := ⟨_, rfl⟩
    rw [← hp1] at w1
    by_cases c : i = j
    case pos =>
      have cb : ((i : Int) != (j : Int)) = false := by simp [c]
      replace c := hid c
      replace hll := hid hll
      replace hp1 := hid hp1
      go_wp2_with fail
      have hc := slices_swapRange ao cap l' p1 m i cv w0 S M wr E.out (by have := hp1.out; omega) (by have := hll.out; have := c.out; omega) (by have := hll.out; omega)
      rw [hll.out] at hc
      refine hc.mono ?_
      rintro e w2 ⟨rfl, l2, hs, E2⟩
      have hs := hid hs
      have E2 := hid E2
      go_wp2_with fail
      refine bodyPost_ret (end_noneS rfl) rfl (hR.out _ _ ⟨rfl, l2, hrot.out l2 ?_, E2.out⟩)
      have := hs.out
      rw [hp1.out] at this
      have := RotP.same this (by omega)
      rw [c.out] at this ⊢
      exact this
    case neg =>
      have cb : ((i : Int) != (j : Int)) = true := by simp; omega
      by_cases cg : j < i
      case pos =>
        have cg2 : (j : Int) < (i : Int) := by omega
        have w3 : IntKind.i64.wrap ((i : Int) - (j : Int)) = ((i - j : Nat) : Int) := by rw [IntWalk.i64_in _ (by omega)]; omega
        obtain ⟨d, hd⟩ : ∃ d, d = i - j := ⟨_, rfl⟩
        rw [← hd] at w3
        replace hll := hid hll
        replace hp1 := hid hp1
        replace hd := hid hd
        go_wp2_with fail
        have hc := slices_swapRange ao cap l' p1 m j cv w0 S M wr E.out (by have := hp1.out; omega) (by have := hll.out; omega) (by have := hll.out; omega)
        rw [hll.out] at hc
        refine hc.mono ?_
        rintro e w2 ⟨rfl, l2, hs, E2⟩
        have hs := hid hs
        have E2 := hid E2
        go_wp2_with fail
        go_roundw
        case rel =>
          have a1 := hd.out
          refine ⟨d, j, l2, rfl, rfl, by omega, hs.out.len.trans hll.out, fun r hr => hrot.out r ?_, E2.out⟩
          have := hs.out
          rw [hp1.out] at this
          rw [a1] at hr
          exact RotP.longer this (by omega) cg hr
        case measure => have a1 := hd.out; simp [intOf]; omega
      case neg =>
        have cg2 : ¬ (j : Int) < (i : Int) := by omega
        have w3 : IntKind.i64.wrap ((j : Int) - (i : Int)) = ((j - i : Nat) : Int) := by rw [IntWalk.i64_in _ (by omega)]; omega
        have w4 : IntKind.i64.wrap ((m : Int) + (j : Int)) = (m : Int) + (j : Int) := IntWalk.i64_in _ (by omega)
        have w5 : IntKind.i64.wrap ((m : Int) + (j : Int) - (i : Int)) = ((m + j - i : Nat) : Int) := by rw [IntWalk.i64_in _ (by omega)]; omega
        obtain ⟨d, hd⟩ : ∃ d, d = j - i := ⟨_, rfl⟩
        rw [← hd] at w3
        obtain ⟨p2, hp2⟩ : ∃ d, d = m + j - i := ⟨_, rfl⟩
        rw [← hp2] at w5
        replace hll := hid hll
        replace hp1 := hid hp1
        replace hp2 := hid hp2
        replace hd := hid hd
        go_wp2_with fail
        have hc := slices_swapRange ao cap l' p1 p2 i cv w0 S M wr E.out (by have := hp1.out; have := hp2.out; omega) (by have := hll.out; have := hp2.out; omega) (by have := hll.out; omega)
        rw [hll.out] at hc
        refine hc.mono ?_
        rintro e w2 ⟨rfl, l2, hs, E2⟩
        have hs := hid hs
        have E2 := hid E2
        go_wp2_with fail
        go_roundw
        case rel =>
          have a1 := hd.out
          refine ⟨i, d, l2, rfl, rfl, by omega, hs.out.len.trans hll.out, fun r hr => hrot.out r ?_, E2.out⟩
          have := hs.out
          rw [hp1.out, hp2.out] at this
          rw [a1] at hr
          exact RotP.shorter this (by omega) (by omega) hr
        case measure => have a1 := hd.out; simp [intOf]; omega
end Go.Proofs.Ytdpdcjadedcglaa
namespace Go.Proofs.Ytdpdcjadedcglaa
open Go.RowKit Go.Sort
attribute [local go_sem ↓] run_max2 run_min2
attribute [local go_sem] eql_ints_nil eql_arrs_nil
/-- the comparison of two elements, while the slice is sorted -/
def CmpK (c : Int → Int → Int) (P : Int → Prop) (lv : Value) (ao : Option Addr) (cap : Nat) (w0 : World) (S : Nat → Prop) (M : List Fact) : Prop :=
  ∀ (l : List Int) (wz : World), Env w0 S wz (.rowI ao cap l :: M) → ∀ p q, P p → P q → Calls Try.prog 94 #[lv, .int .i64 p, .int .i64 q] wz fun e w' => e = .returned (.int .i64 (c p q)) ∧ Below wz.heap.size wz w'
set_option maxRecDepth 1000000 in
set_option maxHeartbeats 8000000 in
theorem slices_insertion {c : Int → Int → Int} {P : Int → Prop} (hO : Ordr c P) (lv : Value) (ao : Option Addr) (cap : Nat) (w0 : World) (S : Nat → Prop) (M : List Fact) (hK : CmpK c P lv ao cap w0 S M)
    (l : List Int) (x y : Nat) (w : World) (hE : Env w0 S w (.rowI ao cap l :: M)) (hP : AllP P l) (h1 : x ≤ y) (h2 : y ≤ l.length) (h3 : l.length ≤ 1000000) :
    Calls Try.prog 109 #[.slice ao l.length cap, .int .i64 (x : Int), .int .i64 (y : Int), .func (.func 94) #[lv] #[]] w fun e w' => e = .returned (.tuple #[]) ∧ ∃ l', SegP x y l l' ∧ SrtS c l' x y ∧ Env w0 S w' (.rowI ao cap l' :: M) := by
  refine calls_post fun R' hR => ?_
  have E := hid hE
  clear hE
  replace hK := hid hK
  replace hO := hid hO
  obtain ⟨len, hlen⟩ : ∃ len, len = l.length := ⟨_, rfl⟩
  rw [← hlen] at h2 h3 ⊢
  have w1 : IntKind.i64.wrap ((x : Int) + 1) = ((x + 1 : Nat) : Int) := by rw [IntWalk.i64_in _ (by omega)]; omega
  obtain ⟨x1, hx1⟩ : ∃ x1, x1 = x + 1 := ⟨_, rfl⟩
  rw [← hx1] at w1
  replace hx1 := hid hx1
  replace hlen := hid hlen
  replace hP := hid hP
  go_enter Try.func109, Try.ntmps109
  go_wp2_with fail
  clear w1
  go_loopw [8] (fun r wr => ∃ (i : Nat) (l1 : List Int), x < i ∧ (i ≤ y ∨ i = x + 1) ∧ r = .int .i64 i ∧ SegP x y l l1 ∧ SrtS c l1 x i ∧ Env w0 S wr (.rowI ao cap l1 :: M)) (fun r _ => y + 1 - (intOf r).toNat)
  case atStart => exact ⟨x1, l, by have := hx1.out; omega, by have := hx1.out; omega, rfl, SegP.refl _ _ _, SrtS.one (by have := hx1.out; omega), E.out⟩
  case round =>
    clear E
    obtain ⟨i, l1, hi1, hi2, rfl, hs1, hs2, E⟩ := hrel
    replace E := hid E
    replace hs1 := hid hs1
    by_cases hlt : i < y
    case neg =>
      replace hs2 := hid hs2
      go_wp2_with fail
      exact bodyPost_ret (end_noneS rfl) rfl (hR.out _ _ ⟨rfl, l1, hs1.out, hs2.out.sub (Nat.le_refl _) (by omega), E.out⟩)
    case pos =>
      obtain ⟨wo, rfl⟩ : ∃ wo : World, wo = wr := ⟨_, rfl⟩
      have hI0 := hid (InsI.start hs2)
      clear hs2
      have hy2 : Hid (i < y ∧ x < i ∧ i + 1 ≤ y) := hid (by omega)
      go_wp2_with fail
      go_loopw [9] (fun r wr => ∃ (j : Nat) (l2 : List Int), x ≤ j ∧ j ≤ i ∧ r = .int .i64 j ∧ SegP x y l l2 ∧ InsI c l2 x i j ∧ Env w0 S wr (.rowI ao cap l2 :: M)) (fun r _ => (intOf r).toNat)
      case atStart => exact ⟨i, l1, by omega, Nat.le_refl _, rfl, hs1.out, hI0.out, E.out⟩
      case round =>
        clear E hs1 hI0
        obtain ⟨j, l2, hj1, hj2, rfl, hs, hI, E⟩ := hrel
        replace E := hid E
        have hl2 : l2.length = len := hs.len.trans hlen.out.symm
        have hP2 := hid (hs.allP (by have := hlen.out; omega) hP.out)
        replace hs := hid hs
        by_cases hjx : x < j
        case neg =>
          have hS := hid (InsI.done hI hO.out hP2.out (by omega) hj1 hj2 (Or.inl (by omega)))
          replace hI := hid hI
          replace hl2 := hid hl2
          have g1 : ¬ (x : Int) < (j : Int) := by omega
          go_upto_region 4 with fail
          refine wp_region_mono (Sees wr []) [] (fun k v u u' => match k with  | _ => False) (fun _ _ h e => h.up e) (Sees.start (all_nil)) (by kernel_rfl) (by kernel_rfl) ?_
          repeat (first | (refine m_plain (v := ?_) (by rfl) (by rfl) ?_ ?_; rotate_left; (intro wz hSw; obtain ⟨-, hSc⟩ := hSw; (try simp only [List.forall_mem_cons, List.forall_mem_nil, and_true] at hSc); go_simp; (first | done | with_reducible rfl)); (intro K hK; (try simp only [Act.put, List.setIfInBounds_toArray, List.set_cons_zero, List.set_cons_succ]); refine hK _ _ ?_; clear hK K)) | (refine m_skip (by rfl) (by rfl) ?_; (intro K hK; (try simp only [Act.put, List.setIfInBounds_toArray, List.set_cons_zero, List.set_cons_succ]); refine hK _ _ ?_; clear hK K)))
          refine m_nil ?_
          intro wf hSf hAf
          replace E := hid (E.out.up hSf.1)
          clear hSf hAf
          go_wp2_with fail
          go_roundw
          case rel => exact ⟨i + 1, l2, by have := hy2.out; omega, by have := hy2.out; omega, by simp, hs.out, hS.out, E.out⟩
          case measure => have := hy2.out; simp [intOf]; omega
        case pos =>
          obtain ⟨g, hao, _, _, _⟩ := (E.out.rowI 0 rfl).cellAt (k := j) (by omega)
          subst hao
          obtain ⟨jm, hjm⟩ : ∃ jm, j = jm + 1 := ⟨j - 1, by omega⟩
          obtain ⟨vx, hvx⟩ : ∃ v, v = l2.getD j 0 := ⟨_, rfl⟩
          obtain ⟨vm, hvm⟩ : ∃ v, v = l2.getD jm 0 := ⟨_, rfl⟩
          have px : Hid (P vx) := hid (by rw [hvx]; exact hP2.out j (by omega))
          have pm : Hid (P vm) := hid (by rw [hvm]; exact hP2.out jm (by omega))
          obtain ⟨cv, hcv⟩ : ∃ v, v = c vx vm := ⟨_, rfl⟩
          have hcell := hid (fun (wz : World) (e : Env w0 S wz (.rowI (some ⟨g, 0, none⟩) cap l2 :: M)) => And.intro ((e.rowI 0 rfl).cellG (k := j) (by omega)) ((e.rowI 0 rfl).cellG (k := jm) (by omega)))
          have hsw := hid (fun (wd : World) (e : Env w0 S wd (.rowI (some ⟨g, 0, none⟩) cap l2 :: M)) => e.swp2 0 rfl (i := j) (j := jm) (by omega) (by omega))
          rw [← hvx, ← hvm] at hcell hsw
          have hsegj := hid (SegP.swp (a := x) (b := y) (i := j) (j := jm) (l := l2) (by omega) (by omega) (by omega))
          have wj : IntKind.i64.wrap ((j : Int) - 1) = (jm : Int) := by rw [IntWalk.i64_in _ (by omega)]; omega
          have g1 : (x : Int) < (j : Int) := by omega
          have g2 : (j : Int) < (len : Int) := by omega
          have g3 : (jm : Int) < (len : Int) := by omega
          obtain ⟨⟨c1, f1⟩, c2, f2⟩ := hcell.out wr E.out
          by_cases hneg : cv < 0
          case pos =>
            have hst : Hid (InsI c (swp l2 j jm) x i jm) := hid (by
              have := InsI.step hI hjx hj2 (by omega) (by rw [show j - 1 = jm by omega, ← hvx, ← hvm, ← hcv]; exact hneg)
              rw [show j - 1 = jm by omega] at this; exact this)
            have hjj : Hid (j = jm + 1 ∧ x ≤ jm ∧ jm ≤ i) := hid (by omega)
            replace hI := hid hI
            replace hl2 := hid hl2
            replace hjm := hid hjm
            replace hvx := hid hvx
            replace hvm := hid hvm
            replace hcv := hid hcv
            go_upto_region 4 with fail
            obtain ⟨T, hT1, hT2, hT3⟩ := E.out.tw
            refine wp_region_mono (Sees wr [(⟨g, j, none⟩, .int .i64 vx), (⟨g, jm, none⟩, .int .i64 vm)]) [14] (fun k v u u' => match k with | 14 => v = .int .i64 cv | _ => False) (fun _ _ h e => h.up e) (Sees.start (all_cons (c1) (all_cons (c2) (all_nil)))) (by kernel_rfl) (by kernel_rfl) ?_
            repeat (first | (refine m_plain (v := ?_) (by rfl) (by rfl) ?_ ?_; rotate_left; (intro wz hSw; obtain ⟨-, hSc⟩ := hSw; (try simp only [List.forall_mem_cons, List.forall_mem_nil, and_true] at hSc); go_simp; (first | done | with_reducible rfl)); (intro K hK; (try simp only [Act.put, List.setIfInBounds_toArray, List.set_cons_zero, List.set_cons_succ]); refine hK _ _ ?_; clear hK K)) | (refine m_skip (by rfl) (by rfl) ?_; (intro K hK; (try simp only [Act.put, List.setIfInBounds_toArray, List.set_cons_zero, List.set_cons_succ]); refine hK _ _ ?_; clear hK K)))
            refine m_make (by rfl) (by rfl) ?_ ?_
            · intro wz hSw hdep R hRz
              obtain ⟨hSe, hSc⟩ := hSw
              (try simp only [List.forall_mem_cons, List.forall_mem_nil, and_true] at hSc)
              unfold does
              (go_simp; refine Calls.mono (hK.out l2 wz (E.out.up hSe) vx vm px.out pm.out) ?_; rintro e wq ⟨rfl, hqb⟩; rw [← hcv.out]; exact ⟨_, rfl, hRz.out _ _ ⟨hqb, rfl⟩⟩)
            intro v14 u14 x14 hG14 K hK
            have hF14 := hG14.fact
            (try dsimp only at hF14)
            subst hF14
            (try simp only [Act.put, List.setIfInBounds_toArray, List.set_cons_zero, List.set_cons_succ]); refine hK _ _ ?_; clear hK K
            repeat (first | (refine m_plain (v := ?_) (by rfl) (by rfl) ?_ ?_; rotate_left; (intro wz hSw; obtain ⟨-, hSc⟩ := hSw; (try simp only [List.forall_mem_cons, List.forall_mem_nil, and_true] at hSc); go_simp; (first | done | with_reducible rfl)); (intro K hK; (try simp only [Act.put, List.setIfInBounds_toArray, List.set_cons_zero, List.set_cons_succ]); refine hK _ _ ?_; clear hK K)) | (refine m_skip (by rfl) (by rfl) ?_; (intro K hK; (try simp only [Act.put, List.setIfInBounds_toArray, List.set_cons_zero, List.set_cons_succ]); refine hK _ _ ?_; clear hK K)))
            refine m_nil ?_
            intro wf hSf hAf
            replace E := hid (E.out.up hSf.1)
            clear hSf hAf c1 c2 f1 f2
            obtain ⟨⟨c1, f1⟩, c2, f2⟩ := hcell.out wf E.out
            have ne1 : ¬ j = jm := by have := hjj.out; omega
            have ne2 : ¬ jm = j := by have := hjj.out; omega
            go_wp2_with fail
            go_region
            clear ne1 ne2
            replace E := hid ((hsw.out wf E.out).up (ext_drawn _))
            (try simp only [List.cons_append, List.nil_append, List.set_cons_zero, List.set_cons_succ] at E)
            generalize (World.setCell _ _ _).drew = wv at E ⊢
            go_wp2_with fail
            go_roundw
            case rel => exact ⟨jm, _, hjj.out.2.1, hjj.out.2.2, by go_num, hs.out.trans hsegj.out, hst.out, E.out⟩
            case measure => have := hjj.out; simp [intOf]; omega
          case neg =>
            have hS := hid (InsI.done hI hO.out hP2.out (by omega) hj1 hj2 (Or.inr (by rw [show j - 1 = jm by omega, ← hvx, ← hvm, ← hcv]; exact hneg)))
            replace hI := hid hI
            replace hl2 := hid hl2
            replace hjm := hid hjm
            replace hvx := hid hvx
            replace hvm := hid hvm
            replace hcv := hid hcv
            go_upto_region 4 with fail
            obtain ⟨T, hT1, hT2, hT3⟩ := E.out.tw
            refine wp_region_mono (Sees wr [(⟨g, j, none⟩, .int .i64 vx), (⟨g, jm, none⟩, .int .i64 vm)]) [14] (fun k v u u' => match k with | 14 => v = .int .i64 cv | _ => False) (fun _ _ h e => h.up e) (Sees.start (all_cons (c1) (all_cons (c2) (all_nil)))) (by kernel_rfl) (by kernel_rfl) ?_
            repeat (first | (refine m_plain (v := ?_) (by rfl) (by rfl) ?_ ?_; rotate_left; (intro wz hSw; obtain ⟨-, hSc⟩ := hSw; (try simp only [List.forall_mem_cons, List.forall_mem_nil, and_true] at hSc); go_simp; (first | done | with_reducible rfl)); (intro K hK; (try simp only [Act.put, List.setIfInBounds_toArray, List.set_cons_zero, List.set_cons_succ]); refine hK _ _ ?_; clear hK K)) | (refine m_skip (by rfl) (by rfl) ?_; (intro K hK; (try simp only [Act.put, List.setIfInBounds_toArray, List.set_cons_zero, List.set_cons_succ]); refine hK _ _ ?_; clear hK K)))
            refine m_make (by rfl) (by rfl) ?_ ?_
            · intro wz hSw hdep R hRz
              obtain ⟨hSe, hSc⟩ := hSw
              (try simp only [List.forall_mem_cons, List.forall_mem_nil, and_true] at hSc)
              unfold does
              (go_simp; refine Calls.mono (hK.out l2 wz (E.out.up hSe) vx vm px.out pm.out) ?_; rintro e wq ⟨rfl, hqb⟩; rw [← hcv.out]; exact ⟨_, rfl, hRz.out _ _ ⟨hqb, rfl⟩⟩)
            intro v14 u14 x14 hG14 K hK
            have hF14 := hG14.fact
            (try dsimp only at hF14)
            subst hF14
            (try simp only [Act.put, List.setIfInBounds_toArray, List.set_cons_zero, List.set_cons_succ]); refine hK _ _ ?_; clear hK K
            repeat (first | (refine m_plain (v := ?_) (by rfl) (by rfl) ?_ ?_; rotate_left; (intro wz hSw; obtain ⟨-, hSc⟩ := hSw; (try simp only [List.forall_mem_cons, List.forall_mem_nil, and_true] at hSc); go_simp; (first | done | with_reducible rfl)); (intro K hK; (try simp only [Act.put, List.setIfInBounds_toArray, List.set_cons_zero, List.set_cons_succ]); refine hK _ _ ?_; clear hK K)) | (refine m_skip (by rfl) (by rfl) ?_; (intro K hK; (try simp only [Act.put, List.setIfInBounds_toArray, List.set_cons_zero, List.set_cons_succ]); refine hK _ _ ?_; clear hK K)))
            refine m_nil ?_
            intro wf hSf hAf
            replace E := hid (E.out.up hSf.1)
            clear hSf hAf c1 c2 f1 f2
            go_wp2_with fail
            go_roundw
            case rel => exact ⟨i + 1, l2, by have := hy2.out; omega, by have := hy2.out; omega, by simp, hs.out, hS.out, E.out⟩
            case measure => have := hy2.out; simp [intOf]; omega
end Go.Proofs.Ytdpdcjadedcglaa
namespace Go.Proofs.Ytdpdcjadedcglaa
open Go.RowKit Go.Sort
attribute [local go_sem ↓] run_max2 run_min2
attribute [local go_sem] eql_ints_nil eql_arrs_nil
/-- two parts side by side, each in order, are merged: parts of less than n elements in all -/
def SymC (n : Nat) (c : Int → Int → Int) (P : Int → Prop) (lv : Value) (ao : Option Addr) (cap : Nat) (w0 : World) (S : Nat → Prop) (M : List Fact) : Prop :=
  ∀ (l : List Int) (x m y : Nat) (w : World), y - x < n → Env w0 S w (.rowI ao cap l :: M) → AllP P l → x < m → m < y → y ≤ l.length → l.length ≤ 1000000 → SrtS c l x m → SrtS c l m y →
    Calls Try.prog 110 #[.slice ao l.length cap, .int .i64 (x : Int), .int .i64 (m : Int), .int .i64 (y : Int), .func (.func 94) #[lv] #[]] w fun e w' => e = .returned (.tuple #[]) ∧ ∃ l', SegP x y l l' ∧ SrtS c l' x y ∧ Env w0 S w' (.rowI ao cap l' :: M)
set_option maxRecDepth 1000000 in
set_option maxHeartbeats 8000000 in
theorem slices_sym1 {c : Int → Int → Int} {P : Int → Prop} (hO : Ordr c P) (lv : Value) (ao : Option Addr) (cap : Nat) (w0 : World) (S : Nat → Prop) (M : List Fact) (hK : CmpK c P lv ao cap w0 S M) 
    (l : List Int) (x m y : Nat) (w : World) (hE : Env w0 S w (.rowI ao cap l :: M)) (hP : AllP P l) (h1 : x < m) (h2 : m < y) (h3 : y ≤ l.length) (h4 : l.length ≤ 1000000) (S1 : SrtS c l x m) (S2 : SrtS c l m y) (hm : m = x + 1) :
    Calls Try.prog 110 #[.slice ao l.length cap, .int .i64 (x : Int), .int .i64 (m : Int), .int .i64 (y : Int), .func (.func 94) #[lv] #[]] w fun e w' => e = .returned (.tuple #[]) ∧ ∃ l', SegP x y l l' ∧ SrtS c l' x y ∧ Env w0 S w' (.rowI ao cap l' :: M) := by
  refine calls_post fun R' hR => ?_
  have E := hid hE
  clear hE
  replace hK := hid hK
  replace hO := hid hO
  obtain ⟨g, hao, _, _, _⟩ := (E.out.rowI 0 rfl).cellAt (k := x) (by omega)
  subst hao
  obtain ⟨len, hlen⟩ : ∃ len, len = l.length := ⟨_, rfl⟩
  rw [← hlen] at h3 h4 ⊢
  obtain ⟨vx, hvx⟩ : ∃ v, v = l.getD x 0 := ⟨_, rfl⟩
  have px : Hid (P vx) := hid (by rw [hvx]; exact hP x (by omega))
  have w1 : IntKind.i64.wrap ((m : Int) - (x : Int)) = 1 := by rw [IntWalk.i64_in _ (by omega)]; omega
  replace hm := hid hm
  replace hlen := hid hlen
  replace hvx := hid hvx
  replace hP := hid hP
  replace S1 := hid S1
  replace S2 := hid S2
  go_enter Try.func110, Try.ntmps110
  go_wp2_with fail
  clear w1
  go_loopw [10, 11] (fun p q wr => ∃ i j : Nat, p = .int .i64 i ∧ q = .int .i64 j ∧ m ≤ i ∧ i ≤ j ∧ j ≤ y ∧ (∀ t, m ≤ t → t < i → c (l.getD t 0) vx < 0) ∧ (∀ t, j ≤ t → t < y → ¬ c (l.getD t 0) vx < 0) ∧ Env w0 S wr (.rowI (some ⟨g, 0, none⟩) cap l :: M)) (fun p q _ => (intOf q).toNat - (intOf p).toNat)
  case atStart => exact ⟨m, y, rfl, rfl, Nat.le_refl _, by omega, Nat.le_refl _, fun t _ _ => by omega, fun t _ _ => by omega, E.out⟩
  case round =>
    clear E
    obtain ⟨i, j, rfl, rfl, q1, q2, q3, q4, q5, E⟩ := hrel
    replace E := hid E
    by_cases hlt : i < j
    case pos =>
      obtain ⟨h, hh⟩ : ∃ h, h = (i + j) / 2 := ⟨_, rfl⟩
      have wh : ((i : Int) + (j : Int)) / 2 = (h : Int) := by omega
      have hhb : i ≤ h ∧ h < j := by omega
      obtain ⟨vh, hvh⟩ : ∃ v, v = l.getD h 0 := ⟨_, rfl⟩
      have ph : Hid (P vh) := hid (by rw [hvh]; exact hP.out h (by have := hlen.out; omega))
      obtain ⟨cv, hcv⟩ : ∃ v, v = c vh vx := ⟨_, rfl⟩
      obtain ⟨c1, f1⟩ := (E.out.rowI 0 rfl).cellG (k := h) (by have := hlen.out; omega)
      obtain ⟨c2, f2⟩ := (E.out.rowI 0 rfl).cellG (k := x) (by have := hlen.out; omega)
      rw [← hvh] at c1
      rw [← hvx.out] at c2
      have g2 : (h : Int) < (len : Int) := by omega
      have g3 : (x : Int) < (len : Int) := by omega
      replace hh := hid hh
      by_cases hneg : cv < 0
      case pos =>
        have hnew := hid (srt_down hO.out hP.out (by have := hlen.out; omega) S2.out px.out (k := h) (by omega) (by omega) (by rw [← hvh, ← hcv]; exact hneg))
        replace q4 := hid q4
        replace q5 := hid q5
        replace hvh := hid hvh
        replace hcv := hid hcv
        go_upto_region 5 with fail
        obtain ⟨T, hT1, hT2, hT3⟩ := E.out.tw
        refine wp_region_mono (Sees wr [(⟨g, h, none⟩, .int .i64 vh), (⟨g, x, none⟩, .int .i64 vx)]) [9] (fun k v u u' => match k with | 9 => v = .int .i64 cv | _ => False) (fun _ _ h e => h.up e) (Sees.start (all_cons (c1) (all_cons (c2) (all_nil)))) (by kernel_rfl) (by kernel_rfl) ?_
        repeat (first | (refine m_plain (v := ?_) (by rfl) (by rfl) ?_ ?_; rotate_left; (intro wz hSw; obtain ⟨-, hSc⟩ := hSw; (try simp only [List.forall_mem_cons, List.forall_mem_nil, and_true] at hSc); go_simp; (first | done | with_reducible rfl)); (intro K hK; (try simp only [Act.put, List.setIfInBounds_toArray, List.set_cons_zero, List.set_cons_succ]); refine hK _ _ ?_; clear hK K)) | (refine m_skip (by rfl) (by rfl) ?_; (intro K hK; (try simp only [Act.put, List.setIfInBounds_toArray, List.set_cons_zero, List.set_cons_succ]); refine hK _ _ ?_; clear hK K)))
        refine m_make (by rfl) (by rfl) ?_ ?_
        · intro wz hSw hdep R hRz
          obtain ⟨hSe, hSc⟩ := hSw
          (try simp only [List.forall_mem_cons, List.forall_mem_nil, and_true] at hSc)
          unfold does
          (go_simp; refine Calls.mono (hK.out l wz (E.out.up hSe) vh vx ph.out px.out) ?_; rintro e wq ⟨rfl, hqb⟩; rw [← hcv.out]; exact ⟨_, rfl, hRz.out _ _ ⟨hqb, rfl⟩⟩)
        intro v9 u9 x9 hG9 K hK
        have hF9 := hG9.fact
        (try dsimp only at hF9)
        subst hF9
        (try simp only [Act.put, List.setIfInBounds_toArray, List.set_cons_zero, List.set_cons_succ]); refine hK _ _ ?_; clear hK K
        repeat (first | (refine m_plain (v := ?_) (by rfl) (by rfl) ?_ ?_; rotate_left; (intro wz hSw; obtain ⟨-, hSc⟩ := hSw; (try simp only [List.forall_mem_cons, List.forall_mem_nil, and_true] at hSc); go_simp; (first | done | with_reducible rfl)); (intro K hK; (try simp only [Act.put, List.setIfInBounds_toArray, List.set_cons_zero, List.set_cons_succ]); refine hK _ _ ?_; clear hK K)) | (refine m_skip (by rfl) (by rfl) ?_; (intro K hK; (try simp only [Act.put, List.setIfInBounds_toArray, List.set_cons_zero, List.set_cons_succ]); refine hK _ _ ?_; clear hK K)))
        refine m_nil ?_
        intro wf hSf hAf
        replace E := hid (E.out.up hSf.1)
        clear hSf hAf c1 c2 f1 f2
        go_wp2_with fail
        go_roundw
        case rel => exact ⟨h + 1, j, by go_num, rfl, by omega, by omega, q3, hnew.out, q5.out, E.out⟩
        case measure => simp [intOf]; omega
      case neg =>
        have hnew := hid (srt_up hO.out hP.out (by have := hlen.out; omega) S2.out px.out (k := h) (by omega) (by omega) (by rw [← hvh, ← hcv]; exact hneg))
        replace q4 := hid q4
        replace q5 := hid q5
        replace hvh := hid hvh
        replace hcv := hid hcv
        go_upto_region 5 with fail
        obtain ⟨T, hT1, hT2, hT3⟩ := E.out.tw
        refine wp_region_mono (Sees wr [(⟨g, h, none⟩, .int .i64 vh), (⟨g, x, none⟩, .int .i64 vx)]) [9] (fun k v u u' => match k with | 9 => v = .int .i64 cv | _ => False) (fun _ _ h e => h.up e) (Sees.start (all_cons (c1) (all_cons (c2) (all_nil)))) (by kernel_rfl) (by kernel_rfl) ?_
        repeat (first | (refine m_plain (v := ?_) (by rfl) (by rfl) ?_ ?_; rotate_left; (intro wz hSw; obtain ⟨-, hSc⟩ := hSw; (try simp only [List.forall_mem_cons, List.forall_mem_nil, and_true] at hSc); go_simp; (first | done | with_reducible rfl)); (intro K hK; (try simp only [Act.put, List.setIfInBounds_toArray, List.set_cons_zero, List.set_cons_succ]); refine hK _ _ ?_; clear hK K)) | (refine m_skip (by rfl) (by rfl) ?_; (intro K hK; (try simp only [Act.put, List.setIfInBounds_toArray, List.set_cons_zero, List.set_cons_succ]); refine hK _ _ ?_; clear hK K)))
        refine m_make (by rfl) (by rfl) ?_ ?_
        · intro wz hSw hdep R hRz
          obtain ⟨hSe, hSc⟩ := hSw
          (try simp only [List.forall_mem_cons, List.forall_mem_nil, and_true] at hSc)
          unfold does
          (go_simp; refine Calls.mono (hK.out l wz (E.out.up hSe) vh vx ph.out px.out) ?_; rintro e wq ⟨rfl, hqb⟩; rw [← hcv.out]; exact ⟨_, rfl, hRz.out _ _ ⟨hqb, rfl⟩⟩)
        intro v9 u9 x9 hG9 K hK
        have hF9 := hG9.fact
        (try dsimp only at hF9)
        subst hF9
        (try simp only [Act.put, List.setIfInBounds_toArray, List.set_cons_zero, List.set_cons_succ]); refine hK _ _ ?_; clear hK K
        repeat (first | (refine m_plain (v := ?_) (by rfl) (by rfl) ?_ ?_; rotate_left; (intro wz hSw; obtain ⟨-, hSc⟩ := hSw; (try simp only [List.forall_mem_cons, List.forall_mem_nil, and_true] at hSc); go_simp; (first | done | with_reducible rfl)); (intro K hK; (try simp only [Act.put, List.setIfInBounds_toArray, List.set_cons_zero, List.set_cons_succ]); refine hK _ _ ?_; clear hK K)) | (refine m_skip (by rfl) (by rfl) ?_; (intro K hK; (try simp only [Act.put, List.setIfInBounds_toArray, List.set_cons_zero, List.set_cons_succ]); refine hK _ _ ?_; clear hK K)))
        refine m_nil ?_
        intro wf hSf hAf
        replace E := hid (E.out.up hSf.1)
        clear hSf hAf c1 c2 f1 f2
        go_wp2_with fail
        go_roundw
        case rel => exact ⟨i, h, rfl, rfl, q1, by omega, by omega, q4.out, hnew.out, E.out⟩
        case measure => simp [intOf]; omega
    case neg =>
      have hij : i = j := by omega
      subst hij
      have hR0 := hid (InsR.atA (c := c) (l := l) (a := x) (b := y) (s := i) (by rw [← hm.out]; exact S2.out) (fun t g1 g2 => by rw [← hvx.out]; exact q4 t (by have := hm.out; omega) g2) (fun t g1 g2 => by rw [← hvx.out]; exact hO.out.ge (hP.out t (by have := hlen.out; omega)) px.out (q5 t g1 g2)))
      clear q4 q5
      obtain ⟨i1, hi1⟩ : ∃ i1, i = i1 + 1 := ⟨i - 1, by omega⟩
      have wi : IntKind.i64.wrap ((i : Int) - 1) = (i1 : Int) := by rw [IntWalk.i64_in _ (by omega)]; omega
      replace hi1 := hid hi1
      go_wp2_with fail
      go_loopw [13] (fun p wr => ∃ (k : Nat) (l2 : List Int), x ≤ k ∧ k ≤ i1 ∧ p = .int .i64 k ∧ SegP x y l l2 ∧ InsR c l2 x y i k ∧ Env w0 S wr (.rowI (some ⟨g, 0, none⟩) cap l2 :: M)) (fun p _ => i1 - (intOf p).toNat)
      case atStart => exact ⟨x, l, Nat.le_refl _, by have := hi1.out; have := hm.out; omega, rfl, SegP.refl _ _ _, hR0.out, E.out⟩
      case round =>
        clear E
        obtain ⟨k, l2, k1, k2, rfl, hs, hI, E⟩ := hrel
        replace E := hid E
        have hl2 : l2.length = len := hs.len.trans hlen.out.symm
        replace hs := hid hs
        by_cases hlt2 : k < i1
        case pos =>
          have hst := hid (InsR.right hI k1 (by have := hi1.out; omega) q3 (by omega))
          replace hI := hid hI
          have hkk : Hid (k + 1 ≤ i1 ∧ i1 < 1000000) := hid (by have := hi1.out; omega)
          have hi2 := hi1.out
          obtain ⟨v1, hv1⟩ : ∃ v, v = l2.getD k 0 := ⟨_, rfl⟩
          obtain ⟨v2, hv2⟩ : ∃ v, v = l2.getD (k + 1) 0 := ⟨_, rfl⟩
          obtain ⟨c1, f1⟩ := (E.out.rowI 0 rfl).cellG (k := k) (by omega)
          obtain ⟨c2, f2⟩ := (E.out.rowI 0 rfl).cellG (k := (k + 1)) (by omega)
          have hsw := hid (fun (wd : World) (e : Env w0 S wd (.rowI (some ⟨g, 0, none⟩) cap l2 :: M)) => e.swp2 0 rfl (i := k) (j := (k + 1)) (by omega) (by omega))
          rw [← hv1] at c1 hsw
          rw [← hv2] at c2 hsw
          have hsegj := hid (SegP.swp (a := x) (b := y) (i := k) (j := (k + 1)) (l := l2) (by omega) (by omega) (by omega))
          replace hv1 := hid hv1
          replace hv2 := hid hv2
          replace hl2 := hid hl2
          have ne1 : ¬ k = k + 1 := by omega
          have ne2 : ¬ k + 1 = k := by omega
          have b1 : (k : Int) < (len : Int) := by omega
          have b2 : (k : Int) + 1 < (len : Int) := by omega
          have b3 : ((k : Int) + 1).toNat = k + 1 := by omega
          have b4 : (0 : Int) ≤ (k : Int) + 1 := by omega
          have wk : IntKind.i64.wrap ((k : Int) + 1) = (k : Int) + 1 := IntWalk.i64_in _ (by omega)
          clear hi2
          go_wp2_with fail
          go_region
          clear ne1 ne2 c1 c2 f1 f2
          replace E := hid ((hsw.out wr E.out).up (ext_drawn _))
          (try simp only [List.cons_append, List.nil_append, List.set_cons_zero, List.set_cons_succ] at E)
          generalize (World.setCell _ _ _).drew = wv at E ⊢
          go_wp2_with fail
          go_roundw
          case rel => exact ⟨k + 1, _, by omega, hkk.out.1, by have := hkk.out; go_num, hs.out.trans hsegj.out, hst.out, E.out⟩
          case measure => have := hkk.out; simp [intOf]; omega
        case neg =>
          have hS := hid (InsR.doneR hI (by have := hi1.out; omega))
          replace hI := hid hI
          replace hl2 := hid hl2
          go_wp2_with fail
          exact bodyPost_ret (end_noneS rfl) rfl (hR.out _ _ ⟨rfl, l2, hs.out, hS.out, E.out⟩)
set_option maxRecDepth 1000000 in
set_option maxHeartbeats 8000000 in
theorem slices_sym2 {c : Int → Int → Int} {P : Int → Prop} (hO : Ordr c P) (lv : Value) (ao : Option Addr) (cap : Nat) (w0 : World) (S : Nat → Prop) (M : List Fact) (hK : CmpK c P lv ao cap w0 S M) 
    (l : List Int) (x m y : Nat) (w : World) (hE : Env w0 S w (.rowI ao cap l :: M)) (hP : AllP P l) (h1 : x < m) (h2 : m < y) (h3 : y ≤ l.length) (h4 : l.length ≤ 1000000) (S1 : SrtS c l x m) (S2 : SrtS c l m y) (hm : x + 1 < m ∧ y = m + 1) :
    Calls Try.prog 110 #[.slice ao l.length cap, .int .i64 (x : Int), .int .i64 (m : Int), .int .i64 (y : Int), .func (.func 94) #[lv] #[]] w fun e w' => e = .returned (.tuple #[]) ∧ ∃ l', SegP x y l l' ∧ SrtS c l' x y ∧ Env w0 S w' (.rowI ao cap l' :: M) := by
  refine calls_post fun R' hR => ?_
  have E := hid hE
  clear hE
  replace hK := hid hK
  replace hO := hid hO
  obtain ⟨g, hao, _, _, _⟩ := (E.out.rowI 0 rfl).cellAt (k := x) (by omega)
  subst hao
  obtain ⟨len, hlen⟩ : ∃ len, len = l.length := ⟨_, rfl⟩
  rw [← hlen] at h3 h4 ⊢
  obtain ⟨vm, hvm⟩ : ∃ v, v = l.getD m 0 := ⟨_, rfl⟩
  have pm : Hid (P vm) := hid (by rw [hvm]; exact hP m (by omega))
  obtain ⟨d0, hd0⟩ : ∃ d, d = m - x := ⟨_, rfl⟩
  have w0' : IntKind.i64.wrap ((m : Int) - (x : Int)) = (d0 : Int) := by rw [IntWalk.i64_in _ (by omega)]; omega
  have w0b : ((d0 : Int) == 1) = false := by simp; omega
  have w1 : IntKind.i64.wrap ((y : Int) - (m : Int)) = 1 := by rw [IntWalk.i64_in _ (by omega)]; omega
  replace hd0 := hid hd0
  replace hm := hid hm
  replace hlen := hid hlen
  replace hvm := hid hvm
  replace hP := hid hP
  replace S1 := hid S1
  replace S2 := hid S2
  go_enter Try.func110, Try.ntmps110
  go_wp2_with fail
  clear w1 w0b w0'
  go_loopw [14, 15] (fun p q wr => ∃ i j : Nat, p = .int .i64 i ∧ q = .int .i64 j ∧ x ≤ i ∧ i ≤ j ∧ j ≤ m ∧ (∀ t, x ≤ t → t < i → ¬ c vm (l.getD t 0) < 0) ∧ (∀ t, j ≤ t → t < m → c vm (l.getD t 0) < 0) ∧ Env w0 S wr (.rowI (some ⟨g, 0, none⟩) cap l :: M)) (fun p q _ => (intOf q).toNat - (intOf p).toNat)
  case atStart => exact ⟨x, m, rfl, rfl, Nat.le_refl _, by omega, Nat.le_refl _, fun t _ _ => by omega, fun t _ _ => by omega, E.out⟩
  case round =>
    clear E
    obtain ⟨i, j, rfl, rfl, q1, q2, q3, q4, q5, E⟩ := hrel
    replace E := hid E
    by_cases hlt : i < j
    case pos =>
      obtain ⟨h, hh⟩ : ∃ h, h = (i + j) / 2 := ⟨_, rfl⟩
      have wh : ((i : Int) + (j : Int)) / 2 = (h : Int) := by omega
      have hhb : i ≤ h ∧ h < j := by omega
      obtain ⟨vh, hvh⟩ : ∃ v, v = l.getD h 0 := ⟨_, rfl⟩
      have ph : Hid (P vh) := hid (by rw [hvh]; exact hP.out h (by have := hlen.out; omega))
      obtain ⟨cv, hcv⟩ : ∃ v, v = c vm vh := ⟨_, rfl⟩
      obtain ⟨c1, f1⟩ := (E.out.rowI 0 rfl).cellG (k := h) (by have := hlen.out; omega)
      obtain ⟨c2, f2⟩ := (E.out.rowI 0 rfl).cellG (k := m) (by have := hlen.out; omega)
      rw [← hvh] at c1
      rw [← hvm.out] at c2
      have g2 : (h : Int) < (len : Int) := by omega
      have g3 : (m : Int) < (len : Int) := by omega
      replace hh := hid hh
      by_cases hneg : cv < 0
      case pos =>
        have hnew := hid (srt_up2 hO.out hP.out (by have := hlen.out; omega) S1.out pm.out (k := h) (by omega) (by omega) (by rw [← hvh, ← hcv]; exact hneg))
        replace q4 := hid q4
        replace q5 := hid q5
        replace hvh := hid hvh
        replace hcv := hid hcv
        go_upto_region 17 with fail
        obtain ⟨T, hT1, hT2, hT3⟩ := E.out.tw
        refine wp_region_mono (Sees wr [(⟨g, h, none⟩, .int .i64 vh), (⟨g, m, none⟩, .int .i64 vm)]) [9] (fun k v u u' => match k with | 9 => v = .int .i64 cv | _ => False) (fun _ _ h e => h.up e) (Sees.start (all_cons (c1) (all_cons (c2) (all_nil)))) (by kernel_rfl) (by kernel_rfl) ?_
        repeat (first | (refine m_plain (v := ?_) (by rfl) (by rfl) ?_ ?_; rotate_left; (intro wz hSw; obtain ⟨-, hSc⟩ := hSw; (try simp only [List.forall_mem_cons, List.forall_mem_nil, and_true] at hSc); go_simp; (first | done | with_reducible rfl)); (intro K hK; (try simp only [Act.put, List.setIfInBounds_toArray, List.set_cons_zero, List.set_cons_succ]); refine hK _ _ ?_; clear hK K)) | (refine m_skip (by rfl) (by rfl) ?_; (intro K hK; (try simp only [Act.put, List.setIfInBounds_toArray, List.set_cons_zero, List.set_cons_succ]); refine hK _ _ ?_; clear hK K)))
        refine m_make (by rfl) (by rfl) ?_ ?_
        · intro wz hSw hdep R hRz
          obtain ⟨hSe, hSc⟩ := hSw
          (try simp only [List.forall_mem_cons, List.forall_mem_nil, and_true] at hSc)
          unfold does
          (go_simp; refine Calls.mono (hK.out l wz (E.out.up hSe) vm vh pm.out ph.out) ?_; rintro e wq ⟨rfl, hqb⟩; rw [← hcv.out]; exact ⟨_, rfl, hRz.out _ _ ⟨hqb, rfl⟩⟩)
        intro v9 u9 x9 hG9 K hK
        have hF9 := hG9.fact
        (try dsimp only at hF9)
        subst hF9
        (try simp only [Act.put, List.setIfInBounds_toArray, List.set_cons_zero, List.set_cons_succ]); refine hK _ _ ?_; clear hK K
        repeat (first | (refine m_plain (v := ?_) (by rfl) (by rfl) ?_ ?_; rotate_left; (intro wz hSw; obtain ⟨-, hSc⟩ := hSw; (try simp only [List.forall_mem_cons, List.forall_mem_nil, and_true] at hSc); go_simp; (first | done | with_reducible rfl)); (intro K hK; (try simp only [Act.put, List.setIfInBounds_toArray, List.set_cons_zero, List.set_cons_succ]); refine hK _ _ ?_; clear hK K)) | (refine m_skip (by rfl) (by rfl) ?_; (intro K hK; (try simp only [Act.put, List.setIfInBounds_toArray, List.set_cons_zero, List.set_cons_succ]); refine hK _ _ ?_; clear hK K)))
        refine m_nil ?_
        intro wf hSf hAf
        replace E := hid (E.out.up hSf.1)
        clear hSf hAf c1 c2 f1 f2
        go_wp2_with fail
        go_roundw
        case rel => exact ⟨i, h, rfl, rfl, q1, by omega, by omega, q4.out, hnew.out, E.out⟩
        case measure => simp [intOf]; omega
      case neg =>
        have hnew := hid (srt_down2 hO.out hP.out (by have := hlen.out; omega) S1.out pm.out (k := h) (by omega) (by omega) (by rw [← hvh, ← hcv]; exact hneg))
        replace q4 := hid q4
        replace q5 := hid q5
        replace hvh := hid hvh
        replace hcv := hid hcv
        go_upto_region 17 with fail
        obtain ⟨T, hT1, hT2, hT3⟩ := E.out.tw
        refine wp_region_mono (Sees wr [(⟨g, h, none⟩, .int .i64 vh), (⟨g, m, none⟩, .int .i64 vm)]) [9] (fun k v u u' => match k with | 9 => v = .int .i64 cv | _ => False) (fun _ _ h e => h.up e) (Sees.start (all_cons (c1) (all_cons (c2) (all_nil)))) (by kernel_rfl) (by kernel_rfl) ?_
        repeat (first | (refine m_plain (v := ?_) (by rfl) (by rfl) ?_ ?_; rotate_left; (intro wz hSw; obtain ⟨-, hSc⟩ := hSw; (try simp only [List.forall_mem_cons, List.forall_mem_nil, and_true] at hSc); go_simp; (first | done | with_reducible rfl)); (intro K hK; (try simp only [Act.put, List.setIfInBounds_toArray, List.set_cons_zero, List.set_cons_succ]); refine hK _ _ ?_; clear hK K)) | (refine m_skip (by rfl) (by rfl) ?_; (intro K hK; (try simp only [Act.put, List.setIfInBounds_toArray, List.set_cons_zero, List.set_cons_succ]); refine hK _ _ ?_; clear hK K)))
        refine m_make (by rfl) (by rfl) ?_ ?_
        · intro wz hSw hdep R hRz
          obtain ⟨hSe, hSc⟩ := hSw
          (try simp only [List.forall_mem_cons, List.forall_mem_nil, and_true] at hSc)
          unfold does
          (go_simp; refine Calls.mono (hK.out l wz (E.out.up hSe) vm vh pm.out ph.out) ?_; rintro e wq ⟨rfl, hqb⟩; rw [← hcv.out]; exact ⟨_, rfl, hRz.out _ _ ⟨hqb, rfl⟩⟩)
        intro v9 u9 x9 hG9 K hK
        have hF9 := hG9.fact
        (try dsimp only at hF9)
        subst hF9
        (try simp only [Act.put, List.setIfInBounds_toArray, List.set_cons_zero, List.set_cons_succ]); refine hK _ _ ?_; clear hK K
        repeat (first | (refine m_plain (v := ?_) (by rfl) (by rfl) ?_ ?_; rotate_left; (intro wz hSw; obtain ⟨-, hSc⟩ := hSw; (try simp only [List.forall_mem_cons, List.forall_mem_nil, and_true] at hSc); go_simp; (first | done | with_reducible rfl)); (intro K hK; (try simp only [Act.put, List.setIfInBounds_toArray, List.set_cons_zero, List.set_cons_succ]); refine hK _ _ ?_; clear hK K)) | (refine m_skip (by rfl) (by rfl) ?_; (intro K hK; (try simp only [Act.put, List.setIfInBounds_toArray, List.set_cons_zero, List.set_cons_succ]); refine hK _ _ ?_; clear hK K)))
        refine m_nil ?_
        intro wf hSf hAf
        replace E := hid (E.out.up hSf.1)
        clear hSf hAf c1 c2 f1 f2
        go_wp2_with fail
        go_roundw
        case rel => exact ⟨h + 1, j, by go_num, rfl, by omega, by omega, q3, hnew.out, q5.out, E.out⟩
        case measure => simp [intOf]; omega
    case neg =>
      have hij : i = j := by omega
      subst hij
      have hR0 := hid (InsR.atM (c := c) (l := l) (a := x) (b := y) (s := i) hm.out.2 S1.out (fun t g1 g2 => by rw [← hvm.out]; exact hO.out.ge pm.out (hP.out t (by have := hlen.out; omega)) (q4 t g1 g2)) (fun t g1 g2 => by rw [← hvm.out]; exact q5 t g1 g2) q3)
      clear q4 q5
      go_wp2_with fail
      go_loopw [17] (fun p wr => ∃ (k : Nat) (l2 : List Int), i ≤ k ∧ k ≤ m ∧ p = .int .i64 k ∧ SegP x y l l2 ∧ InsR c l2 x y i k ∧ Env w0 S wr (.rowI (some ⟨g, 0, none⟩) cap l2 :: M)) (fun p _ => (intOf p).toNat)
      case atStart => exact ⟨m, l, q3, Nat.le_refl _, rfl, SegP.refl _ _ _, hR0.out, E.out⟩
      case round =>
        clear E
        obtain ⟨k, l2, k1, k2, rfl, hs, hI, E⟩ := hrel
        replace E := hid E
        have hl2 : l2.length = len := hs.len.trans hlen.out.symm
        replace hs := hid hs
        by_cases hlt2 : i < k
        case pos =>
          obtain ⟨km, hkm⟩ : ∃ km, k = km + 1 := ⟨k - 1, by omega⟩
          have hst : Hid (InsR c (swp l2 k km) x y i km) := hid (by
            have := InsR.left hI hlt2 q1 (by omega) (by omega)
            rw [show k - 1 = km by omega] at this; exact this)
          replace hI := hid hI
          have hkk : Hid (k = km + 1 ∧ i ≤ km ∧ km < m) := hid (by omega)
          obtain ⟨v1, hv1⟩ : ∃ v, v = l2.getD k 0 := ⟨_, rfl⟩
          obtain ⟨v2, hv2⟩ : ∃ v, v = l2.getD km 0 := ⟨_, rfl⟩
          obtain ⟨c1, f1⟩ := (E.out.rowI 0 rfl).cellG (k := k) (by omega)
          obtain ⟨c2, f2⟩ := (E.out.rowI 0 rfl).cellG (k := km) (by omega)
          have hsw := hid (fun (wd : World) (e : Env w0 S wd (.rowI (some ⟨g, 0, none⟩) cap l2 :: M)) => e.swp2 0 rfl (i := k) (j := km) (by omega) (by omega))
          rw [← hv1] at c1 hsw
          rw [← hv2] at c2 hsw
          have hsegj := hid (SegP.swp (a := x) (b := y) (i := k) (j := km) (l := l2) (by omega) (by omega) (by omega))
          replace hv1 := hid hv1
          replace hv2 := hid hv2
          replace hl2 := hid hl2
          have ne1 : ¬ k = km := by omega
          have ne2 : ¬ km = k := by omega
          have b1 : (k : Int) < (len : Int) := by omega
          have b2 : (km : Int) < (len : Int) := by omega
          have wk : IntKind.i64.wrap ((k : Int) - 1) = (km : Int) := by rw [IntWalk.i64_in _ (by omega)]; omega
          replace hkm := hid hkm
          go_wp2_with fail
          go_region
          clear ne1 ne2 c1 c2 f1 f2
          replace E := hid ((hsw.out wr E.out).up (ext_drawn _))
          (try simp only [List.cons_append, List.nil_append, List.set_cons_zero, List.set_cons_succ] at E)
          generalize (World.setCell _ _ _).drew = wv at E ⊢
          go_wp2_with fail
          go_roundw
          case rel => exact ⟨km, _, hkk.out.2.1, by have := hkk.out; omega, by go_num, hs.out.trans hsegj.out, hst.out, E.out⟩
          case measure => have := hkk.out; simp [intOf]; omega
        case neg =>
          have hki : k = i := by omega
          have hS := hid (InsR.doneL (hki ▸ hI))
          replace hI := hid hI
          replace hl2 := hid hl2
          go_wp2_with fail
          exact bodyPost_ret (end_noneS rfl) rfl (hR.out _ _ ⟨rfl, l2, hs.out, hS.out, E.out⟩)
end Go.Proofs.Ytdpdcjadedcglaa
