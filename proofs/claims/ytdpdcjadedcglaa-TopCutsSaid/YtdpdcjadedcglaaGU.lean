/- A group of texts (GU), each with its own conditions: those of each lemma. -/
import Derived.Test.YtdpdcjadedcglaaGR
import Derived.Test.YtdpdcjadedcglaaGQ
import Derived.Test.YtdpdcjadedcglaaGG
set_option linter.unusedVariables false
set_option maxRecDepth 20000
set_option linter.unusedSimpArgs false
namespace Go.Proofs.Ytdpdcjadedcglaa
theorem grp_sec (y : Arr) (q m : Nat) : grpA y (q, m) = secA y q m := rfl
theorem secA_celL (y : Arr) (q m : Nat) : celL (secA y q m) = celL y := rfl
theorem secA_celN (y : Arr) (q m : Nat) : celN (secA y q m) = celN y := rfl
theorem secA_tal (y : Arr) (q m : Nat) : talM (secA y q m) = m := by
  unfold talM talN secA
  simp [Arr.shape]
theorem take_part {α : Type} (l : List α) (a b c : Nat) (h : c ≤ b) : (((l.drop (0 * a)).take b).drop 0).take c = (l.drop (0 * a)).take c := by
  simp [List.take_take, Nat.min_eq_left h]
theorem sec_sec {y : Arr} {q m : Nat} : secA (secA y 0 (q + m)) 0 q = secA y 0 q ∧ secA (secA y 0 (q + m)) q m = secA y q m := by
  constructor
  · unfold secA
    rw [show celL (Arr.mk y.kind (((q + m : Nat) : Int) :: celL y) ((y.nums.drop (0 * celN y)).take ((q + m) * celN y)) ((y.items.drop (0 * celN y)).take ((q + m) * celN y))) = celL y from rfl,
      show celN (Arr.mk y.kind (((q + m : Nat) : Int) :: celL y) ((y.nums.drop (0 * celN y)).take ((q + m) * celN y)) ((y.items.drop (0 * celN y)).take ((q + m) * celN y))) = celN y from rfl]
    simp only [Arr.kind, Arr.nums, Arr.items, Nat.zero_mul, List.drop_zero, List.take_take]
    rw [Nat.min_eq_left (Nat.mul_le_mul_right _ (Nat.le_add_right _ _))]
  · unfold secA
    rw [show celL (Arr.mk y.kind (((q + m : Nat) : Int) :: celL y) ((y.nums.drop (0 * celN y)).take ((q + m) * celN y)) ((y.items.drop (0 * celN y)).take ((q + m) * celN y))) = celL y from rfl,
      show celN (Arr.mk y.kind (((q + m : Nat) : Int) :: celL y) ((y.nums.drop (0 * celN y)).take ((q + m) * celN y)) ((y.items.drop (0 * celN y)).take ((q + m) * celN y))) = celN y from rfl]
    simp only [Arr.kind, Arr.nums, Arr.items, Nat.zero_mul, List.drop_zero, List.drop_take, List.take_take]
    rw [Nat.min_eq_left (by rw [Nat.add_mul]; omega)]
theorem sec_join {y : Arr} (h : rightS y = 0) (hr : y.shape.length ≠ 0) {q m : Nat} (hm : q + m ≤ talM y) :
    joinE false (secA y 0 q) (secA y q m) = 0 ∧ joinS false (secA y 0 q) (secA y q m) = secA y 0 (q + m) := by
  have r := sec_right h hr (off := 0) (m := q + m) (by omega)
  have := parts_join r (Nat.succ_ne_zero _) (k := q) (by rw [secA_tal]; omega)
  rw [secA_tal, show q + m - q = m by omega, sec_sec.1, sec_sec.2] at this
  exact this
theorem sec_all {y : Arr} (h : rightS y = 0) (hr : y.shape.length ≠ 0) : secA y 0 (talM y) = y := by
  have hs := (right_ok h).2.1
  have hE := tal_cons hs hr
  have F := full_lists h
  unfold secA
  rw [Nat.zero_mul, List.drop_zero, List.drop_zero, F.1, F.2, ← hE]
  exact Arr.eta y
theorem dep_right {y : Arr} (h : rightS y = 0) : depA y = maxD y.items 0 := by
  obtain ⟨h1, h2, h3, h4⟩ := right_iff.1 h
  have hs := sumW_nn y.items
  have hn : ¬ (y.nums.any (fun x => !elemB y.kind x) = true) := fun q => by
    obtain ⟨x, hx, hb⟩ := List.any_eq_true.1 q
    simp [h2 x hx] at hb
  have hm : maxD y.items 0 ≤ 16 := maxD_le.2 ⟨by omega, fun x hx => (h3 x hx).2⟩
  have e := chkL_some (l := y.items) (d := 0) (w := (y.nums.length : Int) + y.items.length) (fun x hx => (h3 x hx).1) (by omega)
  rw [show min ((y.nums.length : Int) + y.items.length) 262145 = (y.nums.length : Int) + y.items.length by omega] at e
  unfold depA
  rw [chk_eq, if_neg (by simp [h1]), if_neg hn, e]
  simp only [chkEnd]
  rw [if_neg (by omega)]
theorem maxD_ge : ∀ {l : List Arr} {d : Int}, d ≤ maxD l d
  | [], d => Int.le_refl _
  | x :: l, d => Int.le_trans (by omega) (maxD_ge (l := l) (d := max d (depA x + 1)))
theorem maxD_snoc : ∀ (l : List Arr) (x : Arr) (d : Int), maxD (l ++ [x]) d = max (maxD l d) (depA x + 1)
  | [], x, d => rfl
  | z :: l, x, d => by simp only [List.cons_append, maxD]; exact maxD_snoc l x _
theorem dep_bd {y : Arr} (h : rightS y = 0) : 0 ≤ depA y ∧ depA y ≤ 16 := by
  rw [dep_right h]
  exact ⟨maxD_ge, maxD_le.2 ⟨by omega, fun x hx => ((right_iff.1 h).2.2.1 x hx).2⟩⟩
theorem Chn.mem : ∀ {l : List (Nat × Nat)} {s e : Nat}, Chn s l e → ∀ p ∈ l, s ≤ p.1 ∧ p.1 + p.2 ≤ e
  | [], s, e, _, p, hp => by simp at hp
  | p :: l, s, e, h, q, hq => by
    rcases List.mem_cons.1 hq with rfl | hq
    · have := h.2.2.le; have := h.1; omega
    · have := Chn.mem h.2.2 q hq; have := h.2.1; omega
theorem sec_wt {y : Arr} (h : rightS y = 0) (hr : y.shape.length ≠ 0) {q m : Nat} (hm : q + m ≤ talM y) : wtS (secA y q m) ≤ wtS y := by
  rw [wt_right h, wt_right (sec_right h hr hm)]
  have l1 : (secA y q m).nums.length ≤ y.nums.length := by unfold secA; simp only [Arr.nums, List.length_take, List.length_drop]; omega
  have l2 : (secA y q m).items.length ≤ y.items.length := by unfold secA; simp only [Arr.items, List.length_take, List.length_drop]; omega
  have l3 : sumW (secA y q m).items ≤ sumW y.items := sumW_sub _ _
  omega
theorem sumW_all {l : List Arr} {c : Int} (h : ∀ x ∈ l, wtS x ≤ c) : sumW l ≤ l.length * c := by
  induction l with
  | nil => simp [sumW]
  | cons x l ih =>
    have := ih fun y hy => h y (List.mem_cons_of_mem _ hy)
    have := h x (List.mem_cons_self ..)
    simp only [sumW, List.length_cons]
    rw [Int.natCast_add, Int.add_mul]
    omega
theorem dep_sub {y : Arr} (h : rightS y = 0) {l : List Arr} (hl : ∀ x ∈ l, x ∈ y.items) {d : Int} (hd : maxD y.items 0 ≤ d) : maxD l 0 ≤ d := by
  rw [maxD_le] at hd ⊢
  exact ⟨hd.1, fun x hx => hd.2 x (hl x hx)⟩
theorem Chn.len : ∀ {l : List (Nat × Nat)} {s e : Nat}, Chn s l e → s + l.length ≤ e
  | [], s, e, h => by have h : s = e := h; simp; omega
  | p :: l, s, e, h => by have := Chn.len h.2.2; have := h.2.1; simp only [List.length_cons]; omega
theorem cut_law {y : Arr} {l : List Int} (h : rightS y = 0) (hr : y.shape.length = 1) (hb : bitL l) (hl : l.length = talM y) (h0 : 0 < l.length) (h1 : numF l 0 ≠ 0) (hd : depA y ≤ 15) (hw : wtS y ≤ 60) :
    CutOk (vecA l) y ∧ GrpAt (vecA l) y 0 0 ∧ 0 < (cuts l l.length).length := by
  have hs := (right_ok h).2.1
  have ht := tal_le hs
  have hr0 : y.shape.length ≠ 0 := by omega
  have r1 : rightS (vecA l) = 0 := vec_right (by omega) (fun n hn => by
    obtain ⟨k, hk, rfl⟩ := List.getElem_of_mem hn
    have := hb k hk
    rw [List.getD_eq_getElem?_getD, List.getElem?_eq_getElem hk, Option.getD_some] at this
    show numB _ = true
    simp [numB]
    omega)
  have hbb : l.all bitB = true := List.all_eq_true.2 fun n hn => by
    obtain ⟨k, hk, rfl⟩ := List.getElem_of_mem hn
    have := hb k hk
    rw [List.getD_eq_getElem?_getD, List.getElem?_eq_getElem hk, Option.getD_some] at this
    simpa [bitB] using this
  have hc := cuts_chn (l := l) (f := 0) (fun j hj => by omega) h1 (l.length - 1)
  rw [show 0 + 1 + (l.length - 1) = l.length by omega] at hc
  have hlen := hc.1.len
  have hn60 : talM y ≤ 60 := by
    have hz := sz_tal h
    have hcl : celL y = [] := List.eq_nil_of_length_eq_zero (by unfold celL; rw [List.length_drop]; omega)
    have hcn : celN y = 1 := by unfold celN; rw [hcl]; rfl
    rw [hcn, Nat.mul_one] at hz
    have hw' := wt_right h
    have := sumW_nn y.items
    unfold szA szN at hz
    split at hz
    · omega
    · split at hz <;> omega
  have hG : ∀ p ∈ cuts l l.length, p.1 + p.2 ≤ talM y := fun p hp => by have := (hc.1.mem p hp).2; omega
  have hit : ∀ z ∈ (cuts l l.length).map (grpA y), rightS z = 0 ∧ depA z + 1 ≤ 16 ∧ wtS z ≤ 60 := fun z hz => by
    obtain ⟨p, hp, rfl⟩ := List.mem_map.1 hz
    have hm := hG p hp
    obtain ⟨q, m⟩ := p
    have hR : rightS (grpA y (q, m)) = 0 := sec_right h hr0 hm
    refine ⟨hR, ?_, Int.le_trans (sec_wt h hr0 hm) hw⟩
    rw [dep_right hR]
    have := dep_sub h (l := (grpA y (q, m)).items) (fun x hx => List.mem_of_mem_drop (List.mem_of_mem_take hx)) (d := 15) (by rw [← dep_right h]; exact hd)
    omega
  have hR : rightS (cutA (vecA l) y) = 0 := by
    refine right_iff.2 ⟨?_, (fun (n : Int) (hn : n ∈ ([] : List Int)) => by cases hn), fun z hz => ?_, ?_⟩
    · refine form_of (Or.inr (Or.inr rfl)) (shapeB_one (by omega) (by show (((cuts l l.length).length : Nat) : Int) ≤ 65536; omega)) (Or.inl ⟨rfl, ?_, rfl⟩)
      show (((cuts l l.length).map (grpA y)).length : Int) = cnt [((cuts l l.length).length : Int)]
      rw [cnt_one, List.length_map]
    · obtain ⟨a, b, _⟩ := hit z hz
      exact ⟨a, b⟩
    · show ((0 : Nat) : Int) + (((cuts l l.length).map (grpA y)).length : Int) + sumW ((cuts l l.length).map (grpA y)) ≤ 262144
      have := sumW_all fun z hz => (hit z hz).2.2
      rw [List.length_map] at this ⊢
      omega
  refine ⟨⟨chk26_of ⟨r1, h, rfl, by simp [vecA, Arr.shape]⟩, hl, hbb, hR⟩, GrpAt.start (Nat.zero_le _) (fun j hj => by omega) (Or.inr h1), List.length_pos_iff.2 hc.2⟩
end Go.Proofs.Ytdpdcjadedcglaa
namespace Go.Proofs.Ytdpdcjadedcglaa
open Go.RowKit Go.Sort
attribute [local go_sem ↓] run_max2 run_min2
attribute [local go_sem] eql_ints_nil eql_arrs_nil
set_option maxRecDepth 100000 in
set_option maxHeartbeats 4000000 in
theorem top_deep (y : Arr) : ∀ (sy : Option Addr) (cy : Nat) (ny : Option Addr) (my : Nat) (iy : Option Addr) (jy : Nat) (S : Nat → Prop) (w : World), ArrAt w S y sy ny iy → rightS y = 0 →
    Calls Try.prog 17 #[.agg #[.int .i64 y.kind, .slice sy y.shape.length cy, .slice ny y.nums.length my, .slice iy y.items.length jy]] w fun e w' => e = .returned (.int .i64 (depA y)) ∧ Below w.heap.size w w' := by
  induction y using Arr.ind with
  | h y IH =>
    intro sy cy ny my iy jy S w h hr
    have IH := hid IH
    refine calls_post fun R' hR => ?_
    have h0 := hid h
    have hil := h.len
    have hdr : Hid (depA y = maxD y.items 0) := hid (dep_right hr)
    have hri := hid (right_iff.1 hr).2.2.1
    clear h hr
    go_enter Try.func17, Try.ntmps17
    go_upto_region 1 with (fail)
    generalize hEW : (w).alloc (.cells #[.int .i64 y.kind, .slice sy y.shape.length cy, .slice ny y.nums.length my, .slice iy y.items.length jy] 27) = W
    have E := hid (env1 w S hEW)
    clear hEW
    replace E := hid (E.out.arg h0.out)
    (try simp only [List.cons_append, List.nil_append, List.set_cons_zero, List.set_cons_succ] at E)
    go_wp2_with fail
    go_loopw [3, 4] (fun d i wr => ∃ k : Nat, k ≤ y.items.length ∧ d = .int .i64 (maxD (y.items.take k) 0) ∧ i = .int .i64 (k : Int) ∧ Env w S wr [.obj w.heap.size (.cells #[.int .i64 y.kind, .slice sy y.shape.length cy, .slice ny y.nums.length my, .slice iy y.items.length jy] 27 (0, 0)), .arr y sy ny iy]) (fun _ i _ => y.items.length - (intOf i).toNat)
    case atStart => exact ⟨0, Nat.zero_le _, rfl, rfl, E.out⟩
    case round =>
      clear E
      obtain ⟨q, hq, rfl, rfl, E⟩ := hrel
      replace E := hid E
      by_cases hlt : q < y.items.length
      case pos =>
        obtain ⟨b', off', sz, cz, nz, mz, iz, jz, hia, hSb', hbl', e0, e1, e2, e3, hz⟩ := (E.out.arr 1 rfl).items.at hlt
        have hmem := hid (List.getElem_mem hlt)
        have hstep : maxD (y.items.take (q + 1)) 0 = max (maxD (y.items.take q) 0) (depA y.items[q] + 1) := by
          rw [← List.take_append_getElem hlt, maxD_snoc]
        have hzr := hri.out _ (List.getElem_mem hlt)
        generalize y.items[q] = z at hstep hzr hmem e0 e1 e2 e3 hz
        have hzb := dep_bd hzr.1
        obtain ⟨dz, hdz⟩ : ∃ d, d = depA z := ⟨_, rfl⟩
        obtain ⟨dc, hdc⟩ : ∃ d, d = maxD (y.items.take q) 0 := ⟨_, rfl⟩
        rw [← hdz] at hstep hzb
        rw [← hdc] at hstep ⊢
        have hzr1 := hid hzr.1
        have hdz2 : Hid (depA z = dz) := hid hdz.symm
        replace hdz := hid hdz
        replace hdc := hid hdc
        replace hstep := hid hstep
        clear hzr
        replace E := hid (E.out.addArr hz (fun _ _ h => h))
        (try simp only [List.cons_append, List.nil_append, List.set_cons_zero, List.set_cons_succ] at E)
        clear hz
        have tt0 : (0 : Int) ≤ (q : Int) := by omega
        have tt1 : (q : Int) < (y.items.length : Int) := by omega
        have hw1 : IntKind.i64.wrap (dz + 1) = dz + 1 := IntWalk.i64_in _ (by omega)
        replace hia := hid hia
        obtain ⟨q00, q01, q02, q03⟩ := (E.out.hdr 0 rfl).all
        rw [hia.out] at q03
        go_wp2_with fail
        clear q00 q01 q02 q03
        refine (IH.out z hmem.out _ _ _ _ _ _ _ _ (E.out.arr 2 rfl) hzr1.out).mono ?_
        rintro e w7 ⟨rfl, hb⟩
        rw [hdz2.out]
        replace E := hid (E.out.up hb)
        clear hb e0 e1 e2 e3
        go_wp2_with fail
        go_roundw
        case rel => exact ⟨q + 1, by omega, by rw [hstep.out], by go_num, E.out.sub (List.Sublist.cons_cons _ (List.Sublist.cons_cons _ (List.nil_sublist _)))⟩
        case measure => simp [intOf]; omega
      case neg =>
        have hqe : y.items.take q = y.items := List.take_of_length_le (by omega)
        rw [hqe]
        replace hqe := hid hqe
        obtain ⟨q00, q01, q02, q03⟩ := (E.out.hdr 0 rfl).all
        go_wp2_with fail
        exact hR.out _ _ ⟨by rw [hdr.out] <;> rfl, E.out.ext⟩
end Go.Proofs.Ytdpdcjadedcglaa
namespace Go.Proofs.Ytdpdcjadedcglaa
open Go.RowKit Go.ChangeShapes Go.WideShapes Go.ChangeAt
def BoolsAt (w : World) (T : Nat → Prop) (ao : Option Addr) (l : List Bool) : Prop :=
  ∀ k (h : k < l.length), ∃ b off, ao = some ⟨b, off, none⟩ ∧ T b ∧ b < w.heap.size ∧ w.cell? ⟨b, off + k, none⟩ = some (.bool l[k])
theorem BoolsAt.turn {w w' : World} {T T' : Nat → Prop} {ao : Option Addr} {l : List Bool} (h : BoolsAt w T ao l) (hk : ∀ b, T b → b < w.heap.size → w'.heap[b]? = w.heap[b]?) (hT : ∀ b, b < w.heap.size → T b → T' b) : BoolsAt w' T' ao l := fun k hl => by
  obtain ⟨b, off, e, hb, hlt, hc⟩ := h k hl
  have hq := hk b hb hlt
  refine ⟨b, off, e, hT b hlt hb, ?_, ?_⟩
  · rw [Array.getElem?_eq_getElem hlt] at hq
    exact (Array.getElem?_eq_some_iff.1 hq).1
  · rw [← hc]; simp only [World.cell?]; rw [hq]
@[reducible] def boolsF (ao : Option Addr) (l : List Bool) : Fact := .gen [] (fun _ T w => BoolsAt w T ao l) (fun B T T' w w' h hb hk hT => h.turn hk hT)
theorem Env.argB {w0 w : World} {S : Nat → Prop} {L : List Fact} (E : Env w0 S w L) {ao : Option Addr} {l : List Bool} (h : BoolsAt w0 S ao l) : Env w0 S w (L ++ [Go.Proofs.Ytdpdcjadedcglaa.boolsF ao l]) :=
  E.add rfl (((h.turn (T' := fun b => S b ∧ b < w0.heap.size) (fun _ _ _ => rfl) fun b hb hs => ⟨hs, hb⟩)).turn (fun b hb _ => E.ext.block b hb.2) fun b _ hb => E.old hb)
theorem Env.bools {w0 w : World} {S : Nat → Prop} {L : List Fact} (E : Env w0 S w L) (j : Nat) {ao : Option Addr} {l : List Bool} (h : L[j]? = some (Go.Proofs.Ytdpdcjadedcglaa.boolsF ao l)) : BoolsAt w (Tst w0 S L) ao l := E.get j h
theorem open_boolsV {H : Type} {enc : TypeId × Value → H} {W : World} {ao : Option Addr} {len cap : Nat} {d : DataW H} {p : List MemPlace}
    (h : DataW.Trod enc Try.prog W 0 (fun _ => true) true 39 (.slice ao len cap) d p) (hz : ∀ n ∈ d.weights Try.prog 39, n ≤ reachBytes) :
    ∃ bs : List Bool, len = bs.length ∧ BoolsAt W (fun b => b < W.heap.size) ao bs := by
  obtain ⟨fuel, hf⟩ := h
  replace hf : DataW.trod enc Try.prog W 0 (fun _ => true) true fuel 39 [.slice ao len cap] = some (d, p) := by simpa [Value.cells] using hf
  rcases DataW.trod_slice Try.underlying39 hf with ⟨hcs, _⟩ | ⟨a, len2, cap2, elems, rest, m, hm, hcs, hx, _, hlc, hcm, hel, hall, _, _⟩
  · simp at hcs
    obtain ⟨rfl, rfl, rfl⟩ := hcs
    exact ⟨[], rfl, fun k hk => by simp at hk⟩
  · simp at hcs
    obtain ⟨rfl, rfl, rfl⟩ := hcs
    have h1 : Try.prog.cellsOf 4 = 1 := by kernel_rfl
    rw [h1] at hall
    have each : ∀ i, ∃ q : Bool, i < len → W.cell? (a.add i) = some (.bool q) := by
      intro i
      by_cases hi : i < len
      · have hb := hall i hi
        rw [List.getElem?_eq_getElem (by omega), Nat.mul_one] at hb
        obtain ⟨cs', hc', ht'⟩ := Option.bind_eq_some_iff.1 hb
        obtain ⟨q, rfl, _⟩ := DataW.trod_bool Try.underlying4 ht'
        exact ⟨q, fun _ => cell_of_cells?_one hc'⟩
      · exact ⟨false, fun h => absurd h hi⟩
    obtain ⟨q, hq⟩ := Classical.axiomOfChoice each
    refine ⟨(List.range len).map q, by simp, fun k hk => ?_⟩
    have hk' : k < len := by simpa using hk
    have e0 := hq 0 (by omega)
    have ek := hq k hk'
    obtain ⟨b, off, spot⟩ := a
    have hspot : spot = none := by
      have := World.cell?_spot e0
      simpa [Addr.add] using this
    subst hspot
    simp only [Addr.add_lit] at ek
    have hb : b < W.heap.size := World.block_lt_of_cell? W _ ek
    exact ⟨b, off, rfl, hb, hb, by simpa using ek⟩
end Go.Proofs.Ytdpdcjadedcglaa
