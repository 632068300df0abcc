/- joining.join: contract. Conditions: the arrays are read; a slice's capacity is at least its length. -/
import Derived.Test.YtdpdcjadedcglaaGV
import Derived.Test.YtdpdcjadedcglaaGK
import Derived.Test.YtdpdcjadedcglaaA17
import Derived.Test.YtdpdcjadedcglaaP20D
import Derived.Deep.CutRange
import Derived.Deep.DeepCutAuto
set_option linter.unusedVariables false
set_option maxRecDepth 20000
set_option linter.unusedSimpArgs false
namespace Go.Proofs.Ytdpdcjadedcglaa
open Go.RowKit Go.Sort
attribute [local go_sem ↓] run_max2 run_min2
attribute [local go_sem] eql_ints_nil eql_arrs_nil
def isRank (b : Bool) (x y : Arr) : Prop := b = true ↔ rankB x y
theorem isRank_no {x y : Arr} (h : x.shape.length = 0 ∨ y.shape.length = 0 ∨ (¬ y.shape.length + 1 < x.shape.length ∧ ¬ x.shape.length + 1 < y.shape.length)) : isRank false x y := ⟨fun q => (by cases q), fun q => by unfold rankB at q; omega⟩
theorem isRank_yes {x y : Arr} (h : x.shape.length ≠ 0) (g : y.shape.length ≠ 0) (k : y.shape.length + 1 < x.shape.length ∨ x.shape.length + 1 < y.shape.length) : isRank true x y := ⟨fun _ => ⟨by omega, by omega, k⟩, fun _ => rfl⟩
theorem exW_bd {x : Arr} {s : List Int} (h : shapeB s = true) : 0 ≤ exW x s ∧ exW x s ≤ 17179934720 := by
  have h1 := cnt_le h
  have h2 := wtS_bd x
  unfold exW
  split
  · exact mul_bd h1.1 h1.2 h2.1 h2.2
  · omega
theorem dim_bd {s : List Int} (h : shapeB s = true) {k : Nat} (hk : k < s.length) : 0 ≤ s.getD k 0 ∧ s.getD k 0 ≤ 65536 := by
  obtain ⟨h1, h2, h3⟩ := shapeB_iff.1 h
  exact ⟨h2 _ (getD_mem hk), Int.le_trans (prodNZ_ge_mem h2 (getD_mem hk)) h3⟩
/-- what join returns: its shape and its numbers are new -/
def RetJ (w : World) (S : Nat → Prop) (a : Arr) (n : Int) (e : Ending) (w' : World) : Prop :=
  ∃ sa sc na nc ia ic, e = .returned (.tuple #[.agg #[.int .i64 a.kind, .slice sa a.shape.length sc, .slice na a.nums.length nc, .slice ia a.items.length ic], .int .i64 n]) ∧ (IntsAt w' (fun b => w.heap.size ≤ b) sa a.shape ∧ IntsAt w' (fun b => w.heap.size ≤ b) na a.nums ∧ a.items.length ≤ 1759218604441 ∧ ItemsAt w' (fun b => S b ∨ w.heap.size ≤ b) ia 0 a.items) ∧ Below w.heap.size w w' ∧ a.shape.length ≤ sc ∧ a.nums.length ≤ nc ∧ a.items.length ≤ ic
theorem RetJ.to {w w' : World} {S : Nat → Prop} {a : Arr} {n : Int} {e : Ending} (h : RetJ w S a n e w') : RetAEC w (fun b => S b ∨ w.heap.size ≤ b) a n e w' := by
  obtain ⟨sa, sc, na, nc, ia, ic, h1, ⟨q1, q2, q3, q4⟩, h3⟩ := h
  exact ⟨sa, sc, na, nc, ia, ic, h1, ArrAt.iff.2 ⟨q1.mono fun _ _ h => Or.inr h, q2.mono fun _ _ h => Or.inr h, q3, q4⟩, h3⟩
theorem RetJ.new {w w' : World} {S : Nat → Prop} {a : Arr} {n : Int} {e : Ending} (h : RetJ w S a n e w') (hi : a.items = []) : RetAEC w (fun b => w.heap.size ≤ b) a n e w' := by
  obtain ⟨sa, sc, na, nc, ia, ic, h1, ⟨q1, q2, q3, q4⟩, h3⟩ := h
  exact ⟨sa, sc, na, nc, ia, ic, h1, ArrAt.iff.2 ⟨q1, q2, q3, by rw [hi]; simp only [ItemsAt]⟩, h3⟩
theorem RetJ.zero {w V : World} {S : Nat → Prop} {a : Arr} {n m : Int} (E : a = .zero) (E2 : n = m) (hb : Below w.heap.size w V) : RetJ w S a n (.returned (.tuple #[.agg #[.int .i64 0, .slice none 0 0, .slice none 0 0, .slice none 0 0], .int .i64 m])) V := by
  subst E; subst E2; exact ⟨none, 0, none, 0, none, 0, rfl, ⟨IntsAt.nil _ _ _, IntsAt.nil _ _ _, (zero_at V (fun b => S b ∨ w.heap.size ≤ b) none none none).len, (zero_at V (fun b => S b ∨ w.heap.size ≤ b) none none none).items⟩, hb, Nat.le_refl _, Nat.le_refl _, Nat.le_refl _⟩
theorem RetJ.of {w V : World} {S : Nat → Prop} {a : Arr} {k : Int} {s n : List Int} {l : List Arr} {e e' : Int} {sa na ia : Option Addr} {sl sc nc ic : Nat} (E : a = .mk k s n l) (E2 : e = e') (hs : s.length = sl) (h1 : IntsAt V (fun b => w.heap.size ≤ b) sa s) (h2 : IntsAt V (fun b => w.heap.size ≤ b) na n) (hl : l.length ≤ 1759218604441) (h3 : ItemsAt V (fun b => S b ∨ w.heap.size ≤ b) ia 0 l) (hb : Below w.heap.size w V) (c1 : s.length ≤ sc) (c2 : n.length ≤ nc) (c3 : l.length ≤ ic) :
    RetJ w S a e (.returned (.tuple #[.agg #[.int .i64 k, .slice sa sl sc, .slice na n.length nc, .slice ia l.length ic], .int .i64 e'])) V := by
  subst E; subst E2; subst hs; exact ⟨sa, sc, na, nc, ia, ic, rfl, ⟨h1, h2, hl, h3⟩, hb, c1, c2, c3⟩
theorem IntsAt.at_blk {w : World} {T U : Nat → Prop} {g o : Nat} {xs : List Int} (h : IntsAt w T (some ⟨g, o, none⟩) xs) (hg : U g) : IntsAt w U (some ⟨g, o, none⟩) xs :=
  ⟨h.1, fun h0 => by obtain ⟨b, off, e, hs, hlt, hc⟩ := h.2 h0; injection e with e; injection e with e1 e2; subst e1; exact ⟨g, off, by rw [e2], hg, hlt, hc⟩⟩
set_option maxRecDepth 100000 in
set_option maxHeartbeats 8000000 in
theorem joining_join (last : Bool) (x : Arr) (sx : Option Addr) (cx : Nat) (nx : Option Addr) (mx : Nat) (ix : Option Addr) (jx : Nat) (y : Arr) (sy : Option Addr) (cy : Nat) (ny : Option Addr) (my : Nat) (iy : Option Addr) (jy : Nat) (S : Nat → Prop) (w : World) (h : ArrAt w S x sx nx ix) (g : ArrAt w S y sy ny iy) (hcx : x.shape.length ≤ cx ∧ x.nums.length ≤ mx ∧ x.items.length ≤ jx) (hcy : y.shape.length ≤ cy ∧ y.nums.length ≤ my ∧ y.items.length ≤ jy) :
    Calls Try.prog 47 #[.agg #[.int .i64 x.kind, .slice sx x.shape.length cx, .slice nx x.nums.length mx, .slice ix x.items.length jx], .agg #[.int .i64 y.kind, .slice sy y.shape.length cy, .slice ny y.nums.length my, .slice iy y.items.length jy], .bool last] w (RetJ w S (joinS last x y) (joinE last x y)) := by
  refine calls_post fun R' hR => ?_
  have h0 := hid h
  have g0 := hid g
  clear h g
  go_enter Try.func47, Try.ntmps47
  go_upto_region 1 with (fail)
  generalize hEW : (((w).alloc (.cells #[.int .i64 x.kind, .slice sx x.shape.length cx, .slice nx x.nums.length mx, .slice ix x.items.length jx] 27)).alloc (.cells #[.int .i64 y.kind, .slice sy y.shape.length cy, .slice ny y.nums.length my, .slice iy y.items.length jy] 27)).alloc (.cells #[.int .i64 0, .slice none 0 0, .slice none 0 0, .slice none 0 0] 27) = W
  have E := hid (env3 w S hEW)
  clear hEW
  replace E := hid ((E.out.arg h0.out).arg g0.out)
  (try simp only [List.cons_append, List.nil_append, List.set_cons_zero, List.set_cons_succ] at E)
  obtain ⟨q00, q01, q02, q03⟩ := (E.out.hdr 0 rfl).all
  go_wp2_with fail
  clear q00 q01 q02 q03
  refine (array_Right x _ _ _ _ _ _ _ _ (E.out.arr 3 rfl)).mono ?_
  rintro e w1 ⟨rfl, hb⟩
  replace E := hid (E.out.up hb)
  clear hb
  by_cases c : rightS x = 0
  case neg =>
    have cb : (rightS x != 0) = true := by simpa using c
    have hn := hid (joinE_x (last := last) (y := y) c)
    have hv := hid (joinS_no (last := last) (x := x) (y := y) (by rw [hn.out]; decide))
    replace c := hid c
    go_wp2_with (refine wpl_store4 rfl (.tmp 6) (.tmp 31) rfl _ rfl rfl (E.out.hdr 2 rfl) ?_; intro V HV CV; replace E := hid (E.out.chg 2 rfl CV HV))
    exact bodyPost_ret (end_arr2 rfl HV rfl rfl) rfl (hR.out _ _ (RetJ.zero hv.out hn.out E.out.ext))
  have cb : (rightS x != 0) = false := by simpa using c
  obtain ⟨q10, q11, q12, q13⟩ := (E.out.hdr 1 rfl).all
  go_wp2_with fail
  clear q10 q11 q12 q13
  refine (array_Right y _ _ _ _ _ _ _ _ (E.out.arr 4 rfl)).mono ?_
  rintro e w2 ⟨rfl, hb⟩
  replace E := hid (E.out.up hb)
  clear hb
  by_cases d : rightS y = 0
  case neg =>
    have db : (rightS y != 0) = true := by simpa using d
    have hn := hid (joinE_y (last := last) (x := x) d)
    have hv := hid (joinS_no (last := last) (x := x) (y := y) (by rw [hn.out]; decide))
    replace c := hid c
    replace d := hid d
    go_wp2_with (refine wpl_store4 rfl (.tmp 6) (.tmp 31) rfl _ rfl rfl (E.out.hdr 2 rfl) ?_; intro V HV CV; replace E := hid (E.out.chg 2 rfl CV HV))
    exact bodyPost_ret (end_arr2 rfl HV rfl rfl) rfl (hR.out _ _ (RetJ.zero hv.out hn.out E.out.ext))
  have db : (rightS y != 0) = false := by simpa using d
  have xok := right_ok c
  have yok := right_ok d
  have xs8 := (shapeB_iff.1 xok.2.1).1
  have ys8 := (shapeB_iff.1 yok.2.1).1
  replace xok := hid xok
  replace yok := hid yok
  replace c := hid c
  replace d := hid d
  go_upto_region 3 with (fail)
  obtain ⟨q00, q01, q02, q03⟩ := (E.out.hdr 0 rfl).all
  obtain ⟨q10, q11, q12, q13⟩ := (E.out.hdr 1 rfl).all
  refine wp_region_mono (Sees w2 [(⟨w.heap.size, 0, none⟩, .int .i64 x.kind), (⟨w.heap.size, 1, none⟩, .slice sx x.shape.length cx), (⟨w.heap.size, 2, none⟩, .slice nx x.nums.length mx), (⟨w.heap.size, 3, none⟩, .slice ix x.items.length jx), (⟨(w.heap.size+1), 0, none⟩, .int .i64 y.kind), (⟨(w.heap.size+1), 1, none⟩, .slice sy y.shape.length cy), (⟨(w.heap.size+1), 2, none⟩, .slice ny y.nums.length my), (⟨(w.heap.size+1), 3, none⟩, .slice iy y.items.length jy)]) [] (fun k v u u' => match k with  | _ => False) (fun _ _ h e => h.up e) (Sees.start (all_cons ((E.out.hdr 0 rfl).c0) (all_cons ((E.out.hdr 0 rfl).c1) (all_cons ((E.out.hdr 0 rfl).c2) (all_cons ((E.out.hdr 0 rfl).c3) (all_cons ((E.out.hdr 1 rfl).c0) (all_cons ((E.out.hdr 1 rfl).c1) (all_cons ((E.out.hdr 1 rfl).c2) (all_cons ((E.out.hdr 1 rfl).c3) (all_nil)))))))))) (by kernel_rfl) (by kernel_rfl) ?_
  repeat (first | (refine m_plain (v := ?_) (by rfl) (by rfl) ?_ ?_; rotate_left; (intro wz hSw; obtain ⟨-, hSc⟩ := hSw; (try simp only [List.forall_mem_cons, List.forall_mem_nil, and_true] at hSc); go_simp; (first | done | with_reducible rfl)); (intro K hK; (try simp only [Act.put, List.setIfInBounds_toArray, List.set_cons_zero, List.set_cons_succ]); refine hK _ _ ?_; clear hK K)) | (refine m_skip (by rfl) (by rfl) ?_; (intro K hK; (try simp only [Act.put, List.setIfInBounds_toArray, List.set_cons_zero, List.set_cons_succ]); refine hK _ _ ?_; clear hK K)))
  refine m_nil ?_
  intro w3 hSf hAf
  replace E := hid (E.out.up hSf.1)
  clear hSf hAf
  clear q00 q01 q02 q03 q10 q11 q12 q13
  obtain ⟨q00, q01, q02, q03⟩ := (E.out.hdr 0 rfl).all
  obtain ⟨q10, q11, q12, q13⟩ := (E.out.hdr 1 rfl).all
  by_cases k : x.kind = y.kind
  case neg =>
    have kb : (x.kind != y.kind) = true := by simpa using k
    have hn := hid (joinE_k (last := last) c.out d.out k)
    have hv := hid (joinS_no (last := last) (x := x) (y := y) (by rw [hn.out]; decide))
    replace k := hid k
    go_wp2_with (refine wpl_store4 rfl (.tmp 6) (.tmp 44) rfl _ rfl rfl (E.out.hdr 2 rfl) ?_; intro V HV CV; replace E := hid (E.out.chg 2 rfl CV HV))
    exact bodyPost_ret (end_arr2 rfl HV rfl rfl) rfl (hR.out _ _ (RetJ.zero hv.out hn.out E.out.ext))
  have kb : (x.kind != y.kind) = false := by simpa using k
  replace k := hid k
  go_upto_region 6 with (fail)
  go_cut [45] (fun v wc => ∃ b : Bool, isRank b x y ∧ v = .bool b ∧ Env w S wc [.obj w.heap.size (.cells #[.int .i64 x.kind, .slice sx x.shape.length cx, .slice nx x.nums.length mx, .slice ix x.items.length jx] 27 (0, 0)), .obj (w.heap.size + 1) (.cells #[.int .i64 y.kind, .slice sy y.shape.length cy, .slice ny y.nums.length my, .slice iy y.items.length jy] 27 (0, 0)), .obj (w.heap.size + 1 + 1) (.cells #[.int .i64 0, .slice none 0 0, .slice none 0 0, .slice none 0 0] 27 (0, 0)), .arr x sx nx ix, .arr y sy ny iy])
  case first =>
    by_cases p0 : x.shape.length = 0
    · have f1 : ¬ (0 : Int) < (x.shape.length : Int) := by omega
      have hb := isRank_no (x := x) (y := y) (by omega)
      replace p0 := hid p0
      go_wp2_with fail
      go_meet
      case rel => exact ⟨false, hb, rfl, E.out⟩
    · have f1 : (0 : Int) < (x.shape.length : Int) := by omega
      by_cases q0 : y.shape.length = 0
      · have f2 : ¬ (0 : Int) < (y.shape.length : Int) := by omega
        have hb := isRank_no (x := x) (y := y) (by omega)
        replace q0 := hid q0
        go_wp2_with fail
        go_meet
        case rel => exact ⟨false, hb, rfl, E.out⟩
      · have f2 : (0 : Int) < (y.shape.length : Int) := by omega
        by_cases r1 : y.shape.length + 1 < x.shape.length
        · have f3 : (y.shape.length : Int) + 1 < (x.shape.length : Int) := by omega
          have hb := isRank_yes (x := x) (y := y) (by omega) (by omega) (by omega)
          go_wp2_with fail
          go_meet
          case rel => exact ⟨true, hb, rfl, E.out⟩
        · have f3 : ¬ (y.shape.length : Int) + 1 < (x.shape.length : Int) := by omega
          by_cases r2 : x.shape.length + 1 < y.shape.length
          · have f4 : (x.shape.length : Int) + 1 < (y.shape.length : Int) := by omega
            have hb := isRank_yes (x := x) (y := y) (by omega) (by omega) (by omega)
            go_wp2_with fail
            go_meet
            case rel => exact ⟨true, hb, rfl, E.out⟩
          · have f4 : ¬ (x.shape.length : Int) + 1 < (y.shape.length : Int) := by omega
            have hb := isRank_no (x := x) (y := y) (by omega)
            go_wp2_with fail
            go_meet
            case rel => exact ⟨false, hb, rfl, E.out⟩
  case rest =>
  clear q00 q01 q02 q03 q10 q11 q12 q13
  clear E
  obtain ⟨b, hb, rfl, E⟩ := hcut
  replace E := hid E
  cases b with
  | true =>
    have hr : rankB x y := hb.1 rfl
    have hn := hid (joinE_r (last := last) c.out d.out k.out hr)
    have hv := hid (joinS_no (last := last) (x := x) (y := y) (by rw [hn.out]; decide))
    clear hr
    go_wp2_with (refine wpl_store4 rfl (.tmp 6) (.tmp 64) rfl _ rfl rfl (E.out.hdr 2 rfl) ?_; intro V HV CV; replace E := hid (E.out.chg 2 rfl CV HV))
    exact bodyPost_ret (end_arr2 rfl HV rfl rfl) rfl (hR.out _ _ (RetJ.zero hv.out hn.out E.out.ext))
  | false =>
  have hr : Hid (¬ rankB x y) := hid (fun q => by have := hb.2 q; cases this)
  clear hb
  go_upto_region 9 with (fail)
  have hmx : (if (if 1 < (x.shape.length : Int) then (x.shape.length : Int) else 1) < (y.shape.length : Int) then (y.shape.length : Int) else if 1 < (x.shape.length : Int) then (x.shape.length : Int) else 1) = ((jR x y : Nat) : Int) := by unfold jR; split <;> split <;> omega
  rw [hmx]
  clear hmx
  have hax := jX_lt (last := last) (x := x) (y := y)
  have hr9 : jR x y ≤ 8 := by unfold jR; omega
  have hext := hid (ext_ax (last := last) hr.out)
  have hext2 : Hid (y.shape.length < jR x y → ¬ (y.shape.length = 0 ∧ x.shape.length = jR x y) → jX last x y ≤ y.shape.length) := hid (by rw [jR_comm, jX_comm]; exact ext_ax (last := last) (fun q => hr.out (rankB_comm.2 q)))
  go_upto_if 68 with (fail)
  go_cut [11] (fun v wc => v = .int .i64 ((jX last x y : Nat) : Int) ∧ Env w S wc [.obj w.heap.size (.cells #[.int .i64 x.kind, .slice sx x.shape.length cx, .slice nx x.nums.length mx, .slice ix x.items.length jx] 27 (0, 0)), .obj (w.heap.size + 1) (.cells #[.int .i64 y.kind, .slice sy y.shape.length cy, .slice ny y.nums.length my, .slice iy y.items.length jy] 27 (0, 0)), .obj (w.heap.size + 1 + 1) (.cells #[.int .i64 0, .slice none 0 0, .slice none 0 0, .slice none 0 0] 27 (0, 0)), .arr x sx nx ix, .arr y sy ny iy])
  case first =>
    cases last with
    | true =>
      have f1 : ((jR x y : Nat) : Int) - 1 = ((jX true x y : Nat) : Int) := by unfold jX; rw [if_pos rfl]; unfold jR; omega
      go_wp2_with fail
      go_meet
      case rel => exact ⟨rfl, E.out⟩
    | false =>
      go_wp2_with fail
      go_meet
      case rel => exact ⟨rfl, E.out⟩
  case rest =>
  clear E
  obtain ⟨rfl, E⟩ := hcut
  replace E := hid E
  obtain ⟨r, hrr⟩ : ∃ r, r = jR x y := ⟨_, rfl⟩
  obtain ⟨ax, haxx⟩ : ∃ r, r = jX last x y := ⟨_, rfl⟩
  rw [← hrr, ← haxx] at hext hext2 hax
  rw [← hrr] at hr9 ⊢
  rw [← haxx]
  obtain ⟨A, hA⟩ : ∃ A, A = jA last x y := ⟨_, rfl⟩
  obtain ⟨B, hB⟩ : ∃ A, A = jB last x y := ⟨_, rfl⟩
  have hA' : Hid (extSh x.shape y.shape r ax = A) := hid (by rw [hA, hrr, haxx]; rfl)
  have hB' : Hid (extSh y.shape x.shape r ax = B) := hid (by rw [hB, hrr, haxx]; rfl)
  have lA : A.length = r := by rw [hA, hrr]; exact jA_len hr.out
  have lB : B.length = r := by rw [hB, hrr]; exact jB_len hr.out
  replace lA := hid lA
  replace lB := hid lB
  replace hA := hid hA
  replace hB := hid hB
  replace hrr := hid hrr
  replace haxx := hid haxx
  obtain ⟨q00, q01, q02, q03⟩ := (E.out.hdr 0 rfl).all
  obtain ⟨q10, q11, q12, q13⟩ := (E.out.hdr 1 rfl).all
  go_upto_region 12 with (fail)
  refine wp_region_mono_tail 14 (Sees wc [(⟨w.heap.size, 0, none⟩, .int .i64 x.kind), (⟨w.heap.size, 1, none⟩, .slice sx x.shape.length cx), (⟨w.heap.size, 2, none⟩, .slice nx x.nums.length mx), (⟨w.heap.size, 3, none⟩, .slice ix x.items.length jx), (⟨(w.heap.size+1), 0, none⟩, .int .i64 y.kind), (⟨(w.heap.size+1), 1, none⟩, .slice sy y.shape.length cy), (⟨(w.heap.size+1), 2, none⟩, .slice ny y.nums.length my), (⟨(w.heap.size+1), 3, none⟩, .slice iy y.items.length jy)]) [5, 11, 12, 13] (fun k v u u' => match k with | 5 => ExtPost x sx cx nx mx ix jx A u (.returned v) u' | 11 => ExtPost y sy cy ny my iy jy B u (.returned v) u' | 12 => v = .pointer (some ⟨u.heap.size, 0, none⟩) ∧ u' = u.alloc (.cells #[.int .i64 0, .slice none 0 0, .slice none 0 0, .slice none 0 0, .slice none 0 0] 99) | 13 => v = .pointer (some ⟨u.heap.size, 0, none⟩) ∧ u' = u.alloc (.cells #[.int .i64 0, .slice none 0 0, .slice none 0 0, .slice none 0 0, .slice none 0 0] 99) | _ => False) (fun _ _ h e => h.up e) (Sees.start (all_cons ((E.out.hdr 0 rfl).c0) (all_cons ((E.out.hdr 0 rfl).c1) (all_cons ((E.out.hdr 0 rfl).c2) (all_cons ((E.out.hdr 0 rfl).c3) (all_cons ((E.out.hdr 1 rfl).c0) (all_cons ((E.out.hdr 1 rfl).c1) (all_cons ((E.out.hdr 1 rfl).c2) (all_cons ((E.out.hdr 1 rfl).c3) (all_nil)))))))))) (by kernel_rfl) (by kernel_rfl) ?_
  simp only [List.take_succ_cons, List.take_zero, List.drop_succ_cons, List.drop_zero]
  repeat (first | (refine m_plain (v := ?_) (by rfl) (by rfl) ?_ ?_; rotate_left; (intro wz hSw; obtain ⟨-, hSc⟩ := hSw; (try simp only [List.forall_mem_cons, List.forall_mem_nil, and_true] at hSc); go_simp; (first | done | with_reducible rfl)); (intro K hK; (try simp only [Act.put, List.setIfInBounds_toArray, List.set_cons_zero, List.set_cons_succ]); refine hK _ _ ?_; clear hK K)) | (refine m_skip (by rfl) (by rfl) ?_; (intro K hK; (try simp only [Act.put, List.setIfInBounds_toArray, List.set_cons_zero, List.set_cons_succ]); refine hK _ _ ?_; clear hK K)))
  refine m_make (by rfl) (by rfl) ?_ ?_
  · intro wz hSw hdep R hRz
    obtain ⟨hSe, hSc⟩ := hSw
    (try simp only [List.forall_mem_cons, List.forall_mem_nil, and_true] at hSc)
    unfold does
    (go_simp; refine Calls.mono (joining_extend x sx cx nx mx ix jx y.shape sy cy r ax hax (by omega) _ wz (ArrAt.up (E.out.arr 3 rfl) hSe) ((E.out.arr 4 rfl).shape.up hSe) xs8 ys8 hext.out) ?_; rw [hA'.out]; intro e wq hq; obtain ⟨so, sc, rfl, h1, h2⟩ := hq; exact ⟨_, rfl, hRz.out _ _ ⟨h2, so, sc, rfl, h1, h2⟩⟩)
  intro v5 u5 x5 hG5 K hK
  have hF5 := hG5.fact
  (try dsimp only at hF5)
  obtain ⟨so5, sc5, he, hI5, hb5⟩ := hF5
  injection he with he
  subst he
  (try simp only [Act.put, List.setIfInBounds_toArray, List.set_cons_zero, List.set_cons_succ]); refine hK _ _ ?_; clear hK K
  repeat (first | (refine m_plain (v := ?_) (by rfl) (by rfl) ?_ ?_; rotate_left; (intro wz hSw; obtain ⟨-, hSc⟩ := hSw; (try simp only [List.forall_mem_cons, List.forall_mem_nil, and_true] at hSc); go_simp; (first | done | with_reducible rfl)); (intro K hK; (try simp only [Act.put, List.setIfInBounds_toArray, List.set_cons_zero, List.set_cons_succ]); refine hK _ _ ?_; clear hK K)) | (refine m_skip (by rfl) (by rfl) ?_; (intro K hK; (try simp only [Act.put, List.setIfInBounds_toArray, List.set_cons_zero, List.set_cons_succ]); refine hK _ _ ?_; clear hK K)))
  refine m_make (by rfl) (by rfl) ?_ ?_
  · intro wz hSw hdep R hRz
    obtain ⟨hSe, hSc⟩ := hSw
    (try simp only [List.forall_mem_cons, List.forall_mem_nil, and_true] at hSc)
    unfold does
    (go_simp; refine Calls.mono (joining_extend y sy cy ny my iy jy x.shape sx cx r ax hax (by omega) _ wz (ArrAt.up (E.out.arr 4 rfl) hSe) ((E.out.arr 3 rfl).shape.up hSe) ys8 xs8 hext2.out) ?_; rw [hB'.out]; intro e wq hq; obtain ⟨so, sc, rfl, h1, h2⟩ := hq; exact ⟨_, rfl, hRz.out _ _ ⟨h2, so, sc, rfl, h1, h2⟩⟩)
  intro v11 u11 x11 hG11 K hK
  have hF11 := hG11.fact
  (try dsimp only at hF11)
  obtain ⟨so11, sc11, he, hI11, hb11⟩ := hF11
  injection he with he
  subst he
  (try simp only [Act.put, List.setIfInBounds_toArray, List.set_cons_zero, List.set_cons_succ]); refine hK _ _ ?_; clear hK K
  repeat (first | (refine m_plain (v := ?_) (by rfl) (by rfl) ?_ ?_; rotate_left; (intro wz hSw; obtain ⟨-, hSc⟩ := hSw; (try simp only [List.forall_mem_cons, List.forall_mem_nil, and_true] at hSc); go_simp; (first | done | with_reducible rfl)); (intro K hK; (try simp only [Act.put, List.setIfInBounds_toArray, List.set_cons_zero, List.set_cons_succ]); refine hK _ _ ?_; clear hK K)) | (refine m_skip (by rfl) (by rfl) ?_; (intro K hK; (try simp only [Act.put, List.setIfInBounds_toArray, List.set_cons_zero, List.set_cons_succ]); refine hK _ _ ?_; clear hK K)))
  refine m_make (by rfl) (by rfl) ?_ ?_
  · intro wz hSw hdep R hRz
    obtain ⟨hSe, hSc⟩ := hSw
    (try simp only [List.forall_mem_cons, List.forall_mem_nil, and_true] at hSc)
    unfold does
    (go_simp; exact hRz.out _ _ ⟨ext_alloc _ _, rfl, rfl⟩)
  intro v12 u12 x12 hG12 K hK
  have hF12 := hG12.fact
  (try dsimp only at hF12)
  obtain ⟨rfl, rfl⟩ := hF12
  (try simp only [Act.put, List.setIfInBounds_toArray, List.set_cons_zero, List.set_cons_succ]); refine hK _ _ ?_; clear hK K
  repeat (first | (refine m_plain (v := ?_) (by rfl) (by rfl) ?_ ?_; rotate_left; (intro wz hSw; obtain ⟨-, hSc⟩ := hSw; (try simp only [List.forall_mem_cons, List.forall_mem_nil, and_true] at hSc); go_simp; (first | done | with_reducible rfl)); (intro K hK; (try simp only [Act.put, List.setIfInBounds_toArray, List.set_cons_zero, List.set_cons_succ]); refine hK _ _ ?_; clear hK K)) | (refine m_skip (by rfl) (by rfl) ?_; (intro K hK; (try simp only [Act.put, List.setIfInBounds_toArray, List.set_cons_zero, List.set_cons_succ]); refine hK _ _ ?_; clear hK K)))
  refine m_make (by rfl) (by rfl) ?_ ?_
  · intro wz hSw hdep R hRz
    obtain ⟨hSe, hSc⟩ := hSw
    (try simp only [List.forall_mem_cons, List.forall_mem_nil, and_true] at hSc)
    unfold does
    (go_simp; exact hRz.out _ _ ⟨ext_alloc _ _, rfl, rfl⟩)
  intro v13 u13 x13 hG13 K hK
  have hF13 := hG13.fact
  (try dsimp only at hF13)
  obtain ⟨rfl, rfl⟩ := hF13
  (try simp only [Act.put, List.setIfInBounds_toArray, List.set_cons_zero, List.set_cons_succ]); refine hK _ _ ?_; clear hK K
  repeat (first | (refine m_plain (v := ?_) (by rfl) (by rfl) ?_ ?_; rotate_left; (intro wz hSw; obtain ⟨-, hSc⟩ := hSw; (try simp only [List.forall_mem_cons, List.forall_mem_nil, and_true] at hSc); go_simp; (first | done | with_reducible rfl)); (intro K hK; (try simp only [Act.put, List.setIfInBounds_toArray, List.set_cons_zero, List.set_cons_succ]); refine hK _ _ ?_; clear hK K)) | (refine m_skip (by rfl) (by rfl) ?_; (intro K hK; (try simp only [Act.put, List.setIfInBounds_toArray, List.set_cons_zero, List.set_cons_succ]); refine hK _ _ ?_; clear hK K)))
  refine m_nil ?_
  intro wf hSf hAf
  have E1 := E.out.made2 hG12.s.1 hG13.s.1 (hAf 12 _ rfl) (hAf 13 _ rfl) (hG13.order 12 _ rfl)
  have E2 := E.out.addInts2 (M := []) E1 rfl hI5 hG5.s.1 (hAf 5 _ rfl) (hG12.order 5 _ rfl) (hG13.order 5 _ rfl)
  have E3 := E.out.addInts2 (M := [.ints A so5]) E2 rfl hI11 hG11.s.1 (hAf 11 _ rfl) (hG12.order 11 _ rfl) (hG13.order 11 _ rfl)
  clear E E1 E2
  have E := hid E3
  clear E3 hSf hAf hG5 hG11 hG12 hG13 hI5 hI11 hb5 hb11 q00 q01 q02 q03 q10 q11 q12 q13
  (try simp only [List.cons_append, List.nil_append, List.set_cons_zero, List.set_cons_succ] at E)
  generalize u12.heap.size = p12 at E ⊢
  generalize u13.heap.size = p13 at E ⊢
  refine wpl_storeRow (by rfl) 99 (.tmp 12) (.tmp 76) (by rfl) _ _ _ _ (by rfl) (by rfl) (E.out.obj 5 rfl) (by kernel_rfl) (by rfl) (by simp [Value.oneCell']) ?_
  intro V1 HV CV
  replace E := hid (E.out.chg 5 rfl CV HV)
  clear HV CV
  (try simp only [List.cons_append, List.nil_append, List.set_cons_zero, List.set_cons_succ] at E)
  refine wpl_storeRow (by rfl) 99 (.tmp 13) (.tmp 82) (by rfl) _ _ _ _ (by rfl) (by rfl) (E.out.obj 6 rfl) (by kernel_rfl) (by rfl) (by simp [Value.oneCell']) ?_
  intro V2 HV CV
  replace E := hid (E.out.chg 6 rfl CV HV)
  clear HV CV
  (try simp only [List.cons_append, List.nil_append, List.set_cons_zero, List.set_cons_succ] at E)
  obtain ⟨q50, q51, q52, q53, q54⟩ := row5 (E.out.obj 5 rfl)
  go_wp2_with fail
  clear q50 q51 q52 q53 q54
  refine (slices_Clone A _ _ _ _ (E.out.ints 7 rfl)).mono ?_
  rintro e w5 ⟨so, sc, rfl, hO, hb⟩
  replace E := hid (E.out.addRowI hO hb)
  clear hO hb
  (try simp only [List.cons_append, List.nil_append, List.set_cons_zero, List.set_cons_succ] at E)
  go_upto_region 15 with (fail)
  go_loopw [87] (fun v wr => ∃ i : Nat, i ≤ r ∧ v = .int .i64 i ∧ Hid (∀ j, j < i → j ≠ ax → A.getD j 0 = B.getD j 0) ∧ Env w S wr [.obj w.heap.size (.cells #[.int .i64 x.kind, .slice sx x.shape.length cx, .slice nx x.nums.length mx, .slice ix x.items.length jx] 27 (0, 0)), .obj (w.heap.size + 1) (.cells #[.int .i64 y.kind, .slice sy y.shape.length cy, .slice ny y.nums.length my, .slice iy y.items.length jy] 27 (0, 0)), .obj (w.heap.size + 1 + 1) (.cells #[.int .i64 0, .slice none 0 0, .slice none 0 0, .slice none 0 0] 27 (0, 0)), .arr x sx nx ix, .arr y sy ny iy, .obj p12 (.cells #[.int .i64 x.kind, .slice sx x.shape.length cx, .slice nx x.nums.length mx, .slice ix x.items.length jx, .slice so5 A.length sc5] 99 (0, 0)), .obj p13 (.cells #[.int .i64 y.kind, .slice sy y.shape.length cy, .slice ny y.nums.length my, .slice iy y.items.length jy, .slice so11 B.length sc11] 99 (0, 0)), .ints A so5, .ints B so11, .rowI so sc A]) (fun v _ => r - (intOf v).toNat)
  case atStart => exact ⟨0, Nat.zero_le _, rfl, hid (fun j hj => by omega), E.out⟩
  case round =>
    clear E
    obtain ⟨i, hi, rfl, hsame, E⟩ := hrel
    replace E := hid E
    by_cases hlt : i < r
    · by_cases e : i = ax
      · have eb : ((i : Int) != (ax : Int)) = false := by simp [e]
        have hsame2 : Hid (∀ j, j < i + 1 → j ≠ ax → A.getD j 0 = B.getD j 0) := hid (fun j hj hne => hsame.out j (by omega) hne)
        replace e := hid e
        go_upto_region 17 with (fail)
        refine wp_region_mono (Sees wr []) [] (fun k v u u' => match k with  | _ => False) (fun _ _ h e => h.up e) (Sees.start (all_nil)) (by kernel_rfl) (by kernel_rfl) ?_
        repeat (first | (refine m_plain (v := ?_) (by rfl) (by rfl) ?_ ?_; rotate_left; (intro wz hSw; obtain ⟨-, hSc⟩ := hSw; (try simp only [List.forall_mem_cons, List.forall_mem_nil, and_true] at hSc); go_simp; (first | done | with_reducible rfl)); (intro K hK; (try simp only [Act.put, List.setIfInBounds_toArray, List.set_cons_zero, List.set_cons_succ]); refine hK _ _ ?_; clear hK K)) | (refine m_skip (by rfl) (by rfl) ?_; (intro K hK; (try simp only [Act.put, List.setIfInBounds_toArray, List.set_cons_zero, List.set_cons_succ]); refine hK _ _ ?_; clear hK K)))
        refine m_nil ?_
        intro wf hSf hAf
        replace E := hid (E.out.up hSf.1)
        clear hSf hAf
        go_wp2_with fail
        go_roundw
        case rel => exact ⟨i + 1, by omega, by go_num, hsame2, E.out⟩
        case measure => simp [intOf]; omega
      · have eb : ((i : Int) != (ax : Int)) = true := by simp; omega
        obtain ⟨b1, o1, hs1, hbl1, hS1, hc1⟩ := (E.out.ints 7 rfl).at (k := i) (by rw [lA.out]; exact hlt)
        obtain ⟨b2, o2, hs2, hbl2, hS2, hc2⟩ := (E.out.ints 8 rfl).at (k := i) (by rw [lB.out]; exact hlt)
        have hdif : Hid (A.getD i 0 ≠ B.getD i 0 → difB A B ax r = true) := hid (fun q => difB_true hlt e q)
        have hsame2 : Hid (A.getD i 0 = B.getD i 0 → ∀ j, j < i + 1 → j ≠ ax → A.getD j 0 = B.getD j 0) := hid (fun q j hj hne => by
          rcases Nat.lt_succ_iff_lt_or_eq.1 hj with h1 | h1
          · exact hsame.out j h1 hne
          · rw [h1]; exact q)
        generalize A.getD i 0 = da at hc1 hdif hsame2
        generalize B.getD i 0 = db' at hc2 hdif hsame2
        subst hs1
        subst hs2
        obtain ⟨q50, q51, q52, q53, q54⟩ := row5 (E.out.obj 5 rfl)
        obtain ⟨q60, q61, q62, q63, q64⟩ := row5 (E.out.obj 6 rfl)
        have i0 : (0 : Int) ≤ (i : Int) := by omega
        have i1 : (i : Int) < (A.length : Int) := by rw [lA.out]; omega
        have i2 : (i : Int) < (B.length : Int) := by rw [lB.out]; omega
        replace e := hid e
        go_upto_region 17 with (fail)
        refine wp_region_mono (Sees wr [(⟨p12, 4, none⟩, .slice (some ⟨b1, o1, none⟩) A.length sc5), (⟨p13, 4, none⟩, .slice (some ⟨b2, o2, none⟩) B.length sc11), (⟨b1, o1 + i, none⟩, .int .i64 da), (⟨b2, o2 + i, none⟩, .int .i64 db')]) [] (fun k v u u' => match k with  | _ => False) (fun _ _ h e => h.up e) (Sees.start (all_cons (q54) (all_cons (q64) (all_cons (hc1) (all_cons (hc2) (all_nil)))))) (by kernel_rfl) (by kernel_rfl) ?_
        repeat (first | (refine m_plain (v := ?_) (by rfl) (by rfl) ?_ ?_; rotate_left; (intro wz hSw; obtain ⟨-, hSc⟩ := hSw; (try simp only [List.forall_mem_cons, List.forall_mem_nil, and_true] at hSc); go_simp; (first | done | with_reducible rfl)); (intro K hK; (try simp only [Act.put, List.setIfInBounds_toArray, List.set_cons_zero, List.set_cons_succ]); refine hK _ _ ?_; clear hK K)) | (refine m_skip (by rfl) (by rfl) ?_; (intro K hK; (try simp only [Act.put, List.setIfInBounds_toArray, List.set_cons_zero, List.set_cons_succ]); refine hK _ _ ?_; clear hK K)))
        refine m_nil ?_
        intro wf hSf hAf
        replace E := hid (E.out.up hSf.1)
        clear hSf hAf q50 q51 q52 q53 q54 q60 q61 q62 q63 q64 hc1 hc2
        by_cases c1 : da = db'
        · have c1b : (da != db') = false := by simp [c1]
          have hs3 := hid (hsame2.out c1)
          replace c1 := hid c1
          go_wp2_with fail
          go_roundw
          case rel => exact ⟨i + 1, by omega, by go_num, hs3, E.out⟩
          case measure => simp [intOf]; omega
        · have c1b : (da != db') = true := by simpa using c1
          have hd1 := hid (hdif.out c1)
          have hn : Hid (joinE last x y = 16) := hid (joinE_d c.out d.out k.out hr.out (by rw [← hA.out, ← hB.out, ← haxx.out, ← hrr.out]; exact hd1.out))
          have hv := hid (joinS_no (last := last) (x := x) (y := y) (by rw [hn.out]; decide))
          replace c1 := hid c1
          go_wp2_with (refine wpl_store4 rfl (.tmp 6) (.tmp 106) rfl _ rfl rfl (E.out.hdr 2 rfl) ?_; intro V HV CV; replace E := hid (E.out.chg 2 rfl CV HV))
          exact bodyPost_ret (end_arr2 rfl HV rfl rfl) rfl (hR.out _ _ (RetJ.zero hv.out hn.out E.out.ext))
    · obtain rfl : i = r := by omega
      have hdif : Hid (difB A B ax i = false) := hid (difB_none hsame.out)
      have hG : Hid (Geo last x y) := hid (geo xok.out.2.1 yok.out.2.1 hr.out (by rw [← hA.out, ← hB.out, ← haxx.out, ← hrr.out]; exact hdif.out))
      have sA : Hid (shapeB A = true) := hid (by rw [hA.out]; exact hG.out.a)
      have sB : Hid (shapeB B = true) := hid (by rw [hB.out]; exact hG.out.b)
      obtain ⟨Sx, hSx⟩ : ∃ s, s = jS last x y := ⟨_, rfl⟩
      obtain ⟨pa, hpa⟩ : ∃ n, n = A.getD ax 0 := ⟨_, rfl⟩
      obtain ⟨pb, hpb⟩ : ∃ n, n = B.getD ax 0 := ⟨_, rfl⟩
      have hSA : Hid (A.set ax (pa + pb) = Sx) := hid (by rw [hSx, hpa, hpb, hA.out, hB.out, haxx.out]; rfl)
      have lS : Hid (Sx.length = i) := hid (by rw [← hSA.out, List.length_set, lA.out])
      have axA : ax < A.length := by rw [lA.out]; exact hax
      have axB : ax < B.length := by rw [lB.out]; exact hax
      have ba : 0 ≤ pa ∧ pa ≤ 65536 := by rw [hpa]; exact dim_bd sA.out axA
      have bb : 0 ≤ pb ∧ pb ≤ 65536 := by rw [hpb]; exact dim_bd sB.out axB
      obtain ⟨gs, hso, -⟩ := (E.out.rowI 9 rfl).set (j := ax) axA
      have hgs : Hid (w.heap.size ≤ gs) := hid ((OwnI.row (E.out.rowI 9 rfl)) gs (by rw [hso]; rfl)).1
      subst hso
      obtain ⟨b1, o1, hs1, hbl1, -, hc1⟩ := (E.out.rowIr 9 rfl (by rw [lA.out]; omega)).at axA
      injection hs1 with hs1
      injection hs1 with e1 e2
      subst e1
      subst e2
      obtain ⟨b2, o2, hs2, hbl2, hS2, hc2⟩ := (E.out.ints 8 rfl).at axB
      subst hs2
      rw [← hpa, Nat.zero_add] at hc1
      rw [← hpb] at hc2
      have hcap := hid (OwnI.cap (E.out.rowI 9 rfl))
      replace hpa := hid hpa
      replace hpb := hid hpb
      replace hSx := hid hSx
      obtain ⟨q60, q61, q62, q63, q64⟩ := row5 (E.out.obj 6 rfl)
      go_upto_region 20 with (fail)
      have i0 : (0 : Int) ≤ (ax : Int) := by omega
      have i1 : (ax : Int) < (A.length : Int) := by omega
      have i2 : (ax : Int) < (B.length : Int) := by omega
      have hwr : IntKind.i64.wrap (pa + pb) = pa + pb := IntWalk.i64_in _ (by omega)
      refine wp_region_mono_tail 11 (Sees wr [(⟨gs, ax, none⟩, .int .i64 pa), (⟨p13, 4, none⟩, .slice (some ⟨b2, o2, none⟩) B.length sc11), (⟨b2, o2 + ax, none⟩, .int .i64 pb)]) [] (fun k v u u' => match k with  | _ => False) (fun _ _ h e => h.up e) (Sees.start (all_cons (hc1) (all_cons (q64) (all_cons (hc2) (all_nil))))) (by kernel_rfl) (by kernel_rfl) ?_
      simp only [List.take_succ_cons, List.take_zero, List.drop_succ_cons, List.drop_zero]
      repeat (first | (refine m_plain (v := ?_) (by rfl) (by rfl) ?_ ?_; rotate_left; (intro wz hSw; obtain ⟨-, hSc⟩ := hSw; (try simp only [List.forall_mem_cons, List.forall_mem_nil, and_true] at hSc); go_simp; (first | done | with_reducible rfl)); (intro K hK; (try simp only [Act.put, List.setIfInBounds_toArray, List.set_cons_zero, List.set_cons_succ]); refine hK _ _ ?_; clear hK K)) | (refine m_skip (by rfl) (by rfl) ?_; (intro K hK; (try simp only [Act.put, List.setIfInBounds_toArray, List.set_cons_zero, List.set_cons_succ]); refine hK _ _ ?_; clear hK K)))
      refine m_nil ?_
      intro wf hSf hAf
      replace E := hid (E.out.up hSf.1)
      clear hSf hAf hwr hc1 hc2 q60 q61 q62 q63 q64 i0 i1 i2
      refine wplE_setI E.out 9 rfl (by rfl) (.tmp 118) (.tmp 117) (by rfl) ax axA (pa + pb) (fun g e => by cases e; simp [Act.eval, Act.put]) (by rfl) ?_
      intro V3 E1
      clear E
      have E := hid E1
      clear E1
      (try simp only [List.cons_append, List.nil_append, List.set_cons_zero, List.set_cons_succ] at E)
      rw [hSA.out] at E
      replace hcap : Hid (Sx.length ≤ sc) := hid (by rw [lS.out, ← lA.out]; exact hcap.out)
      replace E := hid (E.out.doneI 9 rfl (by rw [lS.out]; omega))
      (try simp only [List.cons_append, List.nil_append, List.set_cons_zero, List.set_cons_succ] at E)
      cases hsS : shapeB Sx with
      | false =>
        have hn : Hid (joinE last x y = 21) := hid (joinE_s c.out d.out k.out hr.out (by rw [← hA.out, ← hB.out, ← haxx.out, ← hrr.out]; exact hdif.out) (Or.inl (by rw [← hSx.out]; exact hsS)))
        have hv := hid (joinS_no (last := last) (x := x) (y := y) (by rw [hn.out]; decide))
        replace hsS := hid hsS
        go_upto_region 21 with (fail)
        rw [show A.length = Sx.length by rw [lA.out, lS.out]]
        obtain ⟨T, hT1, hT2, hT3⟩ := E.out.tw
        refine wp_region_mono (Sees V3 []) [1] (fun k v u u' => match k with | 1 => v = .bool false | _ => False) (fun _ _ h e => h.up e) (Sees.start (all_nil)) (by kernel_rfl) (by kernel_rfl) ?_
        repeat (first | (refine m_plain (v := ?_) (by rfl) (by rfl) ?_ ?_; rotate_left; (intro wz hSw; obtain ⟨-, hSc⟩ := hSw; (try simp only [List.forall_mem_cons, List.forall_mem_nil, and_true] at hSc); go_simp; (first | done | with_reducible rfl)); (intro K hK; (try simp only [Act.put, List.setIfInBounds_toArray, List.set_cons_zero, List.set_cons_succ]); refine hK _ _ ?_; clear hK K)) | (refine m_skip (by rfl) (by rfl) ?_; (intro K hK; (try simp only [Act.put, List.setIfInBounds_toArray, List.set_cons_zero, List.set_cons_succ]); refine hK _ _ ?_; clear hK K)))
        refine m_make (by rfl) (by rfl) ?_ ?_
        · intro wz hSw hdep R hRz
          obtain ⟨hSe, hSc⟩ := hSw
          (try simp only [List.forall_mem_cons, List.forall_mem_nil, and_true] at hSc)
          unfold does
          (go_simp; refine Calls.mono (shape_Right Sx _ _ _ wz ((E.out.ints 9 rfl).mono (fun b _ h => hT1 b h) |>.up hSe)) ?_; rintro e wq ⟨rfl, rfl⟩; rw [hsS.out]; exact ⟨_, rfl, hRz.out _ _ ⟨Ext.refl _, rfl⟩⟩)
        intro v1 u1 x1 hG1 K hK
        have hF1 := hG1.fact
        (try dsimp only at hF1)
        subst hF1
        (try simp only [Act.put, List.setIfInBounds_toArray, List.set_cons_zero, List.set_cons_succ]); refine hK _ _ ?_; clear hK K
        repeat (first | (refine m_plain (v := ?_) (by rfl) (by rfl) ?_ ?_; rotate_left; (intro wz hSw; obtain ⟨-, hSc⟩ := hSw; (try simp only [List.forall_mem_cons, List.forall_mem_nil, and_true] at hSc); go_simp; (first | done | with_reducible rfl)); (intro K hK; (try simp only [Act.put, List.setIfInBounds_toArray, List.set_cons_zero, List.set_cons_succ]); refine hK _ _ ?_; clear hK K)) | (refine m_skip (by rfl) (by rfl) ?_; (intro K hK; (try simp only [Act.put, List.setIfInBounds_toArray, List.set_cons_zero, List.set_cons_succ]); refine hK _ _ ?_; clear hK K)))
        refine m_nil ?_
        intro wf hSf hAf
        replace E := hid (E.out.up hSf.1)
        clear hSf hAf
        go_wp2_with (refine wpl_store4 rfl (.tmp 6) (.tmp 130) rfl _ rfl rfl (E.out.hdr 2 rfl) ?_; intro V HV CV; replace E := hid (E.out.chg 2 rfl CV HV))
        exact bodyPost_ret (end_arr2 rfl HV rfl rfl) rfl (hR.out _ _ (RetJ.zero hv.out hn.out E.out.ext))
      | true =>
      replace hsS := hid hsS
      obtain ⟨wa, hwa⟩ : ∃ n, n = exW x A := ⟨_, rfl⟩
      obtain ⟨wb, hwb⟩ : ∃ n, n = exW y B := ⟨_, rfl⟩
      have hab : 0 ≤ wa ∧ wa ≤ 17179934720 := by rw [hwa]; exact exW_bd sA.out
      have hbb : 0 ≤ wb ∧ wb ≤ 17179934720 := by rw [hwb]; exact exW_bd sB.out
      replace hwa := hid hwa
      replace hwb := hid hwb
      go_upto_region 21 with (fail)
      have hwr : IntKind.i64.wrap (wa + wb) = wa + wb := IntWalk.i64_in _ (by omega)
      obtain ⟨q50, q51, q52, q53, q54⟩ := row5 (E.out.obj 5 rfl)
      obtain ⟨q60, q61, q62, q63, q64⟩ := row5 (E.out.obj 6 rfl)
      obtain ⟨T, hT1, hT2, hT3⟩ := E.out.tw
      refine wp_region_mono (Sees V3 [(⟨p12, 0, none⟩, .int .i64 x.kind), (⟨p12, 1, none⟩, .slice sx x.shape.length cx), (⟨p12, 2, none⟩, .slice nx x.nums.length mx), (⟨p12, 3, none⟩, .slice ix x.items.length jx), (⟨p12, 4, none⟩, .slice so5 A.length sc5), (⟨p13, 0, none⟩, .int .i64 y.kind), (⟨p13, 1, none⟩, .slice sy y.shape.length cy), (⟨p13, 2, none⟩, .slice ny y.nums.length my), (⟨p13, 3, none⟩, .slice iy y.items.length jy), (⟨p13, 4, none⟩, .slice (some ⟨b2, o2, none⟩) B.length sc11)]) [1, 5, 7] (fun k v u u' => match k with | 1 => v = .bool true | 5 => v = .int .i64 wa | 7 => v = .int .i64 wb | _ => False) (fun _ _ h e => h.up e) (Sees.start (all_cons (q50) (all_cons (q51) (all_cons (q52) (all_cons (q53) (all_cons (q54) (all_cons (q60) (all_cons (q61) (all_cons (q62) (all_cons (q63) (all_cons (q64) (all_nil)))))))))))) (by kernel_rfl) (by kernel_rfl) ?_
      repeat (first | (refine m_plain (v := ?_) (by rfl) (by rfl) ?_ ?_; rotate_left; (intro wz hSw; obtain ⟨-, hSc⟩ := hSw; (try simp only [List.forall_mem_cons, List.forall_mem_nil, and_true] at hSc); go_simp; (first | done | with_reducible rfl)); (intro K hK; (try simp only [Act.put, List.setIfInBounds_toArray, List.set_cons_zero, List.set_cons_succ]); refine hK _ _ ?_; clear hK K)) | (refine m_skip (by rfl) (by rfl) ?_; (intro K hK; (try simp only [Act.put, List.setIfInBounds_toArray, List.set_cons_zero, List.set_cons_succ]); refine hK _ _ ?_; clear hK K)))
      refine m_make (by rfl) (by rfl) ?_ ?_
      · intro wz hSw hdep R hRz
        obtain ⟨hSe, hSc⟩ := hSw
        (try simp only [List.forall_mem_cons, List.forall_mem_nil, and_true] at hSc)
        unfold does
        (go_simp; refine Calls.mono (lenP (n := A.length) (by rw [lS.out, lA.out]) (fun h => shape_Right Sx _ _ _ wz h) ((E.out.ints 9 rfl).mono (fun b _ h => hT1 b h) |>.up hSe)) ?_; rintro e wq ⟨rfl, rfl⟩; rw [hsS.out]; exact ⟨_, rfl, hRz.out _ _ ⟨Ext.refl _, rfl⟩⟩)
      intro v1 u1 x1 hG1 K hK
      have hF1 := hG1.fact
      (try dsimp only at hF1)
      subst hF1
      (try simp only [Act.put, List.setIfInBounds_toArray, List.set_cons_zero, List.set_cons_succ]); refine hK _ _ ?_; clear hK K
      repeat (first | (refine m_plain (v := ?_) (by rfl) (by rfl) ?_ ?_; rotate_left; (intro wz hSw; obtain ⟨-, hSc⟩ := hSw; (try simp only [List.forall_mem_cons, List.forall_mem_nil, and_true] at hSc); go_simp; (first | done | with_reducible rfl)); (intro K hK; (try simp only [Act.put, List.setIfInBounds_toArray, List.set_cons_zero, List.set_cons_succ]); refine hK _ _ ?_; clear hK K)) | (refine m_skip (by rfl) (by rfl) ?_; (intro K hK; (try simp only [Act.put, List.setIfInBounds_toArray, List.set_cons_zero, List.set_cons_succ]); refine hK _ _ ?_; clear hK K)))
      refine m_make (by rfl) (by rfl) ?_ ?_
      · intro wz hSw hdep R hRz
        obtain ⟨hSe, hSc⟩ := hSw
        (try simp only [List.forall_mem_cons, List.forall_mem_nil, and_true] at hSc)
        unfold does
        (go_simp; refine Calls.mono (side_weight x _ _ _ _ _ _ A _ _ _ wz (ArrAt.up (ArrAt.mono (fun b _ h => hT1 b h) _ (E.out.arr 3 rfl)) hSe) ((E.out.ints 7 rfl).mono (fun b _ h => hT1 b h) |>.up hSe) sA.out) ?_; rintro e wq ⟨rfl, hqb⟩; rw [hwa.out.symm]; exact ⟨_, rfl, hRz.out _ _ ⟨hqb, rfl⟩⟩)
      intro v5 u5 x5 hG5 K hK
      have hF5 := hG5.fact
      (try dsimp only at hF5)
      subst hF5
      (try simp only [Act.put, List.setIfInBounds_toArray, List.set_cons_zero, List.set_cons_succ]); refine hK _ _ ?_; clear hK K
      repeat (first | (refine m_plain (v := ?_) (by rfl) (by rfl) ?_ ?_; rotate_left; (intro wz hSw; obtain ⟨-, hSc⟩ := hSw; (try simp only [List.forall_mem_cons, List.forall_mem_nil, and_true] at hSc); go_simp; (first | done | with_reducible rfl)); (intro K hK; (try simp only [Act.put, List.setIfInBounds_toArray, List.set_cons_zero, List.set_cons_succ]); refine hK _ _ ?_; clear hK K)) | (refine m_skip (by rfl) (by rfl) ?_; (intro K hK; (try simp only [Act.put, List.setIfInBounds_toArray, List.set_cons_zero, List.set_cons_succ]); refine hK _ _ ?_; clear hK K)))
      refine m_make (by rfl) (by rfl) ?_ ?_
      · intro wz hSw hdep R hRz
        obtain ⟨hSe, hSc⟩ := hSw
        (try simp only [List.forall_mem_cons, List.forall_mem_nil, and_true] at hSc)
        unfold does
        (go_simp; refine Calls.mono (side_weight y _ _ _ _ _ _ B _ _ _ wz (ArrAt.up (ArrAt.mono (fun b _ h => hT1 b h) _ (E.out.arr 4 rfl)) hSe) ((E.out.ints 8 rfl).mono (fun b _ h => hT1 b h) |>.up hSe) sB.out) ?_; rintro e wq ⟨rfl, hqb⟩; rw [hwb.out.symm]; exact ⟨_, rfl, hRz.out _ _ ⟨hqb, rfl⟩⟩)
      intro v7 u7 x7 hG7 K hK
      have hF7 := hG7.fact
      (try dsimp only at hF7)
      subst hF7
      (try simp only [Act.put, List.setIfInBounds_toArray, List.set_cons_zero, List.set_cons_succ]); refine hK _ _ ?_; clear hK K
      repeat (first | (refine m_plain (v := ?_) (by rfl) (by rfl) ?_ ?_; rotate_left; (intro wz hSw; obtain ⟨-, hSc⟩ := hSw; (try simp only [List.forall_mem_cons, List.forall_mem_nil, and_true] at hSc); go_simp; (first | done | with_reducible rfl)); (intro K hK; (try simp only [Act.put, List.setIfInBounds_toArray, List.set_cons_zero, List.set_cons_succ]); refine hK _ _ ?_; clear hK K)) | (refine m_skip (by rfl) (by rfl) ?_; (intro K hK; (try simp only [Act.put, List.setIfInBounds_toArray, List.set_cons_zero, List.set_cons_succ]); refine hK _ _ ?_; clear hK K)))
      refine m_nil ?_
      intro wf hSf hAf
      replace E := hid (E.out.up hSf.1)
      clear hSf hAf hwr q50 q51 q52 q53 q54 q60 q61 q62 q63 q64
      by_cases hw : 262144 < wa + wb
      case pos =>
        have hn : Hid (joinE last x y = 21) := hid (joinE_s c.out d.out k.out hr.out (by rw [← hA.out, ← hB.out, ← haxx.out, ← hrr.out]; exact hdif.out) (Or.inr (by rw [← hA.out, ← hB.out, ← hwa.out, ← hwb.out]; exact hw)))
        have hv := hid (joinS_no (last := last) (x := x) (y := y) (by rw [hn.out]; decide))
        go_wp2_with (refine wpl_store4 rfl (.tmp 6) (.tmp 130) rfl _ rfl rfl (E.out.hdr 2 rfl) ?_; intro V HV CV; replace E := hid (E.out.chg 2 rfl CV HV))
        exact bodyPost_ret (end_arr2 rfl HV rfl rfl) rfl (hR.out _ _ (RetJ.zero hv.out hn.out E.out.ext))
      have hn : Hid (joinE last x y = 0) := hid (joinE_0 c.out d.out k.out hr.out (by rw [← hA.out, ← hB.out, ← haxx.out, ← hrr.out]; exact hdif.out) (by rw [← hSx.out]; exact hsS.out) (by rw [← hA.out, ← hB.out, ← hwa.out, ← hwb.out]; exact hw))
      have hv := hid (joinS_yes (last := last) (x := x) (y := y) hn.out)
      obtain ⟨m, hm⟩ : ∃ m, m = jM last x y := ⟨_, rfl⟩
      obtain ⟨p, hp⟩ : ∃ m, m = jP last x y := ⟨_, rfl⟩
      obtain ⟨q, hq⟩ : ∃ m, m = jQ last x y := ⟨_, rfl⟩
      obtain ⟨rs, hrs⟩ : ∃ m, m = cnt (Sx.drop (ax + 1)) := ⟨_, rfl⟩
      have gm : Hid (cnt (Sx.take ax) = (m : Int)) := hid (by rw [hSx.out, haxx.out, hm]; exact hG.out.m.symm)
      have gp : pa * rs = (p : Int) := by rw [hrs, hpa.out, hA.out, hSx.out, haxx.out, hp]; exact hG.out.p.symm
      have gq : pb * rs = (q : Int) := by rw [hrs, hpb.out, hB.out, hSx.out, haxx.out, hq]; exact hG.out.q.symm
      have gna : (cnt A).toNat = m * p := by rw [hA.out, hm, hp]; exact hG.out.na
      have gnb : (cnt B).toNat = m * q := by rw [hB.out, hm, hq]; exact hG.out.nb
      have gns : (cnt Sx).toNat = m * p + m * q := by rw [hSx.out, hm, hp, hq]; exact hG.out.ns
      have cS := cnt_le hsS.out
      replace gp := hid gp
      replace gq := hid gq
      replace gna := hid gna
      replace gnb := hid gnb
      replace gns := hid gns
      replace hm := hid hm
      replace hp := hid hp
      replace hq := hid hq
      replace hrs := hid hrs
      obtain ⟨q00, q01, q02, q03⟩ := (E.out.hdr 0 rfl).all
      go_upto_region 24 with (refine wpl_store4 rfl (.tmp 16) (.tmp 134) rfl _ rfl rfl ((E.out.alloc _).hdr 10 rfl) ?_; intro V4 HV CV; replace E := hid ((E.out.alloc _).chg 10 rfl CV HV); clear CV HV; (try simp only [List.cons_append, List.nil_append, List.set_cons_zero, List.set_cons_succ] at E))
      clear q00 q01 q02 q03
      generalize wf.heap.size = po at E ⊢
      go_wp2_with fail
      refine (lenR (n := A.length) (by rw [lS.out, lA.out]) (shape_Row Sx _ _ ax _ _ (E.out.ints 9 rfl) hsS.out (by rw [lS.out]; omega) hcap.out)).mono ?_
      rintro e w7 ⟨rfl, hb⟩
      replace E := hid (E.out.up hb)
      clear hb
      rw [gm.out]
      generalize cnt (Sx.drop ax) = dum
      go_wp2_with fail
      rw [show (ax : Int) + 1 = ((ax + 1 : Nat) : Int) by simp]
      refine (lenR (n := A.length) (by rw [lS.out, lA.out]) (shape_Row Sx _ _ (ax + 1) _ _ (E.out.ints 9 rfl) hsS.out (by rw [lS.out]; omega) hcap.out)).mono ?_
      rintro e w8 ⟨rfl, hb⟩
      replace E := hid (E.out.up hb)
      clear hb
      rw [← hrs.out]
      generalize cnt (Sx.take (ax + 1)) = dum2
      go_upto_region 26 with (fail)
      obtain ⟨b1, o1, hs1, hbl1, hS1, hc1⟩ := (E.out.ints 7 rfl).at axA
      subst hs1
      obtain ⟨b3, o3, hs3, hbl3, hS3, hc3⟩ := (E.out.ints 8 rfl).at axB
      injection hs3 with hs3
      injection hs3 with e1 e2
      subst e1
      subst e2
      rw [← hpa.out] at hc1
      rw [← hpb.out] at hc3
      obtain ⟨q50, q51, q52, q53, q54⟩ := row5 (E.out.obj 5 rfl)
      obtain ⟨q60, q61, q62, q63, q64⟩ := row5 (E.out.obj 6 rfl)
      have i0 : (0 : Int) ≤ (ax : Int) := by omega
      have i1 : (ax : Int) < (A.length : Int) := by omega
      have i2 : (ax : Int) < (B.length : Int) := by omega
      have gps := gp.out
      have gqs := gq.out
      have hok : Hid (JoinOk last x y) := hid (joinOk hn.out)
      obtain ⟨bp1, bp2, bp3⟩ := hok.out.pq
      rw [← hp.out] at bp1
      rw [← hq.out] at bp2
      rw [← hm.out] at bp3
      have hw1 : IntKind.i64.wrap (pa * rs) = (p : Int) := by rw [gps]; exact IntWalk.i64_in _ (by omega)
      have hw2 : IntKind.i64.wrap (pb * rs) = (q : Int) := by rw [gqs]; exact IntWalk.i64_in _ (by omega)
      clear gps gqs
      refine wp_region_mono_tail 16 (Sees w8 [(⟨p12, 4, none⟩, .slice (some ⟨b1, o1, none⟩) A.length sc5), (⟨p13, 4, none⟩, .slice (some ⟨b2, o2, none⟩) B.length sc11), (⟨b1, o1 + ax, none⟩, .int .i64 pa), (⟨b2, o2 + ax, none⟩, .int .i64 pb)]) [15] (fun k v u u' => match k with | 15 => v = .pointer (some ⟨u.heap.size, 0, none⟩) ∧ u' = u.alloc (.cells #[.int .i64 0, .int .i64 0] 102) | _ => False) (fun _ _ h e => h.up e) (Sees.start (all_cons (q54) (all_cons (q64) (all_cons (hc1) (all_cons (hc3) (all_nil)))))) (by kernel_rfl) (by kernel_rfl) ?_
      simp only [List.take_succ_cons, List.take_zero, List.drop_succ_cons, List.drop_zero]
      repeat (first | (refine m_plain (v := ?_) (by rfl) (by rfl) ?_ ?_; rotate_left; (intro wz hSw; obtain ⟨-, hSc⟩ := hSw; (try simp only [List.forall_mem_cons, List.forall_mem_nil, and_true] at hSc); go_simp; (first | done | with_reducible rfl)); (intro K hK; (try simp only [Act.put, List.setIfInBounds_toArray, List.set_cons_zero, List.set_cons_succ]); refine hK _ _ ?_; clear hK K)) | (refine m_skip (by rfl) (by rfl) ?_; (intro K hK; (try simp only [Act.put, List.setIfInBounds_toArray, List.set_cons_zero, List.set_cons_succ]); refine hK _ _ ?_; clear hK K)))
      refine m_make (by rfl) (by rfl) ?_ ?_
      · intro wz hSw hdep R hRz
        obtain ⟨hSe, hSc⟩ := hSw
        (try simp only [List.forall_mem_cons, List.forall_mem_nil, and_true] at hSc)
        unfold does
        (go_simp; exact hRz.out _ _ ⟨ext_alloc _ _, rfl, rfl⟩)
      intro v15 u15 x15 hG15 K hK
      have hF15 := hG15.fact
      (try dsimp only at hF15)
      obtain ⟨rfl, rfl⟩ := hF15
      (try simp only [Act.put, List.setIfInBounds_toArray, List.set_cons_zero, List.set_cons_succ]); refine hK _ _ ?_; clear hK K
      repeat (first | (refine m_plain (v := ?_) (by rfl) (by rfl) ?_ ?_; rotate_left; (intro wz hSw; obtain ⟨-, hSc⟩ := hSw; (try simp only [List.forall_mem_cons, List.forall_mem_nil, and_true] at hSc); go_simp; (first | done | with_reducible rfl)); (intro K hK; (try simp only [Act.put, List.setIfInBounds_toArray, List.set_cons_zero, List.set_cons_succ]); refine hK _ _ ?_; clear hK K)) | (refine m_skip (by rfl) (by rfl) ?_; (intro K hK; (try simp only [Act.put, List.setIfInBounds_toArray, List.set_cons_zero, List.set_cons_succ]); refine hK _ _ ?_; clear hK K)))
      refine m_nil ?_
      intro wf hSf hAf
      replace E := hid (E.out.made hG15.s.1 (hAf 15 _ rfl) hSf.1)
      clear hSf hAf hG15 hw1 hw2 hc1 hc3 q50 q51 q52 q53 q54 q60 q61 q62 q63 q64 i0 i1 i2
      (try simp only [List.cons_append, List.nil_append, List.set_cons_zero, List.set_cons_succ] at E)
      generalize u15.heap.size = ps at E ⊢
      refine wpl_storeRow (by rfl) 102 (.tmp 21) (.tmp 162) (by rfl) _ _ _ _ (by rfl) (by rfl) (E.out.obj 11 rfl) (by kernel_rfl) (by rfl) (by simp [Value.oneCell']) ?_
      intro V5 HV CV
      replace E := hid (E.out.chg 11 rfl CV HV)
      clear HV CV
      (try simp only [List.cons_append, List.nil_append, List.set_cons_zero, List.set_cons_succ] at E)
      have lS' : A.length = Sx.length := by rw [lS.out, lA.out]
      replace lS' := hid lS'
      replace E := hid (((E.out.row0I).row0A))
      (try simp only [List.cons_append, List.nil_append, List.set_cons_zero, List.set_cons_succ] at E)
      replace E := hid (E.out.pick 13 rfl)
      simp only [List.eraseIdx_cons_succ, List.eraseIdx_cons_zero] at E
      replace E := hid (E.out.pick 13 rfl)
      simp only [List.eraseIdx_cons_succ, List.eraseIdx_cons_zero] at E
      replace E := hid (E.out.pick 12 rfl)
      simp only [List.eraseIdx_cons_succ, List.eraseIdx_cons_zero] at E
      go_upto_region 28 with (fail)
      go_loopw [164] (fun v wr => ∃ (k : Nat) (na : Option Addr) (nc : Nat) (ia : Option Addr) (ic : Nat), k ≤ m ∧ v = .int .i64 k ∧ Env w S wr [.obj po (.cells #[.int .i64 x.kind, .slice (some ⟨gs, 0, none⟩) A.length sc, .slice na (jNN last x y k).length nc, .slice ia (jII last x y k).length ic] 27 (0, 0)), .rowI na nc (jNN last x y k), .rowA ia ic (jII last x y k), .obj w.heap.size (.cells #[.int .i64 x.kind, .slice sx x.shape.length cx, .slice nx x.nums.length mx, .slice ix x.items.length jx] 27 (0, 0)), .obj (w.heap.size + 1) (.cells #[.int .i64 y.kind, .slice sy y.shape.length cy, .slice ny y.nums.length my, .slice iy y.items.length jy] 27 (0, 0)), .obj (w.heap.size + 1 + 1) (.cells #[.int .i64 0, .slice none 0 0, .slice none 0 0, .slice none 0 0] 27 (0, 0)), .arr x sx nx ix, .arr y sy ny iy, .obj p12 (.cells #[.int .i64 x.kind, .slice sx x.shape.length cx, .slice nx x.nums.length mx, .slice ix x.items.length jx, .slice (some ⟨b1, o1, none⟩) A.length sc5] 99 (0, 0)), .obj p13 (.cells #[.int .i64 y.kind, .slice sy y.shape.length cy, .slice ny y.nums.length my, .slice iy y.items.length jy, .slice (some ⟨b2, o2, none⟩) B.length sc11] 99 (0, 0)), .ints A (some ⟨b1, o1, none⟩), .ints B (some ⟨b2, o2, none⟩), .ints Sx (some ⟨gs, 0, none⟩), .obj ps (.cells #[.int .i64 p, .int .i64 q] 102 (0, 0))]) (fun v _ => m - (intOf v).toNat)
      case atStart => exact ⟨0, none, 0, none, 0, Nat.zero_le _, rfl, E.out⟩
      case round =>
        clear E
        obtain ⟨k, na, nc, ia, ic, hk, rfl, E⟩ := hrel
        replace E := hid E
        by_cases hlt : k < m
        · have hlt' : k < jM last x y := by rw [← hm.out]; exact hlt
          obtain ⟨px, py⟩ := hok.out.pre hlt'
          obtain ⟨s1, s2⟩ := hok.out.step hlt'
          obtain ⟨l1, l2, l3, l4⟩ := hok.out.len hlt'
          rw [← hp.out] at px s1 s2 l1 l2 l3 l4
          rw [← hq.out] at py s1 s2 l3 l4
          clear hlt'
          replace px := hid px
          replace py := hid py
          replace s1 := hid s1
          replace s2 := hid s2
          replace l1 := hid l1
          replace l2 := hid l2
          replace l3 := hid l3
          replace l4 := hid l4
          obtain ⟨q80, q81, q82, q83, q84⟩ := row5 (E.out.obj 8 rfl)
          obtain ⟨r0, r1⟩ := row2 (E.out.obj 13 rfl)
          go_wp2_with fail
          clear q80 q81 q82 q83 q84 r0 r1
          refine (side_add x _ _ _ _ _ _ _ _ _ _ _ _ _ _ _ _ _ _ _ po k p w S wr _ E.out (E.out.arr 6 rfl) px.out.n px.out.i px.out.s1 px.out.k3 px.out.kn px.out.s2 l1.out l2.out px.out.l3 hcx.2.1 hcx.2.2).mono ?_
          rintro e w9 ⟨na2, nc2, ia2, ic2, rfl, E1⟩
          clear E
          have E := hid E1
          clear E1
          obtain ⟨q80, q81, q82, q83, q84⟩ := row5 (E.out.obj 9 rfl)
          obtain ⟨r0, r1⟩ := row2 (E.out.obj 13 rfl)
          go_wp2_with fail
          clear q80 q81 q82 q83 q84 r0 r1
          refine (side_add y _ _ _ _ _ _ _ _ _ _ _ _ _ _ _ _ _ _ _ po k q w S w9 _ E.out (E.out.arr 7 rfl) py.out.n py.out.i py.out.s1 py.out.k3 py.out.kn py.out.s2 l3.out l4.out py.out.l3 hcy.2.1 hcy.2.2).mono ?_
          rintro e w10 ⟨na3, nc3, ia3, ic3, rfl, E1⟩
          rw [← s1.out, ← s2.out] at E1
          clear E
          have E := hid E1
          clear E1
          go_wp2_with fail
          go_roundw
          case rel => exact ⟨k + 1, na3, nc3, ia3, ic3, by omega, by go_num, E.out⟩
          case measure => simp [intOf]; omega
        · obtain rfl : k = m := by omega
          obtain ⟨ln1, ln2⟩ := hok.out.lens
          rw [← hm.out] at ln1 ln2
          have hfin : Hid (joinS last x y = .mk x.kind Sx (jNN last x y k) (jII last x y k)) := hid (by rw [hv.out, joinA_eq, ← hSx.out, ← hm.out])
          obtain ⟨q00, q01, q02, q03⟩ := (E.out.hdr 0 rfl).all
          go_wp2_with (refine wpl_store4 rfl (.tmp 6) (.tmp 178) rfl _ rfl rfl (E.out.hdr 5 rfl) ?_; intro V6 HV CV; replace E := hid (E.out.chg 5 rfl CV HV); (try simp only [List.cons_append, List.nil_append, List.set_cons_zero, List.set_cons_succ] at E))
          have c2 := OwnI.cap (E.out.rowI 1 rfl)
          have c3 := OwnA.cap (E.out.rowA 2 rfl)
          replace E := hid (E.out.doneIF 1 rfl (by omega))
          (try simp only [List.cons_append, List.nil_append, List.set_cons_zero, List.set_cons_succ] at E)
          replace E := hid (E.out.doneA 2 rfl)
          (try simp only [List.cons_append, List.nil_append, List.set_cons_zero, List.set_cons_succ] at E)
          refine bodyPost_ret (end_arr2 rfl HV rfl rfl) rfl (hR.out _ _ ?_)
          exact RetJ.of hfin.out hn.out lS'.out.symm ((E.out.ints 12 rfl).at_blk hgs.out) ((E.out.intsF 1 rfl).mono fun b _ h => h.2) (by omega) ((E.out.items 2 rfl).mono fun b _ h => h.1) E.out.ext hcap.out c2 c3
end Go.Proofs.Ytdpdcjadedcglaa
