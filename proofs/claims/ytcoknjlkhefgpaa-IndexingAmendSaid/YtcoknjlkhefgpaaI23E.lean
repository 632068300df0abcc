/- indexing.each and its functions: contracts: a list of offsets grows. Conditions: the arrays are read; the indices are within the axes; the row is the call's own. -/
import Derived.Test.YtcoknjlkhefgpaaI23A
import Derived.Test.YtcoknjlkhefgpaaP23D
import Derived.Test.YtcoknjlkhefgpaaCUT
import Derived.Test.YtcoknjlkhefgpaaCELL1
set_option linter.unusedVariables false
set_option linter.unusedSimpArgs false
namespace Go.Proofs.Ytcoknjlkhefgpaa
theorem end_no {fn : Func} (hres : fn.results = #[]) {w : World} {tmps : Array Value} : (results fn tmps).run Try.prog w = .ok (.tuple #[]) w := by
  simp [results, hres]
open Go.RowKit Go.Sort
attribute [local go_sem ↓] run_max2 run_min2
attribute [local go_sem] eql_ints_nil eql_arrs_nil
theorem Env.sink9 {w0 w : World} {S : Nat → Prop} {f a0 a1 a2 a3 a4 a5 a6 a7 a8 : Fact} {M : List Fact} (E : Env w0 S w (f :: a0 :: a1 :: a2 :: a3 :: a4 :: a5 :: a6 :: a7 :: a8 :: M)) : Env w0 S w (a0 :: a1 :: a2 :: a3 :: a4 :: a5 :: a6 :: a7 :: a8 :: f :: M) :=
  E.perm (List.perm_middle (l₁ := [a0, a1, a2, a3, a4, a5, a6, a7, a8])).symm
theorem Env.drop9 {w0 w : World} {S : Nat → Prop} {f a0 a1 a2 a3 a4 a5 a6 a7 a8 : Fact} {M : List Fact} (E : Env w0 S w (a0 :: a1 :: a2 :: a3 :: a4 :: a5 :: a6 :: a7 :: a8 :: f :: M)) : Env w0 S w (a0 :: a1 :: a2 :: a3 :: a4 :: a5 :: a6 :: a7 :: a8 :: M) :=
  E.sub ((List.Sublist.refl [a0, a1, a2, a3, a4, a5, a6, a7, a8]).append (List.sublist_cons_self _ _))
theorem cnt_pos1 {s : List Int} (h : ∀ d ∈ s, 1 ≤ d) : 1 ≤ cnt s := by
  rw [cnt_prod (fun q => by have := h 0 q; omega)]
  exact prodNZ_pos fun d hd => by have := h d hd; omega
theorem step_bd {off dn nv c z : Nat} (hn : nv < dn) (hc : 1 ≤ c) (h : (off + 1) * (dn * c) ≤ z) : (off * dn + nv + 1) * c ≤ z ∧ off * dn + nv < z := by
  have h1 : (off * dn + nv + 1) * c ≤ (off * dn + dn) * c := Nat.mul_le_mul_right c (by omega)
  have h2 : (off * dn + dn) * c = (off + 1) * (dn * c) := by rw [← Nat.mul_assoc, Nat.add_mul off 1 dn, Nat.one_mul]
  have h3 : (off * dn + nv + 1) * 1 ≤ (off * dn + nv + 1) * c := Nat.mul_le_mul_left _ hc
  omega
set_option maxHeartbeats 4000000 in
theorem indexing_Select_1 (fa : Option Addr) (fc : Nat) (cur : List Int) (pf : Nat) (n : Int) (w0 : World) (S : Nat → Prop) (w : World) (M : List Fact) (E : Env w0 S w (.obj pf (.cells #[.slice fa (cur).length fc] 23 (0, 0)) :: .rowI fa fc (cur) :: M)) (hl : cur.length ≤ 1000000) :
    Calls Try.prog 52 #[.int .i64 n, .pointer (some ⟨pf, 0, none⟩)] w fun en w' => ∃ fa' fc', en = .returned (.tuple #[]) ∧ Env w0 S w' (.obj pf (.cells #[.slice fa' (cur ++ [n]).length fc'] 23 (0, 0)) :: .rowI fa' fc' (cur ++ [n]) :: M) := by
  refine calls_post fun R' hR => ?_
  replace E := hid E
  obtain ⟨nn, hnn⟩ : ∃ l, l = cur ++ [n] := ⟨_, rfl⟩
  rw [← hnn] at hR
  replace hnn := hid hnn
  have c0 := (cell_row1 (E.out.obj 0 rfl)).1
  go_enter Try.func52, Try.ntmps52
  go_wp2_with (first
    | (at_builtin; replace E := hid (E.out.lit [n] (show (1 : Nat) ≤ 17592186044416 by decide)).front; refine wplE_appI E.out 2 rfl rfl (.tmp 3) (.tmp 5) rfl rfl _ _ _ [n] rfl (E.out.ints 0 rfl) (by (try simp only [List.length_nil, List.length_cons]); omega) ?_; intro V2 a2 k2 E1; rw [← hnn.out] at E1 ⊢; clear E; have E := hid E1; clear E1; (try simp only [List.cons_append, List.nil_append, List.set_cons_zero, List.set_cons_succ] at E))
    | (refine wpl_cell1S rfl (.tmp 1) (.tmp 6) rfl pf rfl rfl (E.out.obj 1 rfl) ?_; intro V HV CV; replace E := hid (E.out.chg 1 rfl CV HV); clear CV HV; (try simp only [List.cons_append, List.nil_append, List.set_cons_zero, List.set_cons_succ] at E)))
  exact bodyPost_ret (end_no rfl) rfl (hR.out _ _ ⟨a2, k2, rfl, E.out.tl⟩)
theorem offP_cons (l : List Int) (ls : List (List Int)) (s : List Int) (off : Int) : offP (l :: ls) s off = l.flatMap fun n => offP ls (s.drop 1) (off * s.getD 0 0 + n) := rfl
set_option maxRecDepth 100000 in
set_option maxHeartbeats 8000000 in
theorem indexing_visit (L : List Arr) (lo : Option Addr) (lc : Nat) (y : Arr) (sy : Option Addr) (cy : Nat) (ny : Option Addr) (my : Nat) (iy : Option Addr) (jy : Nat) (pf pl pr pd pv py rn z : Nat) (hs : shapeB y.shape = true) (hpos : ∀ d ∈ y.shape, 1 ≤ d) (hrs : (rn : Int) = cnt (y.shape.drop L.length)) (hL : L.length ≤ y.shape.length) (hz6 : z ≤ 65536) : ∀ (ls : List Arr) (i off : Nat) (iv ov : Int) (fa : Option Addr) (fc : Nat) (cur : List Int) (w0 : World) (S : Nat → Prop) (w : World) (M : List Fact),
    iv = (i : Int) → ov = (off : Int) → ls = L.drop i → i + ls.length = L.length → Env w0 S w (.obj pf (.cells #[.slice fa (cur).length fc] 23 (0, 0)) :: .rowI fa fc (cur) :: .obj pl (.cells #[.slice (lo) L.length lc] 24 (0, 0)) :: .obj pr (.cells #[.int .i64 (rn : Int)] 3 (0, 0)) :: .obj pd (.cells #[.func (.func 52) #[] #[.pointer (some ⟨pf, 0, none⟩)]] 66 (0, 0)) :: .obj pv (.cells #[.func (.func 75) #[] #[.pointer (some ⟨pl, 0, none⟩), .pointer (some ⟨pr, 0, none⟩), .pointer (some ⟨pd, 0, none⟩), .pointer (some ⟨pv, 0, none⟩), .pointer (some ⟨py, 0, none⟩)]] 77 (0, 0)) :: .obj py (.cells #[.int .i64 y.kind, .slice (sy) y.shape.length cy, .slice ny y.nums.length my, .slice iy y.items.length jy] 26 (0, 0)) :: .items L (lo) :: .arr y (sy) ny iy :: M) → ((off : Int) + 1) * cnt (y.shape.drop i) ≤ (z : Int) → chsBad ls (y.shape.drop i) = false → cur.length + (offP (ls.map Arr.nums) (y.shape.drop i) off).length ≤ 900000 →
    Calls Try.prog 75 #[.int .i64 iv, .int .i64 ov, .pointer (some ⟨pl, 0, none⟩), .pointer (some ⟨pr, 0, none⟩), .pointer (some ⟨pd, 0, none⟩), .pointer (some ⟨pv, 0, none⟩), .pointer (some ⟨py, 0, none⟩)] w fun en w' => ∃ fa' fc', en = .returned (.tuple #[]) ∧ Env w0 S w' (.obj pf (.cells #[.slice fa' (cur ++ offP (ls.map Arr.nums) (y.shape.drop i) off).length fc'] 23 (0, 0)) :: .rowI fa' fc' (cur ++ offP (ls.map Arr.nums) (y.shape.drop i) off) :: .obj pl (.cells #[.slice (lo) L.length lc] 24 (0, 0)) :: .obj pr (.cells #[.int .i64 (rn : Int)] 3 (0, 0)) :: .obj pd (.cells #[.func (.func 52) #[] #[.pointer (some ⟨pf, 0, none⟩)]] 66 (0, 0)) :: .obj pv (.cells #[.func (.func 75) #[] #[.pointer (some ⟨pl, 0, none⟩), .pointer (some ⟨pr, 0, none⟩), .pointer (some ⟨pd, 0, none⟩), .pointer (some ⟨pv, 0, none⟩), .pointer (some ⟨py, 0, none⟩)]] 77 (0, 0)) :: .obj py (.cells #[.int .i64 y.kind, .slice (sy) y.shape.length cy, .slice ny y.nums.length my, .slice iy y.items.length jy] 26 (0, 0)) :: .items L (lo) :: .arr y (sy) ny iy :: M) := by
  intro ls
  induction ls with
  | nil =>
    intro i off iv ov fa fc cur w0 S w M hiv hov hls hi E hb hbad hn
    subst hiv hov
    refine calls_post fun R' hR => ?_
    simp only [List.length_nil, Nat.add_zero] at hi
    subst hi
    have hys := (shapeB_iff.1 hs).1
    have hcs := cnt_le (shapeB_drop hs L.length)
    have hO : offP (([] : List Arr).map Arr.nums) (y.shape.drop L.length) off = seqI ((off * rn : Nat) : Int) rn := by
      simp only [List.map_nil, offP, ← hrs, Int.toNat_natCast, Int.natCast_mul]
    rw [hO, seqI_len] at hn
    rw [hO] at hR
    rw [← hrs] at hb
    have hb2 : off * rn + rn ≤ z := by
      rw [Int.add_mul, Int.one_mul, ← Int.natCast_mul] at hb; omega
    obtain ⟨q, hq⟩ : ∃ q, q = off * rn := ⟨_, rfl⟩
    rw [← hq] at hb2 hR
    have hw1 : IntKind.i64.wrap ((off : Int) * (rn : Int)) = (q : Int) := by rw [← Int.natCast_mul, ← hq]; exact IntWalk.i64_in _ (by omega)
    replace hq := hid hq
    replace hO := hid hO
    replace hrs := hid hrs
    replace hb := hid hb
    replace hs := hid hs
    replace hpos := hid hpos
    replace hls := hid hls
    have z1 : cur ++ seqI (q : Int) 0 = cur := by rw [seqI_zero, List.append_nil]
    replace z1 := hid z1
    replace E := hid E
    have c1 := (cell_row1 (E.out.obj 2 rfl)).1
    have c2 := (cell_row1 (E.out.obj 3 rfl)).1
    have lb : ((L.length : Int) == (L.length : Int)) = true := by simp
    go_enter Try.func75, Try.ntmps75
    go_upto_region 2 with (fail)
    clear c1 c2
    go_loopw [17] (fun v wr => ∃ (j : Nat) (fa : Option Addr) (fc : Nat), j ≤ rn ∧ v = .int .i64 j ∧ Env w0 S wr (.obj pf (.cells #[.slice fa (cur ++ seqI (q : Int) j).length fc] 23 (0, 0)) :: .rowI fa fc (cur ++ seqI (q : Int) j) :: .obj pl (.cells #[.slice (lo) L.length lc] 24 (0, 0)) :: .obj pr (.cells #[.int .i64 (rn : Int)] 3 (0, 0)) :: .obj pd (.cells #[.func (.func 52) #[] #[.pointer (some ⟨pf, 0, none⟩)]] 66 (0, 0)) :: .obj pv (.cells #[.func (.func 75) #[] #[.pointer (some ⟨pl, 0, none⟩), .pointer (some ⟨pr, 0, none⟩), .pointer (some ⟨pd, 0, none⟩), .pointer (some ⟨pv, 0, none⟩), .pointer (some ⟨py, 0, none⟩)]] 77 (0, 0)) :: .obj py (.cells #[.int .i64 y.kind, .slice (sy) y.shape.length cy, .slice ny y.nums.length my, .slice iy y.items.length jy] 26 (0, 0)) :: .items L (lo) :: .arr y (sy) ny iy :: M)) (fun v _ => rn - (intOf v).toNat)
    case atStart => exact ⟨0, fa, fc, Nat.zero_le _, rfl, by rw [z1.out]; exact E.out⟩
    case round =>
      clear E
      obtain ⟨j, fa, fc, hj, rfl, E⟩ := hrel
      replace E := hid E
      by_cases hlt : j < rn
      case pos =>
        have hst : cur ++ seqI (q : Int) (j + 1) = (cur ++ seqI (q : Int) j) ++ [((q + j : Nat) : Int)] := by rw [seqI_succ, List.append_assoc, Int.natCast_add]
        have hln : (cur ++ seqI (q : Int) j).length ≤ 1000000 := by rw [List.length_append, seqI_len]; omega
        obtain ⟨cc, hcc⟩ : ∃ c, c = cur ++ seqI (q : Int) j := ⟨_, rfl⟩
        rw [← hcc] at E hst hln
        replace hcc := hid hcc
        replace hst := hid hst
        have hw2 : IntKind.i64.wrap ((q : Int) + (j : Int)) = ((q + j : Nat) : Int) := by rw [Int.natCast_add]; exact IntWalk.i64_in _ (by omega)
        have c2 := (cell_row1 (E.out.obj 3 rfl)).1
        have c3 := (cell_row1 (E.out.obj 4 rfl)).1
        go_wp2_with fail
        clear c2 c3
        refine (indexing_Select_1 fa fc cc pf _ w0 S wr _ E.out hln).mono ?_
        rintro e w5 ⟨fa2, fc2, rfl, E1⟩
        generalize hn2 : cc ++ [(q : Int) + (j : Int)] = nn2 at E1
        have hn3 : Hid (cur ++ seqI (q : Int) (j + 1) = nn2) := hid (by rw [hst.out, ← hn2, Int.natCast_add])
        replace hn2 := hid hn2
        clear E
        have E := hid E1
        clear E1
        go_wp2_with fail
        go_roundw
        case rel => exact ⟨j + 1, fa2, fc2, by omega, by go_num, by rw [hn3.out]; exact E.out⟩
        case measure => simp [intOf]; omega
      case neg =>
        obtain rfl : j = rn := by omega
        go_wp2_with fail
        exact bodyPost_ret (end_no rfl) rfl (hR.out _ _ ⟨fa, fc, rfl, E.out⟩)
  | cons l ls IH =>
    intro i off iv ov fa fc cur w0 S w M hiv hov hls hi E hb hbad hn
    subst hiv hov
    refine calls_post fun R' hR => ?_
    have hli : i < L.length := by simp only [List.length_cons] at hi; omega
    have hyi : i < y.shape.length := by omega
    have hys := (shapeB_iff.1 hs).1
    rw [List.drop_eq_getElem_cons hli] at hls
    injection hls with hl0 hls2
    have hi2 : i + 1 + ls.length = L.length := by simp only [List.length_cons] at hi; omega
    have hdp := hpos _ (getD_mem hyi)
    have hd6 : y.shape.getD i 0 ≤ 65536 := Int.le_trans (prodNZ_ge_mem (shapeB_iff.1 hs).2.1 (getD_mem hyi)) (shapeB_iff.1 hs).2.2
    obtain ⟨dn, hdn⟩ : ∃ n : Nat, y.shape.getD i 0 = (n : Int) := ⟨(y.shape.getD i 0).toNat, by omega⟩
    rw [drop_getD hyi, hdn] at hb hbad hn hR
    have hc1 := cnt_pos1 (s := y.shape.drop (i + 1)) fun d hd => hpos d (mem_drop hd)
    obtain ⟨c, hcc⟩ : ∃ c : Nat, cnt (y.shape.drop (i + 1)) = (c : Int) := ⟨(cnt (y.shape.drop (i + 1))).toNat, by omega⟩
    rw [cnt_cons1, hcc] at hb
    have hb2 : (off + 1) * (dn * c) ≤ z := by
      have : (((off + 1) * (dn * c) : Nat) : Int) ≤ (z : Int) := by simpa using hb
      omega
    have hbl : l.nums.any (outB (dn : Int)) = false := by
      simp only [chsBad, List.getD_cons_zero, Bool.or_eq_false_iff] at hbad; exact hbad.1
    have hbs : chsBad ls (y.shape.drop (i + 1)) = false := by
      simp only [chsBad, List.drop_succ_cons, List.drop_zero, Bool.or_eq_false_iff] at hbad; exact hbad.2
    simp only [List.map_cons, offP_cons, List.drop_succ_cons, List.drop_zero, List.getD_cons_zero] at hn hR
    obtain ⟨f, hf⟩ : ∃ f : Int → List Int, f = fun n => offP (ls.map Arr.nums) (y.shape.drop (i + 1)) ((off : Int) * (dn : Int) + n) := ⟨_, rfl⟩
    rw [← hf] at hn hR
    have hst : Hid (∀ j, j < l.nums.length → ∃ nv : Nat, l.nums.getD j 0 = (nv : Int) ∧ nv < dn ∧ (((off * dn + nv : Nat) : Int) + 1) * cnt (y.shape.drop (i + 1)) ≤ (z : Int) ∧ off * dn + nv < z ∧ (l.nums.take (j + 1)).flatMap f = (l.nums.take j).flatMap f ++ offP (ls.map Arr.nums) (y.shape.drop (i + 1)) ((off * dn + nv : Nat) : Int) ∧ cur.length + ((l.nums.take j).flatMap f).length + (offP (ls.map Arr.nums) (y.shape.drop (i + 1)) ((off * dn + nv : Nat) : Int)).length ≤ 900000) := hid fun j hj => by
      obtain ⟨n0, n1⟩ := outB_no (any_no hbl (getD_mem hj))
      obtain ⟨nv, hnv⟩ : ∃ nv : Nat, l.nums.getD j 0 = (nv : Int) := ⟨(l.nums.getD j 0).toNat, by omega⟩
      have n2 : nv < dn := by omega
      obtain ⟨k1, k2⟩ := step_bd n2 (by omega) hb2
      have h2 : (l.nums.take (j + 1)).flatMap f = (l.nums.take j).flatMap f ++ offP (ls.map Arr.nums) (y.shape.drop (i + 1)) ((off * dn + nv : Nat) : Int) := by
        rw [flat_step hj, hnv, hf, Int.natCast_add, Int.natCast_mul]
      have h3 := flat_take (l := l.nums) (f := f) (k := j + 1)
      rw [h2, List.length_append] at h3
      refine ⟨nv, hnv, n2, ?_, k2, h2, by omega⟩
      rw [hcc]
      have : (((off * dn + nv + 1) * c : Nat) : Int) ≤ (z : Int) := by omega
      simpa using this
    have hle : Hid (L.length = y.shape.length ∨ True) := hid (Or.inr trivial)
    obtain ⟨b', off', sz, cz, nz, mz, iz, jz, hlo, hSb', hbl', e0, e1, e2, e3, hz⟩ := (E.items 7 rfl).at hli
    rw [← hl0] at e2 hz
    clear e0 e1 e3 hSb' hbl'
    obtain ⟨b1, o1, hsy, _, _, _⟩ := (E.arr 8 rfl).shape.at hyi
    subst hlo
    subst hsy
    have hznl := hz.nums.1
    replace E := hid (E.addInts hz.nums (fun _ _ h => h)).front.sink9
    clear hz
    have z1 : cur ++ (l.nums.take 0).flatMap f = cur := by simp
    replace z1 := hid z1
    have lb : ((i : Int) == (L.length : Int)) = false := by simp; omega
    have i0 : (0 : Int) ≤ (i : Int) := by omega
    have i1 : (i : Int) < (L.length : Int) := by omega
    have i2 : (i : Int) < (y.shape.length : Int) := by omega
    replace hl0 := hid hl0
    replace hls2 := hid hls2
    replace hdn := hid hdn
    replace hb := hid hb
    replace hb2 := hid hb2
    replace hbad := hid hbad
    replace hbl := hid hbl
    replace hbs := hid hbs
    replace hn := hid hn
    replace hf := hid hf
    replace hcc := hid hcc
    replace hs := hid hs
    replace hpos := hid hpos
    replace hrs := hid hrs
    replace hi2 := hid hi2
    replace hi := hid hi
    replace IH := hid IH
    have c1 := (cell_row1 (E.out.obj 2 rfl)).1
    go_enter Try.func75, Try.ntmps75
    go_upto_region 7 with (fail)
    clear c1 e2
    go_loopw [34] (fun v wr => ∃ (j : Nat) (fa : Option Addr) (fc : Nat), j ≤ l.nums.length ∧ v = .int .i64 j ∧ Env w0 S wr (.obj pf (.cells #[.slice fa (cur ++ (l.nums.take j).flatMap f).length fc] 23 (0, 0)) :: .rowI fa fc (cur ++ (l.nums.take j).flatMap f) :: .obj pl (.cells #[.slice (some ⟨b', off', none⟩) L.length lc] 24 (0, 0)) :: .obj pr (.cells #[.int .i64 (rn : Int)] 3 (0, 0)) :: .obj pd (.cells #[.func (.func 52) #[] #[.pointer (some ⟨pf, 0, none⟩)]] 66 (0, 0)) :: .obj pv (.cells #[.func (.func 75) #[] #[.pointer (some ⟨pl, 0, none⟩), .pointer (some ⟨pr, 0, none⟩), .pointer (some ⟨pd, 0, none⟩), .pointer (some ⟨pv, 0, none⟩), .pointer (some ⟨py, 0, none⟩)]] 77 (0, 0)) :: .obj py (.cells #[.int .i64 y.kind, .slice (some ⟨b1, o1, none⟩) y.shape.length cy, .slice ny y.nums.length my, .slice iy y.items.length jy] 26 (0, 0)) :: .items L (some ⟨b', off', none⟩) :: .arr y (some ⟨b1, o1, none⟩) ny iy :: .ints l.nums nz :: M)) (fun v _ => l.nums.length - (intOf v).toNat)
    case atStart => exact ⟨0, fa, fc, Nat.zero_le _, rfl, by rw [z1.out]; exact E.out⟩
    case round =>
      clear E
      obtain ⟨j, fa, fc, hj, rfl, E⟩ := hrel
      replace E := hid E
      by_cases hlt : j < l.nums.length
      case pos =>
        obtain ⟨nv, n1, n2, n3, n4, n5, n6⟩ := hst.out j hlt
        obtain ⟨b3, o3, hnz, hbl3, hS3, hc3⟩ := (E.out.ints 9 rfl).at hlt
        obtain ⟨b4, o4, hsy, hbl4, hS4, hc4⟩ := (E.out.arr 8 rfl).shape.at hyi
        obtain ⟨hb4, ho4⟩ : b4 = b1 ∧ o4 = o1 := by simpa [eq_comm] using hsy
        rw [hb4, ho4, hdn.out] at hc4
        rw [n1] at hc3
        clear hbl3 hS3 hbl4 hS4 hb4 ho4 hsy
        have hN2 : (cur ++ (l.nums.take j).flatMap f) ++ offP (ls.map Arr.nums) (y.shape.drop (i + 1)) ((off * dn + nv : Nat) : Int) = cur ++ (l.nums.take (j + 1)).flatMap f := by rw [n5, List.append_assoc]
        have hN3 : (cur ++ (l.nums.take j).flatMap f).length + (offP (ls.map Arr.nums) (y.shape.drop (i + 1)) ((off * dn + nv : Nat) : Int)).length ≤ 900000 := by rw [List.length_append]; omega
        obtain ⟨cc, hcc2⟩ : ∃ c, c = cur ++ (l.nums.take j).flatMap f := ⟨_, rfl⟩
        rw [← hcc2] at E hN2 hN3
        obtain ⟨q, hq⟩ : ∃ q, q = off * dn := ⟨_, rfl⟩
        rw [← hq] at n3 n4 hN2 hN3
        have hw1 : IntKind.i64.wrap ((off : Int) * (dn : Int)) = (q : Int) := by rw [← Int.natCast_mul, ← hq]; exact IntWalk.i64_in _ (by omega)
        have hw2 : IntKind.i64.wrap ((q : Int) + (nv : Int)) = ((q + nv : Nat) : Int) := by rw [Int.natCast_add]; exact IntWalk.i64_in _ (by omega)
        have hax3 : (i : Int) + 1 = ((i + 1 : Nat) : Int) := by omega
        have hti3 : (q : Int) + (nv : Int) = ((q + nv : Nat) : Int) := by omega
        replace hcc2 := hid hcc2
        replace hN2 := hid hN2
        replace hN3 := hid hN3
        replace n1 := hid n1
        replace n3 := hid n3
        replace n5 := hid n5
        replace n6 := hid n6
        replace hax3 := hid hax3
        replace hti3 := hid hti3
        replace hq := hid hq
        have hnz2 := hid hnz
        subst hnz
        have j0 : (0 : Int) ≤ (j : Int) := by omega
        have j1 : (j : Int) < (l.nums.length : Int) := by omega
        go_upto_region 9 with (fail)
        have c5 := (cell_row1 (E.out.obj 5 rfl)).1
        obtain ⟨q60, q61, q62, q63⟩ := (E.out.hdr 6 rfl).all
        refine wp_region_mono_tail 12 (Sees wr [(⟨pv, 0, none⟩, .func (.func 75) #[] #[.pointer (some ⟨pl, 0, none⟩), .pointer (some ⟨pr, 0, none⟩), .pointer (some ⟨pd, 0, none⟩), .pointer (some ⟨pv, 0, none⟩), .pointer (some ⟨py, 0, none⟩)]), (⟨py, 1, none⟩, .slice (some ⟨b1, o1, none⟩) y.shape.length cy), (⟨b1, o1 + i, none⟩, .int .i64 dn)]) [] (fun k v u u' => match k with  | _ => False) (fun _ _ h e => h.up e) (Sees.start (all_cons (c5) (all_cons (q61) (all_cons (hc4) (all_nil))))) (by kernel_rfl) (by kernel_rfl) ?_
        simp only [List.take_succ_cons, List.take_zero, List.drop_succ_cons, List.drop_zero]
        repeat (first | (refine m_plain (v := ?_) (by rfl) (by rfl) ?_ ?_; rotate_left; (intro wz hSw; obtain ⟨-, hSc⟩ := hSw; (try simp only [List.forall_mem_cons, List.forall_mem_nil, and_true] at hSc); go_simp; (first | done | with_reducible rfl)); (intro K hK; (try simp only [Act.put, List.setIfInBounds_toArray, List.set_cons_zero, List.set_cons_succ]); refine hK _ _ ?_; clear hK K)) | (refine m_skip (by rfl) (by rfl) ?_; (intro K hK; (try simp only [Act.put, List.setIfInBounds_toArray, List.set_cons_zero, List.set_cons_succ]); refine hK _ _ ?_; clear hK K)))
        refine m_nil ?_
        intro wf hSf hAf
        replace E := hid (E.out.up hSf.1)
        clear hSf hAf c5 hc3 hc4
        clear q60 q61 q62 q63
        go_wp2_with fail
        refine (IH.out (i + 1) (q + nv) _ _ fa fc cc w0 S wf _ hax3.out hti3.out hls2.out hi2.out E.out n3.out hbs.out hN3.out).mono ?_
        rintro e w9 ⟨fa2, fc2, rfl, E1⟩
        generalize hn2 : cc ++ offP (ls.map Arr.nums) (y.shape.drop (i + 1)) ((q + nv : Nat) : Int) = nn2 at E1
        replace hn2 := hid (hn2.symm.trans hN2.out)
        clear E hN2
        have E := hid E1
        clear E1
        go_wp2_with fail
        go_roundw
        case rel => exact ⟨j + 1, fa2, fc2, by omega, by go_num, by rw [← hn2.out]; exact E.out⟩
        case measure => simp [intOf]; omega
      case neg =>
        obtain rfl : j = l.nums.length := by omega
        have e1 : l.nums.take l.nums.length = l.nums := List.take_length
        rw [e1] at E
        replace e1 := hid e1
        go_wp2_with fail
        exact bodyPost_ret (end_no rfl) rfl (hR.out _ _ ⟨fa, fc, rfl, E.out.drop9⟩)
set_option maxHeartbeats 8000000 in
theorem indexing_each (L : List Arr) (lo : Option Addr) (lc : Nat) (y : Arr) (sy : Option Addr) (cy : Nat) (ny : Option Addr) (my : Nat) (iy : Option Addr) (jy : Nat) (pf : Nat) (hs : shapeB y.shape = true) (hpos : ∀ d ∈ y.shape, 1 ≤ d) (hL : L.length ≤ y.shape.length) (hc : y.shape.length ≤ cy) (fa : Option Addr) (fc : Nat) (cur : List Int) (w0 : World) (S : Nat → Prop) (w : World) (M : List Fact)
    (E : Env w0 S w (.obj pf (.cells #[.slice fa (cur).length fc] 23 (0, 0)) :: .rowI fa fc (cur) :: .items L lo :: .arr y sy ny iy :: M)) (hbad : chsBad L y.shape = false) (hn : cur.length + (chsO L y).length ≤ 900000) :
    Calls Try.prog 51 #[.slice lo L.length lc, .agg #[.int .i64 y.kind, .slice sy y.shape.length cy, .slice ny y.nums.length my, .slice iy y.items.length jy], .func (.func 52) #[] #[.pointer (some ⟨pf, 0, none⟩)]] w fun en w' => ∃ fa' fc', en = .returned (.tuple #[]) ∧ Env w0 S w' (.obj pf (.cells #[.slice fa' (cur ++ chsO L y).length fc'] 23 (0, 0)) :: .rowI fa' fc' (cur ++ chsO L y) :: .items L lo :: .arr y sy ny iy :: M) := by
  refine calls_post fun R' hR => ?_
  replace E := hid E
  have hcs := cnt_le (shapeB_drop hs L.length)
  have hcy := cnt_le hs
  obtain ⟨rn, hrs⟩ : ∃ n : Nat, (n : Int) = cnt (y.shape.drop L.length) := ⟨(cnt (y.shape.drop L.length)).toNat, by omega⟩
  obtain ⟨z, hz⟩ : ∃ n : Nat, (n : Int) = cnt y.shape := ⟨(cnt y.shape).toNat, by omega⟩
  have hz6 : z ≤ 65536 := by omega
  have hb : Hid ((((0 : Nat) : Int) + 1) * cnt (y.shape.drop 0) ≤ (z : Int)) := hid (by rw [List.drop_zero, hz]; simp)
  have hO : Hid (offP (L.map Arr.nums) (y.shape.drop 0) ((0 : Nat) : Int) = chsO L y) := hid rfl
  have hys := (shapeB_iff.1 hs).1
  replace hz := hid hz
  replace hpos := hid hpos
  replace hn := hid hn
  go_enter Try.func51, Try.ntmps51
  go_upto_region 1 with (fail)
  generalize hEW : (((w).alloc (.cells #[.slice lo L.length lc] 24)).alloc (.cells #[.int .i64 y.kind, .slice sy y.shape.length cy, .slice ny y.nums.length my, .slice iy y.items.length jy] 26)).alloc (.cells #[.func (.func 52) #[] #[.pointer (some ⟨pf, 0, none⟩)]] 66) = W
  replace E := hid (envF3 E.out hEW)
  clear hEW
  (try simp only [List.cons_append, List.nil_append, List.set_cons_zero, List.set_cons_succ] at E)
  have c0 := (cell_row1 (E.out.obj 0 rfl)).1
  obtain ⟨q10, q11, q12, q13⟩ := (E.out.hdr 1 rfl).all
  go_wp2_with fail
  clear c0
  clear q10 q11 q12 q13
  refine (shape_Row y.shape _ _ L.length _ _ (E.out.arr 6 rfl).shape hs hL hc).mono ?_
  rintro e w1 ⟨rfl, hb1⟩
  rw [← hrs]
  replace E := hid (E.out.up hb1)
  clear hb1
  replace hrs := hid hrs
  replace hs := hid hs
  go_upto_region 2 with (refine wpl_cell1I rfl (.tmp 7) (.tmp 16) rfl _ rfl rfl ((E.out.alloc _).front.obj 0 rfl) ?_; intro V1 HV CV; replace E := hid ((E.out.alloc _).front.chg 0 rfl CV HV); clear CV HV; (try simp only [List.cons_append, List.nil_append, List.set_cons_zero, List.set_cons_succ] at E))
  generalize w1.heap.size = pr at E ⊢
  go_upto_region 4 with (refine wpl_cell1F rfl (.tmp 8) (.tmp 17) rfl _ rfl rfl ((E.out.alloc _).front.obj 0 rfl) ?_; intro V2 HV CV; replace E := hid ((E.out.alloc _).front.chg 0 rfl CV HV); clear CV HV; (try simp only [List.cons_append, List.nil_append, List.set_cons_zero, List.set_cons_succ] at E))
  generalize V1.heap.size = pv at E ⊢
  replace E := hid (((((((E.out.pick 3 rfl).pick 1 rfl).pick 4 rfl).pick 3 rfl).pick 4 rfl).pick 6 rfl).pick 6 rfl)
  simp only [List.eraseIdx_cons_succ, List.eraseIdx_cons_zero] at E
  have c1 := (cell_row1 (E.out.obj 5 rfl)).1
  go_wp2_with fail
  clear c1
  refine (indexing_visit L lo lc y _ _ _ _ _ _ pf _ pr _ pv _ rn z hs.out hpos.out hrs.out hL hz6 L 0 0 _ _ fa fc cur w0 S _ M rfl rfl rfl (by simp) E.out hb.out (by rw [List.drop_zero]; exact hbad) (by rw [hO.out]; exact hn.out)).mono ?_
  rintro e w9 ⟨fa2, fc2, rfl, E1⟩
  rw [hO.out] at E1
  obtain ⟨nn, hnn⟩ : ∃ l, l = cur ++ chsO L y := ⟨_, rfl⟩
  rw [← hnn] at E1 hR
  replace hnn := hid hnn
  clear E
  have E := hid E1
  clear E1
  go_wp2_with fail
  exact bodyPost_ret (end_no rfl) rfl (hR.out _ _ ⟨fa2, fc2, rfl, E.out.sub (((((((List.Sublist.refl _).cons _).cons _).cons _).cons _).cons _).cons_cons _ |>.cons_cons _)⟩)
end Go.Proofs.Ytcoknjlkhefgpaa
