/- binary.Apply for a number, or an array of that number: contract. Conditions: the arrays are right; a slice's capacity is at least its length. -/
import Derived.Test.YtolnbmmkpmajdaaBIN5
import Derived.Test.YtolnbmmkpmajdaaTAKA
import Derived.WalkMore
set_option linter.unusedVariables false
set_option maxRecDepth 20000
set_option linter.unusedSimpArgs false
namespace Go.Proofs.Ytolnbmmkpmajdaa
open Go.RowKit Go.Sort
attribute [local go_sem ↓] run_max2 run_min2
attribute [local go_sem] eql_ints_nil eql_arrs_nil
set_option maxHeartbeats 2000000 in
theorem binary_apply1 (p : Nat) (a b : Int) (pc : Nat) (w : World) (hc : w.cell? ⟨pc, 0, none⟩ = some (.int .i64 (p : Int))) : Calls Try.prog 40 #[.int .i64 a, .int .i64 b, .pointer (some ⟨pc, 0, none⟩)] w fun e w' => e = .returned (.bool (decide (p = 12))) ∧ Ext w w' := by
  refine calls_post fun R' hR => ?_
  by_cases c : p = 12
  · have hv : Hid (decide (p = 12) = true) := hid (decide_eq_true c)
    have cb : ((p : Int) == 12) = true := by simp; omega
    replace c := hid c
    go_enter Try.func40, Try.ntmps40
    go_wp2_with fail
    exact hR.out _ _ ⟨by rw [hv.out] <;> rfl, Ext.refl _⟩
  · have hv : Hid (decide (p = 12) = false) := hid (decide_eq_false c)
    have cb : ((p : Int) == 12) = false := by simp; omega
    replace c := hid c
    go_enter Try.func40, Try.ntmps40
    go_wp2_with fail
    exact hR.out _ _ ⟨by rw [hv.out] <;> rfl, Ext.refl _⟩
/-- the function that binary.Apply uses -/
def appF (F : Int → Int → Int × Int) (p : Nat) (k : Int) : Int → Int → Int × Int := if k = 1 then F else fun _ _ => (if decide (p = 12) then 1 else 0, 0)
theorem numB_chr {n : Int} (h : elemB 2 n = true) : numB n = true := by
  have h : chrB n = true := h
  simp [chrB] at h
  simp [numB]
  omega
def FnG (K : FuncId) (caps : Array Value) (F : Int → Int → Int × Int) (T : Nat → Prop) (w : World) : Prop := ∃ bl, (∀ q ∈ bl, T q ∧ q < w.heap.size) ∧ FnBody K caps bl w F
theorem FnG.keep {K : FuncId} {caps : Array Value} {F : Int → Int → Int × Int} {T T' : Nat → Prop} {w w' : World} (h : FnG K caps F T w) (hk : ∀ b, T b → b < w.heap.size → w'.heap[b]? = w.heap[b]?) (hT : ∀ b, b < w.heap.size → T b → T' b) : FnG K caps F T' w' := by
  obtain ⟨bl, h1, h2⟩ := h
  refine ⟨bl, fun q hq => ⟨hT q (h1 q hq).2 (h1 q hq).1, ?_⟩, fun a b wz hz ha hb => h2 a b wz (fun q hq => (hz q hq).trans (hk q (h1 q hq).1 (h1 q hq).2)) ha hb⟩
  have e := hk q (h1 q hq).1 (h1 q hq).2
  rw [Array.getElem?_eq_getElem (h1 q hq).2] at e
  exact (Array.getElem?_eq_some_iff.1 e).1
theorem FnG.call {K : FuncId} {caps : Array Value} {F : Int → Int → Int × Int} {T : Nat → Prop} {w wz : World} (h : FnG K caps F T w) (hz : Ext w wz) (a b : Int) (ha : numB a = true) (hb : numB b = true) : Calls Try.prog K (#[.int .i64 a, .int .i64 b] ++ caps) wz fun e w' => e = .returned (.tuple #[.int .i64 (F a b).1, .int .i64 (F a b).2]) ∧ Ext wz w' := by
  obtain ⟨bl, h1, h2⟩ := h
  exact h2 a b wz (fun q hq => hz.block q (h1 q hq).2) ha hb
def fnFact (K : FuncId) (caps : Array Value) (F : Int → Int → Int × Int) : Fact := .gen [] (fun _ T w => FnG K caps F T w) (fun B T T' w w' h _ hk hT => h.keep hk hT)
theorem Env.tlT {w0 w : World} {S : Nat → Prop} {L : List Fact} {b : Nat} {o : Obj} (E : Env w0 S w (.obj b o :: L)) : Tst w0 S L b := by
  have h1 := E.nd
  simp only [blks, Fact.blk, List.cons_append, List.nil_append, List.nodup_cons] at h1
  exact ⟨Or.inr (E.lo b (by simp [blks, Fact.blk])).1, h1.1⟩
set_option maxRecDepth 100000 in
set_option maxHeartbeats 20000000 in
theorem binary_Apply (p : Nat) (h1 : 1 ≤ p) (h2 : p ≤ 16) (F : Int → Int → Int × Int) (hF : ∀ w : World, Calls Try.prog 38 #[.int .i64 (p : Int)] w fun e w' => ∃ fv, e = .returned fv ∧ FnOk [] w w' fv F ∧ Ext w w') (n : Int) (hn : numB n = true)
    (x : Arr) (sx : Option Addr) (cx : Nat) (nx : Option Addr) (mx : Nat) (ix : Option Addr) (jx : Nat) (y : Arr) (sy : Option Addr) (cy : Nat) (ny : Option Addr) (my : Nat) (iy : Option Addr) (jy : Nat) (S : Nat → Prop) (w : World) (h : ArrAt w S x sx nx ix) (g : ArrAt w S y sy ny iy) (rx : rightS x = 0) (ry : rightS y = 0) (kx : x.kind = 1) (hxs : x.shape = [] ∨ x.shape = y.shape) (hxn : ∀ j, j < x.nums.length → x.nums.getD j 0 = n) (hcx : x.shape.length ≤ cx) (hcy : y.shape.length ≤ cy) :
    Calls Try.prog 16 #[.int .i64 (p : Int), .agg #[.int .i64 x.kind, .slice sx x.shape.length cx, .slice nx x.nums.length mx, .slice ix x.items.length jx], .agg #[.int .i64 y.kind, .slice sy y.shape.length cy, .slice ny y.nums.length my, .slice iy y.items.length jy]] w (RetAE w (fun b => w.heap.size ≤ b) (appS (appF F p y.kind) n y p) (appE (appF F p y.kind) n y p)) := by
  refine calls_post fun R' hR => ?_
  have h0 := hid h
  have g0 := hid g
  have hsX := (right_ok rx).2.1
  have hsY := (right_ok ry).2.1
  have hky := (right_ok ry).1
  have hxl : x.kind = 1 → (x.nums.length : Int) = cnt x.shape := fun k => by
    rcases (right_ok rx).2.2 with ⟨q, _⟩ | ⟨_, q, _⟩
    · omega
    · exact q
  have hxL := hxl kx
  have hdp : decide (1 ≤ p ∧ p ≤ 16) = true := decide_eq_true ⟨h1, h2⟩
  have hac := hid (binary_accepts h1 h2 kx hky)
  have hap1 := hid (fun (a b : Int) (pc : Nat) (wz : World) hc => binary_apply1 p a b pc wz hc)
  replace hF := hid hF
  have hyB : Hid (y.kind ≠ 3 → ∀ j, j < y.nums.length → numB (y.nums.getD j 0) = true) := hid fun k j hj => by
    have he := (right_iff.1 ry).2.1 _ (getD_mem hj)
    rcases hky with q | q | q
    · rw [q] at he; exact he
    · rw [q] at he; exact numB_chr he
    · exact absurd q k
  obtain ⟨N, hN⟩ : ∃ N : Nat, cnt y.shape = (N : Int) := ⟨(cnt y.shape).toNat, by have := cnt_le hsY; omega⟩
  have hN6 : N ≤ 65536 := by have := cnt_le hsY; omega
  have hyl : Hid (y.kind ≠ 3 → y.nums.length = N) := hid fun k => by
    rcases (right_ok ry).2.2 with ⟨q, _⟩ | ⟨_, q, _⟩
    · exact absurd q k
    · omega
  have hxl2 : Hid (x.shape = [] ∧ x.nums.length = 1 ∨ x.shape = y.shape ∧ x.nums.length = N) := hid (by
    rcases hxs with q | q
    · rw [q, cnt_nil] at hxL; exact Or.inl ⟨q, by omega⟩
    · rw [q, hN] at hxL; exact Or.inr ⟨q, by omega⟩)
  have hcN := hid hN
  have hk3 : Hid (accR p y.kind = true → y.kind ≠ 3) := hid fun q k => by
    rw [k] at q; unfold accR at q; split at q <;> simp at q
  have hn := hid hn
  replace hxn := hid hxn
  replace hxs := hid hxs
  replace kx := hid kx
  replace rx := hid rx
  replace ry := hid ry
  replace hsX := hid hsX
  replace hsY := hid hsY
  have hcx := hid hcx
  have hcy := hid hcy
  have hp256 : p < 256 := by omega
  clear h g hxl hxL hN hky
  go_enter Try.func16, Try.ntmps16
  go_upto_region 1 with (fail)
  generalize hEW : ((((w).alloc (.cells #[.int .i64 (p : Int)] 37)).alloc (.cells #[.int .i64 x.kind, .slice sx x.shape.length cx, .slice nx x.nums.length mx, .slice ix x.items.length jx] 26)).alloc (.cells #[.int .i64 y.kind, .slice sy y.shape.length cy, .slice ny y.nums.length my, .slice iy y.items.length jy] 26)).alloc (.cells #[.int .i64 0, .slice none 0 0, .slice none 0 0, .slice none 0 0] 26) = W
  have E := hid (env4 w S hEW)
  clear hEW
  replace E := hid ((E.out.arg h0.out).arg g0.out)
  (try simp only [List.cons_append, List.nil_append, List.set_cons_zero, List.set_cons_succ] at E)
  have c0 := (cell_row1 (E.out.obj 0 rfl)).1
  go_step3
  go_wp2_with fail
  clear c0
  refine (binary_Is p hp256 _).mono ?_
  rintro e w1 ⟨rfl, hb⟩
  replace E := hid (E.out.up hb)
  clear hb
  rw [hdp]
  obtain ⟨q10, q11, q12, q13⟩ := (E.out.hdr 1 rfl).all
  go_wp2_with fail
  clear q10 q11 q12 q13
  refine (array_Right x _ _ _ _ _ _ _ _ (E.out.arr 4 rfl)).mono ?_
  rintro e w2 ⟨rfl, hb⟩
  replace E := hid (E.out.up hb)
  clear hb
  rw [rx.out]
  obtain ⟨q20, q21, q22, q23⟩ := (E.out.hdr 2 rfl).all
  go_wp2_with fail
  clear q20 q21 q22 q23
  refine (array_Right y _ _ _ _ _ _ _ _ (E.out.arr 5 rfl)).mono ?_
  rintro e w3 ⟨rfl, hb⟩
  replace E := hid (E.out.up hb)
  clear hb
  rw [ry.out]
  have c0 := (cell_row1 (E.out.obj 0 rfl)).1
  obtain ⟨q10, q11, q12, q13⟩ := (E.out.hdr 1 rfl).all
  obtain ⟨q20, q21, q22, q23⟩ := (E.out.hdr 2 rfl).all
  go_wp2_with fail
  clear q10 q11 q12 q13 q20 q21 q22 q23
  clear c0
  refine (hac.out _).mono ?_
  rintro e w4 ⟨rfl, hb⟩
  replace E := hid (E.out.up hb)
  clear hb
  cases hA : accR p y.kind with
  | false =>
    have hnE : Hid (appE (appF F p y.kind) n y p = 14) := hid (if_pos hA)
    have hvS : Hid (appS (appF F p y.kind) n y p = .zero) := hid (if_neg (by rw [hnE.out]; decide))
    replace hA := hid hA
    go_wp2_with (refine wpl_store4 rfl (.tmp 6) (.tmp 38) rfl _ rfl rfl (E.out.hdr 3 rfl) ?_; intro V HV CV; replace E := hid (E.out.chg 3 rfl CV HV))
    exact bodyPost_ret (end_arr2 rfl HV rfl rfl) rfl (hR.out _ _ (RetAE.zero hvS.out hnE.out E.out.ext))
  | true =>
  have hky3 := hid (hk3.out hA)
  have hEE : Hid (appE (appF F p y.kind) n y p = errL (appF F p y.kind) n y.nums) := hid (if_neg (by rw [hA]; decide))
  replace hA := hid hA
  obtain ⟨q10, q11, q12, q13⟩ := (E.out.hdr 1 rfl).all
  obtain ⟨q20, q21, q22, q23⟩ := (E.out.hdr 2 rfl).all
  go_wp2_with fail
  clear q10 q11 q12 q13 q20 q21 q22 q23
  refine (shape_Agree x.shape y.shape _ _ _ _ _ _ _ (E.out.arr 4 rfl).shape (E.out.arr 5 rfl).shape hsX.out hsY.out hxs.out hcx.out hcy.out).mono ?_
  rintro e w5 ⟨sg, sgc, rfl, hI, hcg, hb⟩
  replace E := hid ((E.out.up hb).addInts hI (fun b _ hq => E.out.fresh (Ext.refl _) hq))
  clear hI hb
  (try simp only [List.cons_append, List.nil_append, List.set_cons_zero, List.set_cons_succ] at E)
  have c0 := (cell_row1 (E.out.obj 0 rfl)).1
  go_wp2_with fail
  clear c0
  obtain ⟨w5', hw5⟩ : ∃ q : World, q = w5 := ⟨_, rfl⟩
  subst hw5
  refine (hF.out _).mono ?_
  rintro e w6 ⟨fv, rfl, hG, hb⟩
  have EU := hid (E.out.up hb)
  by_cases k1 : y.kind = 1
  case pos =>
    have kb : Hid (∀ q : Int, q = 1 → (q != y.kind) = false) := hid fun q e => by rw [e, k1]; rfl
    have hGF : appF F p y.kind = F := if_pos k1
    have kb2 : (x.kind != y.kind) = false := kb.out _ kx.out
    obtain ⟨K, caps, bl, rfl, hK, hbl, hfn⟩ := hG
    obtain ⟨G, hGd⟩ : ∃ G, G = appF F p y.kind := ⟨_, rfl⟩
    rw [← hGd] at hEE hR
    rw [← hGF, ← hGd] at hfn
    have hadd : FnG K caps G (Tst w S _) w6 := ⟨bl, fun q hq => ⟨E.out.tl.fresh (Ext.refl _) ((hbl q hq).1.elim (fun h => by cases h) id), (hbl q hq).2⟩, hfn⟩
    replace E := hid (EU.out.tl.add (f := fnFact K caps G) rfl hadd)
    replace k1 := hid k1
    replace hGF := hid hGF
    replace hGd := hid hGd
    clear hadd EU hb hbl
    (try simp only [List.cons_append, List.nil_append, List.set_cons_zero, List.set_cons_succ] at E)
    obtain ⟨q00, q01, q02, q03⟩ := (E.out.hdr 0 rfl).all
    obtain ⟨q10, q11, q12, q13⟩ := (E.out.hdr 1 rfl).all
    go_upto_region 11 with (fail)
    clear q00 q01 q02 q03 q10 q11 q12 q13
    clear kb2
    -- E : without p's box, with the function's fact (6); G its function
    replace hfn := hid hfn
    go_wp2_with fail
    refine (shape_Size y.shape _ _ _ _ (E.out.ints 5 rfl)).mono ?_
    rintro e w7 ⟨rfl, rfl⟩
    rw [sizeS_true hsY.out, hcN.out]
    go_wp2_with fail
    refine (slices_Clone y.shape _ _ _ _ (E.out.ints 5 rfl)).mono ?_
    rintro e w8 ⟨so, sc, rfl, hO, hb⟩
    have hscc := hid (OwnI.cap hO)
    replace E := hid ((E.out.up hb).addIntsF ((hO.ints (E.out.ints 5 rfl).1).mono fun b _ h => h.1) E.out.blt E.out.size)
    clear hO hb
    (try simp only [List.cons_append, List.nil_append, List.set_cons_zero, List.set_cons_succ] at E)
    go_upto_region 13 with (refine wpl_store4 rfl (.tmp 12) (.tmp 63) rfl _ rfl rfl ((E.out.alloc _).hdr 8 rfl) ?_; intro V8 HV CV; replace E := hid ((E.out.alloc _).chg 8 rfl CV HV); clear CV HV; (try simp only [List.cons_append, List.nil_append, List.set_cons_zero, List.set_cons_succ] at E))
    generalize w8.heap.size = po at E ⊢
    replace E := hid E.out.row0I
    (try simp only [List.cons_append, List.nil_append, List.set_cons_zero, List.set_cons_succ] at E)
    go_wp2_with fail
    go_step3
    go_upto_region 15 with (fail)
    go_loopw [13, 65] (fun sv v wr => ∃ (i : Nat) (na : Option Addr) (nc : Nat), i ≤ N ∧ sv = .int .i64 0 ∧ v = .int .i64 i ∧ Hid (∀ j, j < i → (G n (y.nums.getD j 0)).2 = 0) ∧ Env w S wr [.obj (w.heap.size + 1) (.cells #[.int .i64 x.kind, .slice sx x.shape.length cx, .slice nx x.nums.length mx, .slice ix x.items.length jx] 26 (0, 0)), .obj (w.heap.size + 1 + 1) (.cells #[.int .i64 y.kind, .slice sy y.shape.length cy, .slice ny y.nums.length my, .slice iy y.items.length jy] 26 (0, 0)), .obj (w.heap.size + 1 + 1 + 1) (.cells #[.int .i64 0, .slice none 0 0, .slice none 0 0, .slice none 0 0] 26 (0, 0)), .arr x sx nx ix, .arr y sy ny iy, .ints y.shape sg, fnFact K caps G, .intsF y.shape so, .obj po (.cells #[.int .i64 1, .slice so y.shape.length sc, .slice na ((y.nums.take i).map fun v => (G n v).1).length nc, .slice none 0 0] 26 (0, 0)), .rowI na nc ((y.nums.take i).map fun v => (G n v).1)]) (fun _ v _ => N - (intOf v).toNat)
    case atStart => exact ⟨0, none, 0, Nat.zero_le _, rfl, rfl, hid (fun j hj => by omega), E.out⟩
    case round =>
      clear E
      obtain ⟨i, na, nc, hi, rfl, rfl, hok, E⟩ := hrel
      replace E := hid E
      by_cases hlt : i < N
      case pos =>
        have hyN := hyl.out hky3.out
        obtain ⟨lx, d1, im, g1, g2, g3, g4, g5⟩ : ∃ lx d1 im : Nat, x.nums.length = lx ∧ N / lx = d1 ∧ i / d1 = im ∧ im < lx ∧ 0 < d1 := by
          rcases hxl2.out with ⟨_, q⟩ | ⟨_, q⟩
          · exact ⟨1, N, 0, q, Nat.div_one _, Nat.div_eq_of_lt hlt, by omega, by omega⟩
          · exact ⟨N, 1, i, q, Nat.div_self (by omega), Nat.div_one _, hlt, by omega⟩
        have hlx : 0 < lx := by omega
        have f1 : Int.tdiv (N : Int) (x.nums.length : Int) = (d1 : Int) := by rw [g1, ← g2]; exact Int.ofNat_tdiv N lx
        have f3 : Int.tdiv (i : Int) (d1 : Int) = (im : Int) := by rw [← g3]; exact Int.ofNat_tdiv i d1
        obtain ⟨d2, hd2⟩ : ∃ d : Nat, d = 1 := ⟨_, rfl⟩
        have f5 : Int.tdiv (N : Int) (y.nums.length : Int) = (d2 : Int) := by rw [hyN, hd2, ← Nat.div_self (show 0 < N by omega)]; exact Int.ofNat_tdiv N N
        have f7 : Int.tdiv (i : Int) (d2 : Int) = (i : Int) := by rw [hd2]; simp
        have im1 : im ≤ i := by rw [← g3]; exact Nat.div_le_self _ _
        have d16 : d1 ≤ N := by rw [← g2]; exact Nat.div_le_self _ _
        have w1' : IntKind.i64.wrap (d1 : Int) = (d1 : Int) := IntWalk.i64_in _ (by omega)
        have w2' : IntKind.i64.wrap (im : Int) = (im : Int) := IntWalk.i64_in _ (by omega)
        have w3' : IntKind.i64.wrap (d2 : Int) = (d2 : Int) := IntWalk.i64_in _ (by omega)
        have w4' : IntKind.i64.wrap (i : Int) = (i : Int) := IntWalk.i64_in _ (by omega)
        have z1 : ((x.nums.length : Int) == 0) = false := beq_eq_false_iff_ne.2 (by omega)
        have z2 : ((d1 : Int) == 0) = false := by simp; omega
        have z3 : ((y.nums.length : Int) == 0) = false := beq_eq_false_iff_ne.2 (by omega)
        have z4 : ((d2 : Int) == 0) = false := by simp; omega
        have y1 : ¬ x.nums.length = 0 := by omega
        have y2 : ¬ d1 = 0 := by omega
        have y3 : ¬ y.nums.length = 0 := by omega
        have y4 : ¬ d2 = 0 := by omega
        have x1 : (0 : Int) ≤ (im : Int) := by omega
        have x2 : (im : Int) < (x.nums.length : Int) := by omega
        have x3 : im < x.nums.length := by omega
        have x4 : (0 : Int) ≤ (i : Int) := by omega
        have x5 : (i : Int) < (y.nums.length : Int) := by omega
        have x6 : i < y.nums.length := by omega
        obtain ⟨bx, ox, hnx, _, _, ex⟩ := (E.out.arr 3 rfl).nums.at x3
        obtain ⟨bq, oq, hny, _, _, ey⟩ := (E.out.arr 4 rfl).nums.at x6
        rw [hxn.out im x3] at ex
        have hvB := hyB.out hky3.out i x6
        have hcl := hid (fun (wz : World) (hz : Ext wr wz) => FnG.call (show FnG K caps G _ wr from E.out.get 6 rfl) hz n (y.nums.getD i 0) hn.out hvB)
        have hst : Hid ((y.nums.take (i + 1)).map (fun v => (G n v).1) = (y.nums.take i).map (fun v => (G n v).1) ++ [(G n (y.nums.getD i 0)).1]) := hid (by
          rw [List.take_add_one, List.map_append, List.getD_eq_getElem?_getD, List.getElem?_eq_getElem x6]; rfl)
        have hat := hid (fun q => errL_at (F := G) (n := n) (l := y.nums) x6 hok.out q)
        have hnx1 : Hid ((G n (y.nums.getD i 0)).2 = 0 → ∀ j, j < i + 1 → (G n (y.nums.getD j 0)).2 = 0) := hid fun q j hj => by
          rcases Nat.lt_succ_iff_lt_or_eq.1 hj with h1 | h1
          · exact hok.out j h1
          · rw [h1]; exact q
        obtain ⟨vi, hvi⟩ : ∃ q, q = y.nums.getD i 0 := ⟨_, rfl⟩
        obtain ⟨r1, hr1⟩ : ∃ q, q = (G n vi).1 := ⟨_, rfl⟩
        obtain ⟨r2, hr2⟩ : ∃ q, q = (G n vi).2 := ⟨_, rfl⟩
        rw [← hvi] at ey hcl hst hat hnx1
        rw [← hr1, ← hr2] at hcl
        rw [← hr1] at hst
        rw [← hr2] at hat hnx1
        obtain ⟨cu, hcu⟩ : ∃ q, q = (y.nums.take i).map (fun v => (G n v).1) := ⟨_, rfl⟩
        rw [← hcu] at E hst
        have hcul : cu.length ≤ N := by rw [hcu, List.length_map, List.length_take]; omega
        replace hcu := hid hcu
        replace hvi := hid hvi
        replace hr1 := hid hr1
        replace hr2 := hid hr2
        replace hyN := hid hyN
        replace hd2 := hid hd2
        replace g1 := hid g1
        replace g2 := hid g2
        replace g3 := hid g3
        have hia := hid hnx
        have hib := hid hny
        clear hnx hny hvB
        go_upto_region 17 with (fail)
        have dx := (E.out.hdr 0 rfl).c2
        rw [hia.out] at dx
        have dy := (E.out.hdr 1 rfl).c2
        rw [hib.out] at dy
        refine wp_region_mono (Sees wr [(⟨w.heap.size + 1, 2, none⟩, .slice (some ⟨bx, ox, none⟩) x.nums.length mx), (⟨bx, ox + im, none⟩, .int .i64 n), (⟨w.heap.size + 1 + 1, 2, none⟩, .slice (some ⟨bq, oq, none⟩) y.nums.length my), (⟨bq, oq + i, none⟩, .int .i64 vi)]) [23] (fun k v u u' => match k with | 23 => v = .tuple #[.int .i64 r1, .int .i64 r2] | _ => False) (fun _ _ h e => h.up e) (Sees.start (all_cons (dx) (all_cons (ex) (all_cons (dy) (all_cons (ey) (all_nil)))))) (by kernel_rfl) (by kernel_rfl) ?_
        repeat (first | (refine m_plain (v := ?_) (by rfl) (by rfl) ?_ ?_; rotate_left; (intro wz hSw; obtain ⟨-, hSc⟩ := hSw; (try simp only [List.forall_mem_cons, List.forall_mem_nil, and_true] at hSc); go_simp; (first | done | with_reducible rfl)); (intro K hK; (try simp only [Act.put, List.setIfInBounds_toArray, List.set_cons_zero, List.set_cons_succ]); refine hK _ _ ?_; clear hK K)) | (refine m_skip (by rfl) (by rfl) ?_; (intro K hK; (try simp only [Act.put, List.setIfInBounds_toArray, List.set_cons_zero, List.set_cons_succ]); refine hK _ _ ?_; clear hK K)))
        refine m_make (by rfl) (by rfl) ?_ ?_
        · intro wz hSw hdep R hRz
          obtain ⟨hSe, hSc⟩ := hSw
          (try simp only [List.forall_mem_cons, List.forall_mem_nil, and_true] at hSc)
          unfold does
          (go_simp; refine Calls.mono (hcl.out wz hSe) ?_; rintro e wq ⟨rfl, hb⟩; exact ⟨_, rfl, hRz.out _ _ ⟨hb, rfl⟩⟩)
        intro v23 u23 x23 hG23 K hK
        have hF23 := hG23.fact
        (try dsimp only at hF23)
        subst hF23
        (try simp only [Act.put, List.setIfInBounds_toArray, List.set_cons_zero, List.set_cons_succ]); refine hK _ _ ?_; clear hK K
        repeat (first | (refine m_plain (v := ?_) (by rfl) (by rfl) ?_ ?_; rotate_left; (intro wz hSw; obtain ⟨-, hSc⟩ := hSw; (try simp only [List.forall_mem_cons, List.forall_mem_nil, and_true] at hSc); go_simp; (first | done | with_reducible rfl)); (intro K hK; (try simp only [Act.put, List.setIfInBounds_toArray, List.set_cons_zero, List.set_cons_succ]); refine hK _ _ ?_; clear hK K)) | (refine m_skip (by rfl) (by rfl) ?_; (intro K hK; (try simp only [Act.put, List.setIfInBounds_toArray, List.set_cons_zero, List.set_cons_succ]); refine hK _ _ ?_; clear hK K)))
        refine m_nil ?_
        intro wf hSf hAf
        replace E := hid (E.out.up hSf.1)
        clear hSf hAf hG23 dx dy ex ey
        by_cases d : r2 = 0
        case pos =>
          have rb : (r2 != 0) = false := by simp [d]
          have hn2 := hid (hnx1.out d)
          replace d := hid d
          obtain ⟨q80, q81, q82, q83⟩ := (E.out.hdr 8 rfl).all
          go_wp2_with (first
            | (at_builtin; replace E := hid (E.out.lit [r1] (show (1 : Nat) ≤ 17592186044416 by decide)); (try simp only [List.cons_append, List.nil_append, List.set_cons_zero, List.set_cons_succ] at E); refine wplE_addN E.out 8 9 rfl rfl (by decide) rfl rfl rfl (.tmp 99) (.tmp 101) (.tmp 12) (.tmp 103) (.tmp 102) rfl rfl rfl _ _ 1 [r1] rfl rfl (E.out.ints 10 rfl) (by simp only [List.length_cons, List.length_nil]; omega) (fun _ => rfl) (fun _ _ => rfl) (fun _ _ => rfl) ?_; intro V9 na' nc' E'; clear E; have E := hid E'; clear E'; (try simp only [List.cons_append, List.nil_append, List.set_cons_zero, List.set_cons_succ] at E)))
          go_roundw
          case rel => exact ⟨i + 1, na', nc', by omega, rfl, by go_num, hn2, by rw [hst.out]; exact E.out.sub (List.Sublist.cons_cons _ (List.Sublist.cons_cons _ (List.Sublist.cons_cons _ (List.Sublist.cons_cons _ (List.Sublist.cons_cons _ (List.Sublist.cons_cons _ (List.Sublist.cons_cons _ (List.Sublist.cons_cons _ (List.Sublist.cons_cons _ (List.Sublist.cons_cons _ (List.nil_sublist _)))))))))))⟩
          case measure => simp [intOf]; omega
        case neg =>
          have rb : (r2 != 0) = true := by simp [d]
          have hnE : Hid (appE G n y p = r2) := hid (by rw [hEE.out, hat.out d])
          have hvS : Hid (appS G n y p = .zero) := hid (if_neg (by rw [hnE.out]; exact d))
          replace d := hid d
          go_wp2_with (refine wpl_store4 rfl (.tmp 6) (.tmp 107) rfl _ rfl rfl (E.out.hdr 2 rfl) ?_; intro V HV CV; replace E := hid (E.out.chg 2 rfl CV HV))
          exact bodyPost_ret (end_arr2 rfl HV rfl rfl) rfl (hR.out _ _ (RetAE.zero hvS.out hnE.out E.out.ext))
      case neg =>
        obtain rfl : i = N := by omega
        have hyN := hyl.out hky3.out
        have hz : Hid (appE G n y p = 0) := hid (by rw [hEE.out]; exact errL_all fun j hj => hok.out j (by omega))
        have htk : y.nums.take i = y.nums := List.take_of_length_le (by omega)
        rw [htk] at E
        have hvS : Hid (appS G n y p = .mk 1 y.shape (y.nums.map fun v => (G n v).1) []) := hid (if_pos hz.out)
        obtain ⟨cu, hcu⟩ : ∃ q, q = y.nums.map (fun v => (G n v).1) := ⟨_, rfl⟩
        rw [← hcu] at E hvS
        have hcul : cu.length ≤ i := by rw [hcu, List.length_map]; omega
        replace hcu := hid hcu
        replace hyN := hid hyN
        replace htk := hid htk
        have c8 := OwnI.cap (E.out.rowI 9 rfl)
        replace E := hid (E.out.doneIF 9 rfl (by omega))
        (try simp only [List.cons_append, List.nil_append, List.set_cons_zero, List.set_cons_succ] at E)
        obtain ⟨q80, q81, q82, q83⟩ := (E.out.hdr 8 rfl).all
        go_wp2_with (refine wpl_store4 rfl (.tmp 6) (.tmp 109) rfl _ rfl rfl (E.out.hdr 2 rfl) ?_; intro V HV CV; replace E := hid (E.out.chg 2 rfl CV HV); clear CV; (try simp only [List.cons_append, List.nil_append, List.set_cons_zero, List.set_cons_succ] at E))
        exact bodyPost_ret (end_arr2 rfl HV rfl rfl) rfl (hR.out _ _ (RetAEC.of hvS.out hz.out rfl ((E.out.intsF 7 rfl).mono fun b _ h => h.2) ((E.out.intsF 9 rfl).mono fun b _ h => h.2) (by simp) (by simp only [ItemsAt]) E.out.ext hscc.out c8 (Nat.zero_le _)).to)
  case neg =>
    have kb2 : (x.kind != y.kind) = true := by rw [kx.out]; simp; omega
    have hGF : appF F p y.kind = fun _ _ => (if decide (p = 12) then 1 else 0, 0) := if_neg k1
    replace k1 := hid k1
    clear hG
    replace E := hid EU.out
    clear EU hb
    obtain ⟨q10, q11, q12, q13⟩ := (E.out.hdr 1 rfl).all
    obtain ⟨q20, q21, q22, q23⟩ := (E.out.hdr 2 rfl).all
    go_wp2_with fail
    clear q10 q11 q12 q13 q20 q21 q22 q23
    clear kb2
    refine (binary_test 40 #[.pointer (some ⟨w.heap.size, 0, none⟩)] [w.heap.size] (fun _ _ => decide (p = 12)) w6 (fun args wz => by kernel_rfl) (fun q hq => by rw [List.mem_singleton.1 hq]; exact (E.out.lt 0 rfl).2) (fun a b wz hz => hap1.out a b w.heap.size wz ((World.cell?_of_block (a := ⟨w.heap.size, 0, none⟩) (hz _ (List.mem_singleton.2 rfl))).trans (cell_row1 (E.out.obj 0 rfl)).1))).mono ?_
    rintro e w6b ⟨fv2, rfl, hG, hb⟩
    obtain ⟨K, caps, bl, rfl, hK, hbl, hfn⟩ := hG
    obtain ⟨G, hGd⟩ : ∃ G, G = appF F p y.kind := ⟨_, rfl⟩
    rw [← hGd] at hEE hR
    rw [← hGF, ← hGd] at hfn
    have hadd : FnG K caps G (Tst w S _) w6b := ⟨bl, fun q hq => ⟨(hbl q hq).1.elim (fun h => by rw [List.mem_singleton.1 h]; exact E.out.tlT) (fun h => E.out.tl.fresh (Ext.refl _) h), (hbl q hq).2⟩, hfn⟩
    replace E := hid ((E.out.up hb).tl.add (f := fnFact K caps G) rfl hadd)
    replace hGF := hid hGF
    replace hGd := hid hGd
    clear hadd hb hbl
    (try simp only [List.cons_append, List.nil_append, List.set_cons_zero, List.set_cons_succ] at E)
    -- E : without p's box, with the function's fact (6); G its function
    replace hfn := hid hfn
    go_wp2_with fail
    refine (shape_Size y.shape _ _ _ _ (E.out.ints 5 rfl)).mono ?_
    rintro e w7 ⟨rfl, rfl⟩
    rw [sizeS_true hsY.out, hcN.out]
    go_wp2_with fail
    refine (slices_Clone y.shape _ _ _ _ (E.out.ints 5 rfl)).mono ?_
    rintro e w8 ⟨so, sc, rfl, hO, hb⟩
    have hscc := hid (OwnI.cap hO)
    replace E := hid ((E.out.up hb).addIntsF ((hO.ints (E.out.ints 5 rfl).1).mono fun b _ h => h.1) E.out.blt E.out.size)
    clear hO hb
    (try simp only [List.cons_append, List.nil_append, List.set_cons_zero, List.set_cons_succ] at E)
    go_upto_region 13 with (refine wpl_store4 rfl (.tmp 12) (.tmp 63) rfl _ rfl rfl ((E.out.alloc _).hdr 8 rfl) ?_; intro V8 HV CV; replace E := hid ((E.out.alloc _).chg 8 rfl CV HV); clear CV HV; (try simp only [List.cons_append, List.nil_append, List.set_cons_zero, List.set_cons_succ] at E))
    generalize w8.heap.size = po at E ⊢
    replace E := hid E.out.row0I
    (try simp only [List.cons_append, List.nil_append, List.set_cons_zero, List.set_cons_succ] at E)
    go_wp2_with fail
    go_step3
    go_upto_region 15 with (fail)
    go_loopw [13, 65] (fun sv v wr => ∃ (i : Nat) (na : Option Addr) (nc : Nat), i ≤ N ∧ sv = .int .i64 0 ∧ v = .int .i64 i ∧ Hid (∀ j, j < i → (G n (y.nums.getD j 0)).2 = 0) ∧ Env w S wr [.obj (w.heap.size + 1) (.cells #[.int .i64 x.kind, .slice sx x.shape.length cx, .slice nx x.nums.length mx, .slice ix x.items.length jx] 26 (0, 0)), .obj (w.heap.size + 1 + 1) (.cells #[.int .i64 y.kind, .slice sy y.shape.length cy, .slice ny y.nums.length my, .slice iy y.items.length jy] 26 (0, 0)), .obj (w.heap.size + 1 + 1 + 1) (.cells #[.int .i64 0, .slice none 0 0, .slice none 0 0, .slice none 0 0] 26 (0, 0)), .arr x sx nx ix, .arr y sy ny iy, .ints y.shape sg, fnFact K caps G, .intsF y.shape so, .obj po (.cells #[.int .i64 1, .slice so y.shape.length sc, .slice na ((y.nums.take i).map fun v => (G n v).1).length nc, .slice none 0 0] 26 (0, 0)), .rowI na nc ((y.nums.take i).map fun v => (G n v).1)]) (fun _ v _ => N - (intOf v).toNat)
    case atStart => exact ⟨0, none, 0, Nat.zero_le _, rfl, rfl, hid (fun j hj => by omega), E.out⟩
    case round =>
      clear E
      obtain ⟨i, na, nc, hi, rfl, rfl, hok, E⟩ := hrel
      replace E := hid E
      by_cases hlt : i < N
      case pos =>
        have hyN := hyl.out hky3.out
        obtain ⟨lx, d1, im, g1, g2, g3, g4, g5⟩ : ∃ lx d1 im : Nat, x.nums.length = lx ∧ N / lx = d1 ∧ i / d1 = im ∧ im < lx ∧ 0 < d1 := by
          rcases hxl2.out with ⟨_, q⟩ | ⟨_, q⟩
          · exact ⟨1, N, 0, q, Nat.div_one _, Nat.div_eq_of_lt hlt, by omega, by omega⟩
          · exact ⟨N, 1, i, q, Nat.div_self (by omega), Nat.div_one _, hlt, by omega⟩
        have hlx : 0 < lx := by omega
        have f1 : Int.tdiv (N : Int) (x.nums.length : Int) = (d1 : Int) := by rw [g1, ← g2]; exact Int.ofNat_tdiv N lx
        have f3 : Int.tdiv (i : Int) (d1 : Int) = (im : Int) := by rw [← g3]; exact Int.ofNat_tdiv i d1
        obtain ⟨d2, hd2⟩ : ∃ d : Nat, d = 1 := ⟨_, rfl⟩
        have f5 : Int.tdiv (N : Int) (y.nums.length : Int) = (d2 : Int) := by rw [hyN, hd2, ← Nat.div_self (show 0 < N by omega)]; exact Int.ofNat_tdiv N N
        have f7 : Int.tdiv (i : Int) (d2 : Int) = (i : Int) := by rw [hd2]; simp
        have im1 : im ≤ i := by rw [← g3]; exact Nat.div_le_self _ _
        have d16 : d1 ≤ N := by rw [← g2]; exact Nat.div_le_self _ _
        have w1' : IntKind.i64.wrap (d1 : Int) = (d1 : Int) := IntWalk.i64_in _ (by omega)
        have w2' : IntKind.i64.wrap (im : Int) = (im : Int) := IntWalk.i64_in _ (by omega)
        have w3' : IntKind.i64.wrap (d2 : Int) = (d2 : Int) := IntWalk.i64_in _ (by omega)
        have w4' : IntKind.i64.wrap (i : Int) = (i : Int) := IntWalk.i64_in _ (by omega)
        have z1 : ((x.nums.length : Int) == 0) = false := beq_eq_false_iff_ne.2 (by omega)
        have z2 : ((d1 : Int) == 0) = false := by simp; omega
        have z3 : ((y.nums.length : Int) == 0) = false := beq_eq_false_iff_ne.2 (by omega)
        have z4 : ((d2 : Int) == 0) = false := by simp; omega
        have y1 : ¬ x.nums.length = 0 := by omega
        have y2 : ¬ d1 = 0 := by omega
        have y3 : ¬ y.nums.length = 0 := by omega
        have y4 : ¬ d2 = 0 := by omega
        have x1 : (0 : Int) ≤ (im : Int) := by omega
        have x2 : (im : Int) < (x.nums.length : Int) := by omega
        have x3 : im < x.nums.length := by omega
        have x4 : (0 : Int) ≤ (i : Int) := by omega
        have x5 : (i : Int) < (y.nums.length : Int) := by omega
        have x6 : i < y.nums.length := by omega
        obtain ⟨bx, ox, hnx, _, _, ex⟩ := (E.out.arr 3 rfl).nums.at x3
        obtain ⟨bq, oq, hny, _, _, ey⟩ := (E.out.arr 4 rfl).nums.at x6
        rw [hxn.out im x3] at ex
        have hvB := hyB.out hky3.out i x6
        have hcl := hid (fun (wz : World) (hz : Ext wr wz) => FnG.call (show FnG K caps G _ wr from E.out.get 6 rfl) hz n (y.nums.getD i 0) hn.out hvB)
        have hst : Hid ((y.nums.take (i + 1)).map (fun v => (G n v).1) = (y.nums.take i).map (fun v => (G n v).1) ++ [(G n (y.nums.getD i 0)).1]) := hid (by
          rw [List.take_add_one, List.map_append, List.getD_eq_getElem?_getD, List.getElem?_eq_getElem x6]; rfl)
        have hat := hid (fun q => errL_at (F := G) (n := n) (l := y.nums) x6 hok.out q)
        have hnx1 : Hid ((G n (y.nums.getD i 0)).2 = 0 → ∀ j, j < i + 1 → (G n (y.nums.getD j 0)).2 = 0) := hid fun q j hj => by
          rcases Nat.lt_succ_iff_lt_or_eq.1 hj with h1 | h1
          · exact hok.out j h1
          · rw [h1]; exact q
        obtain ⟨vi, hvi⟩ : ∃ q, q = y.nums.getD i 0 := ⟨_, rfl⟩
        obtain ⟨r1, hr1⟩ : ∃ q, q = (G n vi).1 := ⟨_, rfl⟩
        obtain ⟨r2, hr2⟩ : ∃ q, q = (G n vi).2 := ⟨_, rfl⟩
        rw [← hvi] at ey hcl hst hat hnx1
        rw [← hr1, ← hr2] at hcl
        rw [← hr1] at hst
        rw [← hr2] at hat hnx1
        obtain ⟨cu, hcu⟩ : ∃ q, q = (y.nums.take i).map (fun v => (G n v).1) := ⟨_, rfl⟩
        rw [← hcu] at E hst
        have hcul : cu.length ≤ N := by rw [hcu, List.length_map, List.length_take]; omega
        replace hcu := hid hcu
        replace hvi := hid hvi
        replace hr1 := hid hr1
        replace hr2 := hid hr2
        replace hyN := hid hyN
        replace hd2 := hid hd2
        replace g1 := hid g1
        replace g2 := hid g2
        replace g3 := hid g3
        have hia := hid hnx
        have hib := hid hny
        clear hnx hny hvB
        go_upto_region 17 with (fail)
        have dx := (E.out.hdr 0 rfl).c2
        rw [hia.out] at dx
        have dy := (E.out.hdr 1 rfl).c2
        rw [hib.out] at dy
        refine wp_region_mono (Sees wr [(⟨w.heap.size + 1, 2, none⟩, .slice (some ⟨bx, ox, none⟩) x.nums.length mx), (⟨bx, ox + im, none⟩, .int .i64 n), (⟨w.heap.size + 1 + 1, 2, none⟩, .slice (some ⟨bq, oq, none⟩) y.nums.length my), (⟨bq, oq + i, none⟩, .int .i64 vi)]) [23] (fun k v u u' => match k with | 23 => v = .tuple #[.int .i64 r1, .int .i64 r2] | _ => False) (fun _ _ h e => h.up e) (Sees.start (all_cons (dx) (all_cons (ex) (all_cons (dy) (all_cons (ey) (all_nil)))))) (by kernel_rfl) (by kernel_rfl) ?_
        repeat (first | (refine m_plain (v := ?_) (by rfl) (by rfl) ?_ ?_; rotate_left; (intro wz hSw; obtain ⟨-, hSc⟩ := hSw; (try simp only [List.forall_mem_cons, List.forall_mem_nil, and_true] at hSc); go_simp; (first | done | with_reducible rfl)); (intro K hK; (try simp only [Act.put, List.setIfInBounds_toArray, List.set_cons_zero, List.set_cons_succ]); refine hK _ _ ?_; clear hK K)) | (refine m_skip (by rfl) (by rfl) ?_; (intro K hK; (try simp only [Act.put, List.setIfInBounds_toArray, List.set_cons_zero, List.set_cons_succ]); refine hK _ _ ?_; clear hK K)))
        refine m_make (by rfl) (by rfl) ?_ ?_
        · intro wz hSw hdep R hRz
          obtain ⟨hSe, hSc⟩ := hSw
          (try simp only [List.forall_mem_cons, List.forall_mem_nil, and_true] at hSc)
          unfold does
          (go_simp; refine Calls.mono (hcl.out wz hSe) ?_; rintro e wq ⟨rfl, hb⟩; exact ⟨_, rfl, hRz.out _ _ ⟨hb, rfl⟩⟩)
        intro v23 u23 x23 hG23 K hK
        have hF23 := hG23.fact
        (try dsimp only at hF23)
        subst hF23
        (try simp only [Act.put, List.setIfInBounds_toArray, List.set_cons_zero, List.set_cons_succ]); refine hK _ _ ?_; clear hK K
        repeat (first | (refine m_plain (v := ?_) (by rfl) (by rfl) ?_ ?_; rotate_left; (intro wz hSw; obtain ⟨-, hSc⟩ := hSw; (try simp only [List.forall_mem_cons, List.forall_mem_nil, and_true] at hSc); go_simp; (first | done | with_reducible rfl)); (intro K hK; (try simp only [Act.put, List.setIfInBounds_toArray, List.set_cons_zero, List.set_cons_succ]); refine hK _ _ ?_; clear hK K)) | (refine m_skip (by rfl) (by rfl) ?_; (intro K hK; (try simp only [Act.put, List.setIfInBounds_toArray, List.set_cons_zero, List.set_cons_succ]); refine hK _ _ ?_; clear hK K)))
        refine m_nil ?_
        intro wf hSf hAf
        replace E := hid (E.out.up hSf.1)
        clear hSf hAf hG23 dx dy ex ey
        by_cases d : r2 = 0
        case pos =>
          have rb : (r2 != 0) = false := by simp [d]
          have hn2 := hid (hnx1.out d)
          replace d := hid d
          obtain ⟨q80, q81, q82, q83⟩ := (E.out.hdr 8 rfl).all
          go_wp2_with (first
            | (at_builtin; replace E := hid (E.out.lit [r1] (show (1 : Nat) ≤ 17592186044416 by decide)); (try simp only [List.cons_append, List.nil_append, List.set_cons_zero, List.set_cons_succ] at E); refine wplE_addN E.out 8 9 rfl rfl (by decide) rfl rfl rfl (.tmp 99) (.tmp 101) (.tmp 12) (.tmp 103) (.tmp 102) rfl rfl rfl _ _ 1 [r1] rfl rfl (E.out.ints 10 rfl) (by simp only [List.length_cons, List.length_nil]; omega) (fun _ => rfl) (fun _ _ => rfl) (fun _ _ => rfl) ?_; intro V9 na' nc' E'; clear E; have E := hid E'; clear E'; (try simp only [List.cons_append, List.nil_append, List.set_cons_zero, List.set_cons_succ] at E)))
          go_roundw
          case rel => exact ⟨i + 1, na', nc', by omega, rfl, by go_num, hn2, by rw [hst.out]; exact E.out.sub (List.Sublist.cons_cons _ (List.Sublist.cons_cons _ (List.Sublist.cons_cons _ (List.Sublist.cons_cons _ (List.Sublist.cons_cons _ (List.Sublist.cons_cons _ (List.Sublist.cons_cons _ (List.Sublist.cons_cons _ (List.Sublist.cons_cons _ (List.Sublist.cons_cons _ (List.nil_sublist _)))))))))))⟩
          case measure => simp [intOf]; omega
        case neg =>
          have rb : (r2 != 0) = true := by simp [d]
          have hnE : Hid (appE G n y p = r2) := hid (by rw [hEE.out, hat.out d])
          have hvS : Hid (appS G n y p = .zero) := hid (if_neg (by rw [hnE.out]; exact d))
          replace d := hid d
          go_wp2_with (refine wpl_store4 rfl (.tmp 6) (.tmp 107) rfl _ rfl rfl (E.out.hdr 2 rfl) ?_; intro V HV CV; replace E := hid (E.out.chg 2 rfl CV HV))
          exact bodyPost_ret (end_arr2 rfl HV rfl rfl) rfl (hR.out _ _ (RetAE.zero hvS.out hnE.out E.out.ext))
      case neg =>
        obtain rfl : i = N := by omega
        have hyN := hyl.out hky3.out
        have hz : Hid (appE G n y p = 0) := hid (by rw [hEE.out]; exact errL_all fun j hj => hok.out j (by omega))
        have htk : y.nums.take i = y.nums := List.take_of_length_le (by omega)
        rw [htk] at E
        have hvS : Hid (appS G n y p = .mk 1 y.shape (y.nums.map fun v => (G n v).1) []) := hid (if_pos hz.out)
        obtain ⟨cu, hcu⟩ : ∃ q, q = y.nums.map (fun v => (G n v).1) := ⟨_, rfl⟩
        rw [← hcu] at E hvS
        have hcul : cu.length ≤ i := by rw [hcu, List.length_map]; omega
        replace hcu := hid hcu
        replace hyN := hid hyN
        replace htk := hid htk
        have c8 := OwnI.cap (E.out.rowI 9 rfl)
        replace E := hid (E.out.doneIF 9 rfl (by omega))
        (try simp only [List.cons_append, List.nil_append, List.set_cons_zero, List.set_cons_succ] at E)
        obtain ⟨q80, q81, q82, q83⟩ := (E.out.hdr 8 rfl).all
        go_wp2_with (refine wpl_store4 rfl (.tmp 6) (.tmp 109) rfl _ rfl rfl (E.out.hdr 2 rfl) ?_; intro V HV CV; replace E := hid (E.out.chg 2 rfl CV HV); clear CV; (try simp only [List.cons_append, List.nil_append, List.set_cons_zero, List.set_cons_succ] at E))
        exact bodyPost_ret (end_arr2 rfl HV rfl rfl) rfl (hR.out _ _ (RetAEC.of hvS.out hz.out rfl ((E.out.intsF 7 rfl).mono fun b _ h => h.2) ((E.out.intsF 9 rfl).mono fun b _ h => h.2) (by simp) (by simp only [ItemsAt]) E.out.ext hscc.out c8 (Nat.zero_le _)).to)
end Go.Proofs.Ytolnbmmkpmajdaa
