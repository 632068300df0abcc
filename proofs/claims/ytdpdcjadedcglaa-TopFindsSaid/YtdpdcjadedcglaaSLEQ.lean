/- slices.Equal, slices.EqualFunc over array.Same, and array.Same: contracts. Condition: the arrays are read. -/
import Derived.Test.YtdpdcjadedcglaaGG
import Derived.Test.YtdpdcjadedcglaaGC
set_option linter.unusedVariables false
set_option maxRecDepth 20000
set_option linter.unusedSimpArgs false
namespace Go.Proofs.Ytdpdcjadedcglaa
open Go.RowKit Go.Sort
attribute [local go_sem ↓] run_max2 run_min2
attribute [local go_sem] eql_ints_nil eql_arrs_nil
set_option maxHeartbeats 1000000 in
theorem slices_Equal (s t : List Int) (ao : Option Addr) (cap : Nat) (bo : Option Addr) (bcap : Nat) (S T : Nat → Prop) (w : World) (h : IntsAt w S ao s) (g : IntsAt w T bo t) :
    Calls Try.prog 41 #[.slice ao s.length cap, .slice bo t.length bcap] w fun e w' => e = .returned (.bool (eqI s t)) ∧ ∃ n, w' = w.drewN n := by
  refine calls_post fun R' hR => ?_
  have hl := h.1
  have gl := g.1
  by_cases c : s.length = t.length
  · have cb : ((s.length : Int) != (t.length : Int)) = false := by simp [c]
    go_enter Try.func41, Try.ntmps41
    go_wp2_with fail
    have c' := hid c
    clear c
    go_loopw [13] (fun i wr => ∃ k : Nat, k ≤ s.length ∧ i = .int .i64 k ∧ Hid (∀ j, j < k → s.getD j 0 = t.getD j 0) ∧ ∃ n, wr = w.drewN n) (fun i _ => s.length - (intOf i).toNat)
    case atStart => exact ⟨0, Nat.zero_le _, rfl, fun j hj => by omega, 0, rfl⟩
    case round =>
      obtain ⟨k, hk, rfl, hb, n, rfl⟩ := hrel
      by_cases hlt : k < s.length
      · have hlt2 : k < t.length := by have := c'.out; omega
        obtain ⟨b, off, rfl, hbl, hS, hc⟩ := h.at hlt
        obtain ⟨b', off', rfl, hbl', hS', hc'⟩ := g.at hlt2
        have hI := hid (eqI_at (s := s) (t := t) (k := k))
        have hN : Hid (s.getD k 0 = t.getD k 0 → ∀ j, j < k + 1 → s.getD j 0 = t.getD j 0) := fun e j hj => by
          rcases Nat.lt_succ_iff_lt_or_eq.1 hj with h1 | h1
          · exact hb.out j h1
          · rw [h1]; exact e
        generalize s.getD k 0 = d at hc hI hN
        generalize t.getD k 0 = d' at hc' hI hN
        by_cases c1 : d = d'
        · have e1 : (d != d') = false := by simp [c1]
          have c1' := hid c1
          clear c1
          go_wp2_with fail
          go_quiet (fail)
          go_wp2_with fail
          go_roundw
          case rel => exact ⟨k + 1, by omega, by go_num, hN.out c1'.out, n + nq, by first | rfl | exact World.drewN_drewN _ _ _⟩
          case measure => simp [intOf]; omega
        · have e1 : (d != d') = true := by simp [c1]
          have c1' := hid (hI.out c1)
          clear c1 hI
          go_wp2_with fail
          go_quiet (fail)
          go_wp2_with fail
          exact hR.out _ _ ⟨by rw [c1'.out] <;> rfl, n + nq, by first | rfl | exact World.drewN_drewN _ _ _⟩
      · have E := hid (eqI_all c'.out (fun j hj => hb.out j (by omega)))
        have t2 : ¬ (k : Int) < (s.length : Int) := by omega
        have t3 : ¬ (k : Int) < (t.length : Int) := by have := c'.out; omega
        go_wp2_with fail
        exact hR.out _ _ ⟨by rw [E.out] <;> rfl, n, rfl⟩
  · have cb : ((s.length : Int) != (t.length : Int)) = true := by simp; omega
    have E := hid (eqI_len c)
    go_enter Try.func41, Try.ntmps41
    go_wp2_with fail
    exact hR.out _ _ ⟨by rw [E.out] <;> rfl, 0, rfl⟩
theorem cell_chg {w w' : World} {b g o : Nat} {v : Value} (h : w.cell? ⟨b, o, none⟩ = some v) (C : Chg w w' g) (hb : b ≠ g) : w'.cell? ⟨b, o, none⟩ = some v := by
  have hlt := block_lt_of_cell h
  rw [← h]; simp only [World.cell?]; rw [C.blk hlt hb]
noncomputable def sameL (l m : List Arr) : Bool := @decide (l = m) (Classical.propDecidable _)
theorem sameL_not {l m : List Arr} (h : l ≠ m) : sameL l m = false := by unfold sameL; exact @decide_eq_false _ (Classical.propDecidable _) h
theorem sameL_yes {l m : List Arr} (h : l = m) : sameL l m = true := by unfold sameL; exact @decide_eq_true _ (Classical.propDecidable _) h
theorem sameL_at {l m : List Arr} {j : Nat} (h1 : j < l.length) (h2 : j < m.length) (h : sameB l[j] m[j] = false) : sameL l m = false := sameL_not fun e => by subst e; rw [sameB_self] at h; cases h
theorem sameL_all {l m : List Arr} (hl : l.length = m.length) (h : ∀ j (h1 : j < l.length) (h2 : j < m.length), sameB l[j] m[j] = true) : sameL l m = true := sameL_yes (List.ext_getElem hl fun j h1 h2 => sameB_true (h j h1 h2))
theorem sameB_items {a b : Arr} (h0 : a.kind = b.kind) (h1 : eqI a.shape b.shape = true) (h2 : eqI a.nums b.nums = true) : sameB a b = sameL a.items b.items := by
  by_cases h : a.items = b.items
  · rw [sameL_yes h]
    have : a = b := by rw [← Arr.eta a, ← Arr.eta b, h0, eqI_true h1, eqI_true h2, h]
    rw [this]; exact sameB_self b
  · rw [sameL_not h]; exact sameB_not fun e => h (by rw [e])
/-- what array.Same does for one array, whatever the other is -/
def SamOk (x : Arr) : Prop := ∀ (y : Arr) (sa : Option Addr) (sc : Nat) (na : Option Addr) (nc : Nat) (ia : Option Addr) (ic : Nat) (ta : Option Addr) (tc : Nat) (ma : Option Addr) (mc : Nat) (ja : Option Addr) (jc : Nat) (S T : Nat → Prop) (w : World), ArrAt w S x sa na ia → ArrAt w T y ta ma ja →
    Calls Try.prog 13 #[.agg #[.int .i64 x.kind, .slice sa x.shape.length sc, .slice na x.nums.length nc, .slice ia x.items.length ic], .agg #[.int .i64 y.kind, .slice ta y.shape.length tc, .slice ma y.nums.length mc, .slice ja y.items.length jc]] w fun e w' => e = .returned (.bool (sameB x y)) ∧ Below w.heap.size w w'
set_option maxHeartbeats 4000000 in
theorem slices_EqualFunc (l m : List Arr) (IH : ∀ x ∈ l, SamOk x) (ia : Option Addr) (ic : Nat) (ja : Option Addr) (jc : Nat) (S : Nat → Prop) (w : World) (h : ItemsAt w S ia 0 l) (g : ItemsAt w S ja 0 m) (hl : l.length ≤ 1759218604441) :
    Calls Try.prog 42 #[.slice ia l.length ic, .slice ja m.length jc, .func (.func 13) #[] #[]] w fun e w' => e = .returned (.bool (sameL l m)) ∧ Below w.heap.size w w' := by
  refine calls_post fun R' hR => ?_
  have h0 := hid h
  have g0 := hid g
  have IH' := hid IH
  clear h g IH
  by_cases c : l.length = m.length
  case neg =>
    have cb : ((l.length : Int) != (m.length : Int)) = true := by simp; omega
    have E := hid (sameL_not (l := l) (m := m) fun e => c (by rw [e]))
    replace c := hid c
    go_enter Try.func42, Try.ntmps42
    go_wp2_with fail
    exact hR.out _ _ ⟨by rw [E.out] <;> rfl, Below.refl _ _⟩
  have cb : ((l.length : Int) != (m.length : Int)) = false := by simp [c]
  have c' := hid c
  clear c
  have E := hid (((Env.start w S).argL h0.out).argL g0.out)
  (try simp only [List.cons_append, List.nil_append, List.set_cons_zero, List.set_cons_succ] at E)
  go_enter Try.func42, Try.ntmps42
  go_wp2_with fail
  clear cb
  go_loopw [17] (fun v wr => ∃ k : Nat, k ≤ l.length ∧ v = .int .i64 k ∧ Hid (∀ j (h1 : j < l.length) (h2 : j < m.length), j < k → sameB l[j] m[j] = true) ∧ Env w S wr [.items l ia, .items m ja]) (fun v _ => l.length - (intOf v).toNat)
  case atStart => exact ⟨0, Nat.zero_le _, rfl, hid (fun j _ _ hj => by omega), E.out⟩
  case round =>
    clear E
    obtain ⟨k, hk, rfl, hb, E⟩ := hrel
    replace E := hid E
    by_cases hlt : k < l.length
    case pos =>
      have hlt2 : k < m.length := by have := c'.out; omega
      obtain ⟨b1, o1, sx, cx, nx, mx, ix, jx, hia, hS1, hbl1, e0, e1, e2, e3, hx⟩ := (E.out.items 0 rfl).at hlt
      obtain ⟨b2, o2, sy, cy, ny, my, iy, jy, hja, hS2, hbl2, f0, f1, f2, f3, hy⟩ := (E.out.items 1 rfl).at hlt2
      have hX := hid (fun q => sameL_at (l := l) (m := m) hlt hlt2 q)
      have hN : Hid (sameB l[k] m[k] = true → ∀ j (h1 : j < l.length) (h2 : j < m.length), j < k + 1 → sameB l[j] m[j] = true) := hid (fun q j h1 h2 hj => by
        rcases Nat.lt_succ_iff_lt_or_eq.1 hj with q1 | q1
        · exact hb.out j h1 h2 q1
        · subst q1; exact q)
      have hI := hid (IH'.out l[k] (List.getElem_mem _))
      generalize l[k] = x at e0 e1 e2 e3 hx hX hN hI
      generalize m[k] = y at f0 f1 f2 f3 hy hX hN
      replace E := hid ((E.out.addArr hx (fun _ _ h => h)).addArr hy (fun _ _ h => h))
      (try simp only [List.cons_append, List.nil_append, List.set_cons_zero, List.set_cons_succ] at E)
      clear hx hy
      subst hia
      subst hja
      have t0 : (0 : Int) ≤ (k : Int) := by omega
      have t1 : (k : Int) < (l.length : Int) := by omega
      have t2 : (k : Int) < (m.length : Int) := by omega
      have eA := hid (ext_alloc wr (.cells #[.int .i64 0, .slice none 0 0, .slice none 0 0, .slice none 0 0] 27))
      go_upto_region 6 with (refine wpl_store4 rfl (.tmp 8) (.tmp 21) rfl _ rfl rfl ((E.out.alloc _).hdr 4 rfl) ?_; intro V1 HV CV; replace f0 := cell_chg (up_cell f0 eA.out) CV (by omega); replace f1 := cell_chg (up_cell f1 eA.out) CV (by omega); replace f2 := cell_chg (up_cell f2 eA.out) CV (by omega); replace f3 := cell_chg (up_cell f3 eA.out) CV (by omega); replace E := hid ((E.out.alloc _).chg 4 rfl CV HV); clear CV HV; (try simp only [List.cons_append, List.nil_append, List.set_cons_zero, List.set_cons_succ] at E))
      clear t1 e0 e1 e2 e3
      generalize wr.heap.size = p1 at E ⊢
      go_upto_region 7 with (refine wpl_store4 rfl (.tmp 9) (.tmp 25) rfl _ rfl rfl ((E.out.alloc _).hdr 5 rfl) ?_; intro V2 HV CV; replace E := hid ((E.out.alloc _).chg 5 rfl CV HV); clear CV HV; (try simp only [List.cons_append, List.nil_append, List.set_cons_zero, List.set_cons_succ] at E))
      clear t0 t2 f0 f1 f2 f3
      generalize V1.heap.size = p2 at E ⊢
      obtain ⟨q40, q41, q42, q43⟩ := (E.out.hdr 4 rfl).all
      obtain ⟨q50, q51, q52, q53⟩ := (E.out.hdr 5 rfl).all
      go_wp2_with fail
      clear q40 q41 q42 q43 q50 q51 q52 q53
      refine (hI.out y _ _ _ _ _ _ _ _ _ _ _ _ _ _ _ (E.out.arr 2 rfl) (E.out.arr 3 rfl)).mono ?_
      rintro e w3 ⟨rfl, hb3⟩
      replace E := hid (E.out.up hb3)
      clear hb3
      cases hq : sameB x y with
      | false =>
        have E1 := hid (hX.out hq)
        replace hq := hid hq
        go_wp2_with fail
        exact hR.out _ _ ⟨by rw [E1.out] <;> rfl, E.out.ext⟩
      | true =>
        have hN2 := hid (hN.out hq)
        replace hq := hid hq
        go_wp2_with fail
        go_roundw
        case rel => exact ⟨k + 1, by omega, by go_num, hN2, E.out.sub (List.Sublist.cons_cons _ (List.Sublist.cons_cons _ (List.nil_sublist _)))⟩
        case measure => simp [intOf]; omega
    case neg =>
      have E1 := hid (sameL_all (l := l) (m := m) c'.out fun j h1 h2 => hb.out j h1 h2 (by omega))
      have t2 : ¬ (k : Int) < (l.length : Int) := by omega
      go_wp2_with fail
      exact hR.out _ _ ⟨by rw [E1.out] <;> rfl, E.out.ext⟩
set_option maxHeartbeats 4000000 in
theorem array_SamOk (a : Arr) : SamOk a := by
  induction a using Arr.ind with
  | h a IH =>
    intro b sa sc na nc ia ic sb sd nb nd ib id S T w h g
    have IH := hid IH
    refine calls_post fun R' hR => ?_
    have h0 := hid (ArrAt.mono (T := fun _ => True) (fun _ _ _ => trivial) a h)
    have g0 := hid (ArrAt.mono (T := fun _ => True) (fun _ _ _ => trivial) b g)
    have hil := h.len
    obtain ⟨S, hS⟩ : ∃ S : Nat → Prop, S = fun _ => True := ⟨_, rfl⟩
    clear h g
    by_cases c0 : a.kind = b.kind
    case neg =>
      have cb : (a.kind == b.kind) = false := beq_eq_false_iff_ne.2 c0
      have Er := hid (sameB_kind c0)
      replace c0 := hid c0
      go_enter Try.func13, Try.ntmps13
      go_upto_region 1 with (fail)
      generalize hEW : World.alloc (World.alloc w _) _ = W
      have E := hid (env2 w S hEW)
      clear hEW
      obtain ⟨q00, q01, q02, q03⟩ := (E.out.hdr 0 rfl).all
      obtain ⟨q10, q11, q12, q13⟩ := (E.out.hdr 1 rfl).all
      go_wp2_with fail
      exact hR.out _ _ ⟨by rw [Er.out] <;> rfl, E.out.ext⟩
    have cb : (a.kind == b.kind) = true := beq_iff_eq.2 c0
    have c0' := hid c0
    clear c0
    go_enter Try.func13, Try.ntmps13
    go_upto_region 1 with (fail)
    generalize hEW : World.alloc (World.alloc w _) _ = W
    have E := hid (env2 w S hEW)
    clear hEW
    subst hS
    replace E := hid ((E.out.arg h0.out).arg g0.out)
    (try simp only [List.cons_append, List.nil_append, List.set_cons_zero, List.set_cons_succ] at E)
    obtain ⟨q00, q01, q02, q03⟩ := (E.out.hdr 0 rfl).all
    obtain ⟨q10, q11, q12, q13⟩ := (E.out.hdr 1 rfl).all
    go_wp2_with fail
    clear q00 q01 q02 q03 q10 q11 q12 q13
    refine (slices_Equal a.shape b.shape _ _ _ _ _ _ _ (E.out.arr 2 rfl).shape (E.out.arr 3 rfl).shape).mono ?_
    rintro e w1 ⟨rfl, n1, rfl⟩
    replace E := hid (E.out.up (ext_drewN _ n1))
    generalize W.drewN n1 = w1 at E ⊢
    cases X1 : eqI a.shape b.shape with
    | false =>
      have Er := hid (sameB_shape X1)
      replace X1 := hid X1
      go_wp2_with fail
      exact hR.out _ _ ⟨by rw [Er.out] <;> rfl, E.out.ext⟩
    | true =>
    have X1' := hid X1
    replace X1 := hid X1
    obtain ⟨q00, q01, q02, q03⟩ := (E.out.hdr 0 rfl).all
    obtain ⟨q10, q11, q12, q13⟩ := (E.out.hdr 1 rfl).all
    go_wp2_with fail
    clear q00 q01 q02 q03 q10 q11 q12 q13
    refine (slices_Equal a.nums b.nums _ _ _ _ _ _ _ (E.out.arr 2 rfl).nums (E.out.arr 3 rfl).nums).mono ?_
    rintro e w2 ⟨rfl, n2, rfl⟩
    replace E := hid (E.out.up (ext_drewN _ n2))
    generalize w1.drewN n2 = w2 at E ⊢
    cases X2 : eqI a.nums b.nums with
    | false =>
      have Er := hid (sameB_nums X2)
      replace X2 := hid X2
      go_wp2_with fail
      exact hR.out _ _ ⟨by rw [Er.out] <;> rfl, E.out.ext⟩
    | true =>
    have Er := hid (sameB_items c0'.out X1'.out X2)
    replace X2 := hid X2
    obtain ⟨q00, q01, q02, q03⟩ := (E.out.hdr 0 rfl).all
    obtain ⟨q10, q11, q12, q13⟩ := (E.out.hdr 1 rfl).all
    go_wp2_with fail
    clear q00 q01 q02 q03 q10 q11 q12 q13
    refine (slices_EqualFunc a.items b.items (fun x hx => IH.out x hx) _ _ _ _ _ _ (E.out.arr 2 rfl).items (E.out.arr 3 rfl).items hil).mono ?_
    rintro e w3 ⟨rfl, hb⟩
    replace E := hid (E.out.up hb)
    clear hb
    generalize hq : sameL a.items b.items = q at Er ⊢
    replace hq := hid hq
    cases q with
    | false =>
      go_wp2_with fail
      exact hR.out _ _ ⟨by rw [Er.out] <;> rfl, E.out.ext⟩
    | true =>
      go_wp2_with fail
      exact hR.out _ _ ⟨by rw [Er.out] <;> rfl, E.out.ext⟩
theorem array_Same (a b : Arr) (sa : Option Addr) (sc : Nat) (na : Option Addr) (nc : Nat) (ia : Option Addr) (ic : Nat) (ta : Option Addr) (tc : Nat) (ma : Option Addr) (mc : Nat) (ja : Option Addr) (jc : Nat) (S T : Nat → Prop) (w : World) (h : ArrAt w S a sa na ia) (g : ArrAt w T b ta ma ja) :
    Calls Try.prog 13 #[.agg #[.int .i64 a.kind, .slice sa a.shape.length sc, .slice na a.nums.length nc, .slice ia a.items.length ic], .agg #[.int .i64 b.kind, .slice ta b.shape.length tc, .slice ma b.nums.length mc, .slice ja b.items.length jc]] w fun e w' => e = .returned (.bool (sameB a b)) ∧ Below w.heap.size w w' :=
  array_SamOk a b _ _ _ _ _ _ _ _ _ _ _ _ S T w h g
end Go.Proofs.Ytdpdcjadedcglaa
