/- rotating.Reverse and rotating.Rotate: contracts. Conditions: the arrays are read. -/
import Derived.Test.YtmclggonmekanaaBUILD
import Derived.Test.YtmclggonmekanaaVIS
set_option linter.unusedVariables false
set_option linter.unusedSimpArgs false
namespace Go.Proofs.Ytmclggonmekanaa
open Go.RowKit Go.Sort
attribute [local go_sem ↓] run_max2 run_min2
attribute [local go_sem] eql_ints_nil eql_arrs_nil
theorem right_ok {a : Arr} (h : rightS a = 0) : (a.kind = 1 ∨ a.kind = 2 ∨ a.kind = 3) ∧ shapeB a.shape = true ∧ ((a.kind = 3 ∧ (a.items.length : Int) = cnt a.shape ∧ a.nums.length = 0) ∨ (a.kind ≠ 3 ∧ (a.nums.length : Int) = cnt a.shape ∧ a.items.length = 0)) :=
  formE_zero (chk_ok h).1
/-- an array and an error number -/
def RetAE (w : World) (S : Nat → Prop) (a : Arr) (n : Int) (e : Ending) (w' : World) : Prop :=
  ∃ sa sc na nc ia ic, e = .returned (.tuple #[.agg #[.int .i64 a.kind, .slice sa a.shape.length sc, .slice na a.nums.length nc, .slice ia a.items.length ic], .int .i64 n]) ∧ ArrAt w' S a sa na ia ∧ Below w.heap.size w w'
theorem end_arr2 {fn : Func} {p q : Tmp} (hres : fn.results = #[.cell p 46, .tmp q]) {w : World} {b : Nat} {tmps : Array Value} {k s n i : Value} (h : Hdr w b k s n i) (hp : tmps.getD p undef = .pointer (some ⟨b, 0, none⟩)) {v : Value} (hq : tmps.getD q undef = v) :
    (results fn tmps).run Try.prog w = .ok (.tuple #[.agg #[k, s, n, i], v]) w := by
  have hp' : tmps[p]?.getD undef = .pointer (some ⟨b, 0, none⟩) := by simpa using hp
  have hq' : tmps[q]?.getD undef = v := by simpa using hq
  simp [results, hres, hp', hq', asAddr, run_loadVar_row w b _ _ _ _ _ h Try.underlying46 rfl (by kernel_rfl)]
def revF (s : List Int) (j n : Int) : Int := if j = 0 then s.getD 0 0 - 1 - n else n
theorem RetA.to {w V : World} {S : Nat → Prop} {a b : Arr} {sa na ia : Option Addr} {sc nc ic : Nat} (E : a = b) (h : ArrAt V S b sa na ia) (hb : Below w.heap.size w V) : RetA w S a (.returned (.agg #[.int .i64 b.kind, .slice sa b.shape.length sc, .slice na b.nums.length nc, .slice ia b.items.length ic])) V := by
  subst E; exact ⟨sa, sc, na, nc, ia, ic, rfl, h, hb⟩
theorem RetA.zero {w V : World} {S : Nat → Prop} {a : Arr} (E : a = .zero) (hb : Below w.heap.size w V) : RetA w S a (.returned (.agg #[.int .i64 0, .slice none 0 0, .slice none 0 0, .slice none 0 0])) V := by
  subst E; exact ⟨none, 0, none, 0, none, 0, rfl, zero_at _ _ _ _ _, hb⟩
theorem RetAE.to {w V : World} {S : Nat → Prop} {a b : Arr} {n m : Int} {sa na ia : Option Addr} {sc nc ic : Nat} (E : a = b) (E2 : n = m) (h : ArrAt V S b sa na ia) (hb : Below w.heap.size w V) : RetAE w S a n (.returned (.tuple #[.agg #[.int .i64 b.kind, .slice sa b.shape.length sc, .slice na b.nums.length nc, .slice ia b.items.length ic], .int .i64 m])) V := by
  subst E; subst E2; exact ⟨sa, sc, na, nc, ia, ic, rfl, h, hb⟩
theorem RetAE.zero {w V : World} {S : Nat → Prop} {a : Arr} {n m : Int} (E : a = .zero) (E2 : n = m) (hb : Below w.heap.size w V) : RetAE w S a n (.returned (.tuple #[.agg #[.int .i64 0, .slice none 0 0, .slice none 0 0, .slice none 0 0], .int .i64 m])) V := by
  subst E; subst E2; exact ⟨none, 0, none, 0, none, 0, rfl, zero_at _ _ _ _ _, hb⟩
theorem revF_keeps (s : List Int) : keeps (revF s) s := fun j n hj h0 h1 => by
  unfold revF
  by_cases e : (j : Int) = 0
  · rw [if_pos e]
    have : j = 0 := by omega
    subst this
    omega
  · rw [if_neg e]; exact ⟨h0, h1⟩
def revS (a : Arr) : Arr := if rightS a = 0 then gathS a a.shape (srcS (revF a.shape) a.shape) (cnt a.shape).toNat else .zero
theorem rotating_build (f : Int → Int → Int) (K : FuncId) (caps : Array Value) (a : Arr) (sa : Option Addr) (ca : Nat) (na : Option Addr) (ma : Nat) (ia : Option Addr) (ja : Nat) (S : Nat → Prop) (w : World) (h : ArrAt w S a sa na ia) (hr : rightS a = 0) (hkf : keeps f a.shape) (hK : ∀ (args : Array Value) (wz : World), (callFunc K args).run Try.prog wz = .ok (.enter K args) wz)
    (hf : ∀ (j : Nat) (n : Int) (wz : World), Ext w wz → j < a.shape.length → 0 ≤ n → n < a.shape.getD j 0 → Calls Try.prog K (#[.int .i64 (j : Nat), .int .i64 n] ++ caps) wz fun e w' => e = .returned (.int .i64 (f j n)) ∧ Ext wz w') :
    Calls Try.prog 57 #[.agg #[.int .i64 a.kind, .slice sa a.shape.length ca, .slice na a.nums.length ma, .slice ia a.items.length ja], .func (.func K) #[] caps] w (RetA w (fun b => w.heap.size ≤ b) (gathS a a.shape (srcS f a.shape) (cnt a.shape).toNat)) := by
  obtain ⟨_, hs, ⟨h3, hn, _⟩ | ⟨h3, hn, _⟩⟩ := right_ok hr
  · exact rotating_build_A f K caps a _ _ _ _ _ _ S w h hs h3 hn hkf hK hf
  · exact rotating_build_N f K caps a _ _ _ _ _ _ S w h hs h3 hn hkf hK hf
set_option maxHeartbeats 1000000 in
theorem reverse_1 (s : List Int) (so : Option Addr) (sc : Nat) (p : Nat) (S : Nat → Prop) (w : World) (h : IntsAt w S so s) (hs : ∀ d ∈ s, 0 ≤ d ∧ d ≤ 65536) (hp : w.cell? ⟨p, 1, none⟩ = some (.slice so s.length sc)) (j : Nat) (n : Int) (hj : j < s.length) (h0 : 0 ≤ n) (h1 : n < s.getD j 0) :
    Calls Try.prog 58 #[.int .i64 (j : Nat), .int .i64 n, .pointer (some ⟨p, 0, none⟩)] w fun e w' => e = .returned (.int .i64 (revF s j n)) ∧ Ext w w' := by
  refine calls_post fun R' hR => ?_
  by_cases e : j = 0
  · subst e
    have hb := hs _ (getD_mem hj)
    obtain ⟨b, off, rfl, hbl, hS, hc⟩ := h.at hj
    have E : Hid (revF s (0 : Nat) n = s.getD 0 0 - 1 - n) := rfl
    rw [show off + 0 = off from rfl] at hc
    generalize s.getD 0 0 = d at hc hb E h1
    have hsl : 0 < s.length := hj
    have hsl' : (0 : Int) < (s.length : Int) := by omega
    clear hs
    go_enter Try.func58, Try.ntmps58
    go_wp2_with fail
    exact hR.out _ _ ⟨by rw [E.out] <;> rfl, Ext.refl _⟩
  · have e1 : ((j : Int) == 0) = false := by simp; omega
    have E : Hid (revF s (j : Nat) n = n) := by unfold Hid revF; rw [if_neg (by omega)]
    go_enter Try.func58, Try.ntmps58
    go_wp2_with fail
    exact hR.out _ _ ⟨by rw [E.out] <;> rfl, Ext.refl _⟩
theorem shape_bds {s : List Int} (h : shapeB s = true) : ∀ d ∈ s, 0 ≤ d ∧ d ≤ 65536 := fun d hd => by
  obtain ⟨_, h1, h2⟩ := shapeB_iff.1 h
  exact ⟨h1 d hd, Int.le_trans (prodNZ_ge_mem h1 hd) h2⟩
set_option maxHeartbeats 2000000 in
theorem rotating_Reverse (a : Arr) (sa : Option Addr) (ca : Nat) (na : Option Addr) (ma : Nat) (ia : Option Addr) (ja : Nat) (S : Nat → Prop) (w : World) (h : ArrAt w S a sa na ia) :
    Calls Try.prog 29 #[.agg #[.int .i64 a.kind, .slice sa a.shape.length ca, .slice na a.nums.length ma, .slice ia a.items.length ja]] w (RetA w (fun b => w.heap.size ≤ b) (revS a)) := by
  refine calls_post fun R' hR => ?_
  have h0 := hid (ArrAt.mono (T := fun b => b < w.heap.size) (fun b hb _ => hb) a h)
  clear h
  have hil := h0.out.len
  by_cases c : rightS a = 0
  · have cb : (rightS a != 0) = false := by simp [c]
    have E : Hid (revS a = gathS a a.shape (srcS (revF a.shape) a.shape) (cnt a.shape).toNat) := if_pos c
    have hsb := hid (shape_bds (right_ok c).2.1)
    replace c := hid c
    go_enter Try.func29, Try.ntmps29
    go_wp2_with fail
    generalize hEW : ((w).alloc (.cells #[.int .i64 a.kind, .slice sa a.shape.length ca, .slice na a.nums.length ma, .slice ia a.items.length ja] 46)).alloc (.cells #[.int .i64 0, .slice none 0 0, .slice none 0 0, .slice none 0 0] 46) = W
    obtain ⟨haW, hZW, heW, zW⟩ := boxes2 w hEW
    clear hEW
    refine (array_Right a _ _ _ _ _ _ _ W (h0.out.up heW)).mono ?_
    rintro e w1 ⟨rfl, hb1⟩
    have H1 := haW.up hb1
    have HZ := hZW.up hb1
    have A1 := hid ((h0.out.up heW).up hb1)
    have e1 := heW.trans hb1
    have z1 := hb1.size
    have hK : ∀ (args : Array Value) (wz : World), (callFunc 58 args).run Try.prog wz = .ok (.enter 58 args) wz := fun args wz => by kernel_rfl
    have hb := hid (rotating_build (revF a.shape) 58 #[.pointer (some ⟨w.heap.size, 0, none⟩)] a _ ca _ ma _ ja _ w1 A1.out c.out (revF_keeps _) hK (fun j n wz hz hj h0 h1 => reverse_1 a.shape _ _ _ _ wz (A1.out.up hz).shape hsb.out ((H1.up hz).c1) j n hj h0 h1))
    clear hb1 haW hZW heW
    go_wp2_with (first
      | (refine wpl_load4 rfl (.tmp 1) rfl w.heap.size rfl H1 ?_)
      | (go_at_call 57; refine hb.out.mono ?_; rintro e w2 ⟨ta, tc, tn, tnc, ti, tic, rfl, hA2, hb2⟩; have HZ2 := HZ.up hb2)
      | (refine wpl_store4 rfl (.tmp 2) (.tmp 9) rfl (w.heap.size + 1) rfl rfl HZ2 ?_; intro V HV C))
    exact bodyPost_ret (end_arr rfl HV rfl) rfl (hR.out _ _ (RetA.to E.out (ArrAt.mono (fun b _ hb => by omega) _ (C.arr hA2 (fun q hq => by omega))) (C.below (Below.trans e1 (Below.mono hb2 (by omega))) (by omega))))
  · have cb : (rightS a != 0) = true := by simp [c]
    have E : Hid (revS a = .zero) := if_neg c
    replace c := hid c
    go_enter Try.func29, Try.ntmps29
    go_wp2_with fail
    generalize hEW : ((w).alloc (.cells #[.int .i64 a.kind, .slice sa a.shape.length ca, .slice na a.nums.length ma, .slice ia a.items.length ja] 46)).alloc (.cells #[.int .i64 0, .slice none 0 0, .slice none 0 0, .slice none 0 0] 46) = W
    obtain ⟨haW, hZW, heW, zW⟩ := boxes2 w hEW
    clear hEW
    refine (array_Right a _ _ _ _ _ _ _ W (h0.out.up heW)).mono ?_
    rintro e w1 ⟨rfl, hb1⟩
    have HZ := hZW.up hb1
    have e1 := heW.trans hb1
    have z1 := hb1.size
    clear hb1 haW hZW heW
    go_wp2_with (refine wpl_store4 rfl (.tmp 2) (.tmp 6) rfl (w.heap.size + 1) rfl rfl HZ ?_; intro V HV C)
    exact bodyPost_ret (end_arr rfl HV rfl) rfl (hR.out _ _ (RetA.zero E.out (C.below e1 (by omega))))
/-- the rotated place -/
def rotF (xs s : List Int) (j n : Int) : Int := if (xs.length : Int) ≤ j then n else (n + xs.getD j.toNat 0) % s.getD j.toNat 0
theorem rotF_keeps (xs s : List Int) : keeps (rotF xs s) s := fun j n hj h0 h1 => by
  unfold rotF
  split
  · exact ⟨h0, h1⟩
  · simp only [Int.toNat_natCast]
    exact ⟨Int.emod_nonneg _ (by omega), Int.emod_lt_of_pos _ (by omega)⟩
theorem tmod_bd (x d : Int) (hd : 0 < d) : -d < x.tmod d ∧ x.tmod d < d := by
  have h1 := Int.tmod_lt_of_pos x hd
  have h2 : -d < x.tmod d := by
    have h3 := Int.tmod_lt_of_pos (-x) hd
    rw [Int.neg_tmod] at h3
    omega
  exact ⟨h2, h1⟩
theorem rot_mod (n x d : Int) (hd : 0 < d) : (n + x.tmod d + d) % d = (n + x) % d := by
  have e : x.tmod d = x - d * x.tdiv d := by have := Int.mul_tdiv_add_tmod x d; omega
  rw [e, Int.add_emod_right]
  have e2 : n + (x - d * x.tdiv d) = (n + x) + d * (-(x.tdiv d)) := by rw [Int.mul_neg]; omega
  rw [e2, Int.add_mul_emod_self_left]
def rotE (x y : Arr) : Int := if rightS x ≠ 0 ∨ rightS y ≠ 0 then 1 else if x.kind ≠ 1 then 14 else if 1 < x.shape.length then 15 else if y.shape.length < x.nums.length then 16 else 0
def rotS (x y : Arr) : Arr := if rotE x y = 0 then gathS y y.shape (srcS (rotF x.nums y.shape) y.shape) (cnt y.shape).toNat else .zero
set_option maxHeartbeats 1000000 in
theorem rotate_1 (xs s : List Int) (xo : Option Addr) (xc : Nat) (so : Option Addr) (sc : Nat) (p q : Nat) (S T : Nat → Prop) (w : World) (g : IntsAt w T xo xs) (h : IntsAt w S so s) (hs : ∀ d ∈ s, 0 ≤ d ∧ d ≤ 65536) (hx : ∀ d ∈ xs, -4611686018427387904 ≤ d ∧ d ≤ 4611686018427387904)
    (hp : w.cell? ⟨p, 2, none⟩ = some (.slice xo xs.length xc)) (hq : w.cell? ⟨q, 1, none⟩ = some (.slice so s.length sc)) (j : Nat) (n : Int) (hj : j < s.length) (h0 : 0 ≤ n) (h1 : n < s.getD j 0) :
    Calls Try.prog 65 #[.int .i64 (j : Nat), .int .i64 n, .pointer (some ⟨p, 0, none⟩), .pointer (some ⟨q, 0, none⟩)] w fun e w' => e = .returned (.int .i64 (rotF xs s j n)) ∧ Ext w w' := by
  refine calls_post fun R' hR => ?_
  by_cases e : j < xs.length
  · have hb := hs _ (getD_mem hj)
    have hb2 := hx _ (getD_mem e)
    obtain ⟨b, off, rfl, hbl, hS, hc⟩ := h.at hj
    obtain ⟨b', off', rfl, hbl', hS', hc'⟩ := g.at e
    have E : Hid (rotF xs s (j : Nat) n = (n + xs.getD j 0) % s.getD j 0) := by unfold Hid rotF; rw [if_neg (by omega)]; simp only [Int.toNat_natCast]
    generalize s.getD j 0 = d at hc hb E h1
    generalize xs.getD j 0 = x at hc' hb2 E
    have hd : 0 < d := by omega
    have hM := hid (rot_mod n x d hd)
    obtain ⟨t1, t2⟩ := tmod_bd x d hd
    have jj0 : (0 : Int) ≤ (j : Int) := by omega
    have jj1 : (j : Int) < (s.length : Int) := by omega
    have jj2 : (j : Int) < (xs.length : Int) := by omega
    have hxl := g.1
    clear hs hx
    go_enter Try.func65, Try.ntmps65
    go_wp2_with fail
    exact hR.out _ _ ⟨by rw [E.out, ← hM.out] <;> rfl, Ext.refl _⟩
  · have E : Hid (rotF xs s (j : Nat) n = n) := by unfold Hid rotF; rw [if_pos (by omega)]
    have e1 : xs.length ≤ j := by omega
    clear hs hx
    go_enter Try.func65, Try.ntmps65
    go_wp2_with fail
    exact hR.out _ _ ⟨by rw [E.out] <;> rfl, Ext.refl _⟩
theorem num_bds {a : Arr} (h : rightS a = 0) (hk : a.kind = 1) : ∀ d ∈ a.nums, -4611686018427387904 ≤ d ∧ d ≤ 4611686018427387904 := fun d hd => by
  have h1 := (chk_ok h).2.1
  rw [List.any_eq_false] at h1
  have := h1 d hd
  simp [elemB, hk, numB] at this
  omega
set_option maxHeartbeats 4000000 in
theorem rotating_Rotate (x : Arr) (sx : Option Addr) (cx : Nat) (nx : Option Addr) (mx : Nat) (ix : Option Addr) (jx : Nat) (y : Arr) (sy : Option Addr) (cy : Nat) (ny : Option Addr) (my : Nat) (iy : Option Addr) (jy : Nat) (S T : Nat → Prop) (w : World) (h : ArrAt w S x sx nx ix) (g : ArrAt w T y sy ny iy) :
    Calls Try.prog 33 #[.agg #[.int .i64 x.kind, .slice sx x.shape.length cx, .slice nx x.nums.length mx, .slice ix x.items.length jx], .agg #[.int .i64 y.kind, .slice sy y.shape.length cy, .slice ny y.nums.length my, .slice iy y.items.length jy]] w (RetAE w (fun b => w.heap.size ≤ b) (rotS x y) (rotE x y)) := by
  refine calls_post fun R' hR => ?_
  have h0 := hid (ArrAt.mono (T := fun b => b < w.heap.size) (fun b hb _ => hb) x h)
  have g0 := hid (ArrAt.mono (T := fun b => b < w.heap.size) (fun b hb _ => hb) y g)
  have xnl := h.nums.1
  have xsl := h.shape.1
  have ysl := g.shape.1
  clear h g
  by_cases c : rightS x = 0
  case neg =>
    have cb : (rightS x != 0) = true := by simp [c]
    have E : Hid (rotE x y = 1) := if_pos (Or.inl c)
    have E2 : Hid (rotS x y = .zero) := if_neg (by rw [E.out]; omega)
    replace c := hid c
    go_enter Try.func33, Try.ntmps33
    go_wp2_with fail
    generalize hEW : (((w).alloc (.cells #[.int .i64 x.kind, .slice sx x.shape.length cx, .slice nx x.nums.length mx, .slice ix x.items.length jx] 46)).alloc (.cells #[.int .i64 y.kind, .slice sy y.shape.length cy, .slice ny y.nums.length my, .slice iy y.items.length jy] 46)).alloc (.cells #[.int .i64 0, .slice none 0 0, .slice none 0 0, .slice none 0 0] 46) = W
    obtain ⟨hxW, hyW, hZW, heW, zW⟩ := boxes3 w hEW
    clear hEW
    refine (array_Right x _ _ _ _ _ _ _ W (h0.out.up heW)).mono ?_
    rintro e w1 ⟨rfl, hb1⟩
    have HZ := hZW.up hb1
    have e1 := heW.trans hb1
    clear hb1 hxW hyW hZW
    go_wp2_with (refine wpl_store4 rfl (.tmp 4) (.tmp 15) rfl (w.heap.size + 1 + 1) rfl rfl HZ ?_; intro V HV C)
    exact bodyPost_ret (end_arr2 rfl HV rfl rfl) rfl (hR.out _ _ (RetAE.zero E2.out E.out (C.below e1 (by omega))))
  have cb : (rightS x != 0) = false := by simp [c]
  by_cases d : rightS y = 0
  case neg =>
    have db : (rightS y != 0) = true := by simp [d]
    have E : Hid (rotE x y = 1) := if_pos (Or.inr d)
    have E2 : Hid (rotS x y = .zero) := if_neg (by rw [E.out]; omega)
    replace c := hid c
    replace d := hid d
    go_enter Try.func33, Try.ntmps33
    go_wp2_with fail
    generalize hEW : (((w).alloc (.cells #[.int .i64 x.kind, .slice sx x.shape.length cx, .slice nx x.nums.length mx, .slice ix x.items.length jx] 46)).alloc (.cells #[.int .i64 y.kind, .slice sy y.shape.length cy, .slice ny y.nums.length my, .slice iy y.items.length jy] 46)).alloc (.cells #[.int .i64 0, .slice none 0 0, .slice none 0 0, .slice none 0 0] 46) = W
    obtain ⟨hxW, hyW, hZW, heW, zW⟩ := boxes3 w hEW
    clear hEW
    refine (array_Right x _ _ _ _ _ _ _ W (h0.out.up heW)).mono ?_
    rintro e w1 ⟨rfl, hb1⟩
    have e1 := heW.trans hb1
    obtain ⟨y0, y1, y2, y3⟩ := (hyW.up hb1).all
    go_wp2_with fail
    refine (array_Right y _ _ _ _ _ _ _ w1 (g0.out.up e1)).mono ?_
    rintro e w2 ⟨rfl, hb2⟩
    have eX := Ext.trans hb1 hb2
    have e2 := heW.trans eX
    have HX2 := hxW.up eX
    have HY2 := hyW.up eX
    have HZ2 := hZW.up eX
    obtain ⟨x0, x1, x2, x3⟩ := HX2.all
    replace y1 := HY2.c1
    clear hb1 hb2 hxW hyW hZW y0 y2 y3
    go_wp2_with (refine wpl_store4 rfl (.tmp 4) (.tmp 15) rfl (w.heap.size + 1 + 1) rfl rfl HZ2 ?_; intro V HV C)
    exact bodyPost_ret (end_arr2 rfl HV rfl rfl) rfl (hR.out _ _ (RetAE.zero E2.out E.out (C.below e2 (by omega))))
  have db : (rightS y != 0) = false := by simp [d]
  by_cases k : x.kind = 1
  case neg =>
    have kb : (x.kind != 1) = true := by simp [k]
    have E : Hid (rotE x y = 14) := by unfold Hid rotE; rw [if_neg (by simp [c, d]), if_pos k]
    have E2 : Hid (rotS x y = .zero) := if_neg (by rw [E.out]; omega)
    replace c := hid c
    replace d := hid d
    replace k := hid k
    go_enter Try.func33, Try.ntmps33
    go_wp2_with fail
    generalize hEW : (((w).alloc (.cells #[.int .i64 x.kind, .slice sx x.shape.length cx, .slice nx x.nums.length mx, .slice ix x.items.length jx] 46)).alloc (.cells #[.int .i64 y.kind, .slice sy y.shape.length cy, .slice ny y.nums.length my, .slice iy y.items.length jy] 46)).alloc (.cells #[.int .i64 0, .slice none 0 0, .slice none 0 0, .slice none 0 0] 46) = W
    obtain ⟨hxW, hyW, hZW, heW, zW⟩ := boxes3 w hEW
    clear hEW
    refine (array_Right x _ _ _ _ _ _ _ W (h0.out.up heW)).mono ?_
    rintro e w1 ⟨rfl, hb1⟩
    have e1 := heW.trans hb1
    obtain ⟨y0, y1, y2, y3⟩ := (hyW.up hb1).all
    go_wp2_with fail
    refine (array_Right y _ _ _ _ _ _ _ w1 (g0.out.up e1)).mono ?_
    rintro e w2 ⟨rfl, hb2⟩
    have eX := Ext.trans hb1 hb2
    have e2 := heW.trans eX
    have HX2 := hxW.up eX
    have HY2 := hyW.up eX
    have HZ2 := hZW.up eX
    obtain ⟨x0, x1, x2, x3⟩ := HX2.all
    replace y1 := HY2.c1
    clear hb1 hb2 hxW hyW hZW y0 y2 y3
    go_wp2_with (refine wpl_store4 rfl (.tmp 4) (.tmp 20) rfl (w.heap.size + 1 + 1) rfl rfl HZ2 ?_; intro V HV C)
    exact bodyPost_ret (end_arr2 rfl HV rfl rfl) rfl (hR.out _ _ (RetAE.zero E2.out E.out (C.below e2 (by omega))))
  have kb : (x.kind != 1) = false := by simp [k]
  by_cases r : 1 < x.shape.length
  case pos =>
    have E : Hid (rotE x y = 15) := by unfold Hid rotE; rw [if_neg (by simp [c, d]), if_neg (by simp [k]), if_pos r]
    have E2 : Hid (rotS x y = .zero) := if_neg (by rw [E.out]; omega)
    replace c := hid c
    replace d := hid d
    replace k := hid k
    go_enter Try.func33, Try.ntmps33
    go_wp2_with fail
    generalize hEW : (((w).alloc (.cells #[.int .i64 x.kind, .slice sx x.shape.length cx, .slice nx x.nums.length mx, .slice ix x.items.length jx] 46)).alloc (.cells #[.int .i64 y.kind, .slice sy y.shape.length cy, .slice ny y.nums.length my, .slice iy y.items.length jy] 46)).alloc (.cells #[.int .i64 0, .slice none 0 0, .slice none 0 0, .slice none 0 0] 46) = W
    obtain ⟨hxW, hyW, hZW, heW, zW⟩ := boxes3 w hEW
    clear hEW
    refine (array_Right x _ _ _ _ _ _ _ W (h0.out.up heW)).mono ?_
    rintro e w1 ⟨rfl, hb1⟩
    have e1 := heW.trans hb1
    obtain ⟨y0, y1, y2, y3⟩ := (hyW.up hb1).all
    go_wp2_with fail
    refine (array_Right y _ _ _ _ _ _ _ w1 (g0.out.up e1)).mono ?_
    rintro e w2 ⟨rfl, hb2⟩
    have eX := Ext.trans hb1 hb2
    have e2 := heW.trans eX
    have HX2 := hxW.up eX
    have HY2 := hyW.up eX
    have HZ2 := hZW.up eX
    obtain ⟨x0, x1, x2, x3⟩ := HX2.all
    replace y1 := HY2.c1
    clear hb1 hb2 hxW hyW hZW y0 y2 y3
    go_wp2_with (refine wpl_store4 rfl (.tmp 4) (.tmp 26) rfl (w.heap.size + 1 + 1) rfl rfl HZ2 ?_; intro V HV C)
    exact bodyPost_ret (end_arr2 rfl HV rfl rfl) rfl (hR.out _ _ (RetAE.zero E2.out E.out (C.below e2 (by omega))))
  by_cases l : y.shape.length < x.nums.length
  case pos =>
    have E : Hid (rotE x y = 16) := by unfold Hid rotE; rw [if_neg (by simp [c, d]), if_neg (by simp [k]), if_neg r, if_pos l]
    have E2 : Hid (rotS x y = .zero) := if_neg (by rw [E.out]; omega)
    replace c := hid c
    replace d := hid d
    replace k := hid k
    go_enter Try.func33, Try.ntmps33
    go_wp2_with fail
    generalize hEW : (((w).alloc (.cells #[.int .i64 x.kind, .slice sx x.shape.length cx, .slice nx x.nums.length mx, .slice ix x.items.length jx] 46)).alloc (.cells #[.int .i64 y.kind, .slice sy y.shape.length cy, .slice ny y.nums.length my, .slice iy y.items.length jy] 46)).alloc (.cells #[.int .i64 0, .slice none 0 0, .slice none 0 0, .slice none 0 0] 46) = W
    obtain ⟨hxW, hyW, hZW, heW, zW⟩ := boxes3 w hEW
    clear hEW
    refine (array_Right x _ _ _ _ _ _ _ W (h0.out.up heW)).mono ?_
    rintro e w1 ⟨rfl, hb1⟩
    have e1 := heW.trans hb1
    obtain ⟨y0, y1, y2, y3⟩ := (hyW.up hb1).all
    go_wp2_with fail
    refine (array_Right y _ _ _ _ _ _ _ w1 (g0.out.up e1)).mono ?_
    rintro e w2 ⟨rfl, hb2⟩
    have eX := Ext.trans hb1 hb2
    have e2 := heW.trans eX
    have HX2 := hxW.up eX
    have HY2 := hyW.up eX
    have HZ2 := hZW.up eX
    obtain ⟨x0, x1, x2, x3⟩ := HX2.all
    replace y1 := HY2.c1
    clear hb1 hb2 hxW hyW hZW y0 y2 y3
    go_wp2_with (refine wpl_store4 rfl (.tmp 4) (.tmp 35) rfl (w.heap.size + 1 + 1) rfl rfl HZ2 ?_; intro V HV C)
    exact bodyPost_ret (end_arr2 rfl HV rfl rfl) rfl (hR.out _ _ (RetAE.zero E2.out E.out (C.below e2 (by omega))))
  case neg =>
    have E : Hid (rotE x y = 0) := by unfold Hid rotE; rw [if_neg (by simp [c, d]), if_neg (by simp [k]), if_neg r, if_neg l]
    have E2 : Hid (rotS x y = gathS y y.shape (srcS (rotF x.nums y.shape) y.shape) (cnt y.shape).toNat) := if_pos E.out
    have hsb := hid (shape_bds (right_ok d).2.1)
    have hxb := hid (num_bds c k)
    replace c := hid c
    replace d := hid d
    replace k := hid k
    go_enter Try.func33, Try.ntmps33
    go_wp2_with fail
    generalize hEW : (((w).alloc (.cells #[.int .i64 x.kind, .slice sx x.shape.length cx, .slice nx x.nums.length mx, .slice ix x.items.length jx] 46)).alloc (.cells #[.int .i64 y.kind, .slice sy y.shape.length cy, .slice ny y.nums.length my, .slice iy y.items.length jy] 46)).alloc (.cells #[.int .i64 0, .slice none 0 0, .slice none 0 0, .slice none 0 0] 46) = W
    obtain ⟨hxW, hyW, hZW, heW, zW⟩ := boxes3 w hEW
    clear hEW
    refine (array_Right x _ _ _ _ _ _ _ W (h0.out.up heW)).mono ?_
    rintro e w1 ⟨rfl, hb1⟩
    have e1 := heW.trans hb1
    obtain ⟨y0, y1, y2, y3⟩ := (hyW.up hb1).all
    go_wp2_with fail
    refine (array_Right y _ _ _ _ _ _ _ w1 (g0.out.up e1)).mono ?_
    rintro e w2 ⟨rfl, hb2⟩
    have eX := Ext.trans hb1 hb2
    have e2 := heW.trans eX
    have HX2 := hxW.up eX
    have HY2 := hyW.up eX
    have HZ2 := hZW.up eX
    obtain ⟨x0, x1, x2, x3⟩ := HX2.all
    replace y1 := HY2.c1
    clear hb1 hb2 hxW hyW hZW y0 y2 y3
    have AX := hid (h0.out.up e2)
    have AY := hid (g0.out.up e2)
    have hK : ∀ (args : Array Value) (wz : World), (callFunc 65 args).run Try.prog wz = .ok (.enter 65 args) wz := fun args wz => by kernel_rfl
    have hb := hid (rotating_build (rotF x.nums y.shape) 65 #[.pointer (some ⟨w.heap.size, 0, none⟩), .pointer (some ⟨w.heap.size + 1, 0, none⟩)] y _ cy _ my _ jy _ w2 AY.out d.out (rotF_keeps _ _) hK (fun j n wz hz hj h0 h1 => rotate_1 x.nums y.shape _ _ _ _ _ _ _ _ wz (AX.out.up hz).nums (AY.out.up hz).shape hsb.out hxb.out ((HX2.up hz).c2) ((HY2.up hz).c1) j n hj h0 h1))
    have z2 := Below.size eX
    go_wp2_with (first
      | (refine wpl_load4 rfl (.tmp 3) rfl (w.heap.size + 1) rfl HY2 ?_)
      | (go_at_call 57; refine hb.out.mono ?_; rintro e w3 ⟨ta, tc, tn, tnc, ti, tic, rfl, hA3, hb3⟩; have HZ3 := HZ2.up hb3)
      | (refine wpl_store4 rfl (.tmp 4) (.tmp 38) rfl (w.heap.size + 1 + 1) rfl rfl HZ3 ?_; intro V HV C))
    exact bodyPost_ret (end_arr2 rfl HV rfl rfl) rfl (hR.out _ _ (RetAE.to E2.out E.out (ArrAt.mono (fun b _ hb => by omega) _ (C.arr hA3 (fun q hq => by omega))) (C.below (Below.trans e2 (Below.mono hb3 (by omega))) (by omega))))
end Go.Proofs.Ytmclggonmekanaa
