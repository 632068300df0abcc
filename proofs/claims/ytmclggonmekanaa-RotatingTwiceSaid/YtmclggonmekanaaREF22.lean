/- ref22.Reverse and ref22.Rotate: contracts. Conditions: the arrays are read. -/
import Derived.Test.YtmclggonmekanaaREF19
import Derived.Test.YtmclggonmekanaaROT
import Derived.Test.YtmclggonmekanaaR03
set_option linter.unusedVariables false
set_option linter.unusedSimpArgs false
namespace Go.Proofs.Ytmclggonmekanaa
open Go.RowKit Go.Sort
attribute [local go_sem ↓] run_max2 run_min2
attribute [local go_sem] eql_ints_nil eql_arrs_nil
/-- the first offsets -/
def srcL (f : Int → Int → Int) (s : List Int) (m : Nat) : List Int := (List.range m).map fun (k : Nat) => srcS f s k
theorem srcL_len (f : Int → Int → Int) (s : List Int) (m : Nat) : (srcL f s m).length = m := by simp [srcL]
theorem srcL_succ (f : Int → Int → Int) (s : List Int) (m : Nat) : srcL f s (m + 1) = srcL f s m ++ [srcS f s m] := by simp [srcL, List.range_succ]
theorem srcL_at {f : Int → Int → Int} {s : List Int} {m k : Nat} (h : k < m) : (srcL f s m).getD k 0 = srcS f s k := by simp [srcL, h]
theorem pickN_congr {n : List Int} {g g' : Int → Int} {m : Nat} (h : ∀ k : Nat, k < m → g k = g' k) : pickN n g m = pickN n g' m := List.map_congr_left fun k hk => by rw [h k (List.mem_range.1 hk)]
theorem pickA_congr {n : List Arr} {g g' : Int → Int} {m : Nat} (h : ∀ k : Nat, k < m → g k = g' k) : pickA n g m = pickA n g' m := List.map_congr_left fun k hk => by rw [h k (List.mem_range.1 hk)]
theorem gathS_src (y : Arr) (f : Int → Int → Int) (s : List Int) (m : Nat) : gathS y s (atL (srcL f s m)) (srcL f s m).length = gathS y s (srcS f s) m := by
  have h : ∀ k : Nat, k < m → atL (srcL f s m) k = srcS f s k := fun k hk => by unfold atL; rw [Int.toNat_natCast]; exact srcL_at hk
  unfold gathS
  rw [srcL_len, pickN_congr h, pickA_congr h]
theorem srcL_in {f : Int → Int → Int} {s : List Int} (hf : keeps f s) (hs : shapeB s = true) {m n : Nat} (hm : (m : Int) ≤ cnt s) (hn : cnt s = n) : offsIn (srcL f s m) n := fun j hj => by
  rw [srcL_len] at hj
  rw [srcL_at hj]
  have := srcS_bd hf hs (k := j) (by omega) (by omega)
  rw [hn] at this
  exact this
theorem rev_set {s l : List Int} (h : l.length = s.length) : turnI (revF s) l = l.set 0 (s.getD 0 0 - 1 - l.getD 0 0) := by
  apply List.ext_getElem
  · simp [turnI_len]
  · intro i h1 h2
    rw [turnI_len] at h1
    simp only [turnI, List.getElem_map, List.getElem_range, List.getElem_set, revF]
    by_cases e : i = 0
    · subst e; simp
    · rw [if_neg (by omega), if_neg (Ne.symm e)]
      simp [h1]
theorem fillS_kind3 {a : Arr} (h : a.kind ≠ 3) : (fillS a).items = [] := by unfold fillS; (repeat' split) <;> first | rfl | contradiction
set_option maxHeartbeats 1000000 in
theorem ref22_Modulo (n d : Int) (hd : 0 < d) (hd2 : d ≤ 65536) (w : World) : Calls Try.prog 66 #[.int .i64 n, .int .i64 d] w fun e w' => e = .returned (.int .i64 (n % d)) ∧ w = w' := by
  refine calls_post fun R' hR => ?_
  obtain ⟨t1, t2⟩ := tmod_bd n d hd
  have hm : n % d = if n.tmod d < 0 then n.tmod d + d else n.tmod d := by
    have h1 := rot_mod 0 n d hd
    rw [Int.zero_add, Int.zero_add] at h1
    rw [← h1]
    split
    · exact Int.emod_eq_of_lt (by omega) (by omega)
    · rw [Int.add_emod_right]; exact Int.emod_eq_of_lt (by omega) (by omega)
  by_cases c : n.tmod d < 0
  · rw [if_pos c] at hm
    have E := hid hm
    clear hm
    go_enter Try.func66, Try.ntmps66
    go_wp2_with fail
    exact hR.out _ _ ⟨by rw [E.out] <;> rfl, rfl⟩
  · rw [if_neg c] at hm
    have E := hid hm
    clear hm
    go_enter Try.func66, Try.ntmps66
    go_wp2_with fail
    exact hR.out _ _ ⟨by rw [E.out] <;> rfl, rfl⟩
theorem ref19_Gather (a : Arr) (sa : Option Addr) (ca : Nat) (na : Option Addr) (ma : Nat) (ia : Option Addr) (ja : Nat) (s l : List Int) (so : Option Addr) (sc : Nat) (lo : Option Addr) (lc : Nat) (S T U : Nat → Prop) (w : World) (h : ArrAt w S a sa na ia) (hs : IntsAt w T so s) (hl : IntsAt w U lo l) (hr : rightS a = 0) (hin : ∀ n : Nat, cnt a.shape = n → offsIn l n) (hll2 : l.length ≤ 1759218604441) :
    Calls Try.prog 63 #[.agg #[.int .i64 a.kind, .slice sa a.shape.length ca, .slice na a.nums.length ma, .slice ia a.items.length ja], .slice so s.length sc, .slice lo l.length lc] w (RetA w (fun b => S b ∨ w.heap.size ≤ b) (gathS a s (atL l) l.length)) := by
  obtain ⟨_, _, ⟨h3, hn, _⟩ | ⟨h3, hn, _⟩⟩ := right_ok hr
  · exact ref19_Gather_A a _ _ _ _ _ _ s l so sc lo lc S T U w h hs hl h3 (hin _ hn.symm) hll2
  · exact ref19_Gather_N a _ _ _ _ _ _ s l so sc lo lc S T U w h hs hl h3 (hin _ hn.symm)
set_option maxRecDepth 100000 in
set_option maxHeartbeats 4000000 in
theorem ref22_Reverse (a : Arr) (sa : Option Addr) (ca : Nat) (na : Option Addr) (ma : Nat) (ia : Option Addr) (ja : Nat) (S : Nat → Prop) (w : World) (h : ArrAt w S a sa na ia) :
    Calls Try.prog 31 #[.agg #[.int .i64 a.kind, .slice sa a.shape.length ca, .slice na a.nums.length ma, .slice ia a.items.length ja]] w (RetA w (fun _ => True) (revS a)) := by
  refine calls_post fun R' hR => ?_
  have h0 := hid (ArrAt.mono (T := fun b => b < w.heap.size) (fun b hb _ => hb) a h)
  have hsl := h.shape.1
  clear h
  by_cases c : rightS a = 0
  case neg =>
    have cb : (rightS a != 0) = true := by simp [c]
    have E : Hid (revS a = .zero) := if_neg c
    replace c := hid c
    go_enter Try.func31, Try.ntmps31
    go_wp2_with fail
    generalize hEW : ((w).alloc (.cells #[.int .i64 a.kind, .slice sa a.shape.length ca, .slice na a.nums.length ma, .slice ia a.items.length ja] 46)).alloc (.cells #[.int .i64 0, .slice none 0 0, .slice none 0 0, .slice none 0 0] 46) = W
    obtain ⟨haW, hZW, heW, zW⟩ := boxes2 w hEW
    clear hEW
    refine (ref03_Right a _ _ _ _ _ _ _ W (h0.out.up heW)).mono ?_
    rintro e w1 ⟨rfl, hb1⟩
    have HZ := hZW.up hb1
    have e1 := heW.trans hb1
    clear hb1 haW hZW heW
    go_wp2_with (refine wpl_store4 rfl (.tmp 2) (.tmp 12) rfl (w.heap.size + 1) rfl rfl HZ ?_; intro V HV C)
    exact bodyPost_ret (end_arr rfl HV rfl) rfl (hR.out _ _ (RetA.zero E.out (C.below e1 (by omega))))
  have cb : (rightS a != 0) = false := by simp [c]
  have hs := (right_ok c).2.1
  have hcn := cnt_le hs
  obtain ⟨n, hnn⟩ : ∃ n : Nat, cnt a.shape = (n : Int) := ⟨(cnt a.shape).toNat, by omega⟩
  have E : Hid (revS a = gathS a a.shape (srcS (revF a.shape) a.shape) n) := by unfold Hid revS; rw [if_pos c, hnn]; rfl
  have hsz : Hid (sizeS a.shape = n) := by rw [← hnn]; exact sizeS_true hs
  have hs' := hid hs
  have hbd := hid (shape_bds hs)
  have hkf := hid (revF_keeps a.shape)
  rw [hnn] at hcn
  have hnn' := hid hnn
  replace c := hid c
  clear hs hnn
  go_enter Try.func31, Try.ntmps31
  go_wp2_with fail
  generalize hEW : ((w).alloc (.cells #[.int .i64 a.kind, .slice sa a.shape.length ca, .slice na a.nums.length ma, .slice ia a.items.length ja] 46)).alloc (.cells #[.int .i64 0, .slice none 0 0, .slice none 0 0, .slice none 0 0] 46) = W
  obtain ⟨haW, hZW, heW, zW⟩ := boxes2 w hEW
  clear hEW
  refine (ref03_Right a _ _ _ _ _ _ _ W (h0.out.up heW)).mono ?_
  rintro e V ⟨rfl, hb1⟩
  have HaV := haW.up hb1
  have HZV := hZW.up hb1
  have eV := heW.trans hb1
  have zV := Below.size hb1
  have AV := hid (h0.out.up eV)
  clear hb1 haW hZW heW
  go_wp2_with fail
  go_loopw [3, 4] (fun v i wr => ∃ (m : Nat) (ra : Option Addr) (rc : Nat), m ≤ n ∧ i = .int .i64 m ∧ v = .slice ra (srcL (revF a.shape) a.shape m).length rc ∧ OwnI wr V.heap.size ra rc (srcL (revF a.shape) a.shape m) ∧ Ext V wr) (fun _ i _ => n - (intOf i).toNat)
  case atStart => exact ⟨0, none, 0, Nat.zero_le _, rfl, rfl, OwnI.nil _ _, Ext.refl _⟩
  case round =>
    obtain ⟨m, ra, rc, hm, rfl, rfl, hO, hX⟩ := hrel
    have hO := hid hO
    have hX := hid hX
    have zr := Below.size hX.out
    have H2 := HaV.up hX.out
    have q1 := H2.c1
    have q0 := H2.c0
    have q2 := H2.c2
    have q3 := H2.c3
    have AR := hid (AV.out.up hX.out)
    by_cases hlt : m < n
    · have hm1 : (m : Int) < cnt a.shape := by rw [hnn'.out]; omega
      have hI := hid (ref02_Index a.shape m _ ca _ wr AR.out.shape hs'.out (by omega) hm1)
      have hdl := hid (digs_len a.shape m)
      have hdi := hid (digs_in (posB_of hs'.out (by omega) hm1) m)
      have hls := hid (srcL_succ (revF a.shape) a.shape m)
      have hll := hid (srcL_len (revF a.shape) a.shape m)
      have hst := hid (rev_set hdl.out)
      replace hm1 := hid hm1
      by_cases hz : 0 < a.shape.length
      · have hz' : 0 < (digs a.shape m).length := by rw [hdl.out]; exact hz
        go_wp2_with (first
          | (go_at_call 60; refine (ref02_Size a.shape _ _ _ wr AR.out.shape).mono ?_; rintro e w' ⟨rfl, rfl⟩; rw [hsz.out])
          | (go_at_call 61; refine hI.out.mono ?_; rintro e w1 ⟨io, icap, rfl, hio, hb1⟩))
        have H3 := H2.up hb1
        have r1 := H3.c1
        have A1 := hid (AR.out.up hb1)
        have io' := hid hio
        obtain ⟨b, off, hsa, hbl, hSb, hc⟩ := A1.out.shape.at hz
        subst hsa
        have hI2 := hio.ints (by rw [hdl.out]; exact hsl)
        obtain ⟨b', off', hio2, hbl', hSb', hc'⟩ := hI2.at hz'
        obtain ⟨g, hg0, hgb, hgl, _⟩ := hio.set hz'
        rw [hg0] at hio2
        injection hio2 with hio2
        injection hio2 with hb0 ho0
        subst hb0
        subst ho0
        rw [Nat.add_zero] at hc hc'
        have hb65 := hbd.out _ (getD_mem hz)
        obtain ⟨i1, i2⟩ := hdi.out.2 0 hz
        subst hg0
        have hg1 : w1.cell? ⟨g, 0, none⟩ = some (.int .i64 ((digs a.shape m).getD 0 0)) := hc'
        have zz1 : (0 : Int) < (a.shape.length : Int) := by omega
        have zz2 : (0 : Int) < ((digs a.shape m).length : Int) := by omega
        have hll2 : (digs a.shape m).length ≤ 17592186044416 := by rw [hdl.out]; exact hsl
        generalize hdd : a.shape.getD 0 0 = d at hc i2 hb65 hst
        generalize hxx : (digs a.shape m).getD 0 0 = x at hg1 i1 i2 hst
        have wr1 : IntKind.i64.wrap (d - 1) = d - 1 := IntWalk.i64_in _ (by omega)
        have wr2 : IntKind.i64.wrap (d - 1 - x) = d - 1 - x := IntWalk.i64_in _ (by omega)
        replace hdd := hid hdd
        replace hxx := hid hxx
        clear hio hI2 hc' hSb hSb'
        refine wp_region_mono_tail 11 (Sees w1 [(⟨w.heap.size, 1, none⟩, .slice (some ⟨b, off, none⟩) a.shape.length ca), (⟨b, off, none⟩, .int .i64 d), (⟨g, 0, none⟩, .int .i64 x)]) [] (fun k v u u' => match k with  | _ => False) (fun _ _ h e => h.up e) (Sees.start (all_cons (r1) (all_cons (hc) (all_cons (hg1) (all_nil))))) (by kernel_rfl) (by kernel_rfl) ?_
        simp only [List.take_succ_cons, List.take_zero, List.drop_succ_cons, List.drop_zero]
        repeat (first | (refine m_plain (v := ?_) (by rfl) (by rfl) ?_ ?_; rotate_left; (intro wz hSw; obtain ⟨-, hSc⟩ := hSw; (try simp only [List.forall_mem_cons, List.forall_mem_nil, and_true] at hSc); go_simp; (first | done | with_reducible rfl)); (intro K hK; (try simp only [Act.put, List.setIfInBounds_toArray, List.set_cons_zero, List.set_cons_succ]); refine hK _ _ ?_; clear hK K)) | (refine m_skip (by rfl) (by rfl) ?_; (intro K hK; (try simp only [Act.put, List.setIfInBounds_toArray, List.set_cons_zero, List.set_cons_succ]); refine hK _ _ ?_; clear hK K)))
        refine m_nil ?_
        intro wf hSf hAf
        have eF : Ext w1 wf := hSf.1
        clear hSf hAf wr1 wr2
        refine wpl_setI (by rfl) (.tmp 40) (.tmp 39) (by rfl) wr.heap.size (some ⟨g, 0, none⟩) icap (digs a.shape m) (io'.out.up eF) 0 hz' (d - 1 - x) (by intro g e; injection e with e; injection e with e1 e2; subst e1; rfl) (by rfl) ?_
        intro V4 g4 hg4 hg4' ho4 C4
        injection hg4 with hg4
        injection hg4 with hg4
        subst hg4
        have e4 := hid (show Ext wr V4 from C4.below (Ext.trans hb1 eF) hg4')
        have t1 := (H2.up e4.out).c1
        have ho5 : Hid (OwnI V4 wr.heap.size (some ⟨g, 0, none⟩) icap (turnI (revF a.shape) (digs a.shape m))) := by rw [hst.out]; exact ho4
        clear ho4 C4 hg4' r1 hg1 hc q0 q1 q2 q3
        have A4 := hid (AR.out.up e4.out)
        have z4 := Below.size e4.out
        have hTl := turnI_len (revF a.shape) (digs a.shape m)
        have hTi := hid (turnI_in hkf.out hdi.out)
        have hof := ref02_Offset a.shape (turnI (revF a.shape) (digs a.shape m)) _ ca (some ⟨g, 0, none⟩) icap _ _ V4 A4.out.shape (ho5.out.ints (by rw [hTl]; exact hll2)) hs'.out hTi.out
        rw [hTl] at hof
        have hof' : Hid (Calls Try.prog 62 #[_, _] V4 fun e w' => e = .returned (.tuple #[.int .i64 (srcS (revF a.shape) a.shape m), .bool true]) ∧ ∃ n, w' = V4.drewN n) := hof
        clear hof hTl
        generalize hsrc : srcS (revF a.shape) a.shape m = at' at hof' hls
        have hO4 := hid (hO.out.up e4.out)
        go_wp2_with fail
        refine hof'.out.mono ?_
        rintro e w' ⟨rfl, nd, rfl⟩
        have eD : Ext V4 (V4.drewN nd) := below_drewN (Below.refl _ _) nd
        have hOD := hid (hO4.out.up eD)
        have eD2 := hid (e4.out.trans eD)
        generalize V4.drewN nd = wd at *
        have zd := Below.size eD
        go_wp2_with (at_builtin; refine wpList_appI _ rfl (.tmp 48) (.tmp 50) rfl V.heap.size ra rc (srcL (revF a.shape) a.shape m) rfl (hOD.out.alloc _) (fun b => b = wd.heap.size) (some ⟨wd.heap.size, 0, none⟩) 1 [at'] rfl ?c1 ?c2 ?c3 ?_)
        case c1 => exact IntsAt.box rfl (by simp [go_sem])
        case c2 => rw [hll.out]; simp; omega
        case c3 => simp; omega
        intro ra' rc' w6 hown' hg' hrow'
        have HO6 := hid hown'
        have e6 := hid (show Ext V w6 from below_grownI (((hX.out.trans eD2.out)).trans (ext_alloc wd (.cells #[.int .i64 at'] 3))) hg' (fun q hq => (hOD.out.row q hq).1))
        clear hown' hg' hrow' eD t1
        go_wp2_with fail
        go_roundw
        case rel => exact ⟨m + 1, ra', rc', by omega, by go_num, by rw [hls.out]; simp, by rw [hls.out]; exact HO6.out, e6.out⟩
        case measure => simp [intOf]; omega
      · have hz0 : ¬ 0 < (digs a.shape m).length := by rw [hdl.out]; exact hz
        have hle : Hid (turnI (revF a.shape) (digs a.shape m) = digs a.shape m) := by
          have h1 : digs a.shape m = [] := List.eq_nil_of_length_eq_zero (by omega)
          rw [h1]; rfl
        have hll2 : (digs a.shape m).length ≤ 17592186044416 := by rw [hdl.out]; exact hsl
        go_wp2_with (first
          | (go_at_call 60; refine (ref02_Size a.shape _ _ _ wr AR.out.shape).mono ?_; rintro e w' ⟨rfl, rfl⟩; rw [hsz.out])
          | (go_at_call 61; refine hI.out.mono ?_; rintro e V4 ⟨io, icap, rfl, hio, hb1⟩; have e4 := hid (show Ext wr V4 from hb1); have t1 := (H2.up hb1).c1))
        have ho5 : Hid (OwnI V4 wr.heap.size io icap (turnI (revF a.shape) (digs a.shape m))) := by rw [hle.out]; exact hio
        clear hio hb1 q0 q1 q2 q3
        have A4 := hid (AR.out.up e4.out)
        have z4 := Below.size e4.out
        have hTl := turnI_len (revF a.shape) (digs a.shape m)
        have hTi := hid (turnI_in hkf.out hdi.out)
        have hof := ref02_Offset a.shape (turnI (revF a.shape) (digs a.shape m)) _ ca io icap _ _ V4 A4.out.shape (ho5.out.ints (by rw [hTl]; exact hll2)) hs'.out hTi.out
        rw [hTl] at hof
        have hof' : Hid (Calls Try.prog 62 #[_, _] V4 fun e w' => e = .returned (.tuple #[.int .i64 (srcS (revF a.shape) a.shape m), .bool true]) ∧ ∃ n, w' = V4.drewN n) := hof
        clear hof hTl
        generalize hsrc : srcS (revF a.shape) a.shape m = at' at hof' hls
        have hO4 := hid (hO.out.up e4.out)
        go_wp2_with fail
        refine hof'.out.mono ?_
        rintro e w' ⟨rfl, nd, rfl⟩
        have eD : Ext V4 (V4.drewN nd) := below_drewN (Below.refl _ _) nd
        have hOD := hid (hO4.out.up eD)
        have eD2 := hid (e4.out.trans eD)
        generalize V4.drewN nd = wd at *
        have zd := Below.size eD
        go_wp2_with (at_builtin; refine wpList_appI _ rfl (.tmp 48) (.tmp 50) rfl V.heap.size ra rc (srcL (revF a.shape) a.shape m) rfl (hOD.out.alloc _) (fun b => b = wd.heap.size) (some ⟨wd.heap.size, 0, none⟩) 1 [at'] rfl ?c1 ?c2 ?c3 ?_)
        case c1 => exact IntsAt.box rfl (by simp [go_sem])
        case c2 => rw [hll.out]; simp; omega
        case c3 => simp; omega
        intro ra' rc' w6 hown' hg' hrow'
        have HO6 := hid hown'
        have e6 := hid (show Ext V w6 from below_grownI (((hX.out.trans eD2.out)).trans (ext_alloc wd (.cells #[.int .i64 at'] 3))) hg' (fun q hq => (hOD.out.row q hq).1))
        clear hown' hg' hrow' eD t1
        go_wp2_with fail
        go_roundw
        case rel => exact ⟨m + 1, ra', rc', by omega, by go_num, by rw [hls.out]; simp, by rw [hls.out]; exact HO6.out, e6.out⟩
        case measure => simp [intOf]; omega
    · have hmn : m = n := by omega
      subst hmn
      have hin : ∀ q : Nat, cnt a.shape = q → offsIn (srcL (revF a.shape) a.shape m) q := fun q hq => srcL_in hkf.out hs'.out (by rw [hnn'.out]; exact Int.le_refl _) hq
      have hll := hid (srcL_len (revF a.shape) a.shape m)
      have hG := ref19_Gather a _ ca _ ma _ ja a.shape (srcL (revF a.shape) a.shape m) _ ca ra rc _ _ _ wr AR.out AR.out.shape (hO.out.ints (by rw [hll.out]; omega)) c.out hin (by rw [hll.out]; omega)
      rw [gathS_src] at hG
      have HG := hid hG
      have HZ2 := HZV.up hX.out
      have eW := hid (eV.trans hX.out)
      clear hG hin
      go_wp2_with (first
        | (go_at_call 60; refine (ref02_Size a.shape _ _ _ wr AR.out.shape).mono ?_; rintro e w' ⟨rfl, rfl⟩; rw [hsz.out])
        | (refine wpl_load4 rfl (.tmp 1) rfl w.heap.size rfl H2 ?_)
        | (go_at_call 63; refine HG.out.mono ?_; rintro e w2 ⟨ta, tc, tn, tnc, ti, tic, rfl, hA2, hb2⟩; have HZ3 := HZ2.up hb2)
        | (refine wpl_store4 rfl (.tmp 2) (.tmp 56) rfl (w.heap.size + 1) rfl rfl HZ3 ?_; intro V2 HV C))
      exact bodyPost_ret (end_arr rfl HV rfl) rfl (hR.out _ _ (RetA.to E.out (ArrAt.mono (fun b _ hb => trivial) _ (C.arr hA2 (fun q hq => by rcases hq with hq | hq <;> omega))) (C.below (Below.trans eW.out (Below.mono hb2 (by omega))) (by omega))))
theorem rot_turn {xs s l : List Int} (h : xs.length ≤ l.length) : turnP (rotF xs s) l xs.length = turnI (rotF xs s) l := by
  have e : (turnI (rotF xs s) l).drop xs.length = l.drop xs.length := by
    apply List.ext_getElem
    · simp [turnI_len]
    · intro i h1 h2
      simp only [List.getElem_drop, turnI, List.getElem_map, List.getElem_range]
      unfold rotF
      rw [if_pos (by omega)]
      rw [List.length_drop] at h2
      have h3 : xs.length + i < l.length := by omega
      rw [List.getD_eq_getElem?_getD, List.getElem?_eq_getElem h3]
      rfl
  unfold turnP
  rw [← e, List.take_append_drop]
theorem mod_in (n x d : Int) : (n + x % d) % d = (n + x) % d := by rw [Int.add_emod, Int.emod_emod_of_dvd _ (Int.dvd_refl d), ← Int.add_emod]
set_option maxRecDepth 100000 in
set_option maxHeartbeats 8000000 in
theorem ref22_Rotate (x : Arr) (sx : Option Addr) (cx : Nat) (nx : Option Addr) (mx : Nat) (ix : Option Addr) (jx : Nat) (y : Arr) (sy : Option Addr) (cy : Nat) (ny : Option Addr) (my : Nat) (iy : Option Addr) (jy : Nat) (S T : Nat → Prop) (w : World) (h : ArrAt w S x sx nx ix) (g : ArrAt w T y sy ny iy) :
    Calls Try.prog 34 #[.agg #[.int .i64 x.kind, .slice sx x.shape.length cx, .slice nx x.nums.length mx, .slice ix x.items.length jx], .agg #[.int .i64 y.kind, .slice sy y.shape.length cy, .slice ny y.nums.length my, .slice iy y.items.length jy]] w (RetAE w (fun _ => True) (rotS x y) (rotE x y)) := by
  refine calls_post fun R' hR => ?_
  have h0 := hid (ArrAt.mono (T := fun b => b < w.heap.size) (fun b hb _ => hb) x h)
  have g0 := hid (ArrAt.mono (T := fun b => b < w.heap.size) (fun b hb _ => hb) y g)
  have xnl := h.nums.1
  have xsl := h.shape.1
  have ysl := g.shape.1
  clear h g
  by_cases c : rightS x = 0
  case neg =>
    have cb : (rightS x != 0) = true := by simp [c]
    have E : Hid (rotE x y = 1) := if_pos (Or.inl c)
    have E2 : Hid (rotS x y = .zero) := if_neg (by rw [E.out]; omega)
    replace c := hid c
    go_enter Try.func34, Try.ntmps34
    go_wp2_with fail
    generalize hEW : (((w).alloc (.cells #[.int .i64 x.kind, .slice sx x.shape.length cx, .slice nx x.nums.length mx, .slice ix x.items.length jx] 46)).alloc (.cells #[.int .i64 y.kind, .slice sy y.shape.length cy, .slice ny y.nums.length my, .slice iy y.items.length jy] 46)).alloc (.cells #[.int .i64 0, .slice none 0 0, .slice none 0 0, .slice none 0 0] 46) = W
    obtain ⟨hxW, hyW, hZW, heW, zW⟩ := boxes3 w hEW
    clear hEW
    refine (ref03_Right x _ _ _ _ _ _ _ W (h0.out.up heW)).mono ?_
    rintro e w1 ⟨rfl, hb1⟩
    have HZ := hZW.up hb1
    have e1 := heW.trans hb1
    clear hb1 hxW hyW hZW
    go_wp2_with (refine wpl_store4 rfl (.tmp 4) (.tmp 21) rfl (w.heap.size + 1 + 1) rfl rfl HZ ?_; intro V HV C)
    exact bodyPost_ret (end_arr2 rfl HV rfl rfl) rfl (hR.out _ _ (RetAE.zero E2.out E.out (C.below e1 (by omega))))
  have cb : (rightS x != 0) = false := by simp [c]
  by_cases d : rightS y = 0
  case neg =>
    have db : (rightS y != 0) = true := by simp [d]
    have E : Hid (rotE x y = 1) := if_pos (Or.inr d)
    have E2 : Hid (rotS x y = .zero) := if_neg (by rw [E.out]; omega)
    replace c := hid c
    replace d := hid d
    go_enter Try.func34, Try.ntmps34
    go_wp2_with fail
    generalize hEW : (((w).alloc (.cells #[.int .i64 x.kind, .slice sx x.shape.length cx, .slice nx x.nums.length mx, .slice ix x.items.length jx] 46)).alloc (.cells #[.int .i64 y.kind, .slice sy y.shape.length cy, .slice ny y.nums.length my, .slice iy y.items.length jy] 46)).alloc (.cells #[.int .i64 0, .slice none 0 0, .slice none 0 0, .slice none 0 0] 46) = W
    obtain ⟨hxW, hyW, hZW, heW, zW⟩ := boxes3 w hEW
    clear hEW
    refine (ref03_Right x _ _ _ _ _ _ _ W (h0.out.up heW)).mono ?_
    rintro e w1 ⟨rfl, hb1⟩
    have e1 := heW.trans hb1
    obtain ⟨y0, y1, y2, y3⟩ := (hyW.up hb1).all
    go_wp2_with fail
    refine (ref03_Right y _ _ _ _ _ _ _ w1 (g0.out.up e1)).mono ?_
    rintro e w2 ⟨rfl, hb2⟩
    have eX := Ext.trans hb1 hb2
    have e2 := heW.trans eX
    have HX2 := hxW.up eX
    have HY2 := hyW.up eX
    have HZ2 := hZW.up eX
    obtain ⟨x0, x1, x2, x3⟩ := HX2.all
    replace y1 := HY2.c1
    clear hb1 hb2 hxW hyW hZW y0 y2 y3
    go_wp2_with (refine wpl_store4 rfl (.tmp 4) (.tmp 21) rfl (w.heap.size + 1 + 1) rfl rfl HZ2 ?_; intro V HV C)
    exact bodyPost_ret (end_arr2 rfl HV rfl rfl) rfl (hR.out _ _ (RetAE.zero E2.out E.out (C.below e2 (by omega))))
  have db : (rightS y != 0) = false := by simp [d]
  by_cases k : x.kind = 1
  case neg =>
    have kb : (x.kind != 1) = true := by simp [k]
    have E : Hid (rotE x y = 14) := by unfold Hid rotE; rw [if_neg (by simp [c, d]), if_pos k]
    have E2 : Hid (rotS x y = .zero) := if_neg (by rw [E.out]; omega)
    replace c := hid c
    replace d := hid d
    replace k := hid k
    go_enter Try.func34, Try.ntmps34
    go_wp2_with fail
    generalize hEW : (((w).alloc (.cells #[.int .i64 x.kind, .slice sx x.shape.length cx, .slice nx x.nums.length mx, .slice ix x.items.length jx] 46)).alloc (.cells #[.int .i64 y.kind, .slice sy y.shape.length cy, .slice ny y.nums.length my, .slice iy y.items.length jy] 46)).alloc (.cells #[.int .i64 0, .slice none 0 0, .slice none 0 0, .slice none 0 0] 46) = W
    obtain ⟨hxW, hyW, hZW, heW, zW⟩ := boxes3 w hEW
    clear hEW
    refine (ref03_Right x _ _ _ _ _ _ _ W (h0.out.up heW)).mono ?_
    rintro e w1 ⟨rfl, hb1⟩
    have e1 := heW.trans hb1
    obtain ⟨y0, y1, y2, y3⟩ := (hyW.up hb1).all
    go_wp2_with fail
    refine (ref03_Right y _ _ _ _ _ _ _ w1 (g0.out.up e1)).mono ?_
    rintro e w2 ⟨rfl, hb2⟩
    have eX := Ext.trans hb1 hb2
    have e2 := heW.trans eX
    have HX2 := hxW.up eX
    have HY2 := hyW.up eX
    have HZ2 := hZW.up eX
    obtain ⟨x0, x1, x2, x3⟩ := HX2.all
    replace y1 := HY2.c1
    clear hb1 hb2 hxW hyW hZW y0 y2 y3
    go_wp2_with (refine wpl_store4 rfl (.tmp 4) (.tmp 25) rfl (w.heap.size + 1 + 1) rfl rfl HZ2 ?_; intro V HV C)
    exact bodyPost_ret (end_arr2 rfl HV rfl rfl) rfl (hR.out _ _ (RetAE.zero E2.out E.out (C.below e2 (by omega))))
  have kb : (x.kind != 1) = false := by simp [k]
  by_cases r : 1 < x.shape.length
  case pos =>
    have E : Hid (rotE x y = 15) := by unfold Hid rotE; rw [if_neg (by simp [c, d]), if_neg (by simp [k]), if_pos r]
    have E2 : Hid (rotS x y = .zero) := if_neg (by rw [E.out]; omega)
    replace c := hid c
    replace d := hid d
    replace k := hid k
    go_enter Try.func34, Try.ntmps34
    go_wp2_with fail
    generalize hEW : (((w).alloc (.cells #[.int .i64 x.kind, .slice sx x.shape.length cx, .slice nx x.nums.length mx, .slice ix x.items.length jx] 46)).alloc (.cells #[.int .i64 y.kind, .slice sy y.shape.length cy, .slice ny y.nums.length my, .slice iy y.items.length jy] 46)).alloc (.cells #[.int .i64 0, .slice none 0 0, .slice none 0 0, .slice none 0 0] 46) = W
    obtain ⟨hxW, hyW, hZW, heW, zW⟩ := boxes3 w hEW
    clear hEW
    refine (ref03_Right x _ _ _ _ _ _ _ W (h0.out.up heW)).mono ?_
    rintro e w1 ⟨rfl, hb1⟩
    have e1 := heW.trans hb1
    obtain ⟨y0, y1, y2, y3⟩ := (hyW.up hb1).all
    go_wp2_with fail
    refine (ref03_Right y _ _ _ _ _ _ _ w1 (g0.out.up e1)).mono ?_
    rintro e w2 ⟨rfl, hb2⟩
    have eX := Ext.trans hb1 hb2
    have e2 := heW.trans eX
    have HX2 := hxW.up eX
    have HY2 := hyW.up eX
    have HZ2 := hZW.up eX
    obtain ⟨x0, x1, x2, x3⟩ := HX2.all
    replace y1 := HY2.c1
    clear hb1 hb2 hxW hyW hZW y0 y2 y3
    go_wp2_with (refine wpl_store4 rfl (.tmp 4) (.tmp 30) rfl (w.heap.size + 1 + 1) rfl rfl HZ2 ?_; intro V HV C)
    exact bodyPost_ret (end_arr2 rfl HV rfl rfl) rfl (hR.out _ _ (RetAE.zero E2.out E.out (C.below e2 (by omega))))
  by_cases l : y.shape.length < x.nums.length
  case pos =>
    have E : Hid (rotE x y = 16) := by unfold Hid rotE; rw [if_neg (by simp [c, d]), if_neg (by simp [k]), if_neg r, if_pos l]
    have E2 : Hid (rotS x y = .zero) := if_neg (by rw [E.out]; omega)
    replace c := hid c
    replace d := hid d
    replace k := hid k
    go_enter Try.func34, Try.ntmps34
    go_wp2_with fail
    generalize hEW : (((w).alloc (.cells #[.int .i64 x.kind, .slice sx x.shape.length cx, .slice nx x.nums.length mx, .slice ix x.items.length jx] 46)).alloc (.cells #[.int .i64 y.kind, .slice sy y.shape.length cy, .slice ny y.nums.length my, .slice iy y.items.length jy] 46)).alloc (.cells #[.int .i64 0, .slice none 0 0, .slice none 0 0, .slice none 0 0] 46) = W
    obtain ⟨hxW, hyW, hZW, heW, zW⟩ := boxes3 w hEW
    clear hEW
    refine (ref03_Right x _ _ _ _ _ _ _ W (h0.out.up heW)).mono ?_
    rintro e w1 ⟨rfl, hb1⟩
    have e1 := heW.trans hb1
    obtain ⟨y0, y1, y2, y3⟩ := (hyW.up hb1).all
    go_wp2_with fail
    refine (ref03_Right y _ _ _ _ _ _ _ w1 (g0.out.up e1)).mono ?_
    rintro e w2 ⟨rfl, hb2⟩
    have eX := Ext.trans hb1 hb2
    have e2 := heW.trans eX
    have HX2 := hxW.up eX
    have HY2 := hyW.up eX
    have HZ2 := hZW.up eX
    obtain ⟨x0, x1, x2, x3⟩ := HX2.all
    replace y1 := HY2.c1
    clear hb1 hb2 hxW hyW hZW y0 y2 y3
    go_wp2_with (refine wpl_store4 rfl (.tmp 4) (.tmp 38) rfl (w.heap.size + 1 + 1) rfl rfl HZ2 ?_; intro V HV C)
    exact bodyPost_ret (end_arr2 rfl HV rfl rfl) rfl (hR.out _ _ (RetAE.zero E2.out E.out (C.below e2 (by omega))))
  case neg =>
    have E : Hid (rotE x y = 0) := by unfold Hid rotE; rw [if_neg (by simp [c, d]), if_neg (by simp [k]), if_neg r, if_neg l]
    have hs := (right_ok d).2.1
    have hcn := cnt_le hs
    obtain ⟨n, hnn⟩ : ∃ n : Nat, cnt y.shape = (n : Int) := ⟨(cnt y.shape).toNat, by omega⟩
    have E2 : Hid (rotS x y = gathS y y.shape (srcS (rotF x.nums y.shape) y.shape) n) := by unfold Hid rotS; rw [if_pos E.out, hnn]; rfl
    have hsz : Hid (sizeS y.shape = n) := by rw [← hnn]; exact sizeS_true hs
    have hs' := hid hs
    have hsb := hid (shape_bds hs)
    have hxb := hid (num_bds c k)
    have hkf := hid (rotF_keeps x.nums y.shape)
    rw [hnn] at hcn
    have hnn' := hid hnn
    replace c := hid c
    replace d := hid d
    replace k := hid k
    clear hs hnn
    go_enter Try.func34, Try.ntmps34
    go_wp2_with fail
    generalize hEW : (((w).alloc (.cells #[.int .i64 x.kind, .slice sx x.shape.length cx, .slice nx x.nums.length mx, .slice ix x.items.length jx] 46)).alloc (.cells #[.int .i64 y.kind, .slice sy y.shape.length cy, .slice ny y.nums.length my, .slice iy y.items.length jy] 46)).alloc (.cells #[.int .i64 0, .slice none 0 0, .slice none 0 0, .slice none 0 0] 46) = W
    obtain ⟨hxW, hyW, hZW, heW, zW⟩ := boxes3 w hEW
    clear hEW
    refine (ref03_Right x _ _ _ _ _ _ _ W (h0.out.up heW)).mono ?_
    rintro e w1 ⟨rfl, hb1⟩
    have e1 := heW.trans hb1
    obtain ⟨y0, y1, y2, y3⟩ := (hyW.up hb1).all
    go_wp2_with fail
    refine (ref03_Right y _ _ _ _ _ _ _ w1 (g0.out.up e1)).mono ?_
    rintro e w2 ⟨rfl, hb2⟩
    have eX := Ext.trans hb1 hb2
    have e2 := heW.trans eX
    have HX2 := hxW.up eX
    have HY2 := hyW.up eX
    have HZ2 := hZW.up eX
    obtain ⟨x0, x1, x2, x3⟩ := HX2.all
    replace y1 := HY2.c1
    clear hb1 hb2 hxW hyW hZW y0 y2 y3
    have AX := hid (h0.out.up e2)
    have AY := hid (g0.out.up e2)
    have z2 := Below.size eX
    go_wp2_with fail
    go_loopw [6, 7] (fun v i wr => ∃ (m : Nat) (ra : Option Addr) (rc : Nat), m ≤ n ∧ i = .int .i64 m ∧ v = .slice ra (srcL (rotF x.nums y.shape) y.shape m).length rc ∧ OwnI wr w2.heap.size ra rc (srcL (rotF x.nums y.shape) y.shape m) ∧ Ext w2 wr) (fun _ i _ => n - (intOf i).toNat)
    case atStart => exact ⟨0, none, 0, Nat.zero_le _, rfl, rfl, OwnI.nil _ _, Ext.refl _⟩
    case round =>
      obtain ⟨m, ra, rc, hm, rfl, rfl, hO, hX⟩ := hrel
      have hO := hid hO
      have hX := hid hX
      have zr := Below.size hX.out
      have q1 := (HY2.up hX.out).c1
      have AR := hid (AY.out.up hX.out)
      have AXR := hid (AX.out.up hX.out)
      by_cases hlt : m < n
      · have hm1 : (m : Int) < cnt y.shape := by rw [hnn'.out]; omega
        have hI := hid (ref02_Index y.shape m _ cy _ wr AR.out.shape hs'.out (by omega) hm1)
        have hdl := hid (digs_len y.shape m)
        have hdi := hid (digs_in (posB_of hs'.out (by omega) hm1) m)
        have hls := hid (srcL_succ (rotF x.nums y.shape) y.shape m)
        have hll := hid (srcL_len (rotF x.nums y.shape) y.shape m)
        replace hm1 := hid hm1
        clear x0 x1 x2 x3 y1
        go_wp2_with (first
          | (go_at_call 60; refine (ref02_Size y.shape _ _ _ wr AR.out.shape).mono ?_; rintro e w' ⟨rfl, rfl⟩; rw [hsz.out])
          | (go_at_call 61; refine hI.out.mono ?_; rintro e w3 ⟨io, icap, rfl, hio, hb1⟩))
        have hll2 : (digs y.shape m).length ≤ 17592186044416 := by rw [hdl.out]; exact ysl
        generalize hdd : digs y.shape m = ld at *
        replace hdd := hid hdd
        replace hio := hid hio
        have e3 := hid (show Ext wr w3 from hb1)
        obtain ⟨wo, rfl⟩ : ∃ wo : World, wo = wr := ⟨_, rfl⟩
        clear hb1
        go_loopw [10] (fun i wi => ∃ j : Nat, j ≤ x.nums.length ∧ i = .int .i64 j ∧ OwnI wi wo.heap.size io icap (turnP (rotF x.nums y.shape) ld j) ∧ Ext wo wi) (fun i _ => x.nums.length - (intOf i).toNat)
        case atStart => exact ⟨0, Nat.zero_le _, rfl, by rw [turnP_zero]; exact hio.out, e3.out⟩
        case round =>
          obtain ⟨j, hj, rfl, hoj, hej⟩ := hrel
          have hoj := hid hoj
          have hej := hid hej
          have p2 := ((HX2.up hX.out).up hej.out).c2
          have p1 := ((HY2.up hX.out).up hej.out).c1
          by_cases hjl : j < x.nums.length
          · have hjs : j < y.shape.length := by omega
            have hjd : j < ld.length := by have := hdl.out; omega
            have hpl := hid (turnP_len (rotF x.nums y.shape) ld (Nat.le_of_lt hjd))
            have hat := hid (turnP_at (rotF x.nums y.shape) ld hjd)
            have hst := hid (turnP_set (rotF x.nums y.shape) ld hjd)
            have hfe : Hid (rotF x.nums y.shape (j : Nat) (ld.getD j 0) = (ld.getD j 0 + x.nums.getD j 0) % y.shape.getD j 0) := by unfold Hid rotF; rw [if_neg (by omega)]; simp only [Int.toNat_natCast]
            have hI2 := hoj.out.ints (by rw [hpl.out]; exact hll2)
            have hp2 : j < (turnP (rotF x.nums y.shape) ld j).length := by rw [hpl.out]; exact hjd
            obtain ⟨b, off, hio2, hbl, hSb, hc⟩ := hI2.at hp2
            obtain ⟨g, hg0, _, _, _⟩ := hoj.out.set hp2
            rw [hg0] at hio2
            injection hio2 with hio2
            injection hio2 with hb0 ho0
            subst hb0
            subst ho0
            rw [hat.out, Nat.zero_add] at hc
            subst hg0
            obtain ⟨i1, i2⟩ := hdi.out.2 j hjs
            obtain ⟨bx, ox, hxa, _, _, hcx⟩ := (AXR.out.up hej.out).nums.at hjl
            obtain ⟨bs, os, hya, _, _, hcs⟩ := (AR.out.up hej.out).shape.at hjs
            have hb65 := hsb.out _ (getD_mem hjs)
            have hb62 := hxb.out _ (getD_mem hjl)
            subst hxa
            subst hya
            generalize ld.getD j 0 = n0 at hc hst hfe i1 i2
            generalize x.nums.getD j 0 = xv at hcx hb62 hfe
            generalize y.shape.getD j 0 = dv at hcs hb65 hfe i2
            have hM := hid (mod_in n0 xv dv)
            have hdp : 0 < dv := by omega
            have hm0 : 0 ≤ xv % dv := Int.emod_nonneg _ (by omega)
            have hm2 : xv % dv < dv := Int.emod_lt_of_pos _ hdp
            have jj0 : (0 : Int) ≤ (j : Int) := by omega
            have jj1 : (j : Int) < (x.nums.length : Int) := by omega
            have jj2 : (j : Int) < (y.shape.length : Int) := by omega
            have jj3 : (j : Int) < (ld.length : Int) := by omega
            have wr1 : IntKind.i64.wrap (n0 + xv % dv) = n0 + xv % dv := IntWalk.i64_in _ (by omega)
            clear hI2 hSb
            go_wp2_with fail
            refine wp_region_mono_tail 25 (Sees wr [(⟨g, j, none⟩, .int .i64 n0), (⟨w.heap.size, 2, none⟩, .slice (some ⟨bx, ox, none⟩) x.nums.length mx), (⟨bx, ox + j, none⟩, .int .i64 xv), (⟨w.heap.size + 1, 1, none⟩, .slice (some ⟨bs, os, none⟩) y.shape.length cy), (⟨bs, os + j, none⟩, .int .i64 dv)]) [16, 23] (fun k v u u' => match k with | 16 => v = .int .i64 (xv % dv) | 23 => v = .int .i64 ((n0 + xv % dv) % dv) | _ => False) (fun _ _ h e => h.up e) (Sees.start (all_cons (hc) (all_cons (p2) (all_cons (hcx) (all_cons (p1) (all_cons (hcs) (all_nil))))))) (by kernel_rfl) (by kernel_rfl) ?_
            simp only [List.take_succ_cons, List.take_zero, List.drop_succ_cons, List.drop_zero]
            repeat (first | (refine m_plain (v := ?_) (by rfl) (by rfl) ?_ ?_; rotate_left; (intro wz hSw; obtain ⟨-, hSc⟩ := hSw; (try simp only [List.forall_mem_cons, List.forall_mem_nil, and_true] at hSc); go_simp; (first | done | with_reducible rfl)); (intro K hK; (try simp only [Act.put, List.setIfInBounds_toArray, List.set_cons_zero, List.set_cons_succ]); refine hK _ _ ?_; clear hK K)) | (refine m_skip (by rfl) (by rfl) ?_; (intro K hK; (try simp only [Act.put, List.setIfInBounds_toArray, List.set_cons_zero, List.set_cons_succ]); refine hK _ _ ?_; clear hK K)))
            refine m_make (by rfl) (by rfl) ?_ ?_
            · intro wz hSw hdep R hRz
              obtain ⟨hSe, hSc⟩ := hSw
              (try simp only [List.forall_mem_cons, List.forall_mem_nil, and_true] at hSc)
              unfold does
              (go_simp; refine Calls.mono (ref22_Modulo xv dv hdp hb65.2 wz) ?_; rintro e wq ⟨rfl, rfl⟩; exact ⟨_, rfl, hRz.out _ _ ⟨Ext.refl _, rfl⟩⟩)
            intro v16 u16 x16 hG16 K hK
            have hF16 := hG16.fact
            (try dsimp only at hF16)
            subst hF16
            (try simp only [Act.put, List.setIfInBounds_toArray, List.set_cons_zero, List.set_cons_succ]); refine hK _ _ ?_; clear hK K
            repeat (first | (refine m_plain (v := ?_) (by rfl) (by rfl) ?_ ?_; rotate_left; (intro wz hSw; obtain ⟨-, hSc⟩ := hSw; (try simp only [List.forall_mem_cons, List.forall_mem_nil, and_true] at hSc); go_simp; (first | done | with_reducible rfl)); (intro K hK; (try simp only [Act.put, List.setIfInBounds_toArray, List.set_cons_zero, List.set_cons_succ]); refine hK _ _ ?_; clear hK K)) | (refine m_skip (by rfl) (by rfl) ?_; (intro K hK; (try simp only [Act.put, List.setIfInBounds_toArray, List.set_cons_zero, List.set_cons_succ]); refine hK _ _ ?_; clear hK K)))
            refine m_make (by rfl) (by rfl) ?_ ?_
            · intro wz hSw hdep R hRz
              obtain ⟨hSe, hSc⟩ := hSw
              (try simp only [List.forall_mem_cons, List.forall_mem_nil, and_true] at hSc)
              unfold does
              (go_simp; refine Calls.mono (ref22_Modulo (n0 + xv % dv) dv hdp hb65.2 wz) ?_; rintro e wq ⟨rfl, rfl⟩; exact ⟨_, rfl, hRz.out _ _ ⟨Ext.refl _, rfl⟩⟩)
            intro v23 u23 x23 hG23 K hK
            have hF23 := hG23.fact
            (try dsimp only at hF23)
            subst hF23
            (try simp only [Act.put, List.setIfInBounds_toArray, List.set_cons_zero, List.set_cons_succ]); refine hK _ _ ?_; clear hK K
            repeat (first | (refine m_plain (v := ?_) (by rfl) (by rfl) ?_ ?_; rotate_left; (intro wz hSw; obtain ⟨-, hSc⟩ := hSw; (try simp only [List.forall_mem_cons, List.forall_mem_nil, and_true] at hSc); go_simp; (first | done | with_reducible rfl)); (intro K hK; (try simp only [Act.put, List.setIfInBounds_toArray, List.set_cons_zero, List.set_cons_succ]); refine hK _ _ ?_; clear hK K)) | (refine m_skip (by rfl) (by rfl) ?_; (intro K hK; (try simp only [Act.put, List.setIfInBounds_toArray, List.set_cons_zero, List.set_cons_succ]); refine hK _ _ ?_; clear hK K)))
            refine m_nil ?_
            intro wf hSf hAf
            have eF : Ext wr wf := hSf.1
            clear hSf hAf hG16 hG23 wr1 hc hcx hcs
            refine wpl_setI (by rfl) (.tmp 84) (.tmp 83) (by rfl) wo.heap.size (some ⟨g, 0, none⟩) icap (turnP (rotF x.nums y.shape) ld j) (hoj.out.up eF) j hp2 ((n0 + xv % dv) % dv) (by intro g e; injection e with e; injection e with e1 e2; subst e1; rfl) (by rfl) ?_
            intro V4 g4 hg4 hg4' ho4 C4
            injection hg4 with hg4
            injection hg4 with hg4
            subst hg4
            have ho5 : Hid (OwnI V4 wo.heap.size (some ⟨g, 0, none⟩) icap (turnP (rotF x.nums y.shape) ld (j + 1))) := by rw [← hst.out, hfe.out, ← hM.out]; exact ho4
            have e4 := hid (C4.below (Ext.trans hej.out eF) hg4')
            clear ho4 C4 hg4' eF p1 p2
            go_wp2_with fail
            go_roundw
            case rel => exact ⟨j + 1, by omega, by go_num, ho5.out, e4.out⟩
            case measure => simp [intOf]; omega
          · have hje : turnP (rotF x.nums y.shape) ld j = turnI (rotF x.nums y.shape) ld := by rw [show j = x.nums.length by omega]; exact rot_turn (by rw [hdl.out]; omega)
            have hoj' := hoj.out
            rw [hje] at hoj'
            have ho5 := hid hoj'
            clear hoj' hje
            have A4 := hid (AR.out.up hej.out)
            have z4 := Below.size hej.out
            have hTl := turnI_len (rotF x.nums y.shape) ld
            have hTi := hid (turnI_in hkf.out hdi.out)
            have hof := ref02_Offset y.shape (turnI (rotF x.nums y.shape) ld) _ cy io icap _ _ wr A4.out.shape (ho5.out.ints (by rw [hTl]; exact hll2)) hs'.out hTi.out
            rw [hTl, ← hdd.out] at hof
            have hof' : Hid (Calls Try.prog 62 #[.slice sy y.shape.length cy, .slice io (digs y.shape m).length icap] wr fun e w' => e = .returned (.tuple #[.int .i64 (srcS (rotF x.nums y.shape) y.shape m), .bool true]) ∧ ∃ n, w' = wr.drewN n) := hof
            rw [hdd.out] at hof'
            clear hof hTl
            generalize hsrc : srcS (rotF x.nums y.shape) y.shape m = at' at hof' hls
            have hO4 := hid (hO.out.up hej.out)
            go_wp2_with fail
            refine hof'.out.mono ?_
            rintro e w' ⟨rfl, nd, rfl⟩
            have eD : Ext wr (wr.drewN nd) := below_drewN (Below.refl _ _) nd
            have hOD := hid (hO4.out.up eD)
            have eD2 := hid (hej.out.trans eD)
            generalize wr.drewN nd = wd at *
            have zd := Below.size eD
            go_wp2_with (at_builtin; refine wpList_appI _ rfl (.tmp 92) (.tmp 94) rfl w2.heap.size ra rc (srcL (rotF x.nums y.shape) y.shape m) rfl (hOD.out.alloc _) (fun b => b = wd.heap.size) (some ⟨wd.heap.size, 0, none⟩) 1 [at'] rfl ?c1 ?c2 ?c3 ?_)
            case c1 => exact IntsAt.box rfl (by simp [go_sem])
            case c2 => rw [hll.out]; simp; omega
            case c3 => simp; omega
            intro ra' rc' w6 hown' hg' hrow'
            have HO6 := hid hown'
            have e6 := hid (show Ext w2 w6 from below_grownI (((hX.out.trans eD2.out)).trans (ext_alloc wd (.cells #[.int .i64 at'] 3))) hg' (fun q hq => (hOD.out.row q hq).1))
            clear hown' hg' hrow' eD p1
            go_wp2_with fail
            go_roundw
            case rel => exact ⟨m + 1, ra', rc', by omega, by go_num, by rw [hls.out]; simp, by rw [hls.out]; exact HO6.out, e6.out⟩
            case measure => simp [intOf]; omega
      · have hmn : m = n := by omega
        subst hmn
        have hin : ∀ q : Nat, cnt y.shape = q → offsIn (srcL (rotF x.nums y.shape) y.shape m) q := fun q hq => srcL_in hkf.out hs'.out (by rw [hnn'.out]; exact Int.le_refl _) hq
        have hll := hid (srcL_len (rotF x.nums y.shape) y.shape m)
        have hG := ref19_Gather y _ cy _ my _ jy y.shape (srcL (rotF x.nums y.shape) y.shape m) _ cy ra rc _ _ _ wr AR.out AR.out.shape (hO.out.ints (by rw [hll.out]; omega)) d.out hin (by rw [hll.out]; omega)
        rw [gathS_src] at hG
        have HG := hid hG
        have HZ3 := HZ2.up hX.out
        have HY3 := HY2.up hX.out
        have eW := hid (e2.trans hX.out)
        clear hG hin
        go_wp2_with (first
          | (go_at_call 60; refine (ref02_Size y.shape _ _ _ wr AR.out.shape).mono ?_; rintro e w' ⟨rfl, rfl⟩; rw [hsz.out])
          | (refine wpl_load4 rfl (.tmp 3) rfl (w.heap.size + 1) rfl HY3 ?_)
          | (go_at_call 63; refine HG.out.mono ?_; rintro e w3 ⟨ta, tc, tn, tnc, ti, tic, rfl, hA2, hb2⟩; have HZ4 := HZ3.up hb2)
          | (refine wpl_store4 rfl (.tmp 4) (.tmp 100) rfl (w.heap.size + 1 + 1) rfl rfl HZ4 ?_; intro V2 HV C))
        exact bodyPost_ret (end_arr2 rfl HV rfl rfl) rfl (hR.out _ _ (RetAE.to E2.out E.out (ArrAt.mono (fun b _ hb => trivial) _ (C.arr hA2 (fun q hq => by rcases hq with hq | hq <;> omega))) (C.below (Below.trans eW.out (Below.mono hb2 (by omega))) (by omega))))
end Go.Proofs.Ytmclggonmekanaa
