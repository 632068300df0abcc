/- rotating.build: a contract. Conditions: a valid array, a function that keeps to the shape. -/
import Derived.Test.YtmclggonmekanaaBLD
set_option linter.unusedVariables false
set_option linter.unusedSimpArgs false
namespace Go.Proofs.Ytmclggonmekanaa
open Go.RowKit Go.Sort
attribute [local go_sem ↓] run_max2 run_min2
attribute [local go_sem] eql_ints_nil eql_arrs_nil
/-- an index, each number turned by its axis' own rule -/
def turnI (f : Int → Int → Int) (l : List Int) : List Int := (List.range l.length).map fun (j : Nat) => f j (l.getD j 0)
def turnP (f : Int → Int → Int) (l : List Int) (j : Nat) : List Int := (turnI f l).take j ++ l.drop j
def keeps (f : Int → Int → Int) (s : List Int) : Prop := ∀ (j : Nat) (n : Int), j < s.length → 0 ≤ n → n < s.getD j 0 → 0 ≤ f j n ∧ f j n < s.getD j 0
theorem turnI_len (f : Int → Int → Int) (l : List Int) : (turnI f l).length = l.length := by simp [turnI]
theorem turnI_getD {f : Int → Int → Int} {l : List Int} {j : Nat} (h : j < l.length) : (turnI f l).getD j 0 = f j (l.getD j 0) := by simp [turnI, h]
theorem turnI_in {f : Int → Int → Int} {s l : List Int} (hf : keeps f s) (h : inS s l) : inS s (turnI f l) :=
  ⟨by rw [turnI_len, h.1], fun i hi => by rw [turnI_getD (by rw [h.1]; exact hi)]; exact hf i _ hi (h.2 i hi).1 (h.2 i hi).2⟩
theorem turnP_zero (f : Int → Int → Int) (l : List Int) : turnP f l 0 = l := by simp [turnP]
theorem turnP_all (f : Int → Int → Int) (l : List Int) : turnP f l l.length = turnI f l := by simp [turnP, List.take_of_length_le, turnI_len]
theorem turnP_len (f : Int → Int → Int) (l : List Int) {j : Nat} (h : j ≤ l.length) : (turnP f l j).length = l.length := by simp [turnP, turnI_len]; omega
theorem turnP_at (f : Int → Int → Int) (l : List Int) {j : Nat} (h : j < l.length) : (turnP f l j).getD j 0 = l.getD j 0 := by
  unfold turnP
  have e : ((turnI f l).take j).length = j := by simp [turnI_len]; omega
  simp only [List.getD_eq_getElem?_getD]
  rw [List.getElem?_append_right (by omega), e, List.getElem?_drop]
  simp
theorem turnP_set (f : Int → Int → Int) (l : List Int) {j : Nat} (h : j < l.length) : (turnP f l j).set j (f j (l.getD j 0)) = turnP f l (j + 1) := by
  unfold turnP
  have e : ((turnI f l).take j).length = j := by simp [turnI_len]; omega
  rw [List.set_append_right _ _ (by omega), e, Nat.sub_self, List.drop_eq_getElem_cons h, List.set_cons_zero]
  rw [← List.take_append_getElem (by rw [turnI_len]; exact h)]
  have e2 : (turnI f l)[j]'(by rw [turnI_len]; exact h) = f j (l.getD j 0) := by simp [turnI, h]
  rw [e2]
  simp
/-- where element k comes from -/
def srcS (f : Int → Int → Int) (s : List Int) (k : Int) : Int := offS s (turnI f (digs s k))
theorem srcS_bd {f : Int → Int → Int} {s : List Int} (hf : keeps f s) (hs : shapeB s = true) {k : Int} (h0 : 0 ≤ k) (h1 : k < cnt s) : 0 ≤ srcS f s k ∧ srcS f s k < cnt s :=
  offS_bd (turnI_in hf (digs_in (posB_of hs h0 h1) k))
def pickN (n : List Int) (g : Int → Int) (m : Nat) : List Int := (List.range m).map fun (k : Nat) => n.getD (g k).toNat 0
def pickA (l : List Arr) (g : Int → Int) (m : Nat) : List Arr := (List.range m).map fun (k : Nat) => l.getD (g k).toNat .zero
theorem pickN_len (n : List Int) (g : Int → Int) (m : Nat) : (pickN n g m).length = m := by simp [pickN]
theorem pickA_len (n : List Arr) (g : Int → Int) (m : Nat) : (pickA n g m).length = m := by simp [pickA]
theorem pickN_succ (n : List Int) (g : Int → Int) (m : Nat) : pickN n g (m + 1) = pickN n g m ++ [n.getD (g m).toNat 0] := by simp [pickN, List.range_succ]
theorem pickA_succ (n : List Arr) (g : Int → Int) (m : Nat) : pickA n g (m + 1) = pickA n g m ++ [n.getD (g m).toNat .zero] := by simp [pickA, List.range_succ]
/-- the array of y's shape whose element k is y's element g k -/
def gathS (y : Arr) (s : List Int) (g : Int → Int) (m : Nat) : Arr := .mk y.kind s (if y.kind = 3 then [] else pickN y.nums g m) (if y.kind = 3 then pickA y.items g m else [])
theorem gathS_N {y : Arr} (h : y.kind ≠ 3) (s : List Int) (g : Int → Int) (m : Nat) : gathS y s g m = .mk y.kind s (pickN y.nums g m) [] := by simp [gathS, h]
theorem gathS_A {y : Arr} (h : y.kind = 3) (s : List Int) (g : Int → Int) (m : Nat) : gathS y s g m = .mk 3 s [] (pickA y.items g m) := by simp [gathS, h]
set_option maxRecDepth 100000 in
set_option maxHeartbeats 4000000 in
theorem rotating_build_N (f : Int → Int → Int) (K : FuncId) (caps : Array Value) (a : Arr) (sa : Option Addr) (sc : Nat) (na : Option Addr) (nc : Nat) (ia : Option Addr) (ic : Nat) (S : Nat → Prop) (w : World) (h : ArrAt w S a sa na ia)
    (hs : shapeB a.shape = true) (hk : a.kind ≠ 3) (hn : (a.nums.length : Int) = cnt a.shape) (hkf : keeps f a.shape) (hK : ∀ (args : Array Value) (wz : World), (callFunc K args).run Try.prog wz = .ok (.enter K args) wz)
    (hf : ∀ (j : Nat) (n : Int) (wz : World), Ext w wz → j < a.shape.length → 0 ≤ n → n < a.shape.getD j 0 → Calls Try.prog K (#[.int .i64 (j : Nat), .int .i64 n] ++ caps) wz fun e w' => e = .returned (.int .i64 (f j n)) ∧ Ext wz w') :
    Calls Try.prog 57 #[.agg #[.int .i64 a.kind, .slice sa a.shape.length sc, .slice na a.nums.length nc, .slice ia a.items.length ic], .func (.func K) #[] caps] w (RetA w (fun b => w.heap.size ≤ b) (gathS a a.shape (srcS f a.shape) (cnt a.shape).toNat)) := by
  refine calls_post fun R' hR => ?_
  have hil := h.len
  have hsl := h.shape.1
  have hnl := h.nums.1
  have h0 : Hid (ArrAt w (fun b => b < w.heap.size) a sa na ia) := hid (ArrAt.mono (fun b hb _ => hb) a h)
  have hs' := hid hs
  have hf' := hid hf
  have hkf' := hid hkf
  have hn' := hid hn
  have hk3 : (a.kind == 3) = false := by simpa using hk
  have hk' := hid hk
  clear h hs hf hkf hn hk
  go_enter Try.func57, Try.ntmps57
  go_wp2_with fail
  have hx := hdr_new w (.int .i64 a.kind) (.slice sa a.shape.length sc) (.slice na a.nums.length nc) (.slice ia a.items.length ic)
  have hw := ext_alloc w (.cells #[.int .i64 a.kind, .slice sa a.shape.length sc, .slice na a.nums.length nc, .slice ia a.items.length ic] 46)
  generalize hW : (w.alloc (.cells #[.int .i64 a.kind, .slice sa a.shape.length sc, .slice na a.nums.length nc, .slice ia a.items.length ic] 46)).alloc (.cells #[.int .i64 0, .slice none 0 0, .slice none 0 0, .slice none 0 0] 46) = W
  have hxW : Hdr W w.heap.size (.int .i64 a.kind) (.slice sa a.shape.length sc) (.slice na a.nums.length nc) (.slice ia a.items.length ic) := by rw [← hW]; exact hx.up (ext_alloc _ _)
  have hrW : Hdr W (w.heap.size + 1) (.int .i64 0) (.slice none 0 0) (.slice none 0 0) (.slice none 0 0) := by rw [← hW]; have := hdr_new (w.alloc (.cells #[.int .i64 a.kind, .slice sa a.shape.length sc, .slice na a.nums.length nc, .slice ia a.items.length ic] 46)) (.int .i64 0) (.slice none 0 0) (.slice none 0 0) (.slice none 0 0); simpa using this
  have heW : Ext w W := by rw [← hW]; exact hw.trans (ext_alloc _ _)
  have zW : W.heap.size = w.heap.size + 2 := by rw [← hW]; simp
  clear hx hw hW
  have aW := hid (h0.out.up heW)
  refine wp_region_mono_tail 7 (Sees W [(⟨w.heap.size, 0, none⟩, .int .i64 a.kind), (⟨w.heap.size, 1, none⟩, .slice sa a.shape.length sc)]) [4, 6] (fun k v u u' => match k with | 4 => ClonedI u a.shape (.returned v) u' | 6 => v = .pointer (some ⟨u.heap.size, 0, none⟩) ∧ u' = u.alloc (.cells #[.int .i64 0, .slice none 0 0, .slice none 0 0, .slice none 0 0] 46) | _ => False) (fun _ _ h e => h.up e) (Sees.start (all_cons (hxW.c0) (all_cons (hxW.c1) (all_nil)))) (by kernel_rfl) (by kernel_rfl) ?_
  simp only [List.take_succ_cons, List.take_zero, List.drop_succ_cons, List.drop_zero]
  repeat (first | (refine m_plain (v := ?_) (by rfl) (by rfl) ?_ ?_; rotate_left; (intro wz hSw; obtain ⟨-, hSc⟩ := hSw; (try simp only [List.forall_mem_cons, List.forall_mem_nil, and_true] at hSc); go_simp; (first | done | with_reducible rfl)); (intro K hK; (try simp only [Act.put, List.setIfInBounds_toArray, List.set_cons_zero, List.set_cons_succ]); refine hK _ _ ?_; clear hK K)) | (refine m_skip (by rfl) (by rfl) ?_; (intro K hK; (try simp only [Act.put, List.setIfInBounds_toArray, List.set_cons_zero, List.set_cons_succ]); refine hK _ _ ?_; clear hK K)))
  refine m_make (by rfl) (by rfl) ?_ ?_
  · intro wz hSw hdep R hRz
    obtain ⟨hSe, hSc⟩ := hSw
    (try simp only [List.forall_mem_cons, List.forall_mem_nil, and_true] at hSc)
    unfold does
    (go_simp; refine Calls.mono (slices_Clone a.shape _ _ _ wz (aW.out.up hSe).shape) ?_; rintro e wq ⟨ta, tc, rfl, hq, hqb⟩; exact ⟨_, rfl, hRz.out _ _ ⟨hqb, ta, tc, rfl, hq, hqb⟩⟩)
  intro v4 u4 x4 hG4 K hK
  have hF4 := hG4.fact
  (try dsimp only at hF4)
  obtain ⟨ta, tc, he, hq, hqb⟩ := hF4
  injection he with he
  subst he
  (try simp only [Act.put, List.setIfInBounds_toArray, List.set_cons_zero, List.set_cons_succ]); refine hK _ _ ?_; clear hK K
  repeat (first | (refine m_plain (v := ?_) (by rfl) (by rfl) ?_ ?_; rotate_left; (intro wz hSw; obtain ⟨-, hSc⟩ := hSw; (try simp only [List.forall_mem_cons, List.forall_mem_nil, and_true] at hSc); go_simp; (first | done | with_reducible rfl)); (intro K hK; (try simp only [Act.put, List.setIfInBounds_toArray, List.set_cons_zero, List.set_cons_succ]); refine hK _ _ ?_; clear hK K)) | (refine m_skip (by rfl) (by rfl) ?_; (intro K hK; (try simp only [Act.put, List.setIfInBounds_toArray, List.set_cons_zero, List.set_cons_succ]); refine hK _ _ ?_; clear hK K)))
  refine m_make (by rfl) (by rfl) ?_ ?_
  · intro wz hSw hdep R hRz
    obtain ⟨hSe, hSc⟩ := hSw
    (try simp only [List.forall_mem_cons, List.forall_mem_nil, and_true] at hSc)
    unfold does
    (go_simp; exact hRz.out _ _ ⟨ext_alloc _ _, rfl, rfl⟩)
  intro v6 u6 x6 hG6 K hK
  have hF6 := hG6.fact
  (try dsimp only at hF6)
  obtain ⟨rfl, rfl⟩ := hF6
  (try simp only [Act.put, List.setIfInBounds_toArray, List.set_cons_zero, List.set_cons_succ]); refine hK _ _ ?_; clear hK K
  repeat (first | (refine m_plain (v := ?_) (by rfl) (by rfl) ?_ ?_; rotate_left; (intro wz hSw; obtain ⟨-, hSc⟩ := hSw; (try simp only [List.forall_mem_cons, List.forall_mem_nil, and_true] at hSc); go_simp; (first | done | with_reducible rfl)); (intro K hK; (try simp only [Act.put, List.setIfInBounds_toArray, List.set_cons_zero, List.set_cons_succ]); refine hK _ _ ?_; clear hK K)) | (refine m_skip (by rfl) (by rfl) ?_; (intro K hK; (try simp only [Act.put, List.setIfInBounds_toArray, List.set_cons_zero, List.set_cons_succ]); refine hK _ _ ?_; clear hK K)))
  refine m_nil ?_
  intro wf hSf hAf
  have G6 : Hdr wf u6.heap.size _ _ _ _ := made_blk (hAf 6 _ rfl : Ext (u6.alloc _) wf)
  have zu := Below.size hG6.s.1
  have zu4 := Below.size hG4.s.1
  have ef : Ext W wf := hSf.1
  have AS : Hid (IntsAt wf (fun b => w.heap.size + 2 ≤ b ∧ b ≠ u6.heap.size) ta a.shape) := by
    have h1 := (hq.ints hsl).mono (T := fun b => w.heap.size + 2 ≤ b ∧ b ≠ u6.heap.size) (fun b hb hh => ⟨by omega, ord_out (hG6.order 4 _ rfl).symm.symm hh.1 hb⟩)
    exact h1.up (hAf 4 _ rfl)
  clear hSf hAf hG4 hG6 hq hqb
  generalize u6.heap.size = bx at *
  clear zu4 u4 x4 u6
  have H2 := hxW.up ef
  have HR := hrW.up ef
  have Aw := hid (aW.out.up ef)
  have hbx := G6.lt
  have Bw : Below w.heap.size w wf := Below.trans heW (Below.mono ef (by omega))
  have hcn := cnt_le hs'.out
  have hsz := hid (sizeS_true hs'.out)
  go_wp2_with (first
    | (refine wpl_store4 rfl (.tmp 5) (.tmp 18) rfl bx rfl rfl G6 ?_; intro V HV C; have HV2 := C.hdr H2 (by omega); have q1 := HV2.c1)
    | (go_at_call 76; refine (shape_Size a.shape _ _ _ V (C.arr Aw.out (fun q hq => by omega)).shape).mono ?_; rintro e w' ⟨rfl, rfl⟩; rw [hsz.out]))
  have zV := C.z
  have AV := hid (C.arr Aw.out (fun q hq => by omega))
  have AS := hid (C.ints AS.out (fun q hq => hq.2))
  have HRV := C.hdr HR (by omega)
  have BV := hid (C.below Bw (by omega))
  have zf := Below.size ef
  obtain ⟨n, hnn⟩ : ∃ n : Nat, cnt a.shape = (n : Int) := ⟨(cnt a.shape).toNat, by omega⟩
  have hnn' := hid hnn
  rw [hnn]
  rw [hnn] at hcn
  clear C G6 H2 HR Aw Bw hxW hrW heW aW hnn q1
  go_loopw [22] (fun i wr => ∃ (m : Nat) (ra : Option Addr) (rc : Nat), m ≤ n ∧ i = .int .i64 m ∧ BldN V wr bx (.int .i64 a.kind) (.slice ta a.shape.length tc) ra rc (pickN a.nums (srcS f a.shape) m)) (fun i _ => n - (intOf i).toNat)
  case atStart => exact ⟨0, none, 0, Nat.zero_le _, rfl, BldN.new HV⟩
  case round =>
    obtain ⟨m, ra, rc, hm, rfl, hB⟩ := hrel
    have hB := hid hB
    have hl := hB.out.l
    have zr := hB.out.g.size
    by_cases hlt : m < n
    · have hm1 : (m : Int) < cnt a.shape := by rw [hnn'.out]; omega
      have H2 := HV2.grown hB.out.g (by simp; omega)
      have q1 := H2.c1
      have AR := hid (AV.out.grown hB.out.g (fun b hb _ => by simp; omega))
      have hI := hid (shape_Index a.shape m _ sc _ wr AR.out.shape hs'.out (by omega) hm1 (fun b hb => by omega))
      have hdl := hid (digs_len a.shape m)
      have hdi := hid (digs_in (posB_of hs'.out (by omega) hm1) m)
      have hsb := hid (srcS_bd hkf'.out hs'.out (k := m) (by omega) hm1)
      replace hm1 := hid hm1
      go_wp2_with (go_at_call 86; refine hI.out.mono ?_; rintro e w1 ⟨io, icap, rfl, hio, hb1⟩)
      have z1 := hb1.size
      have hdl' : (digs a.shape m).length = a.shape.length := hdl.out
      have hll : (digs a.shape m).length ≤ 17592186044416 := by omega
      generalize hdd : digs a.shape m = l at *
      replace hdd := hid hdd
      replace hio := hid hio
      replace hb1 := hid hb1
      replace hdl' := hid hdl'
      have Bwr := hid (BV.out.grown hB.out.g BV.out.size (fun q hq => by injection hq with hq; omega))
      obtain ⟨wo, rfl⟩ : ∃ wo : World, wo = wr := ⟨_, rfl⟩
      go_loopw [34] (fun i wi => ∃ j : Nat, j ≤ l.length ∧ i = .int .i64 j ∧ OwnI wi wo.heap.size io icap (turnP f l j) ∧ Ext wo wi) (fun i _ => l.length - (intOf i).toNat)
      case atStart => exact ⟨0, Nat.zero_le _, rfl, by rw [turnP_zero]; exact hio.out, hb1.out⟩
      case round =>
        obtain ⟨j, hj, rfl, hoj, hej⟩ := hrel
        have hoj := hid hoj
        have hej := hid hej
        have zj := Below.size hej.out
        by_cases hjl : j < l.length
        · have hpl := turnP_len f l hj
          have hat := hid (turnP_at f l hjl)
          have hst := hid (turnP_set f l hjl)
          have hI2 := hoj.out.ints (by rw [hpl]; exact hll)
          have hp2 : j < (turnP f l j).length := by rw [hpl]; exact hjl
          obtain ⟨b, off, hio2, hbl, hSb, hc⟩ := hI2.at hp2
          obtain ⟨g, hg0, _, _, _⟩ := hoj.out.set hp2
          rw [hg0] at hio2
          injection hio2 with hio2
          injection hio2 with hb0 ho0
          subst hb0
          subst ho0
          rw [hat.out, Nat.zero_add] at hc
          have hjs : j < a.shape.length := by rw [hdl'.out] at hjl; exact hjl
          obtain ⟨i1, i2⟩ := hdi.out.2 j hjs
          have hcl := hid (hf'.out j (l.getD j 0) wr (Below.trans Bwr.out (Below.mono hej.out Bwr.out.size)) hjs i1 i2)
          subst hg0
          generalize l.getD j 0 = d at hc hst hcl i1 i2
          replace hpl := hid hpl
          replace hat := hid hat
          clear hI2 hSb
          go_wp2_with fail
          refine hcl.out.mono ?_
          rintro e w3 ⟨rfl, he3⟩
          have ho3 := hid (hoj.out.up he3)
          have e3' := hid (hej.out.trans he3)
          go_wp2_with (refine wpl_setI rfl (.tmp 45) (.tmp 44) rfl wo.heap.size (some ⟨g, 0, none⟩) icap (turnP f l j) ho3.out j hp2 (f j d) (by intro g e; injection e with e; injection e with e1 e2; subst e1; rfl) rfl ?_; intro V4 g4 hg4 hg4' ho4 C4; injection hg4 with hg4; injection hg4 with hg4; subst hg4)
          have ho4' : Hid (OwnI V4 wo.heap.size (some ⟨g, 0, none⟩) icap (turnP f l (j + 1))) := by rw [← hst.out]; exact ho4
          have e4 := hid (C4.below e3'.out hg4')
          clear ho4 C4 hg4'
          go_wp2_with fail
          go_roundw
          case rel => exact ⟨j + 1, by omega, by go_num, ho4'.out, e4.out⟩
          case measure => simp [intOf]; omega
        · have hje : turnP f l j = turnI f l := by rw [show j = l.length by omega, turnP_all]
          have hoj' := hoj.out
          rw [hje] at hoj'
          have HO := hid hoj'
          have hTi := turnI_len f l
          have hTin := hid (turnI_in hkf'.out hdi.out)
          have hBe := hid (hB.out.up hej.out)
          have H3 := H2.up hej.out
          have q2 := H3.c0
          have q3 := H3.c1
          have q4 := H3.c2
          have q5 := hBe.out.h.c2
          have AE := hid (AR.out.up hej.out)
          have hof := shape_Offset a.shape (turnI f l) sa sc io icap _ _ wr AE.out.shape (HO.out.ints (by rw [hTi]; exact hll)) hs'.out hTin.out
          rw [hTi, ← hdd.out] at hof
          have hof' : Hid (Calls Try.prog 87 #[.slice sa a.shape.length sc, .slice io (digs a.shape m).length icap] wr fun e w' => e = .returned (.tuple #[.int .i64 (srcS f a.shape m), .bool true]) ∧ wr = w') := hof
          rw [hdd.out] at hof'
          have hsv := hsb.out
          rw [hnn'.out] at hsv
          obtain ⟨s0, s1⟩ := hsv
          have hPs := hid (pickN_succ a.nums (srcS f a.shape) m)
          have hPl := hid (pickN_len a.nums (srcS f a.shape) m)
          generalize srcS f a.shape m = at' at hof' s0 s1 hPs
          have hnl2 : (a.nums.length : Int) = n := by rw [hn'.out, hnn'.out]
          obtain ⟨b', off', rfl, hbl', hSb', hc'⟩ := AE.out.nums.at (k := at'.toNat) (by omega)
          have hat' : (at'.toNat : Int) = at' := by omega
          generalize a.nums.getD at'.toNat 0 = d at hPs hc'
          obtain ⟨t, ht⟩ : ∃ t : Nat, at' = (t : Int) := ⟨at'.toNat, by omega⟩
          subst ht
          simp only [Int.toNat_natCast] at hc'
          have hnl3 : (t : Int) < (a.nums.length : Int) := by omega
          replace hnl2 := hid hnl2
          clear hof hje hoj' hoj hTi hSb' hat'
          go_wp2_with (go_at_call 87; refine hof'.out.mono ?_; rintro e w' ⟨rfl, rfl⟩)
          refine wp_region_mono_tail 8 (Sees wr [(⟨bx, 2, none⟩, .slice ra (pickN a.nums (srcS f a.shape) m).length rc), (⟨w.heap.size, 2, none⟩, .slice (some ⟨b', off', none⟩) a.nums.length nc), (⟨b', off' + t, none⟩, .int .i64 d)]) [7] (fun k v u u' => match k with | 7 => v = .slice (some ⟨u.heap.size, 0, none⟩) 1 1 ∧ u' = u.alloc (.cells #[.int .i64 d] 3) | _ => False) (fun _ _ h e => h.up e) (Sees.start (all_cons (q5) (all_cons (q4) (all_cons (hc') (all_nil))))) (by kernel_rfl) (by kernel_rfl) ?_
          simp only [List.take_succ_cons, List.take_zero, List.drop_succ_cons, List.drop_zero]
          repeat (first | (refine m_plain (v := ?_) (by rfl) (by rfl) ?_ ?_; rotate_left; (intro wz hSw; obtain ⟨-, hSc⟩ := hSw; (try simp only [List.forall_mem_cons, List.forall_mem_nil, and_true] at hSc); go_simp; (first | done | with_reducible rfl)); (intro K hK; (try simp only [Act.put, List.setIfInBounds_toArray, List.set_cons_zero, List.set_cons_succ]); refine hK _ _ ?_; clear hK K)) | (refine m_skip (by rfl) (by rfl) ?_; (intro K hK; (try simp only [Act.put, List.setIfInBounds_toArray, List.set_cons_zero, List.set_cons_succ]); refine hK _ _ ?_; clear hK K)))
          refine m_make (by rfl) (by rfl) ?_ ?_
          · intro wz hSw hdep R hRz
            obtain ⟨hSe, hSc⟩ := hSw
            (try simp only [List.forall_mem_cons, List.forall_mem_nil, and_true] at hSc)
            unfold does
            (go_simp; exact hRz.out _ _ ⟨ext_alloc _ _, rfl, rfl⟩)
          intro v7 u7 x7 hG7 K hK
          have hF7 := hG7.fact
          (try dsimp only at hF7)
          obtain ⟨rfl, rfl⟩ := hF7
          (try simp only [Act.put, List.setIfInBounds_toArray, List.set_cons_zero, List.set_cons_succ]); refine hK _ _ ?_; clear hK K
          repeat (first | (refine m_plain (v := ?_) (by rfl) (by rfl) ?_ ?_; rotate_left; (intro wz hSw; obtain ⟨-, hSc⟩ := hSw; (try simp only [List.forall_mem_cons, List.forall_mem_nil, and_true] at hSc); go_simp; (first | done | with_reducible rfl)); (intro K hK; (try simp only [Act.put, List.setIfInBounds_toArray, List.set_cons_zero, List.set_cons_succ]); refine hK _ _ ?_; clear hK K)) | (refine m_skip (by rfl) (by rfl) ?_; (intro K hK; (try simp only [Act.put, List.setIfInBounds_toArray, List.set_cons_zero, List.set_cons_succ]); refine hK _ _ ?_; clear hK K)))
          refine m_nil ?_
          intro wf hSf hAf
          have eF : Ext wr wf := hSf.1
          have oF : Hid (IntsAt wf (fun b => b = u7.heap.size) (some ⟨u7.heap.size, 0, none⟩) [d]) := IntsAt.box rfl (by rw [cell_of_row wf _ 0 _ _ _ (made_blk (hAf 7 _ rfl : Ext (u7.alloc _) wf))]; rfl)
          have bF := hid (hBe.out.up eF)
          clear hSf hAf hG7 eF
          refine wpl_addN rfl rfl rfl (.tmp 69) (.tmp 75) (.tmp 5) (.tmp 77) (.tmp 76) rfl rfl rfl bF.out _ _ 1 [d] rfl rfl oF.out (by rw [hPl.out]; simp; omega) (fun _ => rfl) (fun _ _ => rfl) (fun _ _ => rfl) ?_
          intro V' na' nc' hB'
          have hB2 := hid hB'
          clear hB' bF oF
          go_wp2_with fail
          go_roundw
          case rel => exact ⟨m + 1, na', nc', by omega, by go_num, by rw [hPs.out]; exact hB2.out⟩
          case measure => simp [intOf]; omega
    · have hmn : m = n := by omega
      subst hmn
      have hHB := hB.out.h
      have HRr := HRV.grown hB.out.g (by simp; omega)
      have AN := hid ((hB.out.o.ints (by rw [pickN_len]; omega)).mono (T := fun b => w.heap.size + 2 ≤ b) (fun b _ hb => by have := hb.1; omega))
      have ASr := hid (AS.out.grown hB.out.g (fun b hb _ => by simpa using hb.2))
      have Bwr := hid (BV.out.grown hB.out.g BV.out.size (fun q hq => by injection hq with hq; omega))
      go_wp2_with (first
        | (refine wpl_load4 rfl (.tmp 5) rfl bx rfl hHB ?_)
        | (refine wpl_store4 rfl (.tmp 4) (.tmp 79) rfl (w.heap.size + 1) rfl rfl HRr ?_; intro V2 H2 C2))
      refine bodyPost_ret (end_arr rfl H2 rfl) rfl (hR.out _ _ ?_)
      refine RetA.of (l := []) (n := pickN a.nums (srcS f a.shape) m) (s := a.shape) (by rw [gathS_N hk'.out, hnn'.out]; rfl) ?_ ?_ (Nat.zero_le _) (by simp only [ItemsAt]) ?_
      · exact (C2.ints ASr.out (fun q hq => by omega)).mono fun b _ hb => by omega
      · exact (C2.ints AN.out (fun q hq => by omega)).mono fun b _ hb => by omega
      · exact C2.below Bwr.out (by omega)
set_option maxRecDepth 100000 in
set_option maxHeartbeats 4000000 in
theorem rotating_build_A (f : Int → Int → Int) (K : FuncId) (caps : Array Value) (a : Arr) (sa : Option Addr) (sc : Nat) (na : Option Addr) (nc : Nat) (ia : Option Addr) (ic : Nat) (S : Nat → Prop) (w : World) (h : ArrAt w S a sa na ia)
    (hs : shapeB a.shape = true) (hk : a.kind = 3) (hn : (a.items.length : Int) = cnt a.shape) (hkf : keeps f a.shape) (hK : ∀ (args : Array Value) (wz : World), (callFunc K args).run Try.prog wz = .ok (.enter K args) wz)
    (hf : ∀ (j : Nat) (n : Int) (wz : World), Ext w wz → j < a.shape.length → 0 ≤ n → n < a.shape.getD j 0 → Calls Try.prog K (#[.int .i64 (j : Nat), .int .i64 n] ++ caps) wz fun e w' => e = .returned (.int .i64 (f j n)) ∧ Ext wz w') :
    Calls Try.prog 57 #[.agg #[.int .i64 a.kind, .slice sa a.shape.length sc, .slice na a.nums.length nc, .slice ia a.items.length ic], .func (.func K) #[] caps] w (RetA w (fun b => w.heap.size ≤ b) (gathS a a.shape (srcS f a.shape) (cnt a.shape).toNat)) := by
  refine calls_post fun R' hR => ?_
  have hil := h.len
  have hsl := h.shape.1
  have hnl := h.nums.1
  have h0 : Hid (ArrAt w (fun b => b < w.heap.size) a sa na ia) := hid (ArrAt.mono (fun b hb _ => hb) a h)
  have hs' := hid hs
  have hf' := hid hf
  have hkf' := hid hkf
  have hn' := hid hn
  have hk3 : (a.kind == 3) = true := by simpa using hk
  have hk' := hid hk
  clear h hs hf hkf hn hk
  go_enter Try.func57, Try.ntmps57
  go_wp2_with fail
  have hx := hdr_new w (.int .i64 a.kind) (.slice sa a.shape.length sc) (.slice na a.nums.length nc) (.slice ia a.items.length ic)
  have hw := ext_alloc w (.cells #[.int .i64 a.kind, .slice sa a.shape.length sc, .slice na a.nums.length nc, .slice ia a.items.length ic] 46)
  generalize hW : (w.alloc (.cells #[.int .i64 a.kind, .slice sa a.shape.length sc, .slice na a.nums.length nc, .slice ia a.items.length ic] 46)).alloc (.cells #[.int .i64 0, .slice none 0 0, .slice none 0 0, .slice none 0 0] 46) = W
  have hxW : Hdr W w.heap.size (.int .i64 a.kind) (.slice sa a.shape.length sc) (.slice na a.nums.length nc) (.slice ia a.items.length ic) := by rw [← hW]; exact hx.up (ext_alloc _ _)
  have hrW : Hdr W (w.heap.size + 1) (.int .i64 0) (.slice none 0 0) (.slice none 0 0) (.slice none 0 0) := by rw [← hW]; have := hdr_new (w.alloc (.cells #[.int .i64 a.kind, .slice sa a.shape.length sc, .slice na a.nums.length nc, .slice ia a.items.length ic] 46)) (.int .i64 0) (.slice none 0 0) (.slice none 0 0) (.slice none 0 0); simpa using this
  have heW : Ext w W := by rw [← hW]; exact hw.trans (ext_alloc _ _)
  have zW : W.heap.size = w.heap.size + 2 := by rw [← hW]; simp
  clear hx hw hW
  have aW := hid (h0.out.up heW)
  refine wp_region_mono_tail 7 (Sees W [(⟨w.heap.size, 0, none⟩, .int .i64 a.kind), (⟨w.heap.size, 1, none⟩, .slice sa a.shape.length sc)]) [4, 6] (fun k v u u' => match k with | 4 => ClonedI u a.shape (.returned v) u' | 6 => v = .pointer (some ⟨u.heap.size, 0, none⟩) ∧ u' = u.alloc (.cells #[.int .i64 0, .slice none 0 0, .slice none 0 0, .slice none 0 0] 46) | _ => False) (fun _ _ h e => h.up e) (Sees.start (all_cons (hxW.c0) (all_cons (hxW.c1) (all_nil)))) (by kernel_rfl) (by kernel_rfl) ?_
  simp only [List.take_succ_cons, List.take_zero, List.drop_succ_cons, List.drop_zero]
  repeat (first | (refine m_plain (v := ?_) (by rfl) (by rfl) ?_ ?_; rotate_left; (intro wz hSw; obtain ⟨-, hSc⟩ := hSw; (try simp only [List.forall_mem_cons, List.forall_mem_nil, and_true] at hSc); go_simp; (first | done | with_reducible rfl)); (intro K hK; (try simp only [Act.put, List.setIfInBounds_toArray, List.set_cons_zero, List.set_cons_succ]); refine hK _ _ ?_; clear hK K)) | (refine m_skip (by rfl) (by rfl) ?_; (intro K hK; (try simp only [Act.put, List.setIfInBounds_toArray, List.set_cons_zero, List.set_cons_succ]); refine hK _ _ ?_; clear hK K)))
  refine m_make (by rfl) (by rfl) ?_ ?_
  · intro wz hSw hdep R hRz
    obtain ⟨hSe, hSc⟩ := hSw
    (try simp only [List.forall_mem_cons, List.forall_mem_nil, and_true] at hSc)
    unfold does
    (go_simp; refine Calls.mono (slices_Clone a.shape _ _ _ wz (aW.out.up hSe).shape) ?_; rintro e wq ⟨ta, tc, rfl, hq, hqb⟩; exact ⟨_, rfl, hRz.out _ _ ⟨hqb, ta, tc, rfl, hq, hqb⟩⟩)
  intro v4 u4 x4 hG4 K hK
  have hF4 := hG4.fact
  (try dsimp only at hF4)
  obtain ⟨ta, tc, he, hq, hqb⟩ := hF4
  injection he with he
  subst he
  (try simp only [Act.put, List.setIfInBounds_toArray, List.set_cons_zero, List.set_cons_succ]); refine hK _ _ ?_; clear hK K
  repeat (first | (refine m_plain (v := ?_) (by rfl) (by rfl) ?_ ?_; rotate_left; (intro wz hSw; obtain ⟨-, hSc⟩ := hSw; (try simp only [List.forall_mem_cons, List.forall_mem_nil, and_true] at hSc); go_simp; (first | done | with_reducible rfl)); (intro K hK; (try simp only [Act.put, List.setIfInBounds_toArray, List.set_cons_zero, List.set_cons_succ]); refine hK _ _ ?_; clear hK K)) | (refine m_skip (by rfl) (by rfl) ?_; (intro K hK; (try simp only [Act.put, List.setIfInBounds_toArray, List.set_cons_zero, List.set_cons_succ]); refine hK _ _ ?_; clear hK K)))
  refine m_make (by rfl) (by rfl) ?_ ?_
  · intro wz hSw hdep R hRz
    obtain ⟨hSe, hSc⟩ := hSw
    (try simp only [List.forall_mem_cons, List.forall_mem_nil, and_true] at hSc)
    unfold does
    (go_simp; exact hRz.out _ _ ⟨ext_alloc _ _, rfl, rfl⟩)
  intro v6 u6 x6 hG6 K hK
  have hF6 := hG6.fact
  (try dsimp only at hF6)
  obtain ⟨rfl, rfl⟩ := hF6
  (try simp only [Act.put, List.setIfInBounds_toArray, List.set_cons_zero, List.set_cons_succ]); refine hK _ _ ?_; clear hK K
  repeat (first | (refine m_plain (v := ?_) (by rfl) (by rfl) ?_ ?_; rotate_left; (intro wz hSw; obtain ⟨-, hSc⟩ := hSw; (try simp only [List.forall_mem_cons, List.forall_mem_nil, and_true] at hSc); go_simp; (first | done | with_reducible rfl)); (intro K hK; (try simp only [Act.put, List.setIfInBounds_toArray, List.set_cons_zero, List.set_cons_succ]); refine hK _ _ ?_; clear hK K)) | (refine m_skip (by rfl) (by rfl) ?_; (intro K hK; (try simp only [Act.put, List.setIfInBounds_toArray, List.set_cons_zero, List.set_cons_succ]); refine hK _ _ ?_; clear hK K)))
  refine m_nil ?_
  intro wf hSf hAf
  have G6 : Hdr wf u6.heap.size _ _ _ _ := made_blk (hAf 6 _ rfl : Ext (u6.alloc _) wf)
  have zu := Below.size hG6.s.1
  have zu4 := Below.size hG4.s.1
  have ef : Ext W wf := hSf.1
  have AS : Hid (IntsAt wf (fun b => w.heap.size + 2 ≤ b ∧ b ≠ u6.heap.size) ta a.shape) := by
    have h1 := (hq.ints hsl).mono (T := fun b => w.heap.size + 2 ≤ b ∧ b ≠ u6.heap.size) (fun b hb hh => ⟨by omega, ord_out (hG6.order 4 _ rfl).symm.symm hh.1 hb⟩)
    exact h1.up (hAf 4 _ rfl)
  clear hSf hAf hG4 hG6 hq hqb
  generalize u6.heap.size = bx at *
  clear zu4 u4 x4 u6
  have H2 := hxW.up ef
  have HR := hrW.up ef
  have Aw := hid (aW.out.up ef)
  have hbx := G6.lt
  have Bw : Below w.heap.size w wf := Below.trans heW (Below.mono ef (by omega))
  have hcn := cnt_le hs'.out
  have hsz := hid (sizeS_true hs'.out)
  go_wp2_with (first
    | (refine wpl_store4 rfl (.tmp 5) (.tmp 18) rfl bx rfl rfl G6 ?_; intro V HV C; have HV2 := C.hdr H2 (by omega); have q1 := HV2.c1)
    | (go_at_call 76; refine (shape_Size a.shape _ _ _ V (C.arr Aw.out (fun q hq => by omega)).shape).mono ?_; rintro e w' ⟨rfl, rfl⟩; rw [hsz.out]))
  have zV := C.z
  have AV := hid (C.arr Aw.out (fun q hq => by omega))
  have AS := hid (C.ints AS.out (fun q hq => hq.2))
  have HRV := C.hdr HR (by omega)
  have BV := hid (C.below Bw (by omega))
  have zf := Below.size ef
  obtain ⟨n, hnn⟩ : ∃ n : Nat, cnt a.shape = (n : Int) := ⟨(cnt a.shape).toNat, by omega⟩
  have hnn' := hid hnn
  rw [hnn]
  rw [hnn] at hcn
  clear C G6 H2 HR Aw Bw hxW hrW heW aW hnn q1
  go_loopw [22] (fun i wr => ∃ (m : Nat) (ra : Option Addr) (rc : Nat), m ≤ n ∧ i = .int .i64 m ∧ BldA V wr bx (.int .i64 a.kind) (.slice ta a.shape.length tc) (fun b => V.heap.size ≤ b) ra rc (pickA a.items (srcS f a.shape) m)) (fun i _ => n - (intOf i).toNat)
  case atStart => exact ⟨0, none, 0, Nat.zero_le _, rfl, BldA.new HV (fun b hb => by have := HV.lt; omega)⟩
  case round =>
    obtain ⟨m, ra, rc, hm, rfl, hB⟩ := hrel
    have hB := hid hB
    have hl := hB.out.l
    have zr := hB.out.g.size
    by_cases hlt : m < n
    · have hm1 : (m : Int) < cnt a.shape := by rw [hnn'.out]; omega
      have H2 := HV2.grown hB.out.g (by simp; omega)
      have q1 := H2.c1
      have AR := hid (AV.out.grown hB.out.g (fun b hb _ => by simp; omega))
      have hI := hid (shape_Index a.shape m _ sc _ wr AR.out.shape hs'.out (by omega) hm1 (fun b hb => by omega))
      have hdl := hid (digs_len a.shape m)
      have hdi := hid (digs_in (posB_of hs'.out (by omega) hm1) m)
      have hsb := hid (srcS_bd hkf'.out hs'.out (k := m) (by omega) hm1)
      replace hm1 := hid hm1
      go_wp2_with (go_at_call 86; refine hI.out.mono ?_; rintro e w1 ⟨io, icap, rfl, hio, hb1⟩)
      have z1 := hb1.size
      have hdl' : (digs a.shape m).length = a.shape.length := hdl.out
      have hll : (digs a.shape m).length ≤ 17592186044416 := by omega
      generalize hdd : digs a.shape m = l at *
      replace hdd := hid hdd
      replace hio := hid hio
      replace hb1 := hid hb1
      replace hdl' := hid hdl'
      have Bwr := hid (BV.out.grown hB.out.g BV.out.size (fun q hq => by injection hq with hq; omega))
      obtain ⟨wo, rfl⟩ : ∃ wo : World, wo = wr := ⟨_, rfl⟩
      go_loopw [34] (fun i wi => ∃ j : Nat, j ≤ l.length ∧ i = .int .i64 j ∧ OwnI wi wo.heap.size io icap (turnP f l j) ∧ Ext wo wi) (fun i _ => l.length - (intOf i).toNat)
      case atStart => exact ⟨0, Nat.zero_le _, rfl, by rw [turnP_zero]; exact hio.out, hb1.out⟩
      case round =>
        obtain ⟨j, hj, rfl, hoj, hej⟩ := hrel
        have hoj := hid hoj
        have hej := hid hej
        have zj := Below.size hej.out
        by_cases hjl : j < l.length
        · have hpl := turnP_len f l hj
          have hat := hid (turnP_at f l hjl)
          have hst := hid (turnP_set f l hjl)
          have hI2 := hoj.out.ints (by rw [hpl]; exact hll)
          have hp2 : j < (turnP f l j).length := by rw [hpl]; exact hjl
          obtain ⟨b, off, hio2, hbl, hSb, hc⟩ := hI2.at hp2
          obtain ⟨g, hg0, _, _, _⟩ := hoj.out.set hp2
          rw [hg0] at hio2
          injection hio2 with hio2
          injection hio2 with hb0 ho0
          subst hb0
          subst ho0
          rw [hat.out, Nat.zero_add] at hc
          have hjs : j < a.shape.length := by rw [hdl'.out] at hjl; exact hjl
          obtain ⟨i1, i2⟩ := hdi.out.2 j hjs
          have hcl := hid (hf'.out j (l.getD j 0) wr (Below.trans Bwr.out (Below.mono hej.out Bwr.out.size)) hjs i1 i2)
          subst hg0
          generalize l.getD j 0 = d at hc hst hcl i1 i2
          replace hpl := hid hpl
          replace hat := hid hat
          clear hI2 hSb
          go_wp2_with fail
          refine hcl.out.mono ?_
          rintro e w3 ⟨rfl, he3⟩
          have ho3 := hid (hoj.out.up he3)
          have e3' := hid (hej.out.trans he3)
          go_wp2_with (refine wpl_setI rfl (.tmp 45) (.tmp 44) rfl wo.heap.size (some ⟨g, 0, none⟩) icap (turnP f l j) ho3.out j hp2 (f j d) (by intro g e; injection e with e; injection e with e1 e2; subst e1; rfl) rfl ?_; intro V4 g4 hg4 hg4' ho4 C4; injection hg4 with hg4; injection hg4 with hg4; subst hg4)
          have ho4' : Hid (OwnI V4 wo.heap.size (some ⟨g, 0, none⟩) icap (turnP f l (j + 1))) := by rw [← hst.out]; exact ho4
          have e4 := hid (C4.below e3'.out hg4')
          clear ho4 C4 hg4'
          go_wp2_with fail
          go_roundw
          case rel => exact ⟨j + 1, by omega, by go_num, ho4'.out, e4.out⟩
          case measure => simp [intOf]; omega
        · have hje : turnP f l j = turnI f l := by rw [show j = l.length by omega, turnP_all]
          have hoj' := hoj.out
          rw [hje] at hoj'
          have HO := hid hoj'
          have hTi := turnI_len f l
          have hTin := hid (turnI_in hkf'.out hdi.out)
          have hBe := hid (hB.out.up hej.out)
          have H3 := H2.up hej.out
          have q2 := H3.c0
          have q3 := H3.c1
          have q4 := H3.c3
          have q5 := hBe.out.h.c3
          have AE := hid (AR.out.up hej.out)
          have hof := shape_Offset a.shape (turnI f l) sa sc io icap _ _ wr AE.out.shape (HO.out.ints (by rw [hTi]; exact hll)) hs'.out hTin.out
          rw [hTi, ← hdd.out] at hof
          have hof' : Hid (Calls Try.prog 87 #[.slice sa a.shape.length sc, .slice io (digs a.shape m).length icap] wr fun e w' => e = .returned (.tuple #[.int .i64 (srcS f a.shape m), .bool true]) ∧ wr = w') := hof
          rw [hdd.out] at hof'
          have hsv := hsb.out
          rw [hnn'.out] at hsv
          obtain ⟨s0, s1⟩ := hsv
          have hPs := hid (pickA_succ a.items (srcS f a.shape) m)
          have hPl := hid (pickA_len a.items (srcS f a.shape) m)
          generalize srcS f a.shape m = at' at hof' s0 s1 hPs
          have hnl2 : (a.items.length : Int) = n := by rw [hn'.out, hnn'.out]
          have hat3 : at'.toNat < a.items.length := by omega
          obtain ⟨b', off', sa', sc', na', nc', ja', jc', rfl, hSb', hbl', e0, e1, e2, e3, hx⟩ := AE.out.items.at hat3
          have hgd : a.items.getD at'.toNat .zero = a.items[at'.toNat] := by simp [hat3]
          rw [hgd] at hPs
          have hat' : (at'.toNat : Int) = at' := by omega
          generalize a.items[at'.toNat] = x at hPs e0 e1 e2 e3 hx
          obtain ⟨t, ht⟩ : ∃ t : Nat, at' = (t : Int) := ⟨at'.toNat, by omega⟩
          subst ht
          simp only [Int.toNat_natCast] at e0 e1 e2 e3
          have hnl3 : (t : Int) < (a.items.length : Int) := by omega
          replace hnl2 := hid hnl2
          have HX := hid hx
          have zwr := hid (Nat.le_trans zr zj)
          clear hof hje hoj' hoj hTi hSb' hat' hgd hx
          go_wp2_with (go_at_call 87; refine hof'.out.mono ?_; rintro e w' ⟨rfl, rfl⟩)
          refine wp_region_mono_tail 9 (Sees wr [(⟨bx, 3, none⟩, .slice ra (pickA a.items (srcS f a.shape) m).length rc), (⟨w.heap.size, 3, none⟩, .slice (some ⟨b', off', none⟩) a.items.length ic), (⟨b', off' + t * 4, none⟩, .int .i64 x.kind), (⟨b', off' + t * 4 + 1, none⟩, .slice sa' x.shape.length sc'), (⟨b', off' + t * 4 + 2, none⟩, .slice na' x.nums.length nc'), (⟨b', off' + t * 4 + 3, none⟩, .slice ja' x.items.length jc')]) [7, 8] (fun k v u u' => match k with | 7 => RetA u (fun b => wr.heap.size ≤ b) x (.returned v) u' | 8 => ∃ sa sc na nc ia ic, v = .slice (some ⟨u.heap.size, 0, none⟩) 1 1 ∧ u' = u.alloc (.cells #[.int .i64 x.kind, .slice sa x.shape.length sc, .slice na x.nums.length nc, .slice ia x.items.length ic] 46) ∧ ArrAt u (fun b => wr.heap.size ≤ b) x sa na ia | _ => False) (fun _ _ h e => h.up e) (Sees.start (all_cons (q5) (all_cons (q4) (all_cons (e0) (all_cons (e1) (all_cons (e2) (all_cons (e3) (all_nil)))))))) (by kernel_rfl) (by kernel_rfl) ?_
          simp only [List.take_succ_cons, List.take_zero, List.drop_succ_cons, List.drop_zero]
          repeat (first | (refine m_plain (v := ?_) (by rfl) (by rfl) ?_ ?_; rotate_left; (intro wz hSw; obtain ⟨-, hSc⟩ := hSw; (try simp only [List.forall_mem_cons, List.forall_mem_nil, and_true] at hSc); go_simp; (first | done | with_reducible rfl)); (intro K hK; (try simp only [Act.put, List.setIfInBounds_toArray, List.set_cons_zero, List.set_cons_succ]); refine hK _ _ ?_; clear hK K)) | (refine m_skip (by rfl) (by rfl) ?_; (intro K hK; (try simp only [Act.put, List.setIfInBounds_toArray, List.set_cons_zero, List.set_cons_succ]); refine hK _ _ ?_; clear hK K)))
          refine m_make (by rfl) (by rfl) ?_ ?_
          · intro wz hSw hdep R hRz
            obtain ⟨hSe, hSc⟩ := hSw
            (try simp only [List.forall_mem_cons, List.forall_mem_nil, and_true] at hSc)
            unfold does
            (go_simp; refine Calls.mono (array_Clone x sa' sc' na' nc' ja' jc' _ wz (HX.out.up hSe)) ?_; rintro e wq ⟨ta, tc, tn, tnc, ti, tic, rfl, hq, hqb⟩; exact ⟨_, rfl, hRz.out _ _ ⟨hqb, ta, tc, tn, tnc, ti, tic, rfl, ArrAt.mono (fun b _ hb => Nat.le_trans (Below.size hSe) hb) x hq, hqb⟩⟩)
          intro v7 u7 x7 hG7 K hK
          have hF7 := hG7.fact
          (try dsimp only at hF7)
          obtain ⟨xa, xc, xn, xnc, xi, xic, he, hq, hqb⟩ := hF7
          injection he with he
          subst he
          (try simp only [Act.put, List.setIfInBounds_toArray, List.set_cons_zero, List.set_cons_succ]); refine hK _ _ ?_; clear hK K
          repeat (first | (refine m_plain (v := ?_) (by rfl) (by rfl) ?_ ?_; rotate_left; (intro wz hSw; obtain ⟨-, hSc⟩ := hSw; (try simp only [List.forall_mem_cons, List.forall_mem_nil, and_true] at hSc); go_simp; (first | done | with_reducible rfl)); (intro K hK; (try simp only [Act.put, List.setIfInBounds_toArray, List.set_cons_zero, List.set_cons_succ]); refine hK _ _ ?_; clear hK K)) | (refine m_skip (by rfl) (by rfl) ?_; (intro K hK; (try simp only [Act.put, List.setIfInBounds_toArray, List.set_cons_zero, List.set_cons_succ]); refine hK _ _ ?_; clear hK K)))
          refine m_make (by rfl) (by rfl) ?_ ?_
          · intro wz hSw hdep R hRz
            obtain ⟨hSe, hSc⟩ := hSw
            (try simp only [List.forall_mem_cons, List.forall_mem_nil, and_true] at hSc)
            unfold does
            (go_simp; exact hRz.out _ _ ⟨ext_alloc _ _, xa, xc, xn, xnc, xi, xic, rfl, rfl, hq.up (hdep 7 _ rfl (depB_sound (f := 40) (by kernel_rfl)))⟩)
          intro v8 u8 x8 hG8 K hK
          have hF8 := hG8.fact
          (try dsimp only at hF8)
          obtain ⟨ya, yc, yn, ync, yi, yic, rfl, rfl, hy⟩ := hF8
          (try simp only [Act.put, List.setIfInBounds_toArray, List.set_cons_zero, List.set_cons_succ]); refine hK _ _ ?_; clear hK K
          repeat (first | (refine m_plain (v := ?_) (by rfl) (by rfl) ?_ ?_; rotate_left; (intro wz hSw; obtain ⟨-, hSc⟩ := hSw; (try simp only [List.forall_mem_cons, List.forall_mem_nil, and_true] at hSc); go_simp; (first | done | with_reducible rfl)); (intro K hK; (try simp only [Act.put, List.setIfInBounds_toArray, List.set_cons_zero, List.set_cons_succ]); refine hK _ _ ?_; clear hK K)) | (refine m_skip (by rfl) (by rfl) ?_; (intro K hK; (try simp only [Act.put, List.setIfInBounds_toArray, List.set_cons_zero, List.set_cons_succ]); refine hK _ _ ?_; clear hK K)))
          refine m_nil ?_
          intro wf hSf hAf
          have eF : Ext wr wf := hSf.1
          have e8 : Ext (u8.alloc _) wf := hAf 8 _ rfl
          have h8 : Hdr wf u8.heap.size _ _ _ _ := made_blk e8
          have z8 := Below.size hG8.s.1
          have oF := hid (items_one (sc := yc) (nc := ync) (jc := yic) (S := fun b => wr.heap.size ≤ b) z8 h8.c0 h8.c1 h8.c2 h8.c3 ((hy.up (ext_alloc _ _)).up e8))
          have bF := hid (hBe.out.up eF)
          have hrw : ∀ k, rowOf ra = some k → k < wr.heap.size := fun k hk => (hBe.out.o.row k hk).2
          clear hSf hAf hG7 hG8 eF e8 h8 z8 hy hq hqb
          refine wpl_addA rfl rfl rfl (.tmp 58) (.tmp 65) (.tmp 5) (.tmp 67) (.tmp 66) rfl rfl rfl bF.out _ _ 1 [x] rfl rfl oF.out (fun b _ hb => ⟨Nat.le_trans zwr.out hb, fun e => by have := hrw b e.symm; omega⟩) (by rw [hPl.out]; simp; omega) (fun _ => rfl) (fun _ _ => rfl) (fun _ _ => rfl) ?_
          intro V' na' nc' hB'
          have hB2 := hid hB'
          clear hB' bF oF
          go_wp2_with fail
          go_roundw
          case rel => exact ⟨m + 1, na', nc', by omega, by go_num, by rw [hPs.out]; exact hB2.out⟩
          case measure => simp [intOf]; omega
    · have hmn : m = n := by omega
      subst hmn
      have hHB := hB.out.h
      have HRr := HRV.grown hB.out.g (by simp; omega)
      have AN := hid ((hB.out.o.items).mono (T := fun b => w.heap.size + 2 ≤ b) (fun b _ hb => by rcases hb with hb | hb <;> omega))
      have ASr := hid (AS.out.grown hB.out.g (fun b hb _ => by simpa using hb.2))
      have Bwr := hid (BV.out.grown hB.out.g BV.out.size (fun q hq => by injection hq with hq; omega))
      go_wp2_with (first
        | (refine wpl_load4 rfl (.tmp 5) rfl bx rfl hHB ?_)
        | (refine wpl_store4 rfl (.tmp 4) (.tmp 79) rfl (w.heap.size + 1) rfl rfl HRr ?_; intro V2 H2 C2))
      refine bodyPost_ret (end_arr rfl H2 rfl) rfl (hR.out _ _ ?_)
      refine RetA.of (k := a.kind) (l := pickA a.items (srcS f a.shape) m) (n := []) (s := a.shape) (by rw [gathS_A hk'.out, hnn'.out, hk'.out]; rfl) ?_ (IntsAt.nil _ _ _) (by rw [pickA_len]; omega) ?_ ?_
      · exact (C2.ints ASr.out (fun q hq => by omega)).mono fun b _ hb => by omega
      · exact (C2.items AN.out (fun q hq => by omega)).mono fun b _ hb => by omega
      · exact C2.below Bwr.out (by omega)
end Go.Proofs.Ytmclggonmekanaa
