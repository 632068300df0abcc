/- ref03.Text: contract. -/
import Derived.Test.YtdobnkbmjkcpoaaDoorP03T
set_option linter.unusedVariables false
set_option linter.unusedSimpArgs false
namespace Go.Proofs.YtdobnkbmjkcpoaaDoor
open Go.RowKit Go.Sort
/-- the block of the runes of a string -/
def rnB (s : ByteArray) (c : Nat) : Obj := .cells (((rnL s).map (Value.int .i32)).toArray ++ Array.replicate (c - (rnL s).length) (Value.int .i32 0)) 21 (0, 0)
theorem rnB_cell {w : World} {s : ByteArray} {c b : Nat} (h : w.heap[b]? = some (rnB s c)) {k : Nat} (hk : k < (rnL s).length) : w.cell? ⟨b, k, none⟩ = some (.int .i32 ((rnL s).getD k 0)) := by
  unfold World.cell?
  rw [h]
  unfold rnB
  simp only [Option.isSome_none, Bool.false_eq_true, if_false]
  rw [Array.getElem?_append_left (by simpa using hk)]
  simp [hk, List.getD_eq_getElem?_getD]
theorem rns_bd (s : ByteArray) : ∀ (f i : Nat) (d : Int), d ∈ rns s f i → 0 ≤ d ∧ d ≤ 1114111
  | 0, i, d, h => by cases h
  | f + 1, i, d, h => by
    rw [rns] at h
    split at h
    · rcases List.mem_cons.1 h with rfl | h
      · exact ⟨by omega, by have := (decode_w s i).2; omega⟩
      · exact rns_bd s f _ d h
    · cases h
theorem runesFrom_all (s : ByteArray) : Conv.runesFrom s s.size 0 #[] = ((rnL s).map (Value.int .i32)).toArray := by
  rw [runesFrom_eq]; simp [rnL]
section
variable {ops : Array Oper} {rest : List Oper} {o : Oper} {a : Act} {Q : Exit → Act → World → Prop} {w0 w : World} {S : Nat → Prop} {L : List Fact}
theorem wplE_runes (E : Env w0 S w L) (hgd : o.guard = none) (p : Operand) (s : ByteArray) (ho : o.op = .convert 9 60 p) (hp : a.eval p = .string s) (hs : s.size ≤ 1000000)
    (h : ∀ V c b, b = w.heap.size → Env w0 S V (L ++ [.obj b (rnB s c)]) → wpList Tryd.prog ops Q rest (a.put o.dst (.slice (some ⟨b, 0, none⟩) (rnL s).length c)) V) : wpList Tryd.prog ops Q (o :: rest) a w := by
  refine wpList_plain hgd fun K hK => ?_
  have hl : (rnL s).length ≤ s.size := rnL_length s _ _
  have hr := run_runes_of_string (P := Tryd.prog) w 9 60 21 s rfl rfl rfl (by rw [runesFrom_all]; simp only [List.size_toArray, List.length_map]; omega)
  rw [runesFrom_all] at hr
  simp only [List.size_toArray, List.length_map] at hr
  have E1 : Env w0 S w.drew L := E.up (ext_drawn w)
  have E2 := E1.alloc (rnB s (grownCap w (rnL s).length 0 21))
  have := hK _ _ (h _ _ _ rfl E2)
  unfold Oper.wp
  simp [execOp, ho, hp, hr, Result.andThen]
  exact this
theorem wplE_ofRunes (E : Env w0 S w L) (j : Nat) {s : ByteArray} {b c : Nat} (hj : L[j]? = some (.obj b (rnB s c))) (hgd : o.guard = none) (p : Operand) (ho : o.op = .convert 60 9 p) (hp : a.eval p = .slice (some ⟨b, 0, none⟩) (rnL s).length c)
    (h : wpList Tryd.prog ops Q rest (a.put o.dst (.string (runesBytes (rnL s)))) w) : wpList Tryd.prog ops Q (o :: rest) a w := by
  refine wpList_plain hgd fun K hK => ?_
  have hb := E.obj j hj
  have hc := run_loadCells (P := Tryd.prog) w ⟨b, 0, none⟩ (rnL s).length (fun j => .int .i32 ((rnL s).getD j 0)) (fun j hj => by have := rnB_cell hb hj; by_cases hz : j = 0 <;> simpa [Addr.add, hz] using this)
  have hm : List.map (fun j => Value.int .i32 ((rnL s).getD j 0)) (List.range (rnL s).length) = List.map (Value.int .i32) (rnL s) := by
    apply List.ext_getElem
    · simp
    · intro i h1 h2; simp at h1 h2; simp [List.getD_eq_getElem?_getD, h1]
  rw [hm] at hc
  have hr := run_runesToString (P := Tryd.prog) w ⟨b, 0, none⟩ (rnL s).length c (rnL s) hc
  have hr2 := run_convert_runes_string (P := Tryd.prog) w 60 9 21 (some ⟨b, 0, none⟩) (rnL s).length c rfl rfl rfl
  rw [hr] at hr2
  have := hK _ _ h
  unfold Oper.wp
  simp [execOp, ho, hp, hr2, Result.andThen]
  exact this
end
set_option maxRecDepth 100000 in
set_option maxHeartbeats 4000000 in
theorem ref03_Text (s : ByteArray) (w : World) (hs : s.size ≤ 1000000) : Calls Tryd.prog 32 #[.string s] w (RetA w (fun b => w.heap.size ≤ b) (txtS s)) := by
  refine calls_post fun R' hR => ?_
  obtain ⟨S, hS⟩ : ∃ S : Nat → Prop, S = fun _ => False := ⟨_, rfl⟩
  have hlr : (rnL s).length ≤ s.size := rnL_length s _ _
  have hev := enc_rnL s
  go_enter Tryd.func32, Tryd.ntmps32
  go_upto_region 1 with (fail)
  generalize hEW : (w).alloc (.cells #[.int .i64 0, .slice none 0 0, .slice none 0 0, .slice none 0 0] 26) = W
  have E := hid (env1 w S hEW)
  clear hEW
  go_upto_region 2 with (refine wplE_runes E.out rfl (.tmp 6) s rfl rfl hs ?_; intro V1 rc rb hrb E1; clear E hrb; have E := hid E1; clear E1; (try simp only [List.cons_append, List.nil_append, List.set_cons_zero, List.set_cons_succ] at E))
  cases hv : Lib.validD s.data.toList with
  | false =>
    have hz : Hid (txtS s = .zero) := hid (by unfold txtS; rw [if_neg (by rw [hv]; decide)])
    obtain ⟨tb, htb⟩ : ∃ t, t = runesBytes (rnL s) := ⟨_, rfl⟩
    have hne : tb ≠ s := by
      rintro e
      rw [← htb, e, hv] at hev
      exact absurd (hev.1 rfl) (by decide)
    have hne2 : (tb.toList == s.toList) = false := by
      rw [beq_eq_false_iff_ne, ByteArray.toList_eq, ByteArray.toList_eq]
      exact fun e => hne (bytes_ext e)
    replace htb := hid htb
    clear hv hev
    go_upto_region 3 with (refine wplE_ofRunes E.out 1 rfl rfl (.tmp 8) rfl rfl ?_; rw [← htb.out])
    go_wp2_with (refine wpl_store4 rfl (.tmp 2) (.tmp 12) rfl _ rfl rfl (E.out.hdr 0 rfl) ?_; intro V HV CV; replace E := hid (E.out.chg 0 rfl CV HV))
    exact bodyPost_ret (end_arr rfl HV rfl) rfl (hR.out _ _ (RetA.zero hz.out E.out.ext))
  | true =>
    have hz : Hid (txtS s = validS (txtA s)) := hid (by unfold txtS; rw [if_pos hv])
    have htb : Hid (runesBytes (rnL s) = s) := hid (bytes_ext (hev.2 hv))
    replace hv := hid hv
    clear hev
    go_upto_region 4 with (first
      | (refine wplE_ofRunes E.out 1 rfl rfl (.tmp 8) rfl rfl ?_; rw [htb.out]))
    go_upto_region 5 with (first
      | (refine wpl_buildW rfl ((rnL s).length : Int) (.tmp 14) rfl rfl ?_; have E1 : Env w S (V1.alloc (.cells #[.int .i64 ((rnL s).length : Int)] 3)) _ := E.out.lit [((rnL s).length : Int)] (show (1 : Nat) ≤ 17592186044416 by decide); clear E; have E := hid E1; clear E1; generalize World.alloc _ (.cells #[.int .i64 ((rnL s).length : Int)] 3) = V2 at E ⊢; generalize V1.heap.size = pl at E ⊢; (try simp only [List.cons_append, List.nil_append, List.set_cons_zero, List.set_cons_succ] at E))
      | (refine wpl_store4 rfl (.tmp 4) (.tmp 16) rfl _ rfl rfl ((E.out.alloc _).hdr 3 rfl) ?_; intro V3 HV CV; replace E := hid ((E.out.alloc _).chg 3 rfl CV HV); clear CV HV; (try simp only [List.cons_append, List.nil_append, List.set_cons_zero, List.set_cons_succ] at E)))
    generalize V2.heap.size = bo at E ⊢
    replace E := hid E.out.row0I
    (try simp only [List.cons_append, List.nil_append, List.set_cons_zero, List.set_cons_succ] at E)
    go_wp2_with fail
    go_loopw [5] (fun v wr => ∃ (k : Nat) (na : Option Addr) (nc : Nat), k ≤ (rnL s).length ∧ v = .int .i64 k ∧ Env w S wr [.obj w.heap.size (.cells #[.int .i64 0, .slice none 0 0, .slice none 0 0, .slice none 0 0] 26 (0, 0)), .obj rb (rnB s rc), .ints [((rnL s).length : Int)] (some ⟨pl, 0, none⟩), .obj bo (.cells #[.int .i64 2, .slice (some ⟨pl, 0, none⟩) 1 1, .slice na ((rnL s).take k).length nc, .slice none 0 0] 26 (0, 0)), .rowI na nc ((rnL s).take k)]) (fun v _ => (rnL s).length - (intOf v).toNat)
    case atStart => exact ⟨0, none, 0, Nat.zero_le _, rfl, E.out⟩
    case round =>
      clear E
      obtain ⟨k, na, nc, hk, rfl, E⟩ := hrel
      replace E := hid E
      by_cases hlt : k < (rnL s).length
      case pos =>
        have hc := rnB_cell (E.out.obj 1 rfl) hlt
        have hT : Hid ((rnL s).take (k + 1) = (rnL s).take k ++ [(rnL s).getD k 0]) := hid (by rw [List.take_succ_eq_append_getElem hlt]; simp [List.getD_eq_getElem?_getD, hlt])
        have hbd := rns_bd s s.size 0 ((rnL s).getD k 0) (by simp [List.getD_eq_getElem?_getD, hlt]; exact List.getElem_mem hlt)
        have hTl : ((rnL s).take k).length = k := by rw [List.length_take]; omega
        generalize (rnL s).getD k 0 = d at hc hT hbd
        obtain ⟨cur, hcur⟩ : ∃ c, c = (rnL s).take k := ⟨_, rfl⟩
        rw [← hcur] at E hT hTl
        replace hcur := hid hcur
        have hll : cur.length + [d].length ≤ 17592186044416 := by simp only [List.length_cons, List.length_nil]; omega
        replace hTl := hid hTl
        have hd0 := hbd.1
        have hd1 := hbd.2
        clear hbd
        have hwr : IntKind.i64.wrap d = d := by
          first
            | go_num
            | (exact IntKind.wrap_of_range _ _ (by decide) (by omega) (by omega))
            | (simp [IntKind.wrap]; omega)
            | (simp [IntKind.wrap, IntKind.signed, IntKind.bits]; omega)
        have t0 : (0 : Int) ≤ (k : Int) := by omega
        have t1 : (k : Int) < ((rnL s).length : Int) := by omega
        obtain ⟨q30, q31, q32, q33⟩ := (E.out.hdr 3 rfl).all
        go_upto_region 8 with (fail)
        refine wp_region_mono_tail 8 (Sees wr [(⟨bo, 2, none⟩, .slice na cur.length nc), (⟨rb, k, none⟩, .int .i32 d)]) [7] (fun k v u u' => match k with | 7 => v = .slice (some ⟨u.heap.size, 0, none⟩) 1 1 ∧ u' = u.alloc (.cells (([d] : List Int).map (Value.int .i64)).toArray 3) | _ => False) (fun _ _ h e => h.up e) (Sees.start (all_cons (q32) (all_cons (hc) (all_nil)))) (by kernel_rfl) (by kernel_rfl) ?_
        simp only [List.take_succ_cons, List.take_zero, List.drop_succ_cons, List.drop_zero]
        repeat (first | (refine m_plain (v := ?_) (by rfl) (by rfl) ?_ ?_; rotate_left; (intro wz hSw; obtain ⟨-, hSc⟩ := hSw; (try simp only [List.forall_mem_cons, List.forall_mem_nil, and_true] at hSc); go_simp; (first | done | with_reducible rfl)); (intro K hK; (try simp only [Act.put, List.setIfInBounds_toArray, List.set_cons_zero, List.set_cons_succ]); refine hK _ _ ?_; clear hK K)) | (refine m_skip (by rfl) (by rfl) ?_; (intro K hK; (try simp only [Act.put, List.setIfInBounds_toArray, List.set_cons_zero, List.set_cons_succ]); refine hK _ _ ?_; clear hK K)))
        refine m_make (by rfl) (by rfl) ?_ ?_
        · intro wz hSw hdep R hRz
          obtain ⟨hSe, hSc⟩ := hSw
          (try simp only [List.forall_mem_cons, List.forall_mem_nil, and_true] at hSc)
          unfold does
          (go_simp; exact hRz.out _ _ ⟨ext_alloc _ _, rfl, rfl⟩)
        intro v7 u7 x7 hG7 K hK
        have hF7 := hG7.fact
        (try dsimp only at hF7)
        obtain ⟨rfl, rfl⟩ := hF7
        (try simp only [Act.put, List.setIfInBounds_toArray, List.set_cons_zero, List.set_cons_succ]); refine hK _ _ ?_; clear hK K
        repeat (first | (refine m_plain (v := ?_) (by rfl) (by rfl) ?_ ?_; rotate_left; (intro wz hSw; obtain ⟨-, hSc⟩ := hSw; (try simp only [List.forall_mem_cons, List.forall_mem_nil, and_true] at hSc); go_simp; (first | done | with_reducible rfl)); (intro K hK; (try simp only [Act.put, List.setIfInBounds_toArray, List.set_cons_zero, List.set_cons_succ]); refine hK _ _ ?_; clear hK K)) | (refine m_skip (by rfl) (by rfl) ?_; (intro K hK; (try simp only [Act.put, List.setIfInBounds_toArray, List.set_cons_zero, List.set_cons_succ]); refine hK _ _ ?_; clear hK K)))
        refine m_nil ?_
        intro wf hSf hAf
        have oF : Hid (IntsAt wf (fun b => u7.heap.size ≤ b) (some ⟨u7.heap.size, 0, none⟩) [d]) := hid (lit_at (l := [d]) (hAf 7 _ rfl) (by simp))
        replace E := hid (E.out.up hSf.1)
        clear hSf hAf hG7 hc t0 t1
        clear q30 q31 q32 q33
        refine wplE_addN E.out 3 4 rfl rfl (by decide) rfl rfl rfl (.tmp 24) (.tmp 30) (.tmp 4) (.tmp 32) (.tmp 31) rfl rfl rfl _ _ 1 [d] rfl rfl oF.out hll (fun _ => rfl) (fun _ _ => rfl) (fun _ _ => rfl) ?_
        intro V na' nc' E'
        clear E oF
        have E := hid E'
        clear E'
        (try simp only [List.cons_append, List.nil_append, List.set_cons_zero, List.set_cons_succ] at E)
        go_wp2_with fail
        go_roundw
        case rel => exact ⟨k + 1, na', nc', by omega, by go_num, by rw [hT.out]; exact E.out⟩
        case measure => simp [intOf]; omega
      case neg =>
        have hke : k = (rnL s).length := by omega
        have hcur : Hid ((rnL s).take k = rnL s) := hid (by rw [hke, List.take_length])
        rw [hcur.out] at E
        have t1 : ¬ (k : Int) < ((rnL s).length : Int) := by omega
        replace hke := hid hke
        replace E := hid (E.out.doneI 4 rfl (by omega))
        (try simp only [List.cons_append, List.nil_append, List.set_cons_zero, List.set_cons_succ] at E)
        obtain ⟨q30, q31, q32, q33⟩ := (E.out.hdr 3 rfl).all
        go_wp2_with fail
        clear q30 q31 q32 q33
        refine (ref03_valid (.mk 2 [((rnL s).length : Int)] (rnL s) []) _ 1 _ _ none 0 _ _ (vec_at (E.out.ints 2 rfl) (E.out.ints 4 rfl))).mono ?_
        intro e w5 h
        obtain ⟨s7, c7, n7, m7, i7, j7, rfl, hA, hb⟩ := h.eq rfl
        replace E := hid ((E.out.up hb).addArr hA (fun b _ hq => E.out.res (Ext.refl _) hq))
        clear hA hb h
        (try simp only [List.cons_append, List.nil_append, List.set_cons_zero, List.set_cons_succ] at E)
        have hz2 : Hid (txtS s = validS (.mk 2 [((rnL s).length : Int)] (rnL s) [])) := hid (by rw [hz.out, txtA])
        generalize validS (.mk 2 [((rnL s).length : Int)] (rnL s) []) = r at E hz2 ⊢
        go_wp2_with (refine wpl_store4 rfl (.tmp 2) (.tmp 34) rfl _ rfl rfl (E.out.hdr 0 rfl) ?_; intro V6 HV CV; replace E := hid (E.out.chg 0 rfl CV HV))
        subst hS
        exact bodyPost_ret (end_arr rfl HV rfl) rfl (hR.out _ _ (RetA.to hz2.out (ArrAt.mono (fun b _ h => h.1.elim False.elim id) _ (E.out.arr 5 rfl)) E.out.ext))
end Go.Proofs.YtdobnkbmjkcpoaaDoor
