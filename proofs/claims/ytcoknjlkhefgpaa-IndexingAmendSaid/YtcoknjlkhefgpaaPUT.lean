/- ref03.Put: contract: the rows of an array in progress grow. Conditions: the rows are the call's own. -/
import Derived.Test.YtcoknjlkhefgpaaGG
set_option linter.unusedVariables false
set_option linter.unusedSimpArgs false
namespace Go.Proofs.Ytcoknjlkhefgpaa
open Go.RowKit Go.Sort
attribute [local go_sem ↓] run_max2 run_min2
attribute [local go_sem] eql_ints_nil eql_arrs_nil
def putN (k : Int) (n : List Int) (e : Arr) : List Int := if k = 3 then n else n ++ e.nums
def putI (k : Int) (l : List Arr) (e : Arr) : List Arr := if k = 3 then l ++ e.items else l
theorem putN_N {k : Int} (h : k ≠ 3) (n : List Int) (e : Arr) : putN k n e = n ++ e.nums := if_neg h
theorem putN_A {k : Int} (h : k = 3) (n : List Int) (e : Arr) : putN k n e = n := if_pos h
theorem putI_N {k : Int} (h : k ≠ 3) (n : List Arr) (e : Arr) : putI k n e = n := if_neg h
theorem putI_A {k : Int} (h : k = 3) (n : List Arr) (e : Arr) : putI k n e = n ++ e.items := if_pos h
set_option maxRecDepth 100000 in
set_option maxHeartbeats 4000000 in
theorem ref03_Put (k : Int) (sa : Option Addr) (sl sc : Nat) (na : Option Addr) (nc : Nat) (nums : List Int) (ia : Option Addr) (ic : Nat) (items : List Arr) (e : Arr) (se : Option Addr) (ce : Nat) (ne : Option Addr) (me : Nat) (ie : Option Addr) (je : Nat) (w0 : World) (S : Nat → Prop) (w : World) (M : List Fact)
    (E : Env w0 S w (.rowI na nc nums :: .rowA ia ic items :: M)) (h : ArrAt w (Tst w0 S (.rowI na nc nums :: .rowA ia ic items :: M)) e se ne ie) (hn : nums.length + e.nums.length ≤ 17592186044416) (hi : items.length + e.items.length ≤ 1759218604441) :
    Calls Try.prog 83 #[.agg #[.int .i64 k, .slice sa sl sc, .slice na nums.length nc, .slice ia items.length ic], .agg #[.int .i64 e.kind, .slice se e.shape.length ce, .slice ne e.nums.length me, .slice ie e.items.length je]] w fun en w' => ∃ na' nc' ia' ic', en = .returned (.agg #[.int .i64 k, .slice sa sl sc, .slice na' (putN k nums e).length nc', .slice ia' (putI k items e).length ic']) ∧ Env w0 S w' (.rowI na' nc' (putN k nums e) :: .rowA ia' ic' (putI k items e) :: M) := by
  refine calls_post fun R' hR => ?_
  have hbA : Tst w0 S (.arr e se ne ie :: .rowI na nc nums :: .rowA ia ic items :: M) = Tst w0 S (.rowI na nc nums :: .rowA ia ic items :: M) := rfl
  replace E := hid (E.addArr h (fun _ _ q => q)).front
  clear h
  by_cases k3 : k = 3
  case pos =>
    have kb : (k == 3) = true := by simp [k3]
    have eN := hid (putN_A k3 nums e)
    have eI := hid (putI_A k3 items e)
    replace k3 := hid k3
    go_enter Try.func83, Try.ntmps83
    go_upto_region 1 with (fail)
    generalize hEW : (((w).alloc (.cells #[.int .i64 k, .slice sa sl sc, .slice na nums.length nc, .slice ia items.length ic] 26)).alloc (.cells #[.int .i64 e.kind, .slice se e.shape.length ce, .slice ne e.nums.length me, .slice ie e.items.length je] 26)).alloc (.cells #[.int .i64 0, .slice none 0 0, .slice none 0 0, .slice none 0 0] 26) = W
    replace E := hid (envF3 E.out hEW)
    clear hEW
    obtain ⟨q00, q01, q02, q03⟩ := (E.out.hdr 0 rfl).all
    obtain ⟨q10, q11, q12, q13⟩ := (E.out.hdr 1 rfl).all
    go_upto_region 2 with (refine wpl_store4 rfl (.tmp 5) (.tmp 14) rfl _ rfl rfl ((E.out.alloc _).front.hdr 0 rfl) ?_; intro V HV CV; replace E := hid ((E.out.alloc _).front.chg 0 rfl CV HV); clear CV HV; (try simp only [List.cons_append, List.nil_append, List.set_cons_zero, List.set_cons_succ] at E))
    clear q00 q01 q02 q03 q10 q11 q12 q13
    generalize W.heap.size = bb at E ⊢
    obtain ⟨q00, q01, q02, q03⟩ := (E.out.hdr 0 rfl).all
    obtain ⟨q10, q11, q12, q13⟩ := (E.out.hdr 1 rfl).all
    obtain ⟨q20, q21, q22, q23⟩ := (E.out.hdr 2 rfl).all
    go_upto_region 5 with (at_builtin; refine wplE_addA E.out 0 6 rfl rfl (by decide) rfl rfl rfl (.tmp 19) (.tmp 21) (.tmp 5) (.tmp 23) (.tmp 22) rfl rfl rfl _ _ je e.items rfl rfl (E.out.arr 4 rfl).items (fun _ _ q => q) hi (fun _ => rfl) (fun _ _ => rfl) (fun _ _ => rfl) ?_; intro V2 ia' ic' E'; clear E; have E := hid E'; clear E'; (try simp only [List.cons_append, List.nil_append, List.set_cons_zero, List.set_cons_succ] at E))
    clear q00 q01 q02 q03 q10 q11 q12 q13 q20 q21 q22 q23
    obtain ⟨q00, q01, q02, q03⟩ := (E.out.hdr 0 rfl).all
    go_wp2_with (refine wpl_store4 rfl (.tmp 4) (.tmp 30) rfl _ rfl rfl (E.out.hdr 3 rfl) ?_; intro V3 HV CV; replace E := hid (E.out.chg 3 rfl CV HV); (try simp only [List.cons_append, List.nil_append, List.set_cons_zero, List.set_cons_succ] at E))
    refine bodyPost_ret (end_arr rfl HV rfl) rfl (hR.out _ _ ⟨na, nc, ia', ic', ?_, ?_⟩)
    · rw [eN.out, eI.out]; simp only [List.length_append]
    · rw [eN.out, eI.out]; exact E.out.tl.tl.tl.tl.tl
  case neg =>
    have kb : (k == 3) = false := by simp [k3]
    have eN := hid (putN_N k3 nums e)
    have eI := hid (putI_N k3 items e)
    replace k3 := hid k3
    go_enter Try.func83, Try.ntmps83
    go_upto_region 1 with (fail)
    generalize hEW : (((w).alloc (.cells #[.int .i64 k, .slice sa sl sc, .slice na nums.length nc, .slice ia items.length ic] 26)).alloc (.cells #[.int .i64 e.kind, .slice se e.shape.length ce, .slice ne e.nums.length me, .slice ie e.items.length je] 26)).alloc (.cells #[.int .i64 0, .slice none 0 0, .slice none 0 0, .slice none 0 0] 26) = W
    replace E := hid (envF3 E.out hEW)
    clear hEW
    obtain ⟨q00, q01, q02, q03⟩ := (E.out.hdr 0 rfl).all
    obtain ⟨q10, q11, q12, q13⟩ := (E.out.hdr 1 rfl).all
    go_upto_region 2 with (refine wpl_store4 rfl (.tmp 5) (.tmp 14) rfl _ rfl rfl ((E.out.alloc _).front.hdr 0 rfl) ?_; intro V HV CV; replace E := hid ((E.out.alloc _).front.chg 0 rfl CV HV); clear CV HV; (try simp only [List.cons_append, List.nil_append, List.set_cons_zero, List.set_cons_succ] at E))
    clear q00 q01 q02 q03 q10 q11 q12 q13
    generalize W.heap.size = bb at E ⊢
    obtain ⟨q00, q01, q02, q03⟩ := (E.out.hdr 0 rfl).all
    obtain ⟨q10, q11, q12, q13⟩ := (E.out.hdr 1 rfl).all
    obtain ⟨q20, q21, q22, q23⟩ := (E.out.hdr 2 rfl).all
    go_upto_region 5 with (at_builtin; refine wplE_addN E.out 0 5 rfl rfl (by decide) rfl rfl rfl (.tmp 25) (.tmp 27) (.tmp 5) (.tmp 29) (.tmp 28) rfl rfl rfl _ _ me e.nums rfl rfl (E.out.arr 4 rfl).nums hn (fun _ => rfl) (fun _ _ => rfl) (fun _ _ => rfl) ?_; intro V2 ia' ic' E'; clear E; have E := hid E'; clear E'; (try simp only [List.cons_append, List.nil_append, List.set_cons_zero, List.set_cons_succ] at E))
    clear q00 q01 q02 q03 q10 q11 q12 q13 q20 q21 q22 q23
    obtain ⟨q00, q01, q02, q03⟩ := (E.out.hdr 0 rfl).all
    go_wp2_with (refine wpl_store4 rfl (.tmp 4) (.tmp 30) rfl _ rfl rfl (E.out.hdr 3 rfl) ?_; intro V3 HV CV; replace E := hid (E.out.chg 3 rfl CV HV); (try simp only [List.cons_append, List.nil_append, List.set_cons_zero, List.set_cons_succ] at E))
    refine bodyPost_ret (end_arr rfl HV rfl) rfl (hR.out _ _ ⟨ia', ic', ia, ic, ?_, ?_⟩)
    · rw [eN.out, eI.out]; simp only [List.length_append]
    · rw [eN.out, eI.out]; exact E.out.tl.tl.tl.tl.tl
end Go.Proofs.Ytcoknjlkhefgpaa
