/- Plain laws: selecting all is the array. Conditions: the array is right. -/
import Derived.Test.YtcoknjlkhefgpaaI23G
set_option linter.unusedVariables false
set_option linter.unusedSimpArgs false
namespace Go.Proofs.Ytcoknjlkhefgpaa
theorem rng_seq (n : Nat) : rngL n = seqI 0 n := by simp [rngL, seqI]
theorem gatL_seq {α : Type} (l : List α) : ∀ n : Nat, gatL l (seqI 0 n) = l.take n
  | 0 => by simp [seqI_zero, gatL]
  | n + 1 => by
    rw [seqI_succ, gatL_snoc, gatL_seq l n, Int.zero_add, Int.toNat_natCast, List.take_add_one]
    congr 1
    by_cases h : n < l.length
    · rw [List.drop_eq_getElem_cons h]; simp [h]
    · rw [List.drop_of_length_le (by omega)]; simp [show l.length ≤ n by omega]; omega
theorem gat_all {y : Arr} (h : rightS y = 0) : gatA y y.shape (seqI 0 (szA y)) = y := by
  unfold gatA
  rw [gatL_seq, gatL_seq]
  have h1 : y.nums.take (szA y) = y.nums := by
    rcases szA_ok h with ⟨k, q, n⟩ | ⟨k, q, n⟩
    · rw [List.eq_nil_of_length_eq_zero n]; simp
    · rw [q]; exact List.take_length
  have h2 : y.items.take (szA y) = y.items := by
    rcases szA_ok h with ⟨k, q, n⟩ | ⟨k, q, n⟩
    · rw [q]; exact List.take_length
    · rw [List.eq_nil_of_length_eq_zero n]; simp
  rw [h1, h2, Arr.eta]
theorem gatE_all {y : Arr} (h : rightS y = 0) : gatE y (seqI 0 (szA y)) = 0 := by
  unfold gatE
  rw [if_neg]
  rintro ⟨k, q⟩
  have hw := (right_iff.1 h).2.2.2
  rw [seqI_len, gatL_seq, szA_3 k, List.take_length] at q
  omega
/-- the indices of the major cells, in order -/
def allI (y : Arr) : Arr := .mk 1 [talN y] (rngL (talM y)) []
theorem frO_all {y : Arr} (h : rightS y = 0) : frO (allI y) y = seqI 0 (szA y) := by
  have := seqI_mul 0 (talM y) (celN y)
  simp only [Int.zero_add, Int.zero_mul] at this
  unfold frO allI
  rw [show (Arr.mk 1 [talN y] (rngL (talM y)) []).nums = rngL (talM y) from rfl, rng_seq, this, sz_tal h]
theorem chsO_nil {y : Arr} (h : rightS y = 0) : chsO [] y = seqI 0 (szA y) := by
  have := sz_cnt h
  unfold chsO
  simp only [List.map_nil, offP, Int.zero_mul]
  rw [← this, Int.toNat_natCast]
theorem all_right {y : Arr} (h : rightS y = 0) (h3 : talM y ≤ 3000) : rightS (allI y) = 0 := by
  have hs := (right_ok h).2.1
  have ht := tal_nn hs
  have e1 : (allI y).nums.length = talM y := rngL_len _
  refine right_iff.2 ⟨?_, fun n hn => ?_, (fun x hx => by cases hx), ?_⟩
  · have hsb : shapeB [talN y] = true := shapeB_one (by omega) (by omega)
    have hneg : [talN y].any negB = false := by simp [negB]; omega
    have := formE_last (k := 1) (s := [talN y]) (nn := (allI y).nums.length) (ni := 0) (Or.inl rfl) (by simp) hneg hsb
    refine this.trans (if_neg ?_)
    rw [e1, cnt_cons1, cnt_nil]
    simp
    omega
  · have hn' : n ∈ rngL (talM y) := hn
    rw [rng_seq] at hn'
    obtain ⟨k, hk, rfl⟩ := mem_seqI.1 hn'
    show elemB 1 _ = true
    simp [elemB, numB]
    omega
  · rw [e1]
    show (talM y : Int) + ((0 : Nat) : Int) + sumW [] ≤ 262144
    simp [sumW]
    omega
theorem frm_all {y : Arr} (h : rightS y = 0) (hr : y.shape.length ≠ 0) (h3 : talM y ≤ 3000) : frmE (allI y) y = 0 ∧ frmS (allI y) y = y := by
  have hs := (right_ok h).2.1
  have ht := tal_nn hs
  have hsh : (allI y).shape ++ celL y = y.shape := by
    show [talN y] ++ celL y = y.shape
    unfold talN celL
    rw [if_neg hr]
    cases hy : y.shape with
    | nil => rw [hy] at hr; exact absurd rfl hr
    | cons d s => simp
  have OK : FrOk (allI y) y := ⟨all_right h h3, h, rfl, by rw [hsh]; exact hs, by
    rw [List.any_eq_false]
    intro n hn
    have hn' : n ∈ rngL (talM y) := hn
    rw [rng_seq] at hn'
    obtain ⟨k, hk, rfl⟩ := mem_seqI.1 hn'
    simp [outB]
    omega⟩
  have hE : frmE (allI y) y = 0 := by rw [OK.e, frO_all h, gatE_all h]
  refine ⟨hE, ?_⟩
  rw [OK.v, frO_all h, hsh, gatS_yes (gatE_all h), gat_all h]
theorem sel_none {x y : Arr} (hx : x = .mk 1 [0] [] []) (h : rightS y = 0) : selE x y = 0 ∧ selS x y = y := by
  have hs := (right_ok h).2.1
  have hrx : rightS x = 0 := by rw [hx]; kernel_rfl
  have hl : lisS x = [] := by rw [hx]; rfl
  have hle : lisE x = 0 := by rw [hx]; kernel_rfl
  have hsh : chsSh [] y = y.shape := by simp [chsSh]
  have hE : selE x y = chsE (lisS x) y := selE_c hrx h hle (by rw [hl]; simp)
  have hS := selS_c hE
  rw [hl] at hE hS
  have hc : chsE [] y = 0 := by rw [chsE_g (by rw [hsh]; exact hs) rfl, chsO_nil h, gatE_all h]
  refine ⟨hE.trans hc, hS.trans ?_⟩
  rw [chsS_g (by rw [hsh]; exact hs) rfl, hsh, chsO_nil h, gatS_yes (gatE_all h), gat_all h]
theorem sel_box {x y : Arr} (hx : x = .mk 3 [1] [] [allI y]) (h : rightS y = 0) (hr : y.shape.length ≠ 0) (h3 : talM y ≤ 3000) : selE x y = 0 ∧ selS x y = y := by
  have hA := all_right h h3
  have hw : wtS (allI y) ≤ 3000 := by
    rw [wtS_eq, if_neg (by simp [allI, Arr.kind])]
    have : (szN (allI y).kind (allI y).nums.length (allI y).items.length : Nat) = talM y := by
      show szN 1 (rngL (talM y)).length 0 = talM y
      simp [szN, rngL_len]
    omega
  have hd : depA (allI y) + 1 ≤ 16 := by
    obtain ⟨hf, hn, r, hr', _⟩ := chk_ok (show (chk (allI y)).1 = 0 from hA)
    have : (chk (allI y)).2.1 = 0 := by
      rw [chk_eq, if_neg (by rw [hf]; simp), if_neg (by rw [hn]; simp)]
      simp [allI, Arr.items, chkL, chkEnd]
      split <;> rfl
    unfold depA
    omega
  have hrx : rightS x = 0 := by
    rw [hx]
    refine right_iff.2 ⟨by kernel_rfl, (fun n hn => by cases hn), fun z hz => ?_, ?_⟩
    · rw [List.mem_singleton.1 hz]; exact ⟨hA, hd⟩
    · show ((0 : Nat) : Int) + ((1 : Nat) : Int) + sumW [allI y] ≤ 262144
      simp only [sumW]
      omega
  have hl : lisS x = [allI y] := by rw [hx]; rfl
  have hle : lisE x = 0 := by
    refine lisE_0 (by rw [hx]; simp [Arr.kind]) ?_ (by rw [hx]; simp [Arr.shape])
    rw [hl]; rfl
  have hU : unsc y = y := if_neg hr
  have hE : selE x y = chsE (lisS x) y := selE_c hrx h hle (by rw [hl]; show ¬ y.shape.length < 1; omega)
  have hS := selS_c hE
  rw [hl] at hE hS
  obtain ⟨f1, f2⟩ := frm_chs hA rfl h
  rw [hU] at f1 f2
  obtain ⟨g1, g2⟩ := frm_all h hr h3
  exact ⟨hE.trans (f1.symm.trans g1), hS.trans (f2.symm.trans g2)⟩
end Go.Proofs.Ytcoknjlkhefgpaa
