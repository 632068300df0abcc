/- The plain law of TopParts: the first major cells and the others, joined, are the array. Conditions: those of each lemma. -/
import Derived.Test.YtolnbmmkpmajdaaPTAK
import Derived.Test.YtolnbmmkpmajdaaGI
set_option linter.unusedVariables false
set_option maxRecDepth 20000
set_option linter.unusedSimpArgs false
namespace Go.Proofs.Ytolnbmmkpmajdaa
theorem sec_app {α : Type} {l : List α} {t c k : Nat} (hl : l.length ≤ t * c) (hk : k ≤ t) : (l.drop (0 * c)).take (k * c) ++ (l.drop (k * c)).take ((t - k) * c) = l := by
  have h1 : (t - k) * c = t * c - k * c := Nat.sub_mul _ _ _
  rw [Nat.zero_mul, List.drop_zero, List.take_of_length_le (l := l.drop (k * c)) (by rw [List.length_drop, h1]; omega), List.take_append_drop]
theorem parts_join {y : Arr} (h : rightS y = 0) (hr : y.shape.length ≠ 0) {k : Nat} (hk : k ≤ talM y) :
    joinE false (secA y 0 k) (secA y k (talM y - k)) = 0 ∧ joinS false (secA y 0 k) (secA y k (talM y - k)) = y := by
  have rA := sec_right h hr (off := 0) (m := k) (by omega)
  have rB := sec_right h hr (off := k) (m := talM y - k) (by omega)
  have hs := (right_ok h).2.1
  have hyE := tal_cons hs hr
  have hz := sz_tal h
  have hln : y.nums.length ≤ talM y * celN y ∧ y.items.length ≤ talM y * celN y := by
    obtain ⟨_, _, hc⟩ := formE_zero (right_form h)
    have hk := (formE_zero (right_form h)).1
    unfold szA szN at hz
    rcases hc with ⟨h1, h2, h3⟩ | ⟨h1, h2, h3⟩
    · rw [if_neg (by omega), if_pos h1] at hz; omega
    · rw [if_pos (by omega)] at hz; omega
  have eN := sec_app (l := y.nums) hln.1 hk
  have eI := sec_app (l := y.items) hln.2 hk
  have Q : Eqr (secA y 0 k) (secA y k (talM y - k)) := ⟨rfl, Nat.succ_ne_zero _⟩
  have ha : agr (secA y 0 k).shape (secA y k (talM y - k)).shape (jx false (secA y 0 k).shape.length) := fun i hi hne => by
    match i, hne with
    | 0, hne => exact absurd rfl hne
    | i + 1, _ => rfl
  have hS : jS false (secA y 0 k) (secA y k (talM y - k)) = y.shape := by
    rw [Q.S]
    show (((k : Nat) : Int) :: celL y).set 0 (((k : Nat) : Int) + ((talM y - k : Nat) : Int)) = y.shape
    rw [List.set_cons_zero, hyE]
    congr 1
    omega
  have hw : wtS (secA y 0 k) + wtS (secA y k (talM y - k)) ≤ 262144 := by
    rw [wt_right rA, wt_right rB]
    have h1 := (right_iff.1 h).2.2.2
    have l1 : ((secA y 0 k).nums.length : Int) + (secA y k (talM y - k)).nums.length = y.nums.length := by
      have := congrArg List.length eN
      rw [List.length_append] at this
      show ((List.length _ : Nat) : Int) + ((List.length _ : Nat) : Int) = _
      rw [← this]; exact (Int.natCast_add _ _).symm
    have l2 : ((secA y 0 k).items.length : Int) + (secA y k (talM y - k)).items.length = y.items.length := by
      have := congrArg List.length eI
      rw [List.length_append] at this
      show ((List.length _ : Nat) : Int) + ((List.length _ : Nat) : Int) = _
      rw [← this]; exact (Int.natCast_add _ _).symm
    have l3 : sumW (secA y 0 k).items + sumW (secA y k (talM y - k)).items = sumW y.items := by
      have := congrArg sumW eI
      rw [sumW_append] at this
      exact this
    omega
  have hE : joinE false (secA y 0 k) (secA y k (talM y - k)) = 0 := by
    rw [Q.E0 rA rB rfl ha, if_neg]
    rintro (q | q)
    · rw [hS, hs] at q; cases q
    · omega
  refine ⟨hE, ?_⟩
  rw [joinS_yes hE]
  obtain ⟨j1, j2, _, _⟩ := join_first Q (joinOk hE)
  have hSh : (joinA false (secA y 0 k) (secA y k (talM y - k))).shape = y.shape := hS
  have hKd : (joinA false (secA y 0 k) (secA y k (talM y - k))).kind = y.kind := rfl
  have hJ := Arr.eta (joinA false (secA y 0 k) (secA y k (talM y - k)))
  rw [← hJ, hSh, hKd, j1, j2]
  have e1 : (secA y 0 k).nums ++ (secA y k (talM y - k)).nums = y.nums := eN
  have e2 : (secA y 0 k).items ++ (secA y k (talM y - k)).items = y.items := eI
  rw [e1, e2, Arr.eta]
end Go.Proofs.Ytolnbmmkpmajdaa
