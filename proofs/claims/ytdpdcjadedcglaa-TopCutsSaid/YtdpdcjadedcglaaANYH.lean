/- A region that draws its order and whose first operation, a load, may come late: it is taken first. Conditions: those of each lemma. -/
import Derived.Test.YtdpdcjadedcglaaGG
import Derived.OrdersHeld
set_option linter.unusedVariables false
set_option maxRecDepth 20000
set_option linter.unusedSimpArgs false
namespace Go.Proofs.Ytdpdcjadedcglaa
open Go.RowKit Go.Sort
section
variable {P : Program} {D : Nat → Nat → Prop} {md : Region.Mode} {ops : Array Oper} {S : World → Prop} {M : List Nat} {Φ : Nat → Value → World → World → Prop}
theorem wpAnyH_of_mAny {n g : Nat} {L : Array Bool → Act → Ups → Prop} {Q' : Exit → Act → World → Prop} {S' : World → Prop} (hS : ∀ w, S w → S' w) (hup : ∀ w w', S w → Ext w w' → S w') (hL : ∀ listed a us w, L listed a us → S w → Above us w → wpAnyH P md ops Q' S' g listed a w) :
    ∀ (f : Nat) (listed : Array Bool) (a : Act) (us : Ups) (w : World), mAny P D md ops S M Φ n L f listed a us → S w → Above us w → wpAnyH P md ops Q' S' (f + g) listed a w
  | 0, listed, a, us, w, h, hs, ha => by rw [Nat.zero_add]; exact hL _ _ _ _ h hs ha
  | f + 1, listed, a, us, w, h, hs, ha => by
    rw [show f + 1 + g = (f + g) + 1 by omega]
    refine ⟨fun h0 => absurd h0 h.1, fun i hi => ?_⟩
    obtain ⟨o, ho, ⟨_, v, h1, h2⟩ | ⟨_, h1, h2⟩⟩ := (h.2 i hi).2
    · have h3 := wpAnyH_of_mAny hS hup hL f _ _ _ w h2 hs ha
      unfold wpOp
      simp only [ho]
      rcases h1 with ⟨g1, g2⟩ | ⟨g1, g2⟩
      · rw [if_pos g1]
        refine .inl ?_
        simp only [Oper.wp, g2 w hs, Oper.upon]
        exact ⟨hS _ hs, h3⟩
      · rw [if_neg (by simp [g1]), ← g2]; exact ⟨hS _ hs, h3⟩
    · unfold wpOp
      simp only [ho]
      rw [if_pos h1.1]
      refine .inl (wp_of_does (fun v w' hr => ?_) (h1.2 w hs fun i' p hp _ => ha i' p hp))
      have hs' := hup _ _ hs hr.1
      have ha' : Above (us.upd i (w, w')) w' := above_upd (fun i' p hp => (ha i' p hp).trans hr.1) (Ext.refl _)
      exact ⟨hS _ hs', wpAnyH_of_mAny hS hup hL f _ _ _ w' (h2 v w w' ⟨hs, hs', fun i' p hp _ => ha i' p hp, fun i' p hp => .inl (ha i' p hp), hr.1, hr.2, w', hs', ha'⟩) hs' ha'⟩
theorem mAny_lex1 {n : Nat} {L : Act → Ups → Prop} {T : Array Bool → Prop} (hsel : Region.noSelect ops = true) (hup : ∀ w w', S w → Ext w w' → S w') {F : Nat → Nat → Array Bool → Bool}
    (F0 : ∀ listed, F 0 n listed = true → T listed) (F1 : ∀ f k listed, F (f + 1) k listed = true → (k ∈ Region.ready md ops listed ∧ Region.free md ops listed k = true) ∧ F f (k + 1) (listed.setIfInBounds k true) = true)
    (hlow : ∀ i listed, 1 ≤ i → i < n → HeadInv md ops n listed → i ∈ Region.ready md ops listed → ∀ j ∈ Region.ready md ops listed, j < n)
    (hdone : ∀ listed, T listed → ∀ j ∈ Region.ready md ops listed, n ≤ j) (hD : ∀ i j, D i j → DepOn md ops i j) :
    ∀ (l : List Oper) (k : Nat) (listed : Array Bool) (a : Act) (us : Ups), 1 ≤ k → (∀ j, j < l.length → l[j]? = ops[k + j]?) → k + l.length = n → HeadInv md ops n listed → (∀ j, listed.getD j true = false → us j = none) → Cap S us →
    F l.length k listed = true → mList P D ops S M Φ L k l a us → mAny P D md ops S M Φ n (fun listed' a' us' => T listed' ∧ L a' us') l.length listed a us
  | [], k, listed, a, us, h1k, hl, hk, inv, hus, hcap, hB, h => by
    have : k = n := by simpa using hk
    subst this
    exact ⟨F0 _ hB, h⟩
  | o :: l, k, listed, a, us, h1k, hl, hk, inv, hus, hcap, hB, h => by
    have h0 : ops[k]? = some o := by simpa using (hl 0 (by simp)).symm
    simp only [List.length_cons] at hB hk
    obtain ⟨⟨hr, hf⟩, hB'⟩ := F1 _ _ _ hB
    have hkn : k < n := by omega
    have hun := (mem_ready.1 hr).1
    have husk : ∀ (us' : Ups), (us' = us ∨ ∃ p, us' = us.upd k p) → ∀ j, (listed.setIfInBounds k true).getD j true = false → us' j = none := fun us' hu j hj => by
      have hkj : j ≠ k := fun e => by
        subst e
        have hlt : j < listed.size := by
          rcases Nat.lt_or_ge j listed.size with h' | h'
          · exact h'
          · simp [Array.getElem?_eq_none h'] at hun
        simp [hlt] at hj
      have hk' := hus j (by rw [getD_set_ne true (Ne.symm hkj)] at hj; exact hj)
      rcases hu with rfl | ⟨p, rfl⟩
      · exact hk'
      · unfold Ups.upd; rw [if_neg hkj]; exact hk'
    refine mAny_first h0 (Region.noSelect_spec hsel) hup (fun listed inv hi => hlow k listed h1k hkn inv hi) hkn (fun listed' a' us' hL => hdone _ hL.1) hD l.length listed a us inv hus hcap (Region.free_spec h0 hf) hr ?_
    have next : ∀ a' us', (us' = us ∨ ∃ p, us' = us.upd k p) → Cap S us' → mList P D ops S M Φ L (k + 1) l a' us' → mAny P D md ops S M Φ n (fun listed' a' us' => T listed' ∧ L a' us') l.length (listed.setIfInBounds k true) a' us' := fun a' us' hu hc hh =>
      mAny_lex1 hsel hup F0 F1 hlow hdone hD l (k + 1) _ a' us' (by omega) (fun j hj => by have := hl (j + 1) (by simp; omega); simpa [Nat.add_assoc, Nat.add_comm 1 j] using this) (by omega) (inv.set hr hkn) (husk us' hu) hc hB' hh
    rcases h with ⟨m, v, h1, h2⟩ | ⟨m, h1, h2⟩
    · exact ⟨o, h0, .inl ⟨m, v, h1, next _ _ (.inl rfl) hcap h2⟩⟩
    · exact ⟨o, h0, .inr ⟨m, h1, fun v w w' hg => next _ _ (.inr ⟨_, rfl⟩) hg.cap (h2 v w w' hg)⟩⟩
end
/-- each operation from n on waits, by however many steps, for all those between 1 and n -/
def depsB (md : Region.Mode) (ops : Array Oper) (f n : Nat) : Bool :=
  (List.range ops.size).all fun j => decide (j < n) || (List.range n).all fun i => decide (i = 0) || depB md ops f i j
def anyLB (l : List Oper) (f n : Nat) : Bool :=
  Region.noSelect l.toArray && decide (1 ≤ n) && decide (n ≤ l.length) && depsB .any l.toArray f n && (Region.ready .any l.toArray (Array.replicate l.toArray.size false)).contains 0 && Region.free .any l.toArray (Array.replicate l.toArray.size false) 0 &&
    lexF .any l.toArray n (n - 1) 1 ((Array.replicate l.toArray.size false).setIfInBounds 0 true)
theorem wp_region_load_any {P : Program} {id : Nat} {Q : Exit → Act → World → Prop} {a : Act} {w : World} {l : List Oper} (f n : Nat) (v0 : Value) (S' S : World → Prop) (M : List Nat) (Φ : Nat → Value → World → World → Prop) (hS : ∀ w, S w → S' w) (hup : ∀ w w', S w → Ext w w' → S w') (hs : S w)
    (hm : P.follows .mixedOrders = true) (hB : anyLB l f n = true) (o0 : Oper) (h0 : l[0]? = some o0) (hg : o0.guard = none) (hv : ∀ w, S' w → (execOp a.eval o0).run P w = .ok (.value v0) w) (hQ : ∀ c a w, Q (.panic c) (a.put o0.dst v0) w → Q (.panic c) a w)
    (h : mList P (DepOn .any l.toArray) l.toArray S M Φ (fun a' us => ∀ w', S w' → Above us w' → wpAnyH P .any l.toArray Q S' (l.length - n) (headL n l.length) a' w') 1 ((l.take n).drop 1) (a.put o0.dst v0) Ups.none) : (Code.region id l.toArray true).wp P Q a w := by
  simp only [anyLB, Bool.and_eq_true, decide_eq_true_eq] at hB
  obtain ⟨⟨⟨⟨⟨⟨hsel, hn1⟩, hn⟩, hdep⟩, hr0⟩, hf0⟩, hlex⟩ := hB
  have hs' : S w.drew := hup _ _ hs (ext_drawn w)
  have hi0 : l.toArray[0]? = some o0 := by simpa using h0
  have hr0' : 0 ∈ Region.ready .any l.toArray (Array.replicate l.toArray.size false) := by simpa using hr0
  refine wp_region_held (S := S') hm ?_
  obtain ⟨m, hmz⟩ : ∃ m, l.toArray.size = m + 1 := ⟨l.length - 1, by simp; omega⟩
  have hml : l.length = m + 1 := by simpa using hmz
  have hinv : HeadInv .any l.toArray n ((Array.replicate l.toArray.size false).setIfInBounds 0 true) := inv0.set hr0' (by omega)
  rw [hmz] at hr0 hf0 hlex hinv ⊢
  refine wpAnyH_take (i := 0) hi0 hsel hf0 hr0 hQ (.inl ⟨by simp [Region.wanted, hg], hv⟩) (hS _ hs') ?_
  have htl : ((l.take n).drop 1).length = n - 1 := by simp; omega
  have H := mAny_lex1 (n := n) (T := fun listed => listed = headL n l.length) hsel hup (F := lexF .any l.toArray n) (fun listed h => by simpa [lexF] using h)
    (fun f k listed h => by simp only [lexF, Bool.and_eq_true] at h; exact ⟨⟨by simpa using h.1.1, h.1.2⟩, h.2⟩)
    (fun i listed h1i hi inv hr j hj => by
      rcases Nat.lt_or_ge j n with h1 | h1
      · exact h1
      · exfalso
        obtain ⟨_, o, ho, hall⟩ := mem_ready.1 hj
        have hjs := (Array.getElem?_eq_some_iff.1 ho).1
        have hd := (List.all_eq_true.1 hdep) j (List.mem_range.2 hjs)
        simp only [Bool.or_eq_true, decide_eq_true_eq] at hd
        rcases hd with hd | hd
        · omega
        · have hd2 := (List.all_eq_true.1 hd) i (List.mem_range.2 hi)
          simp only [Bool.or_eq_true, decide_eq_true_eq] at hd2
          rcases hd2 with hd2 | hd2
          · omega
          · have hl := (depB_sound hd2).listed (fun j oj h1 h2 e he hb => inv.closed j oj h1 h2 e he hb) ⟨o, ho, hall⟩
            have h2 := (mem_ready.1 hr).1
            rw [getD_both h2] at hl
            cases hl)
    (fun listed hT j hj => by
      rcases Nat.lt_or_ge j n with h1 | h1
      · exfalso
        have h2 := (mem_ready.1 hj).1
        rw [hT, headL_get h1 hn] at h2
        cases h2
      · exact h1) (fun _ _ h => h) ((l.take n).drop 1) 1 ((Array.replicate (m + 1) false).setIfInBounds 0 true) (a.put o0.dst v0) Ups.none (Nat.le_refl _) (fun j hj => by
      have hj' : j + 1 < n := by rw [htl] at hj; omega
      rw [List.getElem?_drop, Nat.add_comm 1 j, List.getElem?_take_of_lt hj']
      simp) (by rw [htl]; omega) hinv (fun j _ => rfl) ⟨w.drew, hs', fun i p hp => by cases hp⟩ (by rw [htl]; exact hlex) h
  have := wpAnyH_of_mAny (Q' := Q) (g := l.length - n) hS hup (fun listed a' us w' hL hs ha => by
    rw [hL.1]; exact hL.2 w' hs ha) _ _ _ _ w.drew H hs' (fun i p hp => by cases hp)
  rw [htl, show n - 1 + (l.length - n) = m by omega] at this
  exact this
section
variable {P : Program} {ops : Array Oper} {Q : Exit → Act → World → Prop} {S' : World → Prop} {f : Nat} {listed : Array Bool} {a : Act} {w : World}
theorem any_oneK (i : Nat) {o : Oper} {K : Act → World → Prop} (ho : ops[i]? = some o) (h : wpList P ops (ThenQ Q K) [o] a w) : wpOp P ops Q i K a w := by
  unfold wpOp
  simp only [ho]
  unfold wpList at h
  by_cases c : Region.wanted o (yielded ops a.tmps) = true
  · rw [if_pos c] at h ⊢
    rcases h with h | ⟨h1, h2⟩
    · exact .inl (wp_thenQ h)
    · exact .inr ⟨h1, h2⟩
  · rw [if_neg c] at h ⊢
    exact h
theorem anyH_step (i : Nat) {o : Oper} (hr : (Region.ready .any ops listed == [i]) = true) (ho : ops[i]? = some o) (h : wpList P ops (ThenQ Q (fun a' w' => S' w' ∧ wpAnyH P .any ops Q S' f (listed.setIfInBounds i true) a' w')) [o] a w) : wpAnyH P .any ops Q S' (f + 1) listed a w := by
  have hr' : Region.ready .any ops listed = [i] := by simpa using hr
  refine ⟨fun h0 => (by rw [hr'] at h0; cases h0), fun j hj => ?_⟩
  rw [hr'] at hj
  obtain rfl : j = i := by simpa using hj
  exact any_oneK j ho h
theorem anyH_plain (i : Nat) {o : Oper} {v : Value} (hr : (Region.ready .any ops listed == [i]) = true) (ho : ops[i]? = some o) (hg : o.guard = none) (hv : (execOp a.eval o).run P w = .ok (.value v) w) (hS : S' w) (h : wpAnyH P .any ops Q S' f (listed.setIfInBounds i true) (a.put o.dst v) w) : wpAnyH P .any ops Q S' (f + 1) listed a w := by
  have hr' : Region.ready .any ops listed = [i] := by simpa using hr
  refine ⟨fun h0 => (by rw [hr'] at h0; cases h0), fun j hj => ?_⟩
  rw [hr'] at hj
  obtain rfl : j = i := by simpa using hj
  unfold wpOp
  simp only [ho]
  rw [if_pos (by simp [Region.wanted, hg])]
  refine .inl ?_
  simp only [Oper.wp, hv, Oper.upon]
  exact ⟨hS, h⟩
theorem anyH_nil {R : Act → World → Prop} (hS : S' w) (h : R a w) : wpList P ops (ThenQ Q (fun a w => S' w ∧ R a w)) [] a w := ⟨hS, h⟩
theorem anyH_done (hr : (Region.ready .any ops listed == []) = true) (h : Q .normal a w) : wpAnyH P .any ops Q S' 0 listed a w := ⟨by simpa using hr, h⟩
end
end Go.Proofs.Ytdpdcjadedcglaa
