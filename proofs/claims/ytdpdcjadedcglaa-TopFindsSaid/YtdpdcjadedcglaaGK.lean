/- A group of texts (GK), each with its own conditions: those of each lemma. -/
import Derived.Test.YtdpdcjadedcglaaGG
import Derived.Test.YtdpdcjadedcglaaGI
import Derived.Test.YtdpdcjadedcglaaGF
set_option linter.unusedVariables false
set_option maxRecDepth 20000
set_option linter.unusedSimpArgs false
namespace Go.Proofs.Ytdpdcjadedcglaa
open Go.RowKit Go.Sort
attribute [local go_sem ↓] run_max2 run_min2
attribute [local go_sem] eql_ints_nil eql_arrs_nil
theorem IntsAt.take {w : World} {T : Nat → Prop} {ao : Option Addr} {xs : List Int} (h : IntsAt w T ao xs) (k : Nat) : IntsAt w T ao (xs.take k) := by
  have hl := h.1
  refine ⟨by simp; omega, fun h0 => ?_⟩
  obtain ⟨b, o, e, hT, hb, hc⟩ := h.2 (by simp at h0; omega)
  refine ⟨b, o, e, hT, hb, fun j hj => ?_⟩
  rw [List.length_take] at hj
  rw [hc j (by omega)]
  simp [List.getElem?_take, show j < k by omega]
theorem IntsAt.cut {w : World} {T : Nat → Prop} {ao : Option Addr} {xs : List Int} (h : IntsAt w T ao xs) (k : Nat) : IntsAt w T (ao.map fun x => x.add k) (xs.drop k) := by
  have hl := h.1
  by_cases hk : k < xs.length
  · obtain ⟨b, o, e, hT, hb, hc⟩ := h.2 (by omega)
    subst e
    refine ⟨by simp; omega, fun _ => ⟨b, o + k, by simp [Addr.add_lit], hT, hb, fun j hj => ?_⟩⟩
    have := hc (k + j) (by simp at hj; omega)
    rw [Nat.add_assoc]
    simpa [List.getD_eq_getElem?_getD, List.getElem?_drop] using this
  · rw [List.drop_of_length_le (by omega)]; exact IntsAt.nil _ _ _
theorem IntsAt.cut0 {w : World} {T : Nat → Prop} {ao : Option Addr} {xs : List Int} (h : IntsAt w T ao xs) {k : Nat} (hk : xs.length ≤ k) : IntsAt w T ao (xs.drop k) := by
  rw [List.drop_of_length_le hk]; exact IntsAt.nil _ _ _
theorem shapeB_take {s : List Int} (h : shapeB s = true) (k : Nat) : shapeB (s.take k) = true := by
  obtain ⟨h1, h2, h3⟩ := shapeB_iff.1 h
  exact shapeB_iff.2 ⟨by simp; omega, fun d hd => h2 d (List.mem_of_mem_take hd), Int.le_trans (prodNZ_take_le h2 k) h3⟩
theorem shapeB_drop {s : List Int} (h : shapeB s = true) (k : Nat) : shapeB (s.drop k) = true := by
  obtain ⟨h1, h2, h3⟩ := shapeB_iff.1 h
  exact shapeB_iff.2 ⟨by simp; omega, fun d hd => h2 d (List.mem_of_mem_drop hd), Int.le_trans (prodNZ_drop_le h2 k) h3⟩
theorem lenP {f : FuncId} {xs : List Int} {n : Nat} (hn : xs.length = n) {ao : Option Addr} {cap : Nat} {w : World} {R : Ending → World → Prop} {H : Prop} (h : H → Calls Try.prog f #[.slice ao xs.length cap] w R) : H → Calls Try.prog f #[.slice ao n cap] w R := hn ▸ h
set_option maxHeartbeats 4000000 in
theorem shape_Row (s : List Int) (ao : Option Addr) (cap f : Nat) (S : Nat → Prop) (w : World) (h : IntsAt w S ao s) (hs : shapeB s = true) (hf : f ≤ s.length) (hc : s.length ≤ cap) :
    Calls Try.prog 55 #[.slice ao s.length cap, .int .i64 f] w fun e w' => e = .returned (.tuple #[.int .i64 (cnt (s.take f)), .int .i64 (cnt (s.drop f))]) ∧ Below w.heap.size w w' := by
  refine calls_post fun R' hR => ?_
  have h0 := hid h
  replace hs := hid hs
  clear h
  have E := hid (Env.start w S)
  obtain ⟨w1, hw1⟩ : ∃ w1, w1 = w := ⟨_, rfl⟩
  subst hw1
  have t0 : ¬ (f : Int) < 0 := by omega
  have t1 : ¬ (s.length : Int) < (f : Int) := by omega
  have t2 : (0 : Int) ≤ (f : Int) := by omega
  have t3 : (f : Int) ≤ (s.length : Int) := by omega
  have t4 : (f : Int) ≤ (cap : Int) := by omega
  have t5 : (f : Int).toNat = f := by omega
  have P1 := hid (fun ao cap wz => lenP (n := f) (by simp; omega) (fun h => shape_product (s.take f) ao cap S wz h (shapeB_take hs.out f)))
  have P2 := hid (fun ao cap wz => lenP (n := s.length - f) (by simp) (fun h => shape_product (s.drop f) ao cap S wz h (shapeB_drop hs.out f)))
  go_enter Try.func55, Try.ntmps55
  go_upto_region 1 with (fail)
  go_wp2_with fail
  refine (shape_Right s _ _ _ _ h0.out).mono ?_
  rintro e w' ⟨rfl, rfl⟩
  rw [hs.out]
  by_cases c0 : cap = 0
  case pos =>
    obtain rfl : f = 0 := by omega
    have hz := hid (show s.length ≤ 0 by omega)
    go_upto_region 3 with (fail)
    obtain ⟨T, hT1, hT2, hT3⟩ := E.out.tw
    refine wp_region_mono (Sees w1 []) [3, 7] (fun k v u u' => match k with | 3 => v = .int .i64 (cnt (s.take 0)) | 7 => v = .int .i64 (cnt (s.drop 0)) | _ => False) (fun _ _ h e => h.up e) (Sees.start (all_nil)) (by kernel_rfl) (by kernel_rfl) ?_
    repeat (first | (refine m_plain (v := ?_) (by rfl) (by rfl) ?_ ?_; rotate_left; (intro wz hSw; obtain ⟨-, hSc⟩ := hSw; (try simp only [List.forall_mem_cons, List.forall_mem_nil, and_true] at hSc); go_simp; (first | done | with_reducible rfl)); (intro K hK; (try simp only [Act.put, List.setIfInBounds_toArray, List.set_cons_zero, List.set_cons_succ]); refine hK _ _ ?_; clear hK K)) | (refine m_skip (by rfl) (by rfl) ?_; (intro K hK; (try simp only [Act.put, List.setIfInBounds_toArray, List.set_cons_zero, List.set_cons_succ]); refine hK _ _ ?_; clear hK K)))
    refine m_make (by rfl) (by rfl) ?_ ?_
    · intro wz hSw hdep R hRz
      obtain ⟨hSe, hSc⟩ := hSw
      (try simp only [List.forall_mem_cons, List.forall_mem_nil, and_true] at hSc)
      unfold does
      (go_simp; refine Calls.mono (P1.out _ _ wz ((h0.out.take 0).up hSe)) ?_; rintro e wq ⟨rfl, rfl⟩; exact ⟨_, rfl, hRz.out _ _ ⟨Ext.refl _, rfl⟩⟩)
    intro v3 u3 x3 hG3 K hK
    have hF3 := hG3.fact
    (try dsimp only at hF3)
    subst hF3
    (try simp only [Act.put, List.setIfInBounds_toArray, List.set_cons_zero, List.set_cons_succ]); refine hK _ _ ?_; clear hK K
    repeat (first | (refine m_plain (v := ?_) (by rfl) (by rfl) ?_ ?_; rotate_left; (intro wz hSw; obtain ⟨-, hSc⟩ := hSw; (try simp only [List.forall_mem_cons, List.forall_mem_nil, and_true] at hSc); go_simp; (first | done | with_reducible rfl)); (intro K hK; (try simp only [Act.put, List.setIfInBounds_toArray, List.set_cons_zero, List.set_cons_succ]); refine hK _ _ ?_; clear hK K)) | (refine m_skip (by rfl) (by rfl) ?_; (intro K hK; (try simp only [Act.put, List.setIfInBounds_toArray, List.set_cons_zero, List.set_cons_succ]); refine hK _ _ ?_; clear hK K)))
    refine m_make (by rfl) (by rfl) ?_ ?_
    · intro wz hSw hdep R hRz
      obtain ⟨hSe, hSc⟩ := hSw
      (try simp only [List.forall_mem_cons, List.forall_mem_nil, and_true] at hSc)
      unfold does
      (go_simp; refine Calls.mono (P2.out _ _ wz ((h0.out.cut0 hz.out).up hSe)) ?_; rintro e wq ⟨rfl, rfl⟩; exact ⟨_, rfl, hRz.out _ _ ⟨Ext.refl _, rfl⟩⟩)
    intro v7 u7 x7 hG7 K hK
    have hF7 := hG7.fact
    (try dsimp only at hF7)
    subst hF7
    (try simp only [Act.put, List.setIfInBounds_toArray, List.set_cons_zero, List.set_cons_succ]); refine hK _ _ ?_; clear hK K
    repeat (first | (refine m_plain (v := ?_) (by rfl) (by rfl) ?_ ?_; rotate_left; (intro wz hSw; obtain ⟨-, hSc⟩ := hSw; (try simp only [List.forall_mem_cons, List.forall_mem_nil, and_true] at hSc); go_simp; (first | done | with_reducible rfl)); (intro K hK; (try simp only [Act.put, List.setIfInBounds_toArray, List.set_cons_zero, List.set_cons_succ]); refine hK _ _ ?_; clear hK K)) | (refine m_skip (by rfl) (by rfl) ?_; (intro K hK; (try simp only [Act.put, List.setIfInBounds_toArray, List.set_cons_zero, List.set_cons_succ]); refine hK _ _ ?_; clear hK K)))
    refine m_nil ?_
    intro wf hSf hAf
    have ef := hid (E.out.up hSf.1).ext
    clear hSf hAf
    go_wp2_with fail
    exact hR.out _ _ ⟨rfl, ef.out⟩
  case neg =>
  by_cases c1 : cap = f
  case pos =>
    have hz := hid (show s.length ≤ f by omega)
    go_upto_region 3 with (fail)
    obtain ⟨T, hT1, hT2, hT3⟩ := E.out.tw
    refine wp_region_mono (Sees w1 []) [3, 7] (fun k v u u' => match k with | 3 => v = .int .i64 (cnt (s.take f)) | 7 => v = .int .i64 (cnt (s.drop f)) | _ => False) (fun _ _ h e => h.up e) (Sees.start (all_nil)) (by kernel_rfl) (by kernel_rfl) ?_
    repeat (first | (refine m_plain (v := ?_) (by rfl) (by rfl) ?_ ?_; rotate_left; (intro wz hSw; obtain ⟨-, hSc⟩ := hSw; (try simp only [List.forall_mem_cons, List.forall_mem_nil, and_true] at hSc); go_simp; (first | done | with_reducible rfl)); (intro K hK; (try simp only [Act.put, List.setIfInBounds_toArray, List.set_cons_zero, List.set_cons_succ]); refine hK _ _ ?_; clear hK K)) | (refine m_skip (by rfl) (by rfl) ?_; (intro K hK; (try simp only [Act.put, List.setIfInBounds_toArray, List.set_cons_zero, List.set_cons_succ]); refine hK _ _ ?_; clear hK K)))
    refine m_make (by rfl) (by rfl) ?_ ?_
    · intro wz hSw hdep R hRz
      obtain ⟨hSe, hSc⟩ := hSw
      (try simp only [List.forall_mem_cons, List.forall_mem_nil, and_true] at hSc)
      unfold does
      (go_simp; refine Calls.mono (P1.out _ _ wz ((h0.out.take f).up hSe)) ?_; rintro e wq ⟨rfl, rfl⟩; exact ⟨_, rfl, hRz.out _ _ ⟨Ext.refl _, rfl⟩⟩)
    intro v3 u3 x3 hG3 K hK
    have hF3 := hG3.fact
    (try dsimp only at hF3)
    subst hF3
    (try simp only [Act.put, List.setIfInBounds_toArray, List.set_cons_zero, List.set_cons_succ]); refine hK _ _ ?_; clear hK K
    repeat (first | (refine m_plain (v := ?_) (by rfl) (by rfl) ?_ ?_; rotate_left; (intro wz hSw; obtain ⟨-, hSc⟩ := hSw; (try simp only [List.forall_mem_cons, List.forall_mem_nil, and_true] at hSc); go_simp; (first | done | with_reducible rfl)); (intro K hK; (try simp only [Act.put, List.setIfInBounds_toArray, List.set_cons_zero, List.set_cons_succ]); refine hK _ _ ?_; clear hK K)) | (refine m_skip (by rfl) (by rfl) ?_; (intro K hK; (try simp only [Act.put, List.setIfInBounds_toArray, List.set_cons_zero, List.set_cons_succ]); refine hK _ _ ?_; clear hK K)))
    refine m_make (by rfl) (by rfl) ?_ ?_
    · intro wz hSw hdep R hRz
      obtain ⟨hSe, hSc⟩ := hSw
      (try simp only [List.forall_mem_cons, List.forall_mem_nil, and_true] at hSc)
      unfold does
      (go_simp; refine Calls.mono (P2.out _ _ wz ((h0.out.cut0 hz.out).up hSe)) ?_; rintro e wq ⟨rfl, rfl⟩; exact ⟨_, rfl, hRz.out _ _ ⟨Ext.refl _, rfl⟩⟩)
    intro v7 u7 x7 hG7 K hK
    have hF7 := hG7.fact
    (try dsimp only at hF7)
    subst hF7
    (try simp only [Act.put, List.setIfInBounds_toArray, List.set_cons_zero, List.set_cons_succ]); refine hK _ _ ?_; clear hK K
    repeat (first | (refine m_plain (v := ?_) (by rfl) (by rfl) ?_ ?_; rotate_left; (intro wz hSw; obtain ⟨-, hSc⟩ := hSw; (try simp only [List.forall_mem_cons, List.forall_mem_nil, and_true] at hSc); go_simp; (first | done | with_reducible rfl)); (intro K hK; (try simp only [Act.put, List.setIfInBounds_toArray, List.set_cons_zero, List.set_cons_succ]); refine hK _ _ ?_; clear hK K)) | (refine m_skip (by rfl) (by rfl) ?_; (intro K hK; (try simp only [Act.put, List.setIfInBounds_toArray, List.set_cons_zero, List.set_cons_succ]); refine hK _ _ ?_; clear hK K)))
    refine m_nil ?_
    intro wf hSf hAf
    have ef := hid (E.out.up hSf.1).ext
    clear hSf hAf
    go_wp2_with fail
    exact hR.out _ _ ⟨rfl, ef.out⟩
  case neg =>
    go_upto_region 3 with (fail)
    obtain ⟨T, hT1, hT2, hT3⟩ := E.out.tw
    refine wp_region_mono (Sees w1 []) [3, 7] (fun k v u u' => match k with | 3 => v = .int .i64 (cnt (s.take f)) | 7 => v = .int .i64 (cnt (s.drop f)) | _ => False) (fun _ _ h e => h.up e) (Sees.start (all_nil)) (by kernel_rfl) (by kernel_rfl) ?_
    repeat (first | (refine m_plain (v := ?_) (by rfl) (by rfl) ?_ ?_; rotate_left; (intro wz hSw; obtain ⟨-, hSc⟩ := hSw; (try simp only [List.forall_mem_cons, List.forall_mem_nil, and_true] at hSc); go_simp; (first | done | with_reducible rfl)); (intro K hK; (try simp only [Act.put, List.setIfInBounds_toArray, List.set_cons_zero, List.set_cons_succ]); refine hK _ _ ?_; clear hK K)) | (refine m_skip (by rfl) (by rfl) ?_; (intro K hK; (try simp only [Act.put, List.setIfInBounds_toArray, List.set_cons_zero, List.set_cons_succ]); refine hK _ _ ?_; clear hK K)))
    refine m_make (by rfl) (by rfl) ?_ ?_
    · intro wz hSw hdep R hRz
      obtain ⟨hSe, hSc⟩ := hSw
      (try simp only [List.forall_mem_cons, List.forall_mem_nil, and_true] at hSc)
      unfold does
      (go_simp; refine Calls.mono (P1.out _ _ wz ((h0.out.take f).up hSe)) ?_; rintro e wq ⟨rfl, rfl⟩; exact ⟨_, rfl, hRz.out _ _ ⟨Ext.refl _, rfl⟩⟩)
    intro v3 u3 x3 hG3 K hK
    have hF3 := hG3.fact
    (try dsimp only at hF3)
    subst hF3
    (try simp only [Act.put, List.setIfInBounds_toArray, List.set_cons_zero, List.set_cons_succ]); refine hK _ _ ?_; clear hK K
    repeat (first | (refine m_plain (v := ?_) (by rfl) (by rfl) ?_ ?_; rotate_left; (intro wz hSw; obtain ⟨-, hSc⟩ := hSw; (try simp only [List.forall_mem_cons, List.forall_mem_nil, and_true] at hSc); go_simp; (first | done | with_reducible rfl)); (intro K hK; (try simp only [Act.put, List.setIfInBounds_toArray, List.set_cons_zero, List.set_cons_succ]); refine hK _ _ ?_; clear hK K)) | (refine m_skip (by rfl) (by rfl) ?_; (intro K hK; (try simp only [Act.put, List.setIfInBounds_toArray, List.set_cons_zero, List.set_cons_succ]); refine hK _ _ ?_; clear hK K)))
    refine m_make (by rfl) (by rfl) ?_ ?_
    · intro wz hSw hdep R hRz
      obtain ⟨hSe, hSc⟩ := hSw
      (try simp only [List.forall_mem_cons, List.forall_mem_nil, and_true] at hSc)
      unfold does
      (go_simp; refine Calls.mono (P2.out _ _ wz ((h0.out.cut f).up hSe)) ?_; rintro e wq ⟨rfl, rfl⟩; exact ⟨_, rfl, hRz.out _ _ ⟨Ext.refl _, rfl⟩⟩)
    intro v7 u7 x7 hG7 K hK
    have hF7 := hG7.fact
    (try dsimp only at hF7)
    subst hF7
    (try simp only [Act.put, List.setIfInBounds_toArray, List.set_cons_zero, List.set_cons_succ]); refine hK _ _ ?_; clear hK K
    repeat (first | (refine m_plain (v := ?_) (by rfl) (by rfl) ?_ ?_; rotate_left; (intro wz hSw; obtain ⟨-, hSc⟩ := hSw; (try simp only [List.forall_mem_cons, List.forall_mem_nil, and_true] at hSc); go_simp; (first | done | with_reducible rfl)); (intro K hK; (try simp only [Act.put, List.setIfInBounds_toArray, List.set_cons_zero, List.set_cons_succ]); refine hK _ _ ?_; clear hK K)) | (refine m_skip (by rfl) (by rfl) ?_; (intro K hK; (try simp only [Act.put, List.setIfInBounds_toArray, List.set_cons_zero, List.set_cons_succ]); refine hK _ _ ?_; clear hK K)))
    refine m_nil ?_
    intro wf hSf hAf
    have ef := hid (E.out.up hSf.1).ext
    clear hSf hAf
    go_wp2_with fail
    exact hR.out _ _ ⟨rfl, ef.out⟩
end Go.Proofs.Ytdpdcjadedcglaa
namespace Go.Proofs.Ytdpdcjadedcglaa
open Go.RowKit Go.Sort
/-- an array and an error number; a slice's capacity is at least its length -/
def RetAEC (w : World) (S : Nat → Prop) (a : Arr) (n : Int) (e : Ending) (w' : World) : Prop :=
  ∃ sa sc na nc ia ic, e = .returned (.tuple #[.agg #[.int .i64 a.kind, .slice sa a.shape.length sc, .slice na a.nums.length nc, .slice ia a.items.length ic], .int .i64 n]) ∧ ArrAt w' S a sa na ia ∧ Below w.heap.size w w' ∧ a.shape.length ≤ sc ∧ a.nums.length ≤ nc ∧ a.items.length ≤ ic
theorem RetAEC.to {w w' : World} {S : Nat → Prop} {a : Arr} {n : Int} {e : Ending} (h : RetAEC w S a n e w') : RetAE w S a n e w' := by
  obtain ⟨sa, sc, na, nc, ia, ic, h1, h2, h3, _⟩ := h
  exact ⟨sa, sc, na, nc, ia, ic, h1, h2, h3⟩
theorem RetAEC.zero {w V : World} {S : Nat → Prop} {a : Arr} {n m : Int} (E : a = .zero) (E2 : n = m) (hb : Below w.heap.size w V) : RetAEC w S a n (.returned (.tuple #[.agg #[.int .i64 0, .slice none 0 0, .slice none 0 0, .slice none 0 0], .int .i64 m])) V := by
  subst E; subst E2; exact ⟨none, 0, none, 0, none, 0, rfl, zero_at _ _ _ _ _, hb, Nat.le_refl _, Nat.le_refl _, Nat.le_refl _⟩
theorem lenR {f : FuncId} {xs : List Int} {n : Nat} (hn : xs.length = n) {ao : Option Addr} {cap : Nat} {v : Value} {w : World} {R : Ending → World → Prop} (h : Calls Try.prog f #[.slice ao xs.length cap, v] w R) : Calls Try.prog f #[.slice ao n cap, v] w R := hn ▸ h
theorem OwnI.cap {w : World} {B : Nat} {ao : Option Addr} {cap : Nat} {xs : List Int} (h : OwnI w B ao cap xs) : xs.length ≤ cap := by
  rcases h.2 with ⟨_, hn⟩ | ⟨g, c, cur, e, hb, hgg, hnc, _⟩
  · omega
  · injection e with e1 e2 e3; omega
theorem OwnA.cap {w : World} {B : Nat} {T : Nat → Prop} {ao : Option Addr} {cap : Nat} {l : List Arr} (h : OwnA w B T ao cap l) : l.length ≤ cap := by
  obtain ⟨cs, h1, _⟩ := h
  rcases h1.2 with ⟨_, hn⟩ | ⟨g, c, cur, e, hb, hgg, hnc, _⟩
  · omega
  · injection e with e1 e2 e3; omega
theorem RetAEC.of {w V : World} {S : Nat → Prop} {a : Arr} {k : Int} {s n : List Int} {l : List Arr} {e e' : Int} {sa na ia : Option Addr} {sl sc nc ic : Nat} (E : a = .mk k s n l) (E2 : e = e') (hs : s.length = sl) (h1 : IntsAt V S sa s) (h2 : IntsAt V S na n) (hl : l.length ≤ 1759218604441) (h3 : ItemsAt V S ia 0 l) (hb : Below w.heap.size w V) (c1 : s.length ≤ sc) (c2 : n.length ≤ nc) (c3 : l.length ≤ ic) :
    RetAEC w S a e (.returned (.tuple #[.agg #[.int .i64 k, .slice sa sl sc, .slice na n.length nc, .slice ia l.length ic], .int .i64 e'])) V := by
  subst E; subst E2; subst hs; exact ⟨sa, sc, na, nc, ia, ic, rfl, ArrAt.iff.2 ⟨h1, h2, hl, h3⟩, hb, c1, c2, c3⟩
theorem RetAEC.at {w V : World} {S : Nat → Prop} {a b : Arr} {e e' : Int} {sa na ia : Option Addr} {sc nc ic : Nat} (E : a = b) (E2 : e = e') (h : ArrAt V S b sa na ia) (hb : Below w.heap.size w V) (c : b.shape.length ≤ sc ∧ b.nums.length ≤ nc ∧ b.items.length ≤ ic) :
    RetAEC w S a e (.returned (.tuple #[.agg #[.int .i64 b.kind, .slice sa b.shape.length sc, .slice na b.nums.length nc, .slice ia b.items.length ic], .int .i64 e'])) V := by
  subst E; subst E2; exact ⟨sa, sc, na, nc, ia, ic, rfl, h, hb, c⟩
theorem RetAEC.eq {w w' : World} {S : Nat → Prop} {a b : Arr} {n m : Int} {e : Ending} (h : RetAEC w S a n e w') (E : b = a) (E2 : n = m) : RetAEC w S b m e w' := E ▸ E2 ▸ h
theorem RetAEC.wide {w V : World} {S T : Nat → Prop} {a : Arr} {n : Int} {e : Ending} (h : RetAEC w S a n e V) (hS : ∀ b, b < V.heap.size → S b → T b) : RetAEC w T a n e V := by
  obtain ⟨sa, sc, na, nc, ia, ic, h1, h2, h3, h4⟩ := h
  exact ⟨sa, sc, na, nc, ia, ic, h1, ArrAt.mono hS _ h2, h3, h4⟩
theorem row2 {w : World} {b : Nat} {a0 a1 : Value} {t : TypeId} (h : w.heap[b]? = some (.cells #[a0, a1] t (0, 0))) : w.cell? ⟨b, 0, none⟩ = some a0 ∧ w.cell? ⟨b, 1, none⟩ = some a1 :=
  ⟨cell_of_row w b 0 _ _ _ h, cell_of_row w b 1 _ _ _ h⟩
section
variable {w0 W w' : World} {S : Nat → Prop} {L : List Fact}
/-- an object and a list of numbers that a region has made, whichever came first -/
theorem Env.madeI {x u u' : World} {o : Obj} {xs : List Int} {ao : Option Addr} (E : Env w0 S W L) (hA : IntsAt x (fun b => u'.heap.size ≤ b) ao xs) (hx : Ext x w') (hord : Ext x u ∨ Ext (u.alloc o) u') (hu' : Ext W u') (hu : Ext W u) (e8 : Ext (u.alloc o) w') (ew : Ext W w') : Env w0 S w' (L ++ [.obj u.heap.size o] ++ [.ints xs ao]) := by
  refine (E.made hu e8 ew).addInts ((hA.mono (T := fun b => u'.heap.size ≤ b ∧ b < x.heap.size) (fun b hb h => ⟨h, hb⟩)).up hx) fun b _ hb => ?_
  have h1 := E.fresh hu' hb.1
  refine ⟨h1.1, ?_⟩
  rw [blks_append, List.mem_append]
  rintro (h' | h')
  · exact h1.2 h'
  · simp [blks, Fact.blk] at h'
    exact ord_out hord hb.1 hb.2 h'
end
end Go.Proofs.Ytdpdcjadedcglaa
