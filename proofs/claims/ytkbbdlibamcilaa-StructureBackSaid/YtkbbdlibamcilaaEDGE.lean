/- One edge more in a region that draws its order: an operation that hands on a part of a tuple may be taken ahead of another that does not wait for it. Conditions: those of each lemma. -/
import Derived.Test.YtkbbdlibamcilaaMB
set_option linter.unusedVariables false
set_option linter.unusedSimpArgs false
namespace Go.Proofs.Ytkbbdlibamcilaa
open Go.RowKit Go.Sort
theorem stuck_events (P : Program) (s : String) (w : World) : Sem.events P (Next.value <$> (stuck s : Sem Value)) w #[] = #[] := rfl
theorem pure_events (P : Program) (v : Value) (w : World) : Sem.events P (Next.value <$> (pure v : Sem Value)) w #[] = #[] := rfl
theorem stuck_run (P : Program) (s : String) (w : World) : ∃ h, (do let y ← (stuck s : Sem Value); pure (Next.value y)).run P w = .halt (.stuck h) w := ⟨_, rfl⟩
theorem pure_run (P : Program) (v : Value) (w : World) : (do let y ← (pure v : Sem Value); pure (Next.value y)).run P w = .ok (.value v) w := rfl
theorem extract_cases (v : Value) (m : Nat) : (∃ u, Instr.extract v m = pure u) ∨ ∃ s, Instr.extract v m = stuck s := by
  cases v <;> simp only [Instr.extract]
  case tuple vs =>
    cases h : vs[m]? with
    | none => exact Or.inr ⟨_, rfl⟩
    | some u => exact Or.inl ⟨u, rfl⟩
  all_goals exact Or.inr ⟨_, rfl⟩
theorem extract_asks {P : Program} {o : Oper} {x : Operand} {m : Nat} (hop : o.op = .extract x m) (a : Act) (w : World) : ¬ o.asks P a w := by
  unfold Oper.asks execOp
  simp only [hop]
  rintro ⟨h1, h2⟩
  rcases extract_cases (a.eval x) m with ⟨u, e⟩ | ⟨s, e⟩
  · rw [e] at h1
    have : noRoomEvent ∈ (#[] : Array Event) := h1
    simp at this
  · rw [e] at h1
    have : noRoomEvent ∈ (#[] : Array Event) := h1
    simp at this
theorem extract_run {P : Program} {o : Oper} {x : Operand} {m : Nat} (hop : o.op = .extract x m) (a : Act) (w : World) {K : Act → World → Prop} {Q : Exit → Act → World → Prop} (h : o.wp P a w K Q) : ∃ v, (∀ u, (execOp a.eval o).run P u = .ok (.value v) u) ∧ K (a.put o.dst v) w := by
  unfold Oper.wp at h
  have he : execOp a.eval o = (do let y ← Instr.extract (a.eval x) m; pure (Next.value y)) := by unfold execOp; simp only [hop]
  rw [he] at h ⊢
  rcases extract_cases (a.eval x) m with ⟨u, e⟩ | ⟨s, e⟩
  · rw [e] at h ⊢
    rw [pure_run] at h
    exact ⟨u, fun w' => pure_run P u w', h⟩
  · rw [e] at h
    obtain ⟨q, hq⟩ := stuck_run P s w
    rw [hq] at h
    exact False.elim h
section
variable {P : Program} {ops ops' : Array Oper} {Q : Exit → Act → World → Prop} {md : Region.Mode} {i j : Nat}
/-- operation j waits for operation i besides -/
def moreEdge (ops ops' : Array Oper) (i j : Nat) : Prop := ops'.size = ops.size ∧ ∀ k, ops'[k]? = (ops[k]?).map fun o => if k = j then { o with after := o.after.push ⟨i, .data⟩ } else o
theorem moreEdge_yield (h : moreEdge ops ops' i j) (tmps : Array Value) : yielded ops' tmps = yielded ops tmps := by
  funext g
  unfold yielded
  rw [h.2 g]
  cases ops[g]? with
  | none => rfl
  | some o => by_cases e : g = j <;> simp [e]
theorem moreEdge_op (h : moreEdge ops ops' i j) {k : Nat} {K : Act → World → Prop} {a : Act} {w : World} (hh : wpOp P ops' Q k K a w) : wpOp P ops Q k K a w := by
  unfold wpOp at *
  rw [h.2 k] at hh
  cases ho : ops[k]? with
  | none => rw [ho] at hh; exact hh
  | some o =>
    rw [ho] at hh
    simp only [Option.map_some] at hh ⊢
    rw [moreEdge_yield h] at hh
    by_cases e : k = j
    · simp only [e, if_true] at hh; exact hh
    · simp only [e, if_false] at hh; exact hh
theorem moreEdge_ready (h : moreEdge ops ops' i j) (hb : Region.binds md ⟨i, .data⟩ = true) {listed : Array Bool} {k : Nat} : k ∈ Region.ready md ops' listed ↔ k ∈ Region.ready md ops listed ∧ (k = j → listed.getD i false = true) := by
  rw [mem_ready, mem_ready, h.2 k]
  cases ho : ops[k]? with
  | none => simp
  | some o =>
    simp only [Option.map_some, Option.some.injEq, exists_eq_left']
    by_cases e : k = j
    · simp only [e, if_true, forall_const]
      constructor
      · rintro ⟨h1, h2⟩
        exact ⟨⟨h1, fun x hx hbx => h2 x (Array.mem_push.2 (Or.inl hx)) hbx⟩, h2 _ (Array.mem_push.2 (Or.inr rfl)) hb⟩
      · rintro ⟨⟨h1, h2⟩, h3⟩
        refine ⟨h1, fun x hx hbx => ?_⟩
        rcases Array.mem_push.1 hx with hx | hx
        · exact h2 x hx hbx
        · subst hx; exact h3
    · simp only [e, if_false, false_implies, and_true]
theorem wpAny_edge {oi oj : Oper} {x : Operand} {m : Nat} (h : moreEdge ops ops' i j) (hi : ops[i]? = some oi) (hj : ops[j]? = some oj) (hij : i ≠ j) (hop : oi.op = .extract x m) (hg : oi.guard = none) (hb : Region.binds md ⟨i, .data⟩ = true)
    (hdep : ∀ e ∈ oi.after, Region.binds md e = true → ∃ e' ∈ oj.after, Region.binds md e' = true ∧ e'.on = e.on) (hsel : ∀ (j : Nat) (o : Oper) cs b, ops[j]? = some o → o.op ≠ .select cs b)
    (hQ : ∀ v c a w, Q (.panic c) (a.put oi.dst v) w → Q (.panic c) a w)
    (hfree : ∀ k ok, ops[k]? = some ok → k ≠ i → (∀ e ∈ ok.after, Region.binds md e = true → e.on ≠ i) → oi.apart ops ok = true ∨ ∃ e ∈ oi.after, Region.binds md e = true ∧ e.on = k) :
    ∀ (f : Nat) (listed : Array Bool) (a : Act) (w : World), listed.size = ops.size → wpAny P md ops' Q f listed a w → wpAny P md ops Q f listed a w := by
  have wanted : ∀ a : Act, Region.wanted oi (yielded ops a.tmps) = true := fun a => by simp [Region.wanted, hg]
  -- where i is not at hand, the same may come up
  have same : ∀ listed : Array Bool, listed.size = ops.size → i ∉ Region.ready md ops listed → ∀ k, k ∈ Region.ready md ops listed → k ∈ Region.ready md ops' listed := fun listed hsz hir k hk => by
    rw [moreEdge_ready h hb]
    refine ⟨hk, fun e => ?_⟩
    subst e
    cases hl : listed.getD i false with
    | true => rfl
    | false =>
      exfalso
      refine hir ?_
      have hil : i < listed.size := by rw [hsz]; exact (Array.getElem?_eq_some_iff.1 hi).1
      refine mem_ready.2 ⟨getD_in hil hl, oi, hi, fun e he hbe => ?_⟩
      obtain ⟨e', he', hb', ho⟩ := hdep e he hbe
      obtain ⟨_, o2, ho2, hall⟩ := mem_ready.1 hk
      rw [hj] at ho2; injection ho2 with ho2; subst ho2
      rw [← ho]
      exact hall e' he' hb'
  intro f
  induction f with
  | zero =>
    intro listed a w hsz H
    refine ⟨?_, H.2⟩
    by_cases hir : i ∈ Region.ready md ops listed
    · have : i ∈ Region.ready md ops' listed := (moreEdge_ready h hb).2 ⟨hir, fun e => absurd e hij⟩
      rw [H.1] at this; cases this
    · cases hr : Region.ready md ops listed with
      | nil => rfl
      | cons k l =>
        have := same listed hsz hir k (by rw [hr]; exact List.mem_cons_self ..)
        rw [H.1] at this; cases this
  | succ f ih =>
    intro listed a w hsz H
    by_cases hir : i ∈ Region.ready md ops listed
    · have hir' : i ∈ Region.ready md ops' listed := (moreEdge_ready h hb).2 ⟨hir, fun e => absurd e hij⟩
      have h1 := moreEdge_op h (H.2 i hir')
      unfold wpOp at h1
      simp only [hi, wanted a, if_true] at h1
      rcases h1 with h1 | ⟨h1, _⟩
      · obtain ⟨v, hy, hK⟩ := extract_run hop a w h1
        have h2 := ih _ _ _ (by simp [hsz]) hK
        exact wpAny_first hi hsel (hQ v) f listed a w (fun k ok hk hne hun he => (hfree k ok hk hne he).resolve_right fun ⟨e, he2, hbe, hke⟩ => by
          obtain ⟨_, o2, ho2, hall⟩ := mem_ready.1 hir
          rw [hi] at ho2; injection ho2 with ho2; subst ho2
          have := hall e he2 hbe
          rw [hke, getD_both hun] at this
          cases this) hir (Or.inl ⟨wanted a, hy⟩) h2
      · exact absurd h1 (extract_asks hop a w)
    · refine ⟨fun h0 => H.1 ?_, fun k hk => ?_⟩
      · cases hr : Region.ready md ops' listed with
        | nil => rfl
        | cons k l =>
          have : k ∈ Region.ready md ops' listed := by rw [hr]; exact List.mem_cons_self ..
          have := ((moreEdge_ready h hb).1 this).1
          rw [h0] at this; cases this
      · exact wpOp_mono (fun a' w' h' => ih _ _ _ (by simp [hsz]) h') (moreEdge_op h (H.2 k (same listed hsz hir k hk)))
end
/-- the check, by reckoning -/
def edgeB (l : List Oper) (i j : Nat) : Bool :=
  match l[i]?, l[j]? with
  | some oi, some oj => (match oi.op with | .extract .. => true | _ => false) && oi.guard.isNone && Region.noSelect l.toArray && i != j &&
      oi.after.all (fun e => !Region.binds .any e || oj.after.any fun e' => Region.binds .any e' && e'.on == e.on) &&
      (List.range l.length).all fun k => match l[k]? with
        | some ok => k == i || (ok.after.any fun e => Region.binds .any e && e.on == i) || oi.apart l.toArray ok || (oi.after.any fun e => Region.binds .any e && e.on == k)
        | none => true
  | _, _ => false
def withEdge (l : List Oper) (i j : Nat) : List Oper := l.modify j fun o => { o with after := o.after.push ⟨i, .data⟩ }
theorem wp_region_edge {P : Program} {id : Nat} {Q : Exit → Act → World → Prop} {a : Act} {w : World} {l : List Oper} (i j : Nat) (hm : P.follows .mixedOrders = true) (hB : edgeB l i j = true) (hQ : ∀ (o : Oper), l[i]? = some o → ∀ v c a w, Q (.panic c) (a.put o.dst v) w → Q (.panic c) a w)
    (l' : List Oper) (hl' : l' = withEdge l i j) (n : Nat) (S : World → Prop) (M : List Nat) (Φ : Nat → Value → World → World → Prop) (hup : ∀ w w', S w → Ext w w' → S w') (hs : S w) (hT : Region.lexTailB .any l'.toArray n = true)
    (h : mList P (DepOn .any l'.toArray) l'.toArray S M Φ (fun a' us => ∀ w', S w' → Above us w' → wpList P l'.toArray Q (l'.drop n) a' w') 0 (l'.take n) a Ups.none) : (Code.region id l.toArray true).wp P Q a w := by
  have hH := wpAny_mono_tail n S M Φ hup hs hm hT h
  refine wp_region_any hm ?_
  unfold edgeB at hB
  cases hi : l[i]? with
  | none => rw [hi] at hB; simp at hB
  | some oi =>
    cases hj : l[j]? with
    | none => rw [hi, hj] at hB; simp at hB
    | some oj =>
      rw [hi, hj] at hB
      simp only [Bool.and_eq_true, bne_iff_ne] at hB
      obtain ⟨⟨⟨⟨⟨h1, h2⟩, h3⟩, h4⟩, h5⟩, h6⟩ := hB
      obtain ⟨x, m, hop⟩ : ∃ x m, oi.op = .extract x m := by
        cases ho : oi.op <;> rw [ho] at h1 <;> first | exact ⟨_, _, rfl⟩ | cases h1
      have hsz : l'.toArray.size = l.toArray.size := by rw [hl']; simp [withEdge]
      have hme : moreEdge l.toArray l'.toArray i j := ⟨hsz, fun k => by
        rw [hl']
        simp only [withEdge, List.getElem?_toArray, List.getElem?_modify]
        by_cases e : j = k
        · simp [e]
        · simp [e, Ne.symm e]⟩
      have := wpAny_edge (P := P) (Q := Q) (md := .any) hme (by simpa using hi) (by simpa using hj) h4 hop (by simpa using h2) rfl (fun e he hbe => ?_) (Region.noSelect_spec h3) (hQ oi hi) (fun k ok hk hne hno => ?_) _ _ _ _ (by rw [Array.size_replicate]; exact hsz) hH
      · rw [hsz] at this; exact this
      · have := (Array.all_eq_true_iff_forall_mem.1 h5) e he
        simp only [hbe, Bool.not_true, Bool.false_or] at this
        obtain ⟨e', he', hb'⟩ := Array.any_eq_true'.1 this
        simp only [Bool.and_eq_true, beq_iff_eq] at hb'
        exact ⟨e', he', hb'.1, hb'.2⟩
      · have hk' : l[k]? = some ok := by simpa using hk
        have hlt : k < l.length := (List.getElem?_eq_some_iff.1 hk').1
        have := (List.all_eq_true.1 h6) k (List.mem_range.2 hlt)
        rw [hk'] at this
        simp only [Bool.or_eq_true, beq_iff_eq] at this
        rcases this with ((h7 | h7) | h7) | h7
        · exact absurd h7 hne
        · obtain ⟨e, he, hb'⟩ := Array.any_eq_true'.1 h7
          simp only [Bool.and_eq_true, beq_iff_eq] at hb'
          exact absurd hb'.2 (hno e he hb'.1)
        · exact Or.inl h7
        · obtain ⟨e, he, hb'⟩ := Array.any_eq_true'.1 h7
          simp only [Bool.and_eq_true, beq_iff_eq] at hb'
          exact Or.inr ⟨e, he, hb'.1, hb'.2⟩
end Go.Proofs.Ytkbbdlibamcilaa
