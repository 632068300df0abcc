/- A group of texts (GE), each with its own conditions: those of each lemma. -/
import Derived.Test.YtdpdcjadedcglaaGA
import Derived.StillTail
import Derived.Test.YtdpdcjadedcglaaGC
import Derived.Laws.Rows
set_option linter.unusedVariables false
set_option maxRecDepth 20000
set_option linter.unusedSimpArgs false
namespace Go.Proofs.Ytdpdcjadedcglaa
open Go.RowKit
/-- the operations that have made memory: the world ahead of each, and behind it -/
abbrev Ups := Nat → Option (World × World)
def Ups.none : Ups := fun _ => Option.none
def Ups.upd (us : Ups) (k : Nat) (p : World × World) : Ups := fun n => if n = k then some p else us n
/-- w' is w with new blocks -/
def Ext (w w' : World) : Prop := Below w.heap.size w w'
theorem Ext.refl (w : World) : Ext w w := Below.refl _ _
theorem Ext.trans {a b c : World} (h : Ext a b) (g : Ext b c) : Ext a c := Below.trans h (Below.mono g h.size)
theorem Ext.below {B : Nat} {a b : World} (h : Ext a b) (hB : B ≤ a.heap.size) : Below B a b := Below.mono h hB
/-- all of that memory is there -/
def Above (us : Ups) (w : World) : Prop := ∀ i p, us i = some p → Ext p.2 w
def Cap (S : World → Prop) (us : Ups) : Prop := ∃ w, S w ∧ Above us w
inductive DepOn (md : Region.Mode) (ops : Array Oper) : Nat → Nat → Prop
  | edge {k : Nat} {o : Oper} {e : Edge} : ops[k]? = some o → e ∈ o.after → Region.binds md e = true → DepOn md ops e.on k
  | step {i k : Nat} {o : Oper} {e : Edge} : ops[k]? = some o → e ∈ o.after → Region.binds md e = true → DepOn md ops i e.on → DepOn md ops i k
def depB (md : Region.Mode) (ops : Array Oper) : Nat → Nat → Nat → Bool
  | 0, _, _ => false
  | f + 1, i, k => match ops[k]? with
    | Option.none => false
    | some o => o.after.any fun e => Region.binds md e && (e.on == i || depB md ops f i e.on)
theorem depB_sound {md : Region.Mode} {ops : Array Oper} : ∀ {f i k : Nat}, depB md ops f i k = true → DepOn md ops i k
  | 0, _, _, h => by simp [depB] at h
  | f + 1, i, k, h => by
    unfold depB at h
    split at h
    · cases h
    · rename_i o ho
      obtain ⟨e, he, hb⟩ := Array.any_eq_true'.1 h
      simp only [Bool.and_eq_true, Bool.or_eq_true, beq_iff_eq] at hb
      rcases hb.2 with h1 | h1
      · rw [← h1]; exact .edge ho he hb.1
      · exact .step ho he hb.1 (depB_sound h1)
theorem DepOn.listed {md : Region.Mode} {ops : Array Oper} {listed : Array Bool} (hc : ∀ j oj, ops[j]? = some oj → listed.getD j false = true → ∀ e ∈ oj.after, Region.binds md e = true → listed.getD e.on false = true) {i k : Nat} (h : DepOn md ops i k) :
    (∃ o, ops[k]? = some o ∧ ∀ e ∈ o.after, Region.binds md e = true → listed.getD e.on false = true) → listed.getD i false = true := by
  induction h with
  | edge ho he hb =>
    rintro ⟨o', ho', h⟩
    rw [ho] at ho'; injection ho' with ho'; subst ho'
    exact h _ he hb
  | step ho he hb h1 ih =>
    rintro ⟨o', ho', h⟩
    rw [ho] at ho'; injection ho' with ho'; subst ho'
    have hl := h _ he hb
    rename_i i k o e
    refine ih ?_
    cases hx : ops[e.on]? with
    | none => cases h1 with
      | edge h2 _ _ => rw [hx] at h2; cases h2
      | step h2 _ _ _ => rw [hx] at h2; cases h2
    | some ox => exact ⟨ox, rfl, hc _ _ hx hl⟩
/-- what an operation does: its value, and the world behind it -/
def doesUpon (P : Program) (R : Value → World → Prop) : Result Next → Prop
  | .ok (.value v) w' => R v w'
  | .ok .skip w' => R undef w'
  | .ok (.enter f args) w' => Calls P f args w' fun e w'' => ∃ v, e = .returned v ∧ R v w''
  | _ => False
def does (P : Program) (o : Oper) (a : Act) (w : World) (R : Value → World → Prop) : Prop := doesUpon P R ((execOp a.eval o).run P w)
theorem doesUpon_mono {P : Program} {R R' : Value → World → Prop} (h : ∀ v w, R v w → R' v w) {r : Result Next} (hh : doesUpon P R r) : doesUpon P R' r := by
  cases r with
  | ok n w' =>
    cases n <;> simp only [doesUpon] at hh ⊢ <;> first | exact h _ _ hh | exact Calls.mono hh (fun e w'' ⟨v, he, hr⟩ => ⟨v, he, h _ _ hr⟩)
  | halt x w' => cases x <;> simp only [doesUpon] at hh
theorem doesUpon_exists {P : Program} {R : Value → World → Prop} {r : Result Next} (hh : doesUpon P R r) : ∃ v w, R v w := by
  cases r with
  | ok n w' =>
    cases n <;> simp only [doesUpon] at hh
    case value v => exact ⟨_, _, hh⟩
    case skip => exact ⟨_, _, hh⟩
    case enter f args =>
      obtain ⟨e, w', fr, ⟨v, _, hr⟩, _⟩ := hh []
      exact ⟨v, w', hr⟩
  | halt x w' => cases x <;> simp only [doesUpon] at hh
theorem wp_of_does {P : Program} {o : Oper} {a : Act} {w : World} {R : Value → World → Prop} {K : Act → World → Prop} {Q : Exit → Act → World → Prop} (h : ∀ v w', R v w' → K (a.put o.dst v) w') (hh : does P o a w R) : o.wp P a w K Q := by
  unfold does at hh
  unfold Oper.wp
  generalize (execOp a.eval o).run P w = r at *
  cases r with
  | ok n w' =>
    cases n <;> simp only [doesUpon] at hh <;> simp only [Oper.upon]
    case value v => exact h _ _ hh
    case skip => exact h _ _ hh
    case enter f args => exact hh.mono fun e w'' ⟨v, he, hr⟩ => by subst he; exact h _ _ hr
  | halt x w' => cases x <;> simp only [doesUpon] at hh
section
variable {P : Program} {md : Region.Mode} {ops : Array Oper} {S : World → Prop} {Φ : Nat → Value → World → World → Prop} {M : List Nat} {D : Nat → Nat → Prop}
/-- an operation that yields one value in every world of the region, or is not wanted -/
def PlainAt (P : Program) (ops : Array Oper) (S : World → Prop) (o : Oper) (v : Value) (a : Act) : Prop :=
  (Region.wanted o (yielded ops a.tmps) = true ∧ ∀ w, S w → (execOp a.eval o).run P w = .ok (.value v) w) ∨ (Region.wanted o (yielded ops a.tmps) = false ∧ v = undef)
/-- an operation that makes memory, and what is known of it -/
def MakesAt (P : Program) (D : Nat → Nat → Prop) (ops : Array Oper) (S : World → Prop) (Φ : Nat → Value → World → World → Prop) (o : Oper) (j : Nat) (a : Act) (us : Ups) : Prop :=
  Region.wanted o (yielded ops a.tmps) = true ∧ ∀ w, S w → (∀ i p, us i = some p → D i j → Ext p.2 w) → does P o a w fun v w' => Ext w w' ∧ Φ j v w w'
structure Good (D : Nat → Nat → Prop) (S : World → Prop) (Φ : Nat → Value → World → World → Prop) (us : Ups) (j : Nat) (v : Value) (w w' : World) : Prop where
  s : S w
  s' : S w'
  dep : ∀ i p, us i = some p → D i j → Ext p.2 w
  order : ∀ i p, us i = some p → Ext p.2 w ∨ Ext w' p.1
  ext : Ext w w'
  fact : Φ j v w w'
  cap : Cap S (us.upd j (w, w'))
def mOp (P : Program) (D : Nat → Nat → Prop) (ops : Array Oper) (S : World → Prop) (M : List Nat) (Φ : Nat → Value → World → World → Prop) (j : Nat) (K : Act → Ups → Prop) (a : Act) (us : Ups) : Prop :=
  ∃ o, ops[j]? = some o ∧ ((M.contains j = false ∧ ∃ v, PlainAt P ops S o v a ∧ K (a.put o.dst v) us) ∨ (M.contains j = true ∧ MakesAt P D ops S Φ o j a us ∧ ∀ v w w', Good D S Φ us j v w w' → K (a.put o.dst v) (us.upd j (w, w'))))
theorem mOp_mono {j : Nat} {K K' : Act → Ups → Prop} {a : Act} {us : Ups} (hcap : Cap S us) (h : ∀ a us, Cap S us → K a us → K' a us) (hh : mOp P D ops S M Φ j K a us) : mOp P D ops S M Φ j K' a us := by
  obtain ⟨o, ho, ⟨m, v, h1, h2⟩ | ⟨m, h1, h2⟩⟩ := hh
  · exact ⟨o, ho, .inl ⟨m, v, h1, h _ _ hcap h2⟩⟩
  · exact ⟨o, ho, .inr ⟨m, h1, fun v w w' hg => h _ _ hg.cap (h2 v w w' hg)⟩⟩
theorem above_upd {us : Ups} {j : Nat} {p : World × World} {w : World} (h : Above us w) (hp : Ext p.2 w) : Above (us.upd j p) w := fun i q hq => by
  unfold Ups.upd at hq
  split at hq
  · injection hq with hq; subst hq; exact hp
  · exact h i q hq
theorem upd_lookup {us : Ups} {j i : Nat} {p q : World × World} (h : us.upd j p i = some q) : (i = j ∧ p = q) ∨ (i ≠ j ∧ us i = some q) := by
  unfold Ups.upd at h
  split at h
  · injection h with h; exact .inl ⟨‹_›, h⟩
  · exact .inr ⟨‹_›, h⟩
/-- Whatever the operation does, the way goes on from somewhere. -/
theorem good_exists {o : Oper} {j : Nat} {a : Act} {us : Ups} (hup : ∀ w w', S w → Ext w w' → S w') (hcap : Cap S us) (h : MakesAt P D ops S Φ o j a us) : ∃ v w w', Good D S Φ us j v w w' := by
  obtain ⟨w, hs, ha⟩ := hcap
  obtain ⟨v, w', he, hf⟩ := doesUpon_exists (h.2 w hs fun i p hi _ => ha i p hi)
  have ha' : Above us w' := fun i p hi => (ha i p hi).trans he
  exact ⟨v, w, w', hs, hup _ _ hs he, fun i p hi _ => ha i p hi, fun i p hi => .inl (ha i p hi), he, hf, w', hup _ _ hs he, above_upd ha' (Ext.refl _)⟩
theorem mOp_exists {j : Nat} {K : Act → Ups → Prop} {a : Act} {us : Ups} (hup : ∀ w w', S w → Ext w w' → S w') (hcap : Cap S us) (h : mOp P D ops S M Φ j K a us) : ∃ a' us', K a' us' := by
  obtain ⟨o, ho, ⟨m, v, h1, h2⟩ | ⟨m, h1, h2⟩⟩ := h
  · exact ⟨_, _, h2⟩
  · obtain ⟨v, w, w', hg⟩ := good_exists hup hcap h1
    exact ⟨_, _, h2 v w w' hg⟩
theorem does_same {o : Oper} {a a' : Act} {w : World} {R : Value → World → Prop} (he : execOp a'.eval o = execOp a.eval o) (h : does P o a w R) : does P o a' w R := by
  unfold does at *; rw [he]; exact h
theorem PlainAt.same {o : Oper} {a a' : Act} {v : Value} (he : execOp a'.eval o = execOp a.eval o) (hw : Region.wanted o (yielded ops a'.tmps) = Region.wanted o (yielded ops a.tmps)) (h : PlainAt P ops S o v a) : PlainAt P ops S o v a' := by
  unfold PlainAt at *; rw [he, hw]; exact h
theorem MakesAt.same {o : Oper} {j : Nat} {a a' : Act} {us : Ups} (he : execOp a'.eval o = execOp a.eval o) (hw : Region.wanted o (yielded ops a'.tmps) = Region.wanted o (yielded ops a.tmps)) (h : MakesAt P D ops S Φ o j a us) : MakesAt P D ops S Φ o j a' us :=
  ⟨hw.trans h.1, fun w hs hd => does_same he (h.2 w hs hd)⟩
/-- i ahead of j, so j ahead of i -/
theorem mOp_swap {i j : Nat} {oi oj : Oper} (hi : ops[i]? = some oi) (hj : ops[j]? = some oj) (hij : i ≠ j) (hap : oi.apart ops oj = true)
    (hsi : ∀ cs b, oi.op ≠ .select cs b) (hsj : ∀ cs b, oj.op ≠ .select cs b) (hup : ∀ w w', S w → Ext w w' → S w') (hnd : ¬ D i j) {K : Act → Ups → Prop} {a : Act} {us : Ups} (hcap : Cap S us) (hjn : us j = none)
    (h : mOp P D ops S M Φ i (fun a us => mOp P D ops S M Φ j K a us) a us) : mOp P D ops S M Φ j (fun a us => mOp P D ops S M Φ i K a us) a us := by
  obtain ⟨h1, h2, h3⟩ := Oper.apart_spec hap
  have ei : ∀ (a : Act) u, execOp (a.put oj.dst u).eval oi = execOp a.eval oi := fun a u => execOp_put oi hsi a oj.dst u h3
  have wi : ∀ (a : Act) u, Region.wanted oi (yielded ops (a.put oj.dst u).tmps) = Region.wanted oi (yielded ops a.tmps) := fun a u => wanted_put oi a oj.dst u h3
  have ej : ∀ (a : Act) u, execOp (a.put oi.dst u).eval oj = execOp a.eval oj := fun a u => execOp_put oj hsj a oi.dst u h1
  have wj : ∀ (a : Act) u, Region.wanted oj (yielded ops (a.put oi.dst u).tmps) = Region.wanted oj (yielded ops a.tmps) := fun a u => wanted_put oj a oi.dst u h1
  have hc : ∀ (a : Act) v u, (a.put oi.dst v).put oj.dst u = (a.put oj.dst u).put oi.dst v := fun a v u => Act.put_comm a v u h2
  have hu : ∀ (us : Ups) p q, (us.upd i p).upd j q = (us.upd j q).upd i p := fun us p q => by
    funext n; unfold Ups.upd; by_cases e1 : n = i <;> by_cases e2 : n = j <;> simp [e1, e2]
    · exact absurd (e1.symm.trans e2) hij
    · intro e; exact absurd e hij
    · intro e; exact absurd e.symm hij
  have backJ : ∀ {v us}, MakesAt P D ops S Φ oj j (a.put oi.dst v) us → MakesAt P D ops S Φ oj j a us := fun h => h.same (ej a _).symm (wj a _).symm
  obtain ⟨o1, ho1, hI⟩ := h
  rw [hi] at ho1; injection ho1 with ho1; subst ho1
  rcases hI with ⟨mi, v, p1, k1⟩ | ⟨mi, p1, k1⟩
  · obtain ⟨o2, ho2, hJ⟩ := k1
    rw [hj] at ho2; injection ho2 with ho2; subst ho2
    rcases hJ with ⟨mj, u, p2, k2⟩ | ⟨mj, p2, k2⟩
    · exact ⟨_, hj, .inl ⟨mj, u, p2.same (ej a v).symm (wj a v).symm, _, hi, .inl ⟨mi, v, p1.same (ei a u) (wi a u), by rw [← hc]; exact k2⟩⟩⟩
    · refine ⟨_, hj, .inr ⟨mj, backJ p2, fun u w w' hg => ⟨_, hi, .inl ⟨mi, v, p1.same (ei a u) (wi a u), ?_⟩⟩⟩⟩
      rw [← hc]; exact k2 u w w' hg
  · -- i makes memory
    obtain ⟨v0, w0, w0', g0⟩ := good_exists hup hcap p1
    obtain ⟨o2, ho2, hJ⟩ := k1 v0 w0 w0' g0
    rw [hj] at ho2; injection ho2 with ho2; subst ho2
    have lower : ∀ {us' : Ups} {p : World × World} {k : Nat}, us' k = none → Cap S (us'.upd k p) → Cap S us' := fun hk ⟨w, s, ha⟩ => ⟨w, s, fun i' q hq => ha i' q (by
      unfold Ups.upd; rw [if_neg]; exact hq
      intro e; subst e; rw [hk] at hq; cases hq)⟩
    rcases hJ with ⟨mj, u, p2, _⟩ | ⟨mj, p2, _⟩
    · refine ⟨_, hj, .inl ⟨mj, u, p2.same (ej a v0).symm (wj a v0).symm, _, hi, .inr ⟨mi, p1.same (ei a u) (wi a u), fun v w w' hg => ?_⟩⟩⟩
      obtain ⟨o3, ho3, hJ3⟩ := k1 v w w' hg
      rw [hj] at ho3; injection ho3 with ho3; subst ho3
      have pj : PlainAt P ops S oj u a := p2.same (ej a v0).symm (wj a v0).symm
      rcases hJ3 with ⟨_, u3, p3, k3⟩ | ⟨mj3, _⟩
      · have p3' : PlainAt P ops S oj u3 a := p3.same (ej a v).symm (wj a v).symm
        have e : u3 = u := by
          rcases pj with ⟨g1, g2⟩ | ⟨g1, g2⟩ <;> rcases p3' with ⟨f1, f2⟩ | ⟨f1, f2⟩
          · have := (f2 w hg.s).symm.trans (g2 w hg.s)
            injection this with this; injection this
          · rw [g1] at f1; cases f1
          · rw [g1] at f1; cases f1
          · rw [g2, f2]
        subst e
        rw [← hc]; exact k3
      · rw [mj] at mj3; cases mj3
    · have p2' : MakesAt P D ops S Φ oj j a us := ⟨(backJ p2).1, fun w hs hd => (backJ p2).2 w hs fun i' q hq hdep => by
        rcases upd_lookup hq with ⟨e, _⟩ | ⟨_, e⟩
        · rw [e] at hdep; exact absurd hdep hnd
        · exact hd i' q e hdep⟩
      have keepI : ∀ (q : World × World) (u : Value), MakesAt P D ops S Φ oi i (a.put oj.dst u) (us.upd j q) := fun q u =>
        ⟨(wi a u).trans p1.1, fun w hs hd => does_same (ei a u) (p1.2 w hs fun i' p hp hdep => hd i' p (by
          unfold Ups.upd; rw [if_neg]; exact hp
          intro e; subst e; rw [hjn] at hp; cases hp) hdep)⟩
      refine ⟨_, hj, .inr ⟨mj, p2', fun u wj wj' gj => ⟨_, hi, .inr ⟨mi, keepI _ u, fun v w w' hg => ?_⟩⟩⟩⟩
      have old : ∀ {i' : Nat} {p : World × World}, us i' = some p → (us.upd j (wj, wj')) i' = some p := fun {i' p} hp => by
        unfold Ups.upd; rw [if_neg]; exact hp
        intro e; subst e; rw [hjn] at hp; cases hp
      have hcap' : Cap S ((us.upd i (w, w')).upd j (wj, wj')) := by rw [hu]; exact hg.cap
      have gi : Good D S Φ us i v w w' := ⟨hg.s, hg.s', fun i' p hp hd => hg.dep i' p (old hp) hd, fun i' p hp => hg.order i' p (old hp), hg.ext, hg.fact, lower (by unfold Ups.upd; rw [if_neg (Ne.symm hij)]; exact hjn) hcap'⟩
      obtain ⟨o3, ho3, hJ3⟩ := k1 v w w' gi
      rw [hj] at ho3; injection ho3 with ho3; subst ho3
      rcases hJ3 with ⟨mj3, _⟩ | ⟨_, p3, k3⟩
      · rw [mj] at mj3; cases mj3
      · rw [← hc, ← hu]
        refine k3 u wj wj' ⟨gj.s, gj.s', fun i' q hq hdep => ?_, fun i' q hq => ?_, gj.ext, gj.fact, hcap'⟩
        · rcases upd_lookup hq with ⟨e, _⟩ | ⟨_, e⟩
          · rw [e] at hdep; exact absurd hdep hnd
          · exact gj.dep i' q e hdep
        · rcases upd_lookup hq with ⟨e, e2⟩ | ⟨_, e⟩
          · subst e2
            rcases hg.order j (wj, wj') (by simp [Ups.upd]) with h | h
            · exact .inr h
            · exact .inl h
          · exact gj.order i' q e
/-- whatever order is picked, till the tail is left -/
def mAny (P : Program) (D : Nat → Nat → Prop) (md : Region.Mode) (ops : Array Oper) (S : World → Prop) (M : List Nat) (Φ : Nat → Value → World → World → Prop) (n : Nat) (L : Array Bool → Act → Ups → Prop) : Nat → Array Bool → Act → Ups → Prop
  | 0, listed, a, us => L listed a us
  | f + 1, listed, a, us => Region.ready md ops listed ≠ [] ∧ ∀ i ∈ Region.ready md ops listed, i < n ∧ mOp P D ops S M Φ i (mAny P D md ops S M Φ n L f (listed.setIfInBounds i true)) a us
theorem wpAny_of_mAny {n g : Nat} {L : Array Bool → Act → Ups → Prop} {Q' : Exit → Act → World → Prop} (hup : ∀ w w', S w → Ext w w' → S w') (hL : ∀ listed a us w, L listed a us → S w → Above us w → wpAny P md ops Q' g listed a w) :
    ∀ (f : Nat) (listed : Array Bool) (a : Act) (us : Ups) (w : World), mAny P D md ops S M Φ n L f listed a us → S w → Above us w → wpAny P md ops Q' (f + g) listed a w
  | 0, listed, a, us, w, h, hs, ha => by rw [Nat.zero_add]; exact hL _ _ _ _ h hs ha
  | f + 1, listed, a, us, w, h, hs, ha => by
    rw [show f + 1 + g = (f + g) + 1 by omega]
    refine ⟨fun h0 => absurd h0 h.1, fun i hi => ?_⟩
    obtain ⟨o, ho, ⟨_, v, h1, h2⟩ | ⟨_, h1, h2⟩⟩ := (h.2 i hi).2
    · have h3 := wpAny_of_mAny hup hL f _ _ _ w h2 hs ha
      unfold wpOp
      simp only [ho]
      rcases h1 with ⟨g1, g2⟩ | ⟨g1, g2⟩
      · rw [if_pos g1]
        refine .inl ?_
        simp only [Oper.wp, g2 w hs, Oper.upon]
        exact h3
      · rw [if_neg (by simp [g1]), ← g2]; exact h3
    · unfold wpOp
      simp only [ho]
      rw [if_pos h1.1]
      refine .inl (wp_of_does (fun v w' hr => ?_) (h1.2 w hs fun i' p hp _ => ha i' p hp))
      have hs' := hup _ _ hs hr.1
      have ha' : Above (us.upd i (w, w')) w' := above_upd (fun i' p hp => (ha i' p hp).trans hr.1) (Ext.refl _)
      exact wpAny_of_mAny hup hL f _ _ _ w' (h2 v w w' ⟨hs, hs', fun i' p hp _ => ha i' p hp, fun i' p hp => .inl (ha i' p hp), hr.1, hr.2, w', hs', ha'⟩) hs' ha'
theorem mAny_first {n i : Nat} {oi : Oper} {L : Array Bool → Act → Ups → Prop} (hi : ops[i]? = some oi) (hsel : ∀ (j : Nat) (o : Oper) cs b, ops[j]? = some o → o.op ≠ .select cs b) (hup : ∀ w w', S w → Ext w w' → S w')
    (hlow : ∀ listed, HeadInv md ops n listed → i ∈ Region.ready md ops listed → ∀ j ∈ Region.ready md ops listed, j < n) (hin : i < n)
    (hdone : ∀ listed a us, L listed a us → ∀ j ∈ Region.ready md ops listed, n ≤ j) (hD : ∀ i j, D i j → DepOn md ops i j) :
    ∀ (f : Nat) (listed : Array Bool) (a : Act) (us : Ups), HeadInv md ops n listed → (∀ k, listed.getD k true = false → us k = none) → Cap S us →
      (∀ j oj, ops[j]? = some oj → j ≠ i → listed.getD j true = false → (∀ e ∈ oj.after, Region.binds md e = true → e.on ≠ i) → oi.apart ops oj = true) →
      i ∈ Region.ready md ops listed → mOp P D ops S M Φ i (mAny P D md ops S M Φ n L f (listed.setIfInBounds i true)) a us → mAny P D md ops S M Φ n L (f + 1) listed a us := by
  intro f
  induction f with
  | zero =>
    intro listed a us inv hus hcap _ hr H
    refine ⟨fun h => (by rw [h] at hr; cases hr), fun j hj => ⟨hlow listed inv hr j hj, ?_⟩⟩
    by_cases hji : j = i
    · subst hji; exact H
    · obtain ⟨a', us', hl⟩ := mOp_exists hup hcap H
      have := hdone _ _ _ hl j (ready_mono hj hji)
      have := hlow listed inv hr j hj
      omega
  | succ f ih =>
    intro listed a us inv hus hcap hfree hr H
    refine ⟨fun h => (by rw [h] at hr; cases hr), fun j hj => ⟨hlow listed inv hr j hj, ?_⟩⟩
    by_cases hji : j = i
    · subst hji; exact H
    · have hjn := hlow listed inv hr j hj
      obtain ⟨hjun, oj, hoj, hall⟩ := mem_ready.1 hj
      have hiun := (mem_ready.1 hr).1
      have hnot : ∀ e ∈ oj.after, Region.binds md e = true → e.on ≠ i := fun e he hb heq => by
        have h1 := hall e he hb
        rw [heq, getD_both hiun] at h1
        cases h1
      have hnd : ¬ D i j := fun hd => by
        have := (hD i j hd).listed inv.closed ⟨oj, hoj, hall⟩
        rw [getD_both hiun] at this
        cases this
      have h1 : mOp P D ops S M Φ i (fun a us => mOp P D ops S M Φ j (mAny P D md ops S M Φ n L f ((listed.setIfInBounds i true).setIfInBounds j true)) a us) a us :=
        mOp_mono hcap (fun a us _ h => (h.2 j (ready_mono hj hji)).2) H
      have h2 := mOp_swap hi hoj (Ne.symm hji) (hfree j oj hoj hji hjun hnot) (fun cs b => hsel i oi cs b hi) (fun cs b => hsel j oj cs b hoj) hup hnd hcap (hus j hjun) h1
      have hfree' : ∀ k ok, ops[k]? = some ok → k ≠ i → (listed.setIfInBounds j true).getD k true = false →
          (∀ e ∈ ok.after, Region.binds md e = true → e.on ≠ i) → oi.apart ops ok = true := fun k ok hk hki hun hno => by
        refine hfree k ok hk hki ?_ hno
        by_cases hjk : j = k
        · subst hjk; exact hjun
        · rw [getD_set_ne true hjk] at hun; exact hun
      have husj : ∀ (us' : Ups), (us' = us ∨ ∃ p, us' = us.upd j p) → ∀ k, (listed.setIfInBounds j true).getD k true = false → us' k = none := fun us' hu k hk => by
        have hkj : k ≠ j := fun e => by
          subst e
          have hlt : k < listed.size := by
            rcases Nat.lt_or_ge k listed.size with h' | h'
            · exact h'
            · simp [Array.getElem?_eq_none h'] at hjun
          simp [hlt] at hk
        have hk' := hus k (by rw [getD_set_ne true (Ne.symm hkj)] at hk; exact hk)
        rcases hu with rfl | ⟨p, rfl⟩
        · exact hk'
        · unfold Ups.upd; rw [if_neg hkj]; exact hk'
      obtain ⟨o, ho, ⟨m, v, g1, g2⟩ | ⟨m, g1, g2⟩⟩ := h2
      · refine ⟨o, ho, .inl ⟨m, v, g1, ih (listed.setIfInBounds j true) _ us (inv.set hj hjn) (husj us (.inl rfl)) hcap hfree' (ready_mono hr (Ne.symm hji)) ?_⟩⟩
        rw [Array.setIfInBounds_comm _ _ hji]; exact g2
      · refine ⟨o, ho, .inr ⟨m, g1, fun v w w' hg => ih (listed.setIfInBounds j true) _ _ (inv.set hj hjn) (husj _ (.inr ⟨_, rfl⟩)) hg.cap hfree' (ready_mono hr (Ne.symm hji)) ?_⟩⟩
        rw [Array.setIfInBounds_comm _ _ hji]; exact g2 v w w' hg
/-- the walk in the order of the text -/
def mList (P : Program) (D : Nat → Nat → Prop) (ops : Array Oper) (S : World → Prop) (M : List Nat) (Φ : Nat → Value → World → World → Prop) (L : Act → Ups → Prop) : Nat → List Oper → Act → Ups → Prop
  | _, [], a, us => L a us
  | k, o :: rest, a, us => (M.contains k = false ∧ ∃ v, PlainAt P ops S o v a ∧ mList P D ops S M Φ L (k + 1) rest (a.put o.dst v) us) ∨
      (M.contains k = true ∧ MakesAt P D ops S Φ o k a us ∧ ∀ v w w', Good D S Φ us k v w w' → mList P D ops S M Φ L (k + 1) rest (a.put o.dst v) (us.upd k (w, w')))
theorem mAny_lex {n : Nat} {L : Act → Ups → Prop} {T : Array Bool → Prop} (hsel : Region.noSelect ops = true) (hup : ∀ w w', S w → Ext w w' → S w') {F : Nat → Nat → Array Bool → Bool}
    (F0 : ∀ listed, F 0 n listed = true → T listed) (F1 : ∀ f k listed, F (f + 1) k listed = true → (k ∈ Region.ready md ops listed ∧ Region.free md ops listed k = true) ∧ F f (k + 1) (listed.setIfInBounds k true) = true)
    (hlow : ∀ i listed, i < n → HeadInv md ops n listed → i ∈ Region.ready md ops listed → ∀ j ∈ Region.ready md ops listed, j < n)
    (hdone : ∀ listed, T listed → ∀ j ∈ Region.ready md ops listed, n ≤ j) (hD : ∀ i j, D i j → DepOn md ops i j) :
    ∀ (l : List Oper) (k : Nat) (listed : Array Bool) (a : Act) (us : Ups), (∀ j, j < l.length → l[j]? = ops[k + j]?) → k + l.length = n → HeadInv md ops n listed → (∀ j, listed.getD j true = false → us j = none) → Cap S us →
    F l.length k listed = true → mList P D ops S M Φ L k l a us → mAny P D md ops S M Φ n (fun listed' a' us' => T listed' ∧ L a' us') l.length listed a us
  | [], k, listed, a, us, hl, hk, inv, hus, hcap, hB, h => by
    have : k = n := by simpa using hk
    subst this
    exact ⟨F0 _ hB, h⟩
  | o :: l, k, listed, a, us, hl, hk, inv, hus, hcap, hB, h => by
    have h0 : ops[k]? = some o := by simpa using (hl 0 (by simp)).symm
    simp only [List.length_cons] at hB hk
    obtain ⟨⟨hr, hf⟩, hB'⟩ := F1 _ _ _ hB
    have hkn : k < n := by omega
    have hun := (mem_ready.1 hr).1
    have husk : ∀ (us' : Ups), (us' = us ∨ ∃ p, us' = us.upd k p) → ∀ j, (listed.setIfInBounds k true).getD j true = false → us' j = none := fun us' hu j hj => by
      have hkj : j ≠ k := fun e => by
        subst e
        have hlt : j < listed.size := by
          rcases Nat.lt_or_ge j listed.size with h' | h'
          · exact h'
          · simp [Array.getElem?_eq_none h'] at hun
        simp [hlt] at hj
      have hk' := hus j (by rw [getD_set_ne true (Ne.symm hkj)] at hj; exact hj)
      rcases hu with rfl | ⟨p, rfl⟩
      · exact hk'
      · unfold Ups.upd; rw [if_neg hkj]; exact hk'
    refine mAny_first h0 (Region.noSelect_spec hsel) hup (fun listed inv hi => hlow k listed hkn inv hi) hkn (fun listed' a' us' hL => hdone _ hL.1) hD l.length listed a us inv hus hcap (Region.free_spec h0 hf) hr ?_
    have next : ∀ a' us', (us' = us ∨ ∃ p, us' = us.upd k p) → Cap S us' → mList P D ops S M Φ L (k + 1) l a' us' → mAny P D md ops S M Φ n (fun listed' a' us' => T listed' ∧ L a' us') l.length (listed.setIfInBounds k true) a' us' := fun a' us' hu hc hh =>
      mAny_lex hsel hup F0 F1 hlow hdone hD l (k + 1) _ a' us' (fun j hj => by have := hl (j + 1) (by simp; omega); simpa [Nat.add_assoc, Nat.add_comm 1 j] using this) (by omega) (inv.set hr hkn) (husk us' hu) hc hB' hh
    rcases h with ⟨m, v, h1, h2⟩ | ⟨m, h1, h2⟩
    · exact ⟨o, h0, .inl ⟨m, v, h1, next _ _ (.inl rfl) hcap h2⟩⟩
    · exact ⟨o, h0, .inr ⟨m, h1, fun v w w' hg => next _ _ (.inr ⟨_, rfl⟩) hg.cap (h2 v w w' hg)⟩⟩
end
theorem inv0 {md : Region.Mode} {l : List Oper} {n : Nat} : HeadInv md l.toArray n (Array.replicate l.toArray.size false) :=
  ⟨by simp, fun j oj _ hl => (by rw [getD_replicate_false] at hl; cases hl), fun t _ ht => getD_in (by simpa using ht) (getD_replicate_false _ _)⟩
theorem ext_drawn (w : World) : Ext w w.drew := ⟨rfl, rfl, rfl, Nat.le_refl _, fun _ _ => rfl⟩
/-- A region of such operations alone. -/
theorem wp_region_mono {P : Program} {id : Nat} {Q : Exit → Act → World → Prop} {a : Act} {w : World} {l : List Oper} (S : World → Prop) (M : List Nat) (Φ : Nat → Value → World → World → Prop) (hup : ∀ w w', S w → Ext w w' → S w') (hs : S w)
    (hm : P.follows .mixedOrders = true) (hB : Region.lexB .any l.toArray = true)
    (h : mList P (DepOn .any l.toArray) l.toArray S M Φ (fun a' us => ∀ w', S w' → Above us w' → Q .normal a' w') 0 l a Ups.none) : (Code.region id l.toArray true).wp P Q a w := by
  simp only [Region.lexB, Bool.and_eq_true] at hB
  have hs' : S w.drew := hup _ _ hs (ext_drawn w)
  refine wp_region_any hm ?_
  have H := mAny_lex (n := l.toArray.size) (T := fun listed => Region.ready .any l.toArray listed = []) hB.1 hup (F := Region.lexFrom .any l.toArray) (fun listed h => by simpa [Region.lexFrom] using h)
    (fun f k listed h => by simp only [Region.lexFrom, Bool.and_eq_true] at h; exact ⟨⟨by simpa using h.1.1, h.1.2⟩, h.2⟩)
    (fun i listed hi inv hr j hj => by obtain ⟨_, o, ho, _⟩ := mem_ready.1 hj; exact (Array.getElem?_eq_some_iff.1 ho).1)
    (fun listed hT j hj => by rw [hT] at hj; cases hj) (fun _ _ h => h) l 0 _ a Ups.none (fun j hj => by simp) (by simp) inv0 (fun j _ => rfl) ⟨w.drew, hs', fun i p hp => by cases hp⟩ (by simpa using hB.2) h
  have := wpAny_of_mAny (Q' := Q) (g := 0) hup (fun listed a' us w' hL hs ha => (⟨hL.1, hL.2 w' hs ha⟩ : wpAny P .any l.toArray Q 0 listed a' w')) _ _ _ _ w.drew H hs' (fun i p hp => by cases hp)
  simpa using this
/-- A region of such operations ahead of a tail that comes in order. -/
theorem wpAny_mono_tail {P : Program} {Q : Exit → Act → World → Prop} {a : Act} {w : World} {l : List Oper} (n : Nat) (S : World → Prop) (M : List Nat) (Φ : Nat → Value → World → World → Prop) (hup : ∀ w w', S w → Ext w w' → S w') (hs : S w)
    (hm : P.follows .mixedOrders = true) (hB : Region.lexTailB .any l.toArray n = true)
    (h : mList P (DepOn .any l.toArray) l.toArray S M Φ (fun a' us => ∀ w', S w' → Above us w' → wpList P l.toArray Q (l.drop n) a' w') 0 (l.take n) a Ups.none) : wpAny P .any l.toArray Q l.toArray.size (Array.replicate l.toArray.size false) a w.drew := by
  simp only [Region.lexTailB, Bool.and_eq_true, decide_eq_true_eq] at hB
  obtain ⟨⟨⟨⟨hsel, hn⟩, hsk⟩, hc⟩, hlex⟩ := hB
  have hn' : n < l.length := by simpa using hn
  have htl : (l.take n).length = n := by simp; omega
  have hdl : (l.drop n).length = l.toArray.size - n := by simp
  have hs' : S w.drew := hup _ _ hs (ext_drawn w)
  have H := mAny_lex (n := n) (T := fun listed => Region.seqB .any l.toArray (l.toArray.size - n) n listed = true) hsel hup (F := Region.lexHead .any l.toArray (l.toArray.size - n)) (fun listed h => by simpa [Region.lexHead] using h)
    (fun f k listed h => by simp only [Region.lexHead, Bool.and_eq_true] at h; exact ⟨⟨by simpa using h.1.1, h.1.2⟩, h.2⟩)
    (fun i listed hi inv hr j hj => by
      rcases Nat.lt_or_ge j n with h | h
      · exact h
      · exact absurd hj (tail_waits hsk hc hn inv _ i rfl hi (mem_ready.1 hr).1 j h))
    (fun listed hT j hj => seqB_ready hT j hj) (fun _ _ h => h) (l.take n) 0 _ a Ups.none (fun j hj => by
      have hj' : j < n := by rw [htl] at hj; exact hj
      simp [hj']) (by simpa using htl) inv0 (fun j _ => rfl) ⟨w.drew, hs', fun i p hp => by cases hp⟩ (by rw [htl]; exact hlex) h
  have := wpAny_of_mAny (Q' := Q) (g := l.toArray.size - n) hup (fun listed a' us w' hL hs ha => by
    have := wpAny_of_seq (md := .any) (Q' := Q) (l.drop n) n listed a' w' (fun j => by simp [List.getElem?_drop]) (by rw [hdl]; exact hL.1) (hL.2 w' hs ha)
    rwa [hdl] at this) _ _ _ _ w.drew H hs' (fun i p hp => by cases hp)
  rw [htl, show n + (l.toArray.size - n) = l.toArray.size by omega] at this
  exact this
theorem wp_region_mono_tail {P : Program} {id : Nat} {Q : Exit → Act → World → Prop} {a : Act} {w : World} {l : List Oper} (n : Nat) (S : World → Prop) (M : List Nat) (Φ : Nat → Value → World → World → Prop) (hup : ∀ w w', S w → Ext w w' → S w') (hs : S w)
    (hm : P.follows .mixedOrders = true) (hB : Region.lexTailB .any l.toArray n = true)
    (h : mList P (DepOn .any l.toArray) l.toArray S M Φ (fun a' us => ∀ w', S w' → Above us w' → wpList P l.toArray Q (l.drop n) a' w') 0 (l.take n) a Ups.none) : (Code.region id l.toArray true).wp P Q a w :=
  wp_region_any hm (wpAny_mono_tail n S M Φ hup hs hm hB h)

theorem wpList_of_mList {P : Program} {ops : Array Oper} {S : World → Prop} {M : List Nat} {Φ : Nat → Value → World → World → Prop} {Q : Exit → Act → World → Prop} (hup : ∀ w w', S w → Ext w w' → S w') (tail : List Oper) : ∀ (l : List Oper) (k : Nat) (a : Act) (us : Ups) (w : World),
    mList P (fun _ _ => True) ops S M Φ (fun a' us => ∀ w', S w' → Above us w' → wpList P ops Q tail a' w') k l a us → S w → Above us w → wpList P ops Q (l ++ tail) a w
  | [], k, a, us, w, h, hs, ha => h w hs ha
  | o :: l, k, a, us, w, h, hs, ha => by
    rcases h with ⟨_, v, h1, h2⟩ | ⟨_, h1, h2⟩
    · have h3 := wpList_of_mList hup tail l (k + 1) _ _ w h2 hs ha
      simp only [List.cons_append]
      unfold wpList
      rcases h1 with ⟨g1, g2⟩ | ⟨g1, g2⟩
      · rw [if_pos g1]
        refine .inl ?_
        simp only [Oper.wp, g2 w hs, Oper.upon]
        exact h3
      · rw [if_neg (by simp [g1]), ← g2]; exact h3
    · simp only [List.cons_append]
      unfold wpList
      rw [if_pos h1.1]
      refine .inl (wp_of_does (fun v w' hr => ?_) (h1.2 w hs fun i' p hp _ => ha i' p hp))
      have hs' := hup _ _ hs hr.1
      have ha' : Above (us.upd k (w, w')) w' := above_upd (fun i' p hp => (ha i' p hp).trans hr.1) (Ext.refl _)
      exact wpList_of_mList hup tail l (k + 1) _ _ w' (h2 v w w' ⟨hs, hs', fun i' p hp _ => ha i' p hp, fun i' p hp => .inl (ha i' p hp), hr.1, hr.2, w', hs', ha'⟩) hs' ha'
/-- A region that comes in order: the same walk. -/
theorem wp_region_seq_tail {P : Program} {id : Nat} {Q : Exit → Act → World → Prop} {a : Act} {w : World} {l : List Oper} (n : Nat) (S : World → Prop) (M : List Nat) (Φ : Nat → Value → World → World → Prop) (hup : ∀ w w', S w → Ext w w' → S w') (hs : S w)
    (h : mList P (fun _ _ => True) l.toArray S M Φ (fun a' us => ∀ w', S w' → Above us w' → wpList P l.toArray Q (l.drop n) a' w') 0 (l.take n) a Ups.none) : (Code.region id l.toArray false).wp P Q a w := by
  refine wp_region_list ?_
  have := wpList_of_mList hup (l.drop n) (l.take n) 0 a Ups.none w h hs (fun i p hp => by cases hp)
  rwa [List.take_append_drop] at this
section
variable {P : Program} {D : Nat → Nat → Prop} {ops : Array Oper} {S : World → Prop} {M : List Nat} {Φ : Nat → Value → World → World → Prop} {L : Act → Ups → Prop} {k : Nat} {o : Oper} {rest : List Oper} {a : Act} {us : Ups}
theorem m_plain {v : Value} (hc : M.contains k = false) (hw : Region.wanted o (yielded ops a.tmps) = true) (hv : ∀ w, S w → (execOp a.eval o).run P w = .ok (.value v) w)
    (h : ∀ K : Act → Ups → Prop, (∀ a us, mList P D ops S M Φ L (k + 1) rest a us → K a us) → K (a.put o.dst v) us) : mList P D ops S M Φ L k (o :: rest) a us :=
  .inl ⟨hc, v, .inl ⟨hw, hv⟩, h _ fun _ _ h => h⟩
theorem m_skip (hc : M.contains k = false) (hw : Region.wanted o (yielded ops a.tmps) = false)
    (h : ∀ K : Act → Ups → Prop, (∀ a us, mList P D ops S M Φ L (k + 1) rest a us → K a us) → K (a.put o.dst undef) us) : mList P D ops S M Φ L k (o :: rest) a us :=
  .inl ⟨hc, undef, .inr ⟨hw, rfl⟩, h _ fun _ _ h => h⟩
theorem m_make (hc : M.contains k = true) (hw : Region.wanted o (yielded ops a.tmps) = true)
    (hA : ∀ w, S w → (∀ i p, us i = some p → D i k → Ext p.2 w) → ∀ R : Value → World → Prop, Hid (∀ v w', Ext w w' ∧ Φ k v w w' → R v w') → does P o a w R)
    (h : ∀ v w w', Good D S Φ us k v w w' → ∀ K : Act → Ups → Prop, (∀ a us, mList P D ops S M Φ L (k + 1) rest a us → K a us) → K (a.put o.dst v) (us.upd k (w, w'))) : mList P D ops S M Φ L k (o :: rest) a us :=
  .inr ⟨hc, ⟨hw, fun w hs hd => hA w hs hd _ (fun _ _ h => h)⟩, fun v w w' hg => h v w w' hg _ fun _ _ h => h⟩
theorem m_nil (h : L a us) : mList P D ops S M Φ L k [] a us := h
end
end Go.Proofs.Ytdpdcjadedcglaa
namespace Go.Proofs.Ytdpdcjadedcglaa
open Go.RowKit Go.Sort
/-- the world W with new blocks; what is read of it -/
def Sees (W : World) (cs : List (Addr × Value)) (w : World) : Prop := Ext W w ∧ ∀ c ∈ cs, w.cell? c.1 = some c.2
theorem up_cell {w w' : World} {p : Addr} {v : Value} (h : w.cell? p = some v) (e : Ext w w') : w'.cell? p = some v := (Below.cell e (block_lt_of_cell h)).trans h
theorem Sees.up {W : World} {cs : List (Addr × Value)} {w w' : World} (h : Sees W cs w) (e : Ext w w') : Sees W cs w' := ⟨h.1.trans e, fun c hc => up_cell (h.2 c hc) e⟩
theorem Sees.start {W : World} {cs : List (Addr × Value)} (h : ∀ c ∈ cs, W.cell? c.1 = some c.2) : Sees W cs W := ⟨Ext.refl _, h⟩
theorem all_nil {α : Type} {p : α → Prop} : ∀ c ∈ ([] : List α), p c := fun _ h => by cases h
theorem all_cons {α : Type} {p : α → Prop} {x : α} {l : List α} (h : p x) (g : ∀ c ∈ l, p c) : ∀ c ∈ x :: l, p c := fun c hc => by
  rcases List.mem_cons.1 hc with rfl | hc
  · exact h
  · exact g c hc
theorem ext_alloc (w : World) (o : Obj) : Ext w (w.alloc o) := Below.alloc (Below.refl _ _) (Nat.le_refl _) o
theorem made_blk {w wf : World} {o : Obj} (h : Ext (w.alloc o) wf) : wf.heap[w.heap.size]? = some o := (h.block _ (by simp)).trans (heap_alloc_new w o)
theorem made_lt {w wf : World} {o : Obj} (h : Ext (w.alloc o) wf) : w.heap.size < wf.heap.size := by have := h.size; simp at this; omega
theorem ord_ne {wa wb : World} {o o' : Obj} (h : Ext (wa.alloc o) wb ∨ Ext (wb.alloc o') wa) : wa.heap.size ≠ wb.heap.size := by
  rcases h with h | h
  · have := made_lt h; omega
  · have := made_lt h; omega
theorem ord_out {wa xa wb : World} {o : Obj} (h : Ext xa wb ∨ Ext (wb.alloc o) wa) {b : Nat} (h1 : wa.heap.size ≤ b) (h2 : b < xa.heap.size) : b ≠ wb.heap.size := by
  rcases h with h | h
  · have := Below.size h; omega
  · have := made_lt h; omega
theorem Ext.blk {w w' : World} (h : Ext w w') {b : Nat} {o : Obj} (hb : w.heap[b]? = some o) : w'.heap[b]? = some o := (h.block b (lt_of_block hb)).trans hb
theorem Ext.blk' {w w' : World} (h : Ext w w') {b : Nat} (hb : b < w.heap.size) : w'.heap[b]? = w.heap[b]? := h.block b hb
/-- a variable that holds an array, known whole -/
def Hdr (w : World) (b : Nat) (k s n i : Value) : Prop := w.heap[b]? = some (.cells #[k, s, n, i] 27 (0, 0))
section
variable {w w' : World} {b : Nat} {k s n i : Value}
theorem Hdr.lt (h : Hdr w b k s n i) : b < w.heap.size := lt_of_block h
theorem Hdr.c (h : Hdr w b k s n i) (o : Nat) : w.cell? ⟨b, o, none⟩ = #[k, s, n, i][o]? := cell_of_row w b o _ _ _ h
theorem Hdr.c0 (h : Hdr w b k s n i) : w.cell? ⟨b, 0, none⟩ = some k := h.c 0
theorem Hdr.c1 (h : Hdr w b k s n i) : w.cell? ⟨b, 1, none⟩ = some s := h.c 1
theorem Hdr.c2 (h : Hdr w b k s n i) : w.cell? ⟨b, 2, none⟩ = some n := h.c 2
theorem Hdr.c3 (h : Hdr w b k s n i) : w.cell? ⟨b, 3, none⟩ = some i := h.c 3
theorem Hdr.all (h : Hdr w b k s n i) : w.cell? ⟨b, 0, none⟩ = some k ∧ w.cell? ⟨b, 1, none⟩ = some s ∧ w.cell? ⟨b, 2, none⟩ = some n ∧ w.cell? ⟨b, 3, none⟩ = some i := ⟨h.c0, h.c1, h.c2, h.c3⟩
theorem Hdr.f (h : Hdr w b k s n i) (o : Nat) : w.frozen? ⟨b, o, none⟩ = false := frozen_of_row w b o _ _ h
theorem Hdr.up (h : Hdr w b k s n i) (e : Ext w w') : Hdr w' b k s n i := e.blk h
theorem Hdr.keep (h : Hdr w b k s n i) (e : w'.heap[b]? = w.heap[b]?) : Hdr w' b k s n i := e.trans h
theorem Hdr.set0 (h : Hdr w b k s n i) (v : Value) : Hdr (w.setCell ⟨b, 0, none⟩ v) b v s n i := by have := heap_setCell_same w b 0 _ _ v h; simpa [Hdr] using this
theorem Hdr.set1 (h : Hdr w b k s n i) (v : Value) : Hdr (w.setCell ⟨b, 1, none⟩ v) b k v n i := by have := heap_setCell_same w b 1 _ _ v h; simpa [Hdr] using this
theorem Hdr.set2 (h : Hdr w b k s n i) (v : Value) : Hdr (w.setCell ⟨b, 2, none⟩ v) b k s v i := by have := heap_setCell_same w b 2 _ _ v h; simpa [Hdr] using this
theorem Hdr.set3 (h : Hdr w b k s n i) (v : Value) : Hdr (w.setCell ⟨b, 3, none⟩ v) b k s n v := by have := heap_setCell_same w b 3 _ _ v h; simpa [Hdr] using this
theorem Hdr.set4 (h : Hdr w b k s n i) (v0 v1 v2 v3 : Value) : Hdr ((((w.setCell ⟨b, 0, none⟩ v0).setCell ⟨b, 1, none⟩ v1).setCell ⟨b, 2, none⟩ v2).setCell ⟨b, 3, none⟩ v3) b v0 v1 v2 v3 := (((h.set0 v0).set1 v1).set2 v2).set3 v3
end
theorem hdr_new (w : World) (k s n i : Value) : Hdr (w.alloc (.cells #[k, s, n, i] 27)) w.heap.size k s n i := heap_alloc_new w _
theorem blk_set4 (w : World) (b : Nat) (v0 v1 v2 v3 : Value) {k : Nat} (h : k ≠ b) : ((((w.setCell ⟨b, 0, none⟩ v0).setCell ⟨b, 1, none⟩ v1).setCell ⟨b, 2, none⟩ v2).setCell ⟨b, 3, none⟩ v3).heap[k]? = w.heap[k]? := set4 w b v0 v1 v2 v3 h
theorem below_set4 {B : Nat} {w0 w : World} (h : Below B w0 w) {b : Nat} (hb : B ≤ b) (v0 v1 v2 v3 : Value) : Below B w0 ((((w.setCell ⟨b, 0, none⟩ v0).setCell ⟨b, 1, none⟩ v1).setCell ⟨b, 2, none⟩ v2).setCell ⟨b, 3, none⟩ v3) :=
  (((h.setCell hb _).setCell hb _).setCell hb _).setCell hb _
theorem below_setRow {B : Nat} {w0 w : World} (h : Below B w0 w) {g : Nat} (hb : B ≤ g) (cs : Array Value) : Below B w0 (w.setRow g cs) :=
  ⟨h.os, h.tape, h.output, by simp; exact h.size, fun k hk => by rw [setRow_other w g k cs (by omega)]; exact h.block k hk⟩
theorem size_set4 (w : World) (b : Nat) (v0 v1 v2 v3 : Value) : ((((w.setCell ⟨b, 0, none⟩ v0).setCell ⟨b, 1, none⟩ v1).setCell ⟨b, 2, none⟩ v2).setCell ⟨b, 3, none⟩ v3).heap.size = w.heap.size := by simp [World.setCell]
/-- the end of a function whose result is an array in a variable -/
theorem end_arr {fn : Func} {p : Tmp} (hres : fn.results = #[.cell p 27]) {w : World} {b : Nat} {tmps : Array Value} {k s n i : Value} (h : Hdr w b k s n i) (hp : tmps.getD p undef = .pointer (some ⟨b, 0, none⟩)) :
    (results fn tmps).run Try.prog w = .ok (.agg #[k, s, n, i]) w :=
  results_cell_row hres tmps w b _ _ _ _ hp h Try.underlying27 rfl (by kernel_rfl)
/-- V is w but for block b -/
structure Chg (w V : World) (b : Nat) : Prop where
  g : w.grownBy V (some b)
  z : V.heap.size = w.heap.size
section
variable {w V : World} {b : Nat}
theorem Chg.blk (h : Chg w V b) {k : Nat} (hk : k < w.heap.size) (hne : k ≠ b) : V.heap[k]? = w.heap[k]? := h.g.block k hk (by simpa using hne)
theorem Chg.below {w0 : World} {B : Nat} (h : Chg w V b) (g : Below B w0 w) (hB : B ≤ b) : Below B w0 V :=
  ⟨h.g.os.trans g.os, h.g.tape.trans g.tape, h.g.output.trans g.output, by have := g.size; have := h.z; omega, fun k hk => by
    by_cases hw : k < w.heap.size
    · exact (h.blk hw (by omega)).trans (g.block k hk)
    · have e1 : V.heap[k]? = none := Array.getElem?_eq_none (by have := h.z; omega)
      have e2 : w.heap[k]? = none := Array.getElem?_eq_none (by omega)
      rw [e1, ← g.block k hk, e2]⟩
theorem Chg.hdr {c : Nat} {k s n i : Value} (h : Chg w V b) (hh : Hdr w c k s n i) (hne : c ≠ b) : Hdr V c k s n i := hh.keep (h.blk hh.lt hne)
theorem Chg.row {c : Nat} {o : Obj} (h : Chg w V b) (hh : w.heap[c]? = some o) (hne : c ≠ b) : V.heap[c]? = some o := (h.blk (lt_of_block hh) hne).trans hh
theorem Chg.arr {S : Nat → Prop} {a : Arr} {sa na ia : Option Addr} (h : Chg w V b) (hh : ArrAt w S a sa na ia) (hne : ∀ q, S q → q ≠ b) : ArrAt V S a sa na ia := ArrAt.keep (fun q hq hlt => h.blk hlt (hne q hq)) a hh
theorem Chg.ints {S : Nat → Prop} {ao : Option Addr} {xs : List Int} (h : Chg w V b) (hh : IntsAt w S ao xs) (hne : ∀ q, S q → q ≠ b) : IntsAt V S ao xs := hh.keep fun q hq hlt => h.blk hlt (hne q hq)
theorem Chg.items {S : Nat → Prop} {ao : Option Addr} {l : List Arr} (h : Chg w V b) (hh : ItemsAt w S ao 0 l) (hne : ∀ q, S q → q ≠ b) : ItemsAt V S ao 0 l := hh.keep fun q hq hlt => h.blk hlt (hne q hq)
theorem chg_setCell (w : World) (b o : Nat) (v : Value) : Chg w (w.setCell ⟨b, o, none⟩ v) b := ⟨⟨rfl, rfl, rfl, by simp [World.setCell], fun k hk hne => Below.heap_setCell w ⟨b, o, none⟩ v k (fun e => hne (by rw [e]))⟩, by simp [World.setCell]⟩
theorem chg_setRow (w : World) (b : Nat) (cs : Array Value) : Chg w (w.setRow b cs) b := ⟨⟨rfl, rfl, rfl, by simp, fun k hk hne => setRow_other w b k cs (fun e => hne (by rw [e]))⟩, by simp⟩
theorem Chg.trans {U : World} (h : Chg w V b) (g : Chg V U b) : Chg w U b :=
  ⟨⟨g.g.os.trans h.g.os, g.g.tape.trans h.g.tape, g.g.output.trans h.g.output, by have := h.z; have := g.z; omega, fun k hk hne => (g.g.block k (by have := h.z; omega) hne).trans (h.g.block k hk hne)⟩, g.z.trans h.z⟩
theorem chg_set4 (w : World) (b : Nat) (v0 v1 v2 v3 : Value) : Chg w ((((w.setCell ⟨b, 0, none⟩ v0).setCell ⟨b, 1, none⟩ v1).setCell ⟨b, 2, none⟩ v2).setCell ⟨b, 3, none⟩ v3) b :=
  (((chg_setCell _ _ _ _).trans (chg_setCell _ _ _ _)).trans (chg_setCell _ _ _ _)).trans (chg_setCell _ _ _ _)
end
section
variable {ops : Array Oper} {rest : List Oper} {o : Oper} {a : Act} {Q : Exit → Act → World → Prop} {w : World}
/-- a whole array is stored into a variable -/
theorem wpl_store4 (hgd : o.guard = none) (p x : Operand) (ho : o.op = .store 27 p x) (b : Nat) {k : Int} {s n i : Option Addr} {sl sc nl nc il ic : Nat} {k' s' n' i' : Value} (hp : a.eval p = .pointer (some ⟨b, 0, none⟩)) (hx : a.eval x = .agg #[.int .i64 k, .slice s sl sc, .slice n nl nc, .slice i il ic]) (hh : Hdr w b k' s' n' i')
    (h : ∀ V, Hdr V b (.int .i64 k) (.slice s sl sc) (.slice n nl nc) (.slice i il ic) → Chg w V b → wpList Try.prog ops Q rest (a.put o.dst undef) V) : wpList Try.prog ops Q (o :: rest) a w := by
  refine wpList_plain hgd fun K hK => ?_
  have := hK _ _ (h _ (hh.set4 _ _ _ _) (chg_set4 w b _ _ _ _))
  unfold Oper.wp execOp
  simp only [ho, hp, hx]
  have d0 := hh.c0
  have d1 := hh.c1
  have d2 := hh.c2
  have d3 := hh.c3
  have f := hh.f
  simp [go_sem, d0, d1, d2, d3, f]
  exact this
/-- a slice is stored into a variable's field -/
theorem wpl_store2 (hgd : o.guard = none) (p x : Operand) (ho : o.op = .store 24 p x) (b : Nat) {s : Option Addr} {sl sc : Nat} {k' s' n' i' : Value} (hp : a.eval p = .pointer (some ⟨b, 2, none⟩)) (hx : a.eval x = .slice s sl sc) (hh : Hdr w b k' s' n' i')
    (h : ∀ V, Hdr V b k' s' (.slice s sl sc) i' → Chg w V b → wpList Try.prog ops Q rest (a.put o.dst undef) V) : wpList Try.prog ops Q (o :: rest) a w := by
  refine wpList_plain hgd fun K hK => ?_
  have := hK _ _ (h _ (hh.set2 _) (chg_setCell w b _ _))
  unfold Oper.wp execOp
  simp only [ho, hp, hx]
  have d2 := hh.c2
  have f := hh.f
  simp [go_sem, d2, f]
  exact this
theorem wpl_store1 (hgd : o.guard = none) (p x : Operand) (ho : o.op = .store 24 p x) (b : Nat) {s : Option Addr} {sl sc : Nat} {k' s' n' i' : Value} (hp : a.eval p = .pointer (some ⟨b, 1, none⟩)) (hx : a.eval x = .slice s sl sc) (hh : Hdr w b k' s' n' i')
    (h : ∀ V, Hdr V b k' (.slice s sl sc) n' i' → Chg w V b → wpList Try.prog ops Q rest (a.put o.dst undef) V) : wpList Try.prog ops Q (o :: rest) a w := by
  refine wpList_plain hgd fun K hK => ?_
  have := hK _ _ (h _ (hh.set1 _) (chg_setCell w b _ _))
  unfold Oper.wp execOp
  simp only [ho, hp, hx]
  have d2 := hh.c1
  have f := hh.f
  simp [go_sem, d2, f]
  exact this
theorem wpl_store3 (hgd : o.guard = none) (p x : Operand) (ho : o.op = .store 25 p x) (b : Nat) {s : Option Addr} {sl sc : Nat} {k' s' n' i' : Value} (hp : a.eval p = .pointer (some ⟨b, 3, none⟩)) (hx : a.eval x = .slice s sl sc) (hh : Hdr w b k' s' n' i')
    (h : ∀ V, Hdr V b k' s' n' (.slice s sl sc) → Chg w V b → wpList Try.prog ops Q rest (a.put o.dst undef) V) : wpList Try.prog ops Q (o :: rest) a w := by
  refine wpList_plain hgd fun K hK => ?_
  have := hK _ _ (h _ (hh.set3 _) (chg_setCell w b _ _))
  unfold Oper.wp execOp
  simp only [ho, hp, hx]
  have d2 := hh.c3
  have f := hh.f
  simp [go_sem, d2, f]
  exact this
theorem wpl_load4 (hgd : o.guard = none) (p : Operand) (ho : o.op = .load 27 p) (b : Nat) {k s n i : Value} (hp : a.eval p = .pointer (some ⟨b, 0, none⟩)) (hh : Hdr w b k s n i)
    (h : wpList Try.prog ops Q rest (a.put o.dst (.agg #[k, s, n, i])) w) : wpList Try.prog ops Q (o :: rest) a w :=
  wpList_load_row hgd _ p ho b hp _ _ _ _ hh Try.underlying27 rfl (by kernel_rfl) h
theorem wpl_copyI (hgd : o.guard = none) (d s : Operand) (ho : o.op = .call { callee := .builtin .copy, args := #[d, s], argTypes := #[24, 24] })
    (g : Nat) (cur : Array Value) (t : TypeId) (S : Nat → Prop) (so : Option Addr) (sc dc : Nat) (ys : List Int) (hd : a.eval d = .slice (some ⟨g, 0, none⟩) ys.length dc) (hs : a.eval s = .slice so ys.length sc)
    (hg : w.heap[g]? = some (.cells cur t (0, 0))) (hc : cur.size = ys.length) (hys : IntsAt w S so ys)
    (h : ∀ V, V.heap[g]? = some (.cells (ys.map (Value.int .i64)).toArray t (0, 0)) → Chg w V g → wpList Try.prog ops Q rest (a.put o.dst (.int .i64 (ys.length : Int))) V) :
    wpList Try.prog ops Q (o :: rest) a w :=
  wpList_copyI w hgd d s ho g cur t S so sc dc ys hd hs hg hc hys (h _ (setRow_heap w g _ _ _ _ hg) (chg_setRow w g _))
end
theorem row_ints {w : World} {g : Nat} {ys : List Int} {t : TypeId} (hg : w.heap[g]? = some (.cells (ys.map (Value.int .i64)).toArray t (0, 0))) (hl : ys.length ≤ 17592186044416) {S : Nat → Prop} (hS : S g) : IntsAt w S (some ⟨g, 0, none⟩) ys :=
  ⟨hl, fun _ => ⟨g, 0, rfl, hS, lt_of_block hg, fun k hk => by rw [cell_of_row w g _ _ _ _ hg]; simp [hk]⟩⟩
theorem grown_ext {w w1 w2 : World} {r : Option Nat} (h : w.grownBy w1 r) (e : Ext w1 w2) : w.grownBy w2 r :=
  ⟨Below.os e |>.trans h.os, (Below.tape e).trans h.tape, (Below.output e).trans h.output, Nat.le_trans h.size (Below.size e), fun k hk hne => (Below.block e k (Nat.lt_of_lt_of_le hk h.size)).trans (h.block k hk hne)⟩
theorem grown_chg {w w1 V : World} {b : Nat} (h : w.grownBy w1 (some b)) (c : Chg w1 V b) : w.grownBy V (some b) :=
  ⟨c.g.os.trans h.os, c.g.tape.trans h.tape, c.g.output.trans h.output, by have := h.size; have := c.z; omega, fun k hk hne => (c.g.block k (Nat.lt_of_lt_of_le hk h.size) hne).trans (h.block k hk hne)⟩
theorem Hdr.grown {w w' : World} {r : Option Nat} {b : Nat} {k s n i : Value} (h : Hdr w b k s n i) (g : w.grownBy w' r) (hne : some b ≠ r) : Hdr w' b k s n i := h.keep (g.block b h.lt hne)
section
variable {ops : Array Oper} {rest : List Oper} {o : Oper} {a : Act} {Q : Exit → Act → World → Prop} {w : World}
/-- the next array of a row that is filled from the left -/
theorem wpl_storeAt (hgd : o.guard = none) (p x : Operand) (ho : o.op = .store 27 p x) (g n : Nat) {S : Nat → Prop} {l : List Arr} {y : Arr} {s m i : Option Addr} {sc mc ic : Nat} (hp : a.eval p = .pointer (some ⟨g, l.length * 4, none⟩))
    (hx : a.eval x = .agg #[.int .i64 y.kind, .slice s y.shape.length sc, .slice m y.nums.length mc, .slice i y.items.length ic]) (hh : PartA w S g n l) (hl : l.length < n) (hy : ArrAt w S y s m i)
    (h : ∀ V, PartA V S g n (l ++ [y]) → Chg w V g → wpList Try.prog ops Q rest (a.put o.dst undef) V) : wpList Try.prog ops Q (o :: rest) a w := by
  refine wpList_plain hgd fun K hK => ?_
  have := hK _ _ (h _ (hh.store (sc := sc) (nc := mc) (jc := ic) hy hl) ((((chg_setCell _ _ _ _).trans (chg_setCell _ _ _ _)).trans (chg_setCell _ _ _ _)).trans (chg_setCell _ _ _ _)))
  unfold Oper.wp execOp
  simp only [ho, hp, hx]
  obtain ⟨v0, d0⟩ := Option.isSome_iff_exists.1 (hh.1 (l.length * 4) (by omega))
  obtain ⟨v1, d1⟩ := Option.isSome_iff_exists.1 (hh.1 (l.length * 4 + 1) (by omega))
  obtain ⟨v2, d2⟩ := Option.isSome_iff_exists.1 (hh.1 (l.length * 4 + 2) (by omega))
  obtain ⟨v3, d3⟩ := Option.isSome_iff_exists.1 (hh.1 (l.length * 4 + 3) (by omega))
  have f := hh.2.1
  simp [go_sem, d0, d1, d2, d3, f]
  exact this
end
theorem partA_made {w : World} {g n : Nat} {S : Nat → Prop} (h : w.heap[g]? = some (.cells (madeA n) 27 (0, 0))) (hS : ∀ b, S b → b ≠ g) : PartA w S g n [] :=
  ⟨fun o ho => by rw [cell_of_row w g o _ _ _ h]; have := madeA_size n; rw [Array.getElem?_eq_getElem (by omega)]; rfl, fun o => frozen_of_row w g o _ _ h, hS, fun j x hx => by simp at hx⟩
theorem boxes1 (w : World) {W : World} {k s n i : Value} (h : w.alloc (.cells #[k, s, n, i] 27) = W) : Hdr W w.heap.size k s n i ∧ Ext w W ∧ W.heap.size = w.heap.size + 1 := by
  subst h; exact ⟨hdr_new _ _ _ _ _, ext_alloc _ _, by simp⟩
theorem boxes2 (w : World) {W : World} {k s n i k' s' n' i' : Value} (h : (w.alloc (.cells #[k, s, n, i] 27)).alloc (.cells #[k', s', n', i'] 27) = W) :
    Hdr W w.heap.size k s n i ∧ Hdr W (w.heap.size + 1) k' s' n' i' ∧ Ext w W ∧ W.heap.size = w.heap.size + 2 := by
  obtain ⟨h1, h2, h3⟩ := boxes1 w (k := k) (s := s) (n := n) (i := i) rfl
  obtain ⟨g1, g2, g3⟩ := boxes1 _ h
  exact ⟨h1.up g2, by rw [← h3]; exact g1, h2.trans g2, by omega⟩
theorem boxes3 (w : World) {W : World} {k s n i k' s' n' i' k2 s2 n2 i2 : Value} (h : ((w.alloc (.cells #[k, s, n, i] 27)).alloc (.cells #[k', s', n', i'] 27)).alloc (.cells #[k2, s2, n2, i2] 27) = W) :
    Hdr W w.heap.size k s n i ∧ Hdr W (w.heap.size + 1) k' s' n' i' ∧ Hdr W (w.heap.size + 1 + 1) k2 s2 n2 i2 ∧ Ext w W ∧ W.heap.size = w.heap.size + 3 := by
  obtain ⟨h1, h1', h2, h3⟩ := boxes2 w (k := k) (s := s) (n := n) (i := i) (k' := k') (s' := s') (n' := n') (i' := i') rfl
  obtain ⟨g1, g2, g3⟩ := boxes1 _ h
  exact ⟨h1.up g2, h1'.up g2, by rw [show w.heap.size + 1 + 1 = w.heap.size + 2 by omega, ← h3]; exact g1, h2.trans g2, by omega⟩
theorem lit_at {u wz : World} {l : List Int} (e : Ext (u.alloc (.cells (l.map (Value.int .i64)).toArray 3)) wz) (hl : l.length ≤ 17592186044416) : IntsAt wz (fun b => u.heap.size ≤ b) (some ⟨u.heap.size, 0, none⟩) l :=
  row_ints (made_blk e) hl (Nat.le_refl _)
/-- a variable that holds an array, which is read -/
def Var (w : World) (b : Nat) (a : Arr) : Prop :=
  ∃ sa sc na nc ia ic, Hdr w b (.int .i64 a.kind) (.slice sa a.shape.length sc) (.slice na a.nums.length nc) (.slice ia a.items.length ic) ∧ ArrAt w (fun _ => True) a sa na ia
theorem Var.up {w w' : World} {b : Nat} {a : Arr} (h : Var w b a) (e : Ext w w') : Var w' b a := by
  obtain ⟨sa, sc, na, nc, ia, ic, h1, h2⟩ := h
  exact ⟨sa, sc, na, nc, ia, ic, h1.up e, h2.later e⟩
section
variable {ops : Array Oper} {rest : List Oper} {o : Oper} {a : Act} {Q : Exit → Act → World → Prop} {w : World}
/-- an array goes into a new variable -/
theorem wpl_var (hgd : o.guard = none) (p x : Operand) (ho : o.op = .store 27 p x) (b : Nat) {r : Arr} {s n i : Option Addr} {sc nc ic : Nat} {k' s' n' i' : Value} {S : Nat → Prop} (hp : a.eval p = .pointer (some ⟨b, 0, none⟩))
    (hx : a.eval x = .agg #[.int .i64 r.kind, .slice s r.shape.length sc, .slice n r.nums.length nc, .slice i r.items.length ic]) (hh : Hdr w b k' s' n' i') (hr : ArrAt w S r s n i) (hS : ∀ q, S q → q ≠ b) {w0 : World} (e0 : Ext w0 w) (hb : w0.heap.size ≤ b)
    (h : ∀ V, Var V b r → Ext w0 V → wpList Try.prog ops Q rest (a.put o.dst undef) V) : wpList Try.prog ops Q (o :: rest) a w :=
  wpl_store4 hgd p x ho b hp hx hh fun V hV C => h V ⟨s, sc, n, nc, i, ic, hV, ArrAt.mono (fun _ _ _ => trivial) _ (C.arr hr hS)⟩ (C.below e0 hb)
end
end Go.Proofs.Ytdpdcjadedcglaa
namespace Go.Proofs.Ytdpdcjadedcglaa
open Go.RowKit Go.Sort
theorem stuck_events (P : Program) (s : String) (w : World) : Sem.events P (Next.value <$> (stuck s : Sem Value)) w #[] = #[] := rfl
theorem pure_events (P : Program) (v : Value) (w : World) : Sem.events P (Next.value <$> (pure v : Sem Value)) w #[] = #[] := rfl
theorem stuck_run (P : Program) (s : String) (w : World) : ∃ h, (do let y ← (stuck s : Sem Value); pure (Next.value y)).run P w = .halt (.stuck h) w := ⟨_, rfl⟩
theorem pure_run (P : Program) (v : Value) (w : World) : (do let y ← (pure v : Sem Value); pure (Next.value y)).run P w = .ok (.value v) w := rfl
theorem extract_cases (v : Value) (m : Nat) : (∃ u, Instr.extract v m = pure u) ∨ ∃ s, Instr.extract v m = stuck s := by
  cases v <;> simp only [Instr.extract]
  case tuple vs =>
    cases h : vs[m]? with
    | none => exact Or.inr ⟨_, rfl⟩
    | some u => exact Or.inl ⟨u, rfl⟩
  all_goals exact Or.inr ⟨_, rfl⟩
/-- an operation whose value hangs on no world -/
def PurO (o : Oper) : Prop := ∀ a : Act, (∃ u, execOp a.eval o = (do let y ← (pure u : Sem Value); pure (Next.value y))) ∨ ∃ s, execOp a.eval o = (do let y ← (stuck s : Sem Value); pure (Next.value y))
theorem purO_extract {o : Oper} {x : Operand} {m : Nat} (hop : o.op = .extract x m) : PurO o := fun a => by
  have he : execOp a.eval o = (do let y ← Instr.extract (a.eval x) m; pure (Next.value y)) := by unfold execOp; simp only [hop]
  rw [he]
  rcases extract_cases (a.eval x) m with ⟨u, e⟩ | ⟨s, e⟩
  · rw [e]; exact Or.inl ⟨u, rfl⟩
  · rw [e]; exact Or.inr ⟨s, rfl⟩
theorem purO_move {o : Oper} {x : Operand} (hop : o.op = .move x) : PurO o := fun a => Or.inl ⟨a.eval x, by unfold execOp; simp only [hop]; rfl⟩
theorem extract_asks {P : Program} {o : Oper} (hp : PurO o) (a : Act) (w : World) : ¬ o.asks P a w := by
  unfold Oper.asks
  rintro ⟨h1, h2⟩
  rcases hp a with ⟨u, e⟩ | ⟨s, e⟩
  · rw [e] at h1
    have : noRoomEvent ∈ (#[] : Array Event) := h1
    simp at this
  · rw [e] at h1
    have : noRoomEvent ∈ (#[] : Array Event) := h1
    simp at this
theorem extract_run {P : Program} {o : Oper} (hp : PurO o) (a : Act) (w : World) {K : Act → World → Prop} {Q : Exit → Act → World → Prop} (h : o.wp P a w K Q) : ∃ v, (∀ u, (execOp a.eval o).run P u = .ok (.value v) u) ∧ K (a.put o.dst v) w := by
  unfold Oper.wp at h
  rcases hp a with ⟨u, e⟩ | ⟨s, e⟩
  · rw [e] at h ⊢
    rw [pure_run] at h
    exact ⟨u, fun w' => pure_run P u w', h⟩
  · rw [e] at h
    obtain ⟨q, hq⟩ := stuck_run P s w
    rw [hq] at h
    exact False.elim h
section
variable {P : Program} {ops ops' : Array Oper} {Q : Exit → Act → World → Prop} {md : Region.Mode} {i j : Nat}
/-- operation j waits for operation i besides -/
def moreEdge (ops ops' : Array Oper) (i j : Nat) : Prop := ops'.size = ops.size ∧ ∀ k, ops'[k]? = (ops[k]?).map fun o => if k = j then { o with after := o.after.push ⟨i, .data⟩ } else o
theorem moreEdge_yield (h : moreEdge ops ops' i j) (tmps : Array Value) : yielded ops' tmps = yielded ops tmps := by
  funext g
  unfold yielded
  rw [h.2 g]
  cases ops[g]? with
  | none => rfl
  | some o => by_cases e : g = j <;> simp [e]
theorem moreEdge_op (h : moreEdge ops ops' i j) {k : Nat} {K : Act → World → Prop} {a : Act} {w : World} (hh : wpOp P ops' Q k K a w) : wpOp P ops Q k K a w := by
  unfold wpOp at *
  rw [h.2 k] at hh
  cases ho : ops[k]? with
  | none => rw [ho] at hh; exact hh
  | some o =>
    rw [ho] at hh
    simp only [Option.map_some] at hh ⊢
    rw [moreEdge_yield h] at hh
    by_cases e : k = j
    · simp only [e, if_true] at hh; exact hh
    · simp only [e, if_false] at hh; exact hh
theorem moreEdge_ready (h : moreEdge ops ops' i j) (hb : Region.binds md ⟨i, .data⟩ = true) {listed : Array Bool} {k : Nat} : k ∈ Region.ready md ops' listed ↔ k ∈ Region.ready md ops listed ∧ (k = j → listed.getD i false = true) := by
  rw [mem_ready, mem_ready, h.2 k]
  cases ho : ops[k]? with
  | none => simp
  | some o =>
    simp only [Option.map_some, Option.some.injEq, exists_eq_left']
    by_cases e : k = j
    · simp only [e, if_true, forall_const]
      constructor
      · rintro ⟨h1, h2⟩
        exact ⟨⟨h1, fun x hx hbx => h2 x (Array.mem_push.2 (Or.inl hx)) hbx⟩, h2 _ (Array.mem_push.2 (Or.inr rfl)) hb⟩
      · rintro ⟨⟨h1, h2⟩, h3⟩
        refine ⟨h1, fun x hx hbx => ?_⟩
        rcases Array.mem_push.1 hx with hx | hx
        · exact h2 x hx hbx
        · subst hx; exact h3
    · simp only [e, if_false, false_implies, and_true]
theorem wpAny_edge {oi oj : Oper} (h : moreEdge ops ops' i j) (hi : ops[i]? = some oi) (hj : ops[j]? = some oj) (hij : i ≠ j) (hop : PurO oi) (hg : oi.guard = none) (hb : Region.binds md ⟨i, .data⟩ = true)
    (hdep : ∀ e ∈ oi.after, Region.binds md e = true → ∃ e' ∈ oj.after, Region.binds md e' = true ∧ e'.on = e.on) (hsel : ∀ (j : Nat) (o : Oper) cs b, ops[j]? = some o → o.op ≠ .select cs b)
    (hQ : ∀ v c a w, Q (.panic c) (a.put oi.dst v) w → Q (.panic c) a w)
    (hfree : ∀ k ok, ops[k]? = some ok → k ≠ i → (∀ e ∈ ok.after, Region.binds md e = true → e.on ≠ i) → oi.apart ops ok = true ∨ ∃ e ∈ oi.after, Region.binds md e = true ∧ e.on = k) :
    ∀ (f : Nat) (listed : Array Bool) (a : Act) (w : World), listed.size = ops.size → wpAny P md ops' Q f listed a w → wpAny P md ops Q f listed a w := by
  have wanted : ∀ a : Act, Region.wanted oi (yielded ops a.tmps) = true := fun a => by simp [Region.wanted, hg]
  -- where i is not at hand, the same may come up
  have same : ∀ listed : Array Bool, listed.size = ops.size → i ∉ Region.ready md ops listed → ∀ k, k ∈ Region.ready md ops listed → k ∈ Region.ready md ops' listed := fun listed hsz hir k hk => by
    rw [moreEdge_ready h hb]
    refine ⟨hk, fun e => ?_⟩
    subst e
    cases hl : listed.getD i false with
    | true => rfl
    | false =>
      exfalso
      refine hir ?_
      have hil : i < listed.size := by rw [hsz]; exact (Array.getElem?_eq_some_iff.1 hi).1
      refine mem_ready.2 ⟨getD_in hil hl, oi, hi, fun e he hbe => ?_⟩
      obtain ⟨e', he', hb', ho⟩ := hdep e he hbe
      obtain ⟨_, o2, ho2, hall⟩ := mem_ready.1 hk
      rw [hj] at ho2; injection ho2 with ho2; subst ho2
      rw [← ho]
      exact hall e' he' hb'
  intro f
  induction f with
  | zero =>
    intro listed a w hsz H
    refine ⟨?_, H.2⟩
    by_cases hir : i ∈ Region.ready md ops listed
    · have : i ∈ Region.ready md ops' listed := (moreEdge_ready h hb).2 ⟨hir, fun e => absurd e hij⟩
      rw [H.1] at this; cases this
    · cases hr : Region.ready md ops listed with
      | nil => rfl
      | cons k l =>
        have := same listed hsz hir k (by rw [hr]; exact List.mem_cons_self ..)
        rw [H.1] at this; cases this
  | succ f ih =>
    intro listed a w hsz H
    by_cases hir : i ∈ Region.ready md ops listed
    · have hir' : i ∈ Region.ready md ops' listed := (moreEdge_ready h hb).2 ⟨hir, fun e => absurd e hij⟩
      have h1 := moreEdge_op h (H.2 i hir')
      unfold wpOp at h1
      simp only [hi, wanted a, if_true] at h1
      rcases h1 with h1 | ⟨h1, _⟩
      · obtain ⟨v, hy, hK⟩ := extract_run hop a w h1
        have h2 := ih _ _ _ (by simp [hsz]) hK
        exact wpAny_first hi hsel (hQ v) f listed a w (fun k ok hk hne hun he => (hfree k ok hk hne he).resolve_right fun ⟨e, he2, hbe, hke⟩ => by
          obtain ⟨_, o2, ho2, hall⟩ := mem_ready.1 hir
          rw [hi] at ho2; injection ho2 with ho2; subst ho2
          have := hall e he2 hbe
          rw [hke, getD_both hun] at this
          cases this) hir (Or.inl ⟨wanted a, hy⟩) h2
      · exact absurd h1 (extract_asks hop a w)
    · refine ⟨fun h0 => H.1 ?_, fun k hk => ?_⟩
      · cases hr : Region.ready md ops' listed with
        | nil => rfl
        | cons k l =>
          have : k ∈ Region.ready md ops' listed := by rw [hr]; exact List.mem_cons_self ..
          have := ((moreEdge_ready h hb).1 this).1
          rw [h0] at this; cases this
      · exact wpOp_mono (fun a' w' h' => ih _ _ _ (by simp [hsz]) h') (moreEdge_op h (H.2 k (same listed hsz hir k hk)))
end
/-- the check, by reckoning -/
def edgeB (l : List Oper) (i j : Nat) : Bool :=
  match l[i]?, l[j]? with
  | some oi, some oj => (match oi.op with | .extract .. => true | .move .. => true | _ => false) && oi.guard.isNone && Region.noSelect l.toArray && i != j &&
      oi.after.all (fun e => !Region.binds .any e || oj.after.any fun e' => Region.binds .any e' && e'.on == e.on) &&
      (List.range l.length).all fun k => match l[k]? with
        | some ok => k == i || (ok.after.any fun e => Region.binds .any e && e.on == i) || oi.apart l.toArray ok || (oi.after.any fun e => Region.binds .any e && e.on == k)
        | none => true
  | _, _ => false
def withEdge (l : List Oper) (i j : Nat) : List Oper := l.modify j fun o => { o with after := o.after.push ⟨i, .data⟩ }
theorem wp_region_edge {P : Program} {id : Nat} {Q : Exit → Act → World → Prop} {a : Act} {w : World} {l : List Oper} (i j : Nat) (hm : P.follows .mixedOrders = true) (hB : edgeB l i j = true) (hQ : ∀ (o : Oper), l[i]? = some o → ∀ v c a w, Q (.panic c) (a.put o.dst v) w → Q (.panic c) a w)
    (l' : List Oper) (hl' : l' = withEdge l i j) (n : Nat) (S : World → Prop) (M : List Nat) (Φ : Nat → Value → World → World → Prop) (hup : ∀ w w', S w → Ext w w' → S w') (hs : S w) (hT : Region.lexTailB .any l'.toArray n = true)
    (h : mList P (DepOn .any l'.toArray) l'.toArray S M Φ (fun a' us => ∀ w', S w' → Above us w' → wpList P l'.toArray Q (l'.drop n) a' w') 0 (l'.take n) a Ups.none) : (Code.region id l.toArray true).wp P Q a w := by
  have hH := wpAny_mono_tail n S M Φ hup hs hm hT h
  refine wp_region_any hm ?_
  unfold edgeB at hB
  cases hi : l[i]? with
  | none => rw [hi] at hB; simp at hB
  | some oi =>
    cases hj : l[j]? with
    | none => rw [hi, hj] at hB; simp at hB
    | some oj =>
      rw [hi, hj] at hB
      simp only [Bool.and_eq_true, bne_iff_ne] at hB
      obtain ⟨⟨⟨⟨⟨h1, h2⟩, h3⟩, h4⟩, h5⟩, h6⟩ := hB
      have hop : PurO oi := by
        cases ho : oi.op <;> rw [ho] at h1 <;> first | exact purO_extract ho | exact purO_move ho | cases h1
      have hsz : l'.toArray.size = l.toArray.size := by rw [hl']; simp [withEdge]
      have hme : moreEdge l.toArray l'.toArray i j := ⟨hsz, fun k => by
        rw [hl']
        simp only [withEdge, List.getElem?_toArray, List.getElem?_modify]
        by_cases e : j = k
        · simp [e]
        · simp [e, Ne.symm e]⟩
      have := wpAny_edge (P := P) (Q := Q) (md := .any) hme (by simpa using hi) (by simpa using hj) h4 hop (by simpa using h2) rfl (fun e he hbe => ?_) (Region.noSelect_spec h3) (hQ oi hi) (fun k ok hk hne hno => ?_) _ _ _ _ (by rw [Array.size_replicate]; exact hsz) hH
      · rw [hsz] at this; exact this
      · have := (Array.all_eq_true_iff_forall_mem.1 h5) e he
        simp only [hbe, Bool.not_true, Bool.false_or] at this
        obtain ⟨e', he', hb'⟩ := Array.any_eq_true'.1 this
        simp only [Bool.and_eq_true, beq_iff_eq] at hb'
        exact ⟨e', he', hb'.1, hb'.2⟩
      · have hk' : l[k]? = some ok := by simpa using hk
        have hlt : k < l.length := (List.getElem?_eq_some_iff.1 hk').1
        have := (List.all_eq_true.1 h6) k (List.mem_range.2 hlt)
        rw [hk'] at this
        simp only [Bool.or_eq_true, beq_iff_eq] at this
        rcases this with ((h7 | h7) | h7) | h7
        · exact absurd h7 hne
        · obtain ⟨e, he, hb'⟩ := Array.any_eq_true'.1 h7
          simp only [Bool.and_eq_true, beq_iff_eq] at hb'
          exact absurd hb'.2 (hno e he hb'.1)
        · exact Or.inl h7
        · obtain ⟨e, he, hb'⟩ := Array.any_eq_true'.1 h7
          simp only [Bool.and_eq_true, beq_iff_eq] at hb'
          exact Or.inr ⟨e, he, hb'.1, hb'.2⟩
end Go.Proofs.Ytdpdcjadedcglaa
