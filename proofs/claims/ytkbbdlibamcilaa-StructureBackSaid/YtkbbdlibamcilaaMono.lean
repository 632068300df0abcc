/- Regions that draw their order, whose operations read, make memory, or call what reads and makes memory: one walk in the order of the text serves every order. Conditions: those of each lemma. -/
import Derived.Test.YtkbbdlibamcilaaBase
import Derived.StillTail
set_option linter.unusedVariables false
set_option linter.unusedSimpArgs false
namespace Go.Proofs.Ytkbbdlibamcilaa
open Go.RowKit
/-- the operations that have made memory: the world ahead of each, and behind it -/
abbrev Ups := Nat → Option (World × World)
def Ups.none : Ups := fun _ => Option.none
def Ups.upd (us : Ups) (k : Nat) (p : World × World) : Ups := fun n => if n = k then some p else us n
/-- w' is w with new blocks -/
def Ext (w w' : World) : Prop := Below w.heap.size w w'
theorem Ext.refl (w : World) : Ext w w := Below.refl _ _
theorem Ext.trans {a b c : World} (h : Ext a b) (g : Ext b c) : Ext a c := Below.trans h (Below.mono g h.size)
theorem Ext.below {B : Nat} {a b : World} (h : Ext a b) (hB : B ≤ a.heap.size) : Below B a b := Below.mono h hB
/-- all of that memory is there -/
def Above (us : Ups) (w : World) : Prop := ∀ i p, us i = some p → Ext p.2 w
def Cap (S : World → Prop) (us : Ups) : Prop := ∃ w, S w ∧ Above us w
inductive DepOn (md : Region.Mode) (ops : Array Oper) : Nat → Nat → Prop
  | edge {k : Nat} {o : Oper} {e : Edge} : ops[k]? = some o → e ∈ o.after → Region.binds md e = true → DepOn md ops e.on k
  | step {i k : Nat} {o : Oper} {e : Edge} : ops[k]? = some o → e ∈ o.after → Region.binds md e = true → DepOn md ops i e.on → DepOn md ops i k
def depB (md : Region.Mode) (ops : Array Oper) : Nat → Nat → Nat → Bool
  | 0, _, _ => false
  | f + 1, i, k => match ops[k]? with
    | Option.none => false
    | some o => o.after.any fun e => Region.binds md e && (e.on == i || depB md ops f i e.on)
theorem depB_sound {md : Region.Mode} {ops : Array Oper} : ∀ {f i k : Nat}, depB md ops f i k = true → DepOn md ops i k
  | 0, _, _, h => by simp [depB] at h
  | f + 1, i, k, h => by
    unfold depB at h
    split at h
    · cases h
    · rename_i o ho
      obtain ⟨e, he, hb⟩ := Array.any_eq_true'.1 h
      simp only [Bool.and_eq_true, Bool.or_eq_true, beq_iff_eq] at hb
      rcases hb.2 with h1 | h1
      · rw [← h1]; exact .edge ho he hb.1
      · exact .step ho he hb.1 (depB_sound h1)
theorem DepOn.listed {md : Region.Mode} {ops : Array Oper} {listed : Array Bool} (hc : ∀ j oj, ops[j]? = some oj → listed.getD j false = true → ∀ e ∈ oj.after, Region.binds md e = true → listed.getD e.on false = true) {i k : Nat} (h : DepOn md ops i k) :
    (∃ o, ops[k]? = some o ∧ ∀ e ∈ o.after, Region.binds md e = true → listed.getD e.on false = true) → listed.getD i false = true := by
  induction h with
  | edge ho he hb =>
    rintro ⟨o', ho', h⟩
    rw [ho] at ho'; injection ho' with ho'; subst ho'
    exact h _ he hb
  | step ho he hb h1 ih =>
    rintro ⟨o', ho', h⟩
    rw [ho] at ho'; injection ho' with ho'; subst ho'
    have hl := h _ he hb
    rename_i i k o e
    refine ih ?_
    cases hx : ops[e.on]? with
    | none => cases h1 with
      | edge h2 _ _ => rw [hx] at h2; cases h2
      | step h2 _ _ _ => rw [hx] at h2; cases h2
    | some ox => exact ⟨ox, rfl, hc _ _ hx hl⟩
/-- what an operation does: its value, and the world behind it -/
def doesUpon (P : Program) (R : Value → World → Prop) : Result Next → Prop
  | .ok (.value v) w' => R v w'
  | .ok .skip w' => R undef w'
  | .ok (.enter f args) w' => Calls P f args w' fun e w'' => ∃ v, e = .returned v ∧ R v w''
  | _ => False
def does (P : Program) (o : Oper) (a : Act) (w : World) (R : Value → World → Prop) : Prop := doesUpon P R ((execOp a.eval o).run P w)
theorem doesUpon_mono {P : Program} {R R' : Value → World → Prop} (h : ∀ v w, R v w → R' v w) {r : Result Next} (hh : doesUpon P R r) : doesUpon P R' r := by
  cases r with
  | ok n w' =>
    cases n <;> simp only [doesUpon] at hh ⊢ <;> first | exact h _ _ hh | exact Calls.mono hh (fun e w'' ⟨v, he, hr⟩ => ⟨v, he, h _ _ hr⟩)
  | halt x w' => cases x <;> simp only [doesUpon] at hh
theorem doesUpon_exists {P : Program} {R : Value → World → Prop} {r : Result Next} (hh : doesUpon P R r) : ∃ v w, R v w := by
  cases r with
  | ok n w' =>
    cases n <;> simp only [doesUpon] at hh
    case value v => exact ⟨_, _, hh⟩
    case skip => exact ⟨_, _, hh⟩
    case enter f args =>
      obtain ⟨e, w', fr, ⟨v, _, hr⟩, _⟩ := hh []
      exact ⟨v, w', hr⟩
  | halt x w' => cases x <;> simp only [doesUpon] at hh
theorem wp_of_does {P : Program} {o : Oper} {a : Act} {w : World} {R : Value → World → Prop} {K : Act → World → Prop} {Q : Exit → Act → World → Prop} (h : ∀ v w', R v w' → K (a.put o.dst v) w') (hh : does P o a w R) : o.wp P a w K Q := by
  unfold does at hh
  unfold Oper.wp
  generalize (execOp a.eval o).run P w = r at *
  cases r with
  | ok n w' =>
    cases n <;> simp only [doesUpon] at hh <;> simp only [Oper.upon]
    case value v => exact h _ _ hh
    case skip => exact h _ _ hh
    case enter f args => exact hh.mono fun e w'' ⟨v, he, hr⟩ => by subst he; exact h _ _ hr
  | halt x w' => cases x <;> simp only [doesUpon] at hh
section
variable {P : Program} {md : Region.Mode} {ops : Array Oper} {S : World → Prop} {Φ : Nat → Value → World → World → Prop} {M : List Nat} {D : Nat → Nat → Prop}
/-- an operation that yields one value in every world of the region, or is not wanted -/
def PlainAt (P : Program) (ops : Array Oper) (S : World → Prop) (o : Oper) (v : Value) (a : Act) : Prop :=
  (Region.wanted o (yielded ops a.tmps) = true ∧ ∀ w, S w → (execOp a.eval o).run P w = .ok (.value v) w) ∨ (Region.wanted o (yielded ops a.tmps) = false ∧ v = undef)
/-- an operation that makes memory, and what is known of it -/
def MakesAt (P : Program) (D : Nat → Nat → Prop) (ops : Array Oper) (S : World → Prop) (Φ : Nat → Value → World → World → Prop) (o : Oper) (j : Nat) (a : Act) (us : Ups) : Prop :=
  Region.wanted o (yielded ops a.tmps) = true ∧ ∀ w, S w → (∀ i p, us i = some p → D i j → Ext p.2 w) → does P o a w fun v w' => Ext w w' ∧ Φ j v w w'
structure Good (D : Nat → Nat → Prop) (S : World → Prop) (Φ : Nat → Value → World → World → Prop) (us : Ups) (j : Nat) (v : Value) (w w' : World) : Prop where
  s : S w
  s' : S w'
  dep : ∀ i p, us i = some p → D i j → Ext p.2 w
  order : ∀ i p, us i = some p → Ext p.2 w ∨ Ext w' p.1
  ext : Ext w w'
  fact : Φ j v w w'
  cap : Cap S (us.upd j (w, w'))
def mOp (P : Program) (D : Nat → Nat → Prop) (ops : Array Oper) (S : World → Prop) (M : List Nat) (Φ : Nat → Value → World → World → Prop) (j : Nat) (K : Act → Ups → Prop) (a : Act) (us : Ups) : Prop :=
  ∃ o, ops[j]? = some o ∧ ((M.contains j = false ∧ ∃ v, PlainAt P ops S o v a ∧ K (a.put o.dst v) us) ∨ (M.contains j = true ∧ MakesAt P D ops S Φ o j a us ∧ ∀ v w w', Good D S Φ us j v w w' → K (a.put o.dst v) (us.upd j (w, w'))))
theorem mOp_mono {j : Nat} {K K' : Act → Ups → Prop} {a : Act} {us : Ups} (hcap : Cap S us) (h : ∀ a us, Cap S us → K a us → K' a us) (hh : mOp P D ops S M Φ j K a us) : mOp P D ops S M Φ j K' a us := by
  obtain ⟨o, ho, ⟨m, v, h1, h2⟩ | ⟨m, h1, h2⟩⟩ := hh
  · exact ⟨o, ho, .inl ⟨m, v, h1, h _ _ hcap h2⟩⟩
  · exact ⟨o, ho, .inr ⟨m, h1, fun v w w' hg => h _ _ hg.cap (h2 v w w' hg)⟩⟩
theorem above_upd {us : Ups} {j : Nat} {p : World × World} {w : World} (h : Above us w) (hp : Ext p.2 w) : Above (us.upd j p) w := fun i q hq => by
  unfold Ups.upd at hq
  split at hq
  · injection hq with hq; subst hq; exact hp
  · exact h i q hq
theorem upd_lookup {us : Ups} {j i : Nat} {p q : World × World} (h : us.upd j p i = some q) : (i = j ∧ p = q) ∨ (i ≠ j ∧ us i = some q) := by
  unfold Ups.upd at h
  split at h
  · injection h with h; exact .inl ⟨‹_›, h⟩
  · exact .inr ⟨‹_›, h⟩
/-- Whatever the operation does, the way goes on from somewhere. -/
theorem good_exists {o : Oper} {j : Nat} {a : Act} {us : Ups} (hup : ∀ w w', S w → Ext w w' → S w') (hcap : Cap S us) (h : MakesAt P D ops S Φ o j a us) : ∃ v w w', Good D S Φ us j v w w' := by
  obtain ⟨w, hs, ha⟩ := hcap
  obtain ⟨v, w', he, hf⟩ := doesUpon_exists (h.2 w hs fun i p hi _ => ha i p hi)
  have ha' : Above us w' := fun i p hi => (ha i p hi).trans he
  exact ⟨v, w, w', hs, hup _ _ hs he, fun i p hi _ => ha i p hi, fun i p hi => .inl (ha i p hi), he, hf, w', hup _ _ hs he, above_upd ha' (Ext.refl _)⟩
theorem mOp_exists {j : Nat} {K : Act → Ups → Prop} {a : Act} {us : Ups} (hup : ∀ w w', S w → Ext w w' → S w') (hcap : Cap S us) (h : mOp P D ops S M Φ j K a us) : ∃ a' us', K a' us' := by
  obtain ⟨o, ho, ⟨m, v, h1, h2⟩ | ⟨m, h1, h2⟩⟩ := h
  · exact ⟨_, _, h2⟩
  · obtain ⟨v, w, w', hg⟩ := good_exists hup hcap h1
    exact ⟨_, _, h2 v w w' hg⟩
theorem does_same {o : Oper} {a a' : Act} {w : World} {R : Value → World → Prop} (he : execOp a'.eval o = execOp a.eval o) (h : does P o a w R) : does P o a' w R := by
  unfold does at *; rw [he]; exact h
theorem PlainAt.same {o : Oper} {a a' : Act} {v : Value} (he : execOp a'.eval o = execOp a.eval o) (hw : Region.wanted o (yielded ops a'.tmps) = Region.wanted o (yielded ops a.tmps)) (h : PlainAt P ops S o v a) : PlainAt P ops S o v a' := by
  unfold PlainAt at *; rw [he, hw]; exact h
theorem MakesAt.same {o : Oper} {j : Nat} {a a' : Act} {us : Ups} (he : execOp a'.eval o = execOp a.eval o) (hw : Region.wanted o (yielded ops a'.tmps) = Region.wanted o (yielded ops a.tmps)) (h : MakesAt P D ops S Φ o j a us) : MakesAt P D ops S Φ o j a' us :=
  ⟨hw.trans h.1, fun w hs hd => does_same he (h.2 w hs hd)⟩
/-- i ahead of j, so j ahead of i -/
theorem mOp_swap {i j : Nat} {oi oj : Oper} (hi : ops[i]? = some oi) (hj : ops[j]? = some oj) (hij : i ≠ j) (hap : oi.apart ops oj = true)
    (hsi : ∀ cs b, oi.op ≠ .select cs b) (hsj : ∀ cs b, oj.op ≠ .select cs b) (hup : ∀ w w', S w → Ext w w' → S w') (hnd : ¬ D i j) {K : Act → Ups → Prop} {a : Act} {us : Ups} (hcap : Cap S us) (hjn : us j = none)
    (h : mOp P D ops S M Φ i (fun a us => mOp P D ops S M Φ j K a us) a us) : mOp P D ops S M Φ j (fun a us => mOp P D ops S M Φ i K a us) a us := by
  obtain ⟨h1, h2, h3⟩ := Oper.apart_spec hap
  have ei : ∀ (a : Act) u, execOp (a.put oj.dst u).eval oi = execOp a.eval oi := fun a u => execOp_put oi hsi a oj.dst u h3
  have wi : ∀ (a : Act) u, Region.wanted oi (yielded ops (a.put oj.dst u).tmps) = Region.wanted oi (yielded ops a.tmps) := fun a u => wanted_put oi a oj.dst u h3
  have ej : ∀ (a : Act) u, execOp (a.put oi.dst u).eval oj = execOp a.eval oj := fun a u => execOp_put oj hsj a oi.dst u h1
  have wj : ∀ (a : Act) u, Region.wanted oj (yielded ops (a.put oi.dst u).tmps) = Region.wanted oj (yielded ops a.tmps) := fun a u => wanted_put oj a oi.dst u h1
  have hc : ∀ (a : Act) v u, (a.put oi.dst v).put oj.dst u = (a.put oj.dst u).put oi.dst v := fun a v u => Act.put_comm a v u h2
  have hu : ∀ (us : Ups) p q, (us.upd i p).upd j q = (us.upd j q).upd i p := fun us p q => by
    funext n; unfold Ups.upd; by_cases e1 : n = i <;> by_cases e2 : n = j <;> simp [e1, e2]
    · exact absurd (e1.symm.trans e2) hij
    · intro e; exact absurd e hij
    · intro e; exact absurd e.symm hij
  have backJ : ∀ {v us}, MakesAt P D ops S Φ oj j (a.put oi.dst v) us → MakesAt P D ops S Φ oj j a us := fun h => h.same (ej a _).symm (wj a _).symm
  obtain ⟨o1, ho1, hI⟩ := h
  rw [hi] at ho1; injection ho1 with ho1; subst ho1
  rcases hI with ⟨mi, v, p1, k1⟩ | ⟨mi, p1, k1⟩
  · obtain ⟨o2, ho2, hJ⟩ := k1
    rw [hj] at ho2; injection ho2 with ho2; subst ho2
    rcases hJ with ⟨mj, u, p2, k2⟩ | ⟨mj, p2, k2⟩
    · exact ⟨_, hj, .inl ⟨mj, u, p2.same (ej a v).symm (wj a v).symm, _, hi, .inl ⟨mi, v, p1.same (ei a u) (wi a u), by rw [← hc]; exact k2⟩⟩⟩
    · refine ⟨_, hj, .inr ⟨mj, backJ p2, fun u w w' hg => ⟨_, hi, .inl ⟨mi, v, p1.same (ei a u) (wi a u), ?_⟩⟩⟩⟩
      rw [← hc]; exact k2 u w w' hg
  · -- i makes memory
    obtain ⟨v0, w0, w0', g0⟩ := good_exists hup hcap p1
    obtain ⟨o2, ho2, hJ⟩ := k1 v0 w0 w0' g0
    rw [hj] at ho2; injection ho2 with ho2; subst ho2
    have lower : ∀ {us' : Ups} {p : World × World} {k : Nat}, us' k = none → Cap S (us'.upd k p) → Cap S us' := fun hk ⟨w, s, ha⟩ => ⟨w, s, fun i' q hq => ha i' q (by
      unfold Ups.upd; rw [if_neg]; exact hq
      intro e; subst e; rw [hk] at hq; cases hq)⟩
    rcases hJ with ⟨mj, u, p2, _⟩ | ⟨mj, p2, _⟩
    · refine ⟨_, hj, .inl ⟨mj, u, p2.same (ej a v0).symm (wj a v0).symm, _, hi, .inr ⟨mi, p1.same (ei a u) (wi a u), fun v w w' hg => ?_⟩⟩⟩
      obtain ⟨o3, ho3, hJ3⟩ := k1 v w w' hg
      rw [hj] at ho3; injection ho3 with ho3; subst ho3
      have pj : PlainAt P ops S oj u a := p2.same (ej a v0).symm (wj a v0).symm
      rcases hJ3 with ⟨_, u3, p3, k3⟩ | ⟨mj3, _⟩
      · have p3' : PlainAt P ops S oj u3 a := p3.same (ej a v).symm (wj a v).symm
        have e : u3 = u := by
          rcases pj with ⟨g1, g2⟩ | ⟨g1, g2⟩ <;> rcases p3' with ⟨f1, f2⟩ | ⟨f1, f2⟩
          · have := (f2 w hg.s).symm.trans (g2 w hg.s)
            injection this with this; injection this
          · rw [g1] at f1; cases f1
          · rw [g1] at f1; cases f1
          · rw [g2, f2]
        subst e
        rw [← hc]; exact k3
      · rw [mj] at mj3; cases mj3
    · have p2' : MakesAt P D ops S Φ oj j a us := ⟨(backJ p2).1, fun w hs hd => (backJ p2).2 w hs fun i' q hq hdep => by
        rcases upd_lookup hq with ⟨e, _⟩ | ⟨_, e⟩
        · rw [e] at hdep; exact absurd hdep hnd
        · exact hd i' q e hdep⟩
      have keepI : ∀ (q : World × World) (u : Value), MakesAt P D ops S Φ oi i (a.put oj.dst u) (us.upd j q) := fun q u =>
        ⟨(wi a u).trans p1.1, fun w hs hd => does_same (ei a u) (p1.2 w hs fun i' p hp hdep => hd i' p (by
          unfold Ups.upd; rw [if_neg]; exact hp
          intro e; subst e; rw [hjn] at hp; cases hp) hdep)⟩
      refine ⟨_, hj, .inr ⟨mj, p2', fun u wj wj' gj => ⟨_, hi, .inr ⟨mi, keepI _ u, fun v w w' hg => ?_⟩⟩⟩⟩
      have old : ∀ {i' : Nat} {p : World × World}, us i' = some p → (us.upd j (wj, wj')) i' = some p := fun {i' p} hp => by
        unfold Ups.upd; rw [if_neg]; exact hp
        intro e; subst e; rw [hjn] at hp; cases hp
      have hcap' : Cap S ((us.upd i (w, w')).upd j (wj, wj')) := by rw [hu]; exact hg.cap
      have gi : Good D S Φ us i v w w' := ⟨hg.s, hg.s', fun i' p hp hd => hg.dep i' p (old hp) hd, fun i' p hp => hg.order i' p (old hp), hg.ext, hg.fact, lower (by unfold Ups.upd; rw [if_neg (Ne.symm hij)]; exact hjn) hcap'⟩
      obtain ⟨o3, ho3, hJ3⟩ := k1 v w w' gi
      rw [hj] at ho3; injection ho3 with ho3; subst ho3
      rcases hJ3 with ⟨mj3, _⟩ | ⟨_, p3, k3⟩
      · rw [mj] at mj3; cases mj3
      · rw [← hc, ← hu]
        refine k3 u wj wj' ⟨gj.s, gj.s', fun i' q hq hdep => ?_, fun i' q hq => ?_, gj.ext, gj.fact, hcap'⟩
        · rcases upd_lookup hq with ⟨e, _⟩ | ⟨_, e⟩
          · rw [e] at hdep; exact absurd hdep hnd
          · exact gj.dep i' q e hdep
        · rcases upd_lookup hq with ⟨e, e2⟩ | ⟨_, e⟩
          · subst e2
            rcases hg.order j (wj, wj') (by simp [Ups.upd]) with h | h
            · exact .inr h
            · exact .inl h
          · exact gj.order i' q e
/-- whatever order is picked, till the tail is left -/
def mAny (P : Program) (D : Nat → Nat → Prop) (md : Region.Mode) (ops : Array Oper) (S : World → Prop) (M : List Nat) (Φ : Nat → Value → World → World → Prop) (n : Nat) (L : Array Bool → Act → Ups → Prop) : Nat → Array Bool → Act → Ups → Prop
  | 0, listed, a, us => L listed a us
  | f + 1, listed, a, us => Region.ready md ops listed ≠ [] ∧ ∀ i ∈ Region.ready md ops listed, i < n ∧ mOp P D ops S M Φ i (mAny P D md ops S M Φ n L f (listed.setIfInBounds i true)) a us
theorem wpAny_of_mAny {n g : Nat} {L : Array Bool → Act → Ups → Prop} {Q' : Exit → Act → World → Prop} (hup : ∀ w w', S w → Ext w w' → S w') (hL : ∀ listed a us w, L listed a us → S w → Above us w → wpAny P md ops Q' g listed a w) :
    ∀ (f : Nat) (listed : Array Bool) (a : Act) (us : Ups) (w : World), mAny P D md ops S M Φ n L f listed a us → S w → Above us w → wpAny P md ops Q' (f + g) listed a w
  | 0, listed, a, us, w, h, hs, ha => by rw [Nat.zero_add]; exact hL _ _ _ _ h hs ha
  | f + 1, listed, a, us, w, h, hs, ha => by
    rw [show f + 1 + g = (f + g) + 1 by omega]
    refine ⟨fun h0 => absurd h0 h.1, fun i hi => ?_⟩
    obtain ⟨o, ho, ⟨_, v, h1, h2⟩ | ⟨_, h1, h2⟩⟩ := (h.2 i hi).2
    · have h3 := wpAny_of_mAny hup hL f _ _ _ w h2 hs ha
      unfold wpOp
      simp only [ho]
      rcases h1 with ⟨g1, g2⟩ | ⟨g1, g2⟩
      · rw [if_pos g1]
        refine .inl ?_
        simp only [Oper.wp, g2 w hs, Oper.upon]
        exact h3
      · rw [if_neg (by simp [g1]), ← g2]; exact h3
    · unfold wpOp
      simp only [ho]
      rw [if_pos h1.1]
      refine .inl (wp_of_does (fun v w' hr => ?_) (h1.2 w hs fun i' p hp _ => ha i' p hp))
      have hs' := hup _ _ hs hr.1
      have ha' : Above (us.upd i (w, w')) w' := above_upd (fun i' p hp => (ha i' p hp).trans hr.1) (Ext.refl _)
      exact wpAny_of_mAny hup hL f _ _ _ w' (h2 v w w' ⟨hs, hs', fun i' p hp _ => ha i' p hp, fun i' p hp => .inl (ha i' p hp), hr.1, hr.2, w', hs', ha'⟩) hs' ha'
theorem mAny_first {n i : Nat} {oi : Oper} {L : Array Bool → Act → Ups → Prop} (hi : ops[i]? = some oi) (hsel : ∀ (j : Nat) (o : Oper) cs b, ops[j]? = some o → o.op ≠ .select cs b) (hup : ∀ w w', S w → Ext w w' → S w')
    (hlow : ∀ listed, HeadInv md ops n listed → i ∈ Region.ready md ops listed → ∀ j ∈ Region.ready md ops listed, j < n) (hin : i < n)
    (hdone : ∀ listed a us, L listed a us → ∀ j ∈ Region.ready md ops listed, n ≤ j) (hD : ∀ i j, D i j → DepOn md ops i j) :
    ∀ (f : Nat) (listed : Array Bool) (a : Act) (us : Ups), HeadInv md ops n listed → (∀ k, listed.getD k true = false → us k = none) → Cap S us →
      (∀ j oj, ops[j]? = some oj → j ≠ i → listed.getD j true = false → (∀ e ∈ oj.after, Region.binds md e = true → e.on ≠ i) → oi.apart ops oj = true) →
      i ∈ Region.ready md ops listed → mOp P D ops S M Φ i (mAny P D md ops S M Φ n L f (listed.setIfInBounds i true)) a us → mAny P D md ops S M Φ n L (f + 1) listed a us := by
  intro f
  induction f with
  | zero =>
    intro listed a us inv hus hcap _ hr H
    refine ⟨fun h => (by rw [h] at hr; cases hr), fun j hj => ⟨hlow listed inv hr j hj, ?_⟩⟩
    by_cases hji : j = i
    · subst hji; exact H
    · obtain ⟨a', us', hl⟩ := mOp_exists hup hcap H
      have := hdone _ _ _ hl j (ready_mono hj hji)
      have := hlow listed inv hr j hj
      omega
  | succ f ih =>
    intro listed a us inv hus hcap hfree hr H
    refine ⟨fun h => (by rw [h] at hr; cases hr), fun j hj => ⟨hlow listed inv hr j hj, ?_⟩⟩
    by_cases hji : j = i
    · subst hji; exact H
    · have hjn := hlow listed inv hr j hj
      obtain ⟨hjun, oj, hoj, hall⟩ := mem_ready.1 hj
      have hiun := (mem_ready.1 hr).1
      have hnot : ∀ e ∈ oj.after, Region.binds md e = true → e.on ≠ i := fun e he hb heq => by
        have h1 := hall e he hb
        rw [heq, getD_both hiun] at h1
        cases h1
      have hnd : ¬ D i j := fun hd => by
        have := (hD i j hd).listed inv.closed ⟨oj, hoj, hall⟩
        rw [getD_both hiun] at this
        cases this
      have h1 : mOp P D ops S M Φ i (fun a us => mOp P D ops S M Φ j (mAny P D md ops S M Φ n L f ((listed.setIfInBounds i true).setIfInBounds j true)) a us) a us :=
        mOp_mono hcap (fun a us _ h => (h.2 j (ready_mono hj hji)).2) H
      have h2 := mOp_swap hi hoj (Ne.symm hji) (hfree j oj hoj hji hjun hnot) (fun cs b => hsel i oi cs b hi) (fun cs b => hsel j oj cs b hoj) hup hnd hcap (hus j hjun) h1
      have hfree' : ∀ k ok, ops[k]? = some ok → k ≠ i → (listed.setIfInBounds j true).getD k true = false →
          (∀ e ∈ ok.after, Region.binds md e = true → e.on ≠ i) → oi.apart ops ok = true := fun k ok hk hki hun hno => by
        refine hfree k ok hk hki ?_ hno
        by_cases hjk : j = k
        · subst hjk; exact hjun
        · rw [getD_set_ne true hjk] at hun; exact hun
      have husj : ∀ (us' : Ups), (us' = us ∨ ∃ p, us' = us.upd j p) → ∀ k, (listed.setIfInBounds j true).getD k true = false → us' k = none := fun us' hu k hk => by
        have hkj : k ≠ j := fun e => by
          subst e
          have hlt : k < listed.size := by
            rcases Nat.lt_or_ge k listed.size with h' | h'
            · exact h'
            · simp [Array.getElem?_eq_none h'] at hjun
          simp [hlt] at hk
        have hk' := hus k (by rw [getD_set_ne true (Ne.symm hkj)] at hk; exact hk)
        rcases hu with rfl | ⟨p, rfl⟩
        · exact hk'
        · unfold Ups.upd; rw [if_neg hkj]; exact hk'
      obtain ⟨o, ho, ⟨m, v, g1, g2⟩ | ⟨m, g1, g2⟩⟩ := h2
      · refine ⟨o, ho, .inl ⟨m, v, g1, ih (listed.setIfInBounds j true) _ us (inv.set hj hjn) (husj us (.inl rfl)) hcap hfree' (ready_mono hr (Ne.symm hji)) ?_⟩⟩
        rw [Array.setIfInBounds_comm _ _ hji]; exact g2
      · refine ⟨o, ho, .inr ⟨m, g1, fun v w w' hg => ih (listed.setIfInBounds j true) _ _ (inv.set hj hjn) (husj _ (.inr ⟨_, rfl⟩)) hg.cap hfree' (ready_mono hr (Ne.symm hji)) ?_⟩⟩
        rw [Array.setIfInBounds_comm _ _ hji]; exact g2 v w w' hg
/-- the walk in the order of the text -/
def mList (P : Program) (D : Nat → Nat → Prop) (ops : Array Oper) (S : World → Prop) (M : List Nat) (Φ : Nat → Value → World → World → Prop) (L : Act → Ups → Prop) : Nat → List Oper → Act → Ups → Prop
  | _, [], a, us => L a us
  | k, o :: rest, a, us => (M.contains k = false ∧ ∃ v, PlainAt P ops S o v a ∧ mList P D ops S M Φ L (k + 1) rest (a.put o.dst v) us) ∨
      (M.contains k = true ∧ MakesAt P D ops S Φ o k a us ∧ ∀ v w w', Good D S Φ us k v w w' → mList P D ops S M Φ L (k + 1) rest (a.put o.dst v) (us.upd k (w, w')))
theorem mAny_lex {n : Nat} {L : Act → Ups → Prop} {T : Array Bool → Prop} (hsel : Region.noSelect ops = true) (hup : ∀ w w', S w → Ext w w' → S w') {F : Nat → Nat → Array Bool → Bool}
    (F0 : ∀ listed, F 0 n listed = true → T listed) (F1 : ∀ f k listed, F (f + 1) k listed = true → (k ∈ Region.ready md ops listed ∧ Region.free md ops listed k = true) ∧ F f (k + 1) (listed.setIfInBounds k true) = true)
    (hlow : ∀ i listed, i < n → HeadInv md ops n listed → i ∈ Region.ready md ops listed → ∀ j ∈ Region.ready md ops listed, j < n)
    (hdone : ∀ listed, T listed → ∀ j ∈ Region.ready md ops listed, n ≤ j) (hD : ∀ i j, D i j → DepOn md ops i j) :
    ∀ (l : List Oper) (k : Nat) (listed : Array Bool) (a : Act) (us : Ups), (∀ j, j < l.length → l[j]? = ops[k + j]?) → k + l.length = n → HeadInv md ops n listed → (∀ j, listed.getD j true = false → us j = none) → Cap S us →
    F l.length k listed = true → mList P D ops S M Φ L k l a us → mAny P D md ops S M Φ n (fun listed' a' us' => T listed' ∧ L a' us') l.length listed a us
  | [], k, listed, a, us, hl, hk, inv, hus, hcap, hB, h => by
    have : k = n := by simpa using hk
    subst this
    exact ⟨F0 _ hB, h⟩
  | o :: l, k, listed, a, us, hl, hk, inv, hus, hcap, hB, h => by
    have h0 : ops[k]? = some o := by simpa using (hl 0 (by simp)).symm
    simp only [List.length_cons] at hB hk
    obtain ⟨⟨hr, hf⟩, hB'⟩ := F1 _ _ _ hB
    have hkn : k < n := by omega
    have hun := (mem_ready.1 hr).1
    have husk : ∀ (us' : Ups), (us' = us ∨ ∃ p, us' = us.upd k p) → ∀ j, (listed.setIfInBounds k true).getD j true = false → us' j = none := fun us' hu j hj => by
      have hkj : j ≠ k := fun e => by
        subst e
        have hlt : j < listed.size := by
          rcases Nat.lt_or_ge j listed.size with h' | h'
          · exact h'
          · simp [Array.getElem?_eq_none h'] at hun
        simp [hlt] at hj
      have hk' := hus j (by rw [getD_set_ne true (Ne.symm hkj)] at hj; exact hj)
      rcases hu with rfl | ⟨p, rfl⟩
      · exact hk'
      · unfold Ups.upd; rw [if_neg hkj]; exact hk'
    refine mAny_first h0 (Region.noSelect_spec hsel) hup (fun listed inv hi => hlow k listed hkn inv hi) hkn (fun listed' a' us' hL => hdone _ hL.1) hD l.length listed a us inv hus hcap (Region.free_spec h0 hf) hr ?_
    have next : ∀ a' us', (us' = us ∨ ∃ p, us' = us.upd k p) → Cap S us' → mList P D ops S M Φ L (k + 1) l a' us' → mAny P D md ops S M Φ n (fun listed' a' us' => T listed' ∧ L a' us') l.length (listed.setIfInBounds k true) a' us' := fun a' us' hu hc hh =>
      mAny_lex hsel hup F0 F1 hlow hdone hD l (k + 1) _ a' us' (fun j hj => by have := hl (j + 1) (by simp; omega); simpa [Nat.add_assoc, Nat.add_comm 1 j] using this) (by omega) (inv.set hr hkn) (husk us' hu) hc hB' hh
    rcases h with ⟨m, v, h1, h2⟩ | ⟨m, h1, h2⟩
    · exact ⟨o, h0, .inl ⟨m, v, h1, next _ _ (.inl rfl) hcap h2⟩⟩
    · exact ⟨o, h0, .inr ⟨m, h1, fun v w w' hg => next _ _ (.inr ⟨_, rfl⟩) hg.cap (h2 v w w' hg)⟩⟩
end
theorem inv0 {md : Region.Mode} {l : List Oper} {n : Nat} : HeadInv md l.toArray n (Array.replicate l.toArray.size false) :=
  ⟨by simp, fun j oj _ hl => (by rw [getD_replicate_false] at hl; cases hl), fun t _ ht => getD_in (by simpa using ht) (getD_replicate_false _ _)⟩
theorem ext_drawn (w : World) : Ext w w.drew := ⟨rfl, rfl, rfl, Nat.le_refl _, fun _ _ => rfl⟩
/-- A region of such operations alone. -/
theorem wp_region_mono {P : Program} {id : Nat} {Q : Exit → Act → World → Prop} {a : Act} {w : World} {l : List Oper} (S : World → Prop) (M : List Nat) (Φ : Nat → Value → World → World → Prop) (hup : ∀ w w', S w → Ext w w' → S w') (hs : S w)
    (hm : P.follows .mixedOrders = true) (hB : Region.lexB .any l.toArray = true)
    (h : mList P (DepOn .any l.toArray) l.toArray S M Φ (fun a' us => ∀ w', S w' → Above us w' → Q .normal a' w') 0 l a Ups.none) : (Code.region id l.toArray true).wp P Q a w := by
  simp only [Region.lexB, Bool.and_eq_true] at hB
  have hs' : S w.drew := hup _ _ hs (ext_drawn w)
  refine wp_region_any hm ?_
  have H := mAny_lex (n := l.toArray.size) (T := fun listed => Region.ready .any l.toArray listed = []) hB.1 hup (F := Region.lexFrom .any l.toArray) (fun listed h => by simpa [Region.lexFrom] using h)
    (fun f k listed h => by simp only [Region.lexFrom, Bool.and_eq_true] at h; exact ⟨⟨by simpa using h.1.1, h.1.2⟩, h.2⟩)
    (fun i listed hi inv hr j hj => by obtain ⟨_, o, ho, _⟩ := mem_ready.1 hj; exact (Array.getElem?_eq_some_iff.1 ho).1)
    (fun listed hT j hj => by rw [hT] at hj; cases hj) (fun _ _ h => h) l 0 _ a Ups.none (fun j hj => by simp) (by simp) inv0 (fun j _ => rfl) ⟨w.drew, hs', fun i p hp => by cases hp⟩ (by simpa using hB.2) h
  have := wpAny_of_mAny (Q' := Q) (g := 0) hup (fun listed a' us w' hL hs ha => (⟨hL.1, hL.2 w' hs ha⟩ : wpAny P .any l.toArray Q 0 listed a' w')) _ _ _ _ w.drew H hs' (fun i p hp => by cases hp)
  simpa using this
/-- A region of such operations ahead of a tail that comes in order. -/
theorem wpAny_mono_tail {P : Program} {Q : Exit → Act → World → Prop} {a : Act} {w : World} {l : List Oper} (n : Nat) (S : World → Prop) (M : List Nat) (Φ : Nat → Value → World → World → Prop) (hup : ∀ w w', S w → Ext w w' → S w') (hs : S w)
    (hm : P.follows .mixedOrders = true) (hB : Region.lexTailB .any l.toArray n = true)
    (h : mList P (DepOn .any l.toArray) l.toArray S M Φ (fun a' us => ∀ w', S w' → Above us w' → wpList P l.toArray Q (l.drop n) a' w') 0 (l.take n) a Ups.none) : wpAny P .any l.toArray Q l.toArray.size (Array.replicate l.toArray.size false) a w.drew := by
  simp only [Region.lexTailB, Bool.and_eq_true, decide_eq_true_eq] at hB
  obtain ⟨⟨⟨⟨hsel, hn⟩, hsk⟩, hc⟩, hlex⟩ := hB
  have hn' : n < l.length := by simpa using hn
  have htl : (l.take n).length = n := by simp; omega
  have hdl : (l.drop n).length = l.toArray.size - n := by simp
  have hs' : S w.drew := hup _ _ hs (ext_drawn w)
  have H := mAny_lex (n := n) (T := fun listed => Region.seqB .any l.toArray (l.toArray.size - n) n listed = true) hsel hup (F := Region.lexHead .any l.toArray (l.toArray.size - n)) (fun listed h => by simpa [Region.lexHead] using h)
    (fun f k listed h => by simp only [Region.lexHead, Bool.and_eq_true] at h; exact ⟨⟨by simpa using h.1.1, h.1.2⟩, h.2⟩)
    (fun i listed hi inv hr j hj => by
      rcases Nat.lt_or_ge j n with h | h
      · exact h
      · exact absurd hj (tail_waits hsk hc hn inv _ i rfl hi (mem_ready.1 hr).1 j h))
    (fun listed hT j hj => seqB_ready hT j hj) (fun _ _ h => h) (l.take n) 0 _ a Ups.none (fun j hj => by
      have hj' : j < n := by rw [htl] at hj; exact hj
      simp [hj']) (by simpa using htl) inv0 (fun j _ => rfl) ⟨w.drew, hs', fun i p hp => by cases hp⟩ (by rw [htl]; exact hlex) h
  have := wpAny_of_mAny (Q' := Q) (g := l.toArray.size - n) hup (fun listed a' us w' hL hs ha => by
    have := wpAny_of_seq (md := .any) (Q' := Q) (l.drop n) n listed a' w' (fun j => by simp [List.getElem?_drop]) (by rw [hdl]; exact hL.1) (hL.2 w' hs ha)
    rwa [hdl] at this) _ _ _ _ w.drew H hs' (fun i p hp => by cases hp)
  rw [htl, show n + (l.toArray.size - n) = l.toArray.size by omega] at this
  exact this
theorem wp_region_mono_tail {P : Program} {id : Nat} {Q : Exit → Act → World → Prop} {a : Act} {w : World} {l : List Oper} (n : Nat) (S : World → Prop) (M : List Nat) (Φ : Nat → Value → World → World → Prop) (hup : ∀ w w', S w → Ext w w' → S w') (hs : S w)
    (hm : P.follows .mixedOrders = true) (hB : Region.lexTailB .any l.toArray n = true)
    (h : mList P (DepOn .any l.toArray) l.toArray S M Φ (fun a' us => ∀ w', S w' → Above us w' → wpList P l.toArray Q (l.drop n) a' w') 0 (l.take n) a Ups.none) : (Code.region id l.toArray true).wp P Q a w :=
  wp_region_any hm (wpAny_mono_tail n S M Φ hup hs hm hB h)

theorem wpList_of_mList {P : Program} {ops : Array Oper} {S : World → Prop} {M : List Nat} {Φ : Nat → Value → World → World → Prop} {Q : Exit → Act → World → Prop} (hup : ∀ w w', S w → Ext w w' → S w') (tail : List Oper) : ∀ (l : List Oper) (k : Nat) (a : Act) (us : Ups) (w : World),
    mList P (fun _ _ => True) ops S M Φ (fun a' us => ∀ w', S w' → Above us w' → wpList P ops Q tail a' w') k l a us → S w → Above us w → wpList P ops Q (l ++ tail) a w
  | [], k, a, us, w, h, hs, ha => h w hs ha
  | o :: l, k, a, us, w, h, hs, ha => by
    rcases h with ⟨_, v, h1, h2⟩ | ⟨_, h1, h2⟩
    · have h3 := wpList_of_mList hup tail l (k + 1) _ _ w h2 hs ha
      simp only [List.cons_append]
      unfold wpList
      rcases h1 with ⟨g1, g2⟩ | ⟨g1, g2⟩
      · rw [if_pos g1]
        refine .inl ?_
        simp only [Oper.wp, g2 w hs, Oper.upon]
        exact h3
      · rw [if_neg (by simp [g1]), ← g2]; exact h3
    · simp only [List.cons_append]
      unfold wpList
      rw [if_pos h1.1]
      refine .inl (wp_of_does (fun v w' hr => ?_) (h1.2 w hs fun i' p hp _ => ha i' p hp))
      have hs' := hup _ _ hs hr.1
      have ha' : Above (us.upd k (w, w')) w' := above_upd (fun i' p hp => (ha i' p hp).trans hr.1) (Ext.refl _)
      exact wpList_of_mList hup tail l (k + 1) _ _ w' (h2 v w w' ⟨hs, hs', fun i' p hp _ => ha i' p hp, fun i' p hp => .inl (ha i' p hp), hr.1, hr.2, w', hs', ha'⟩) hs' ha'
/-- A region that comes in order: the same walk. -/
theorem wp_region_seq_tail {P : Program} {id : Nat} {Q : Exit → Act → World → Prop} {a : Act} {w : World} {l : List Oper} (n : Nat) (S : World → Prop) (M : List Nat) (Φ : Nat → Value → World → World → Prop) (hup : ∀ w w', S w → Ext w w' → S w') (hs : S w)
    (h : mList P (fun _ _ => True) l.toArray S M Φ (fun a' us => ∀ w', S w' → Above us w' → wpList P l.toArray Q (l.drop n) a' w') 0 (l.take n) a Ups.none) : (Code.region id l.toArray false).wp P Q a w := by
  refine wp_region_list ?_
  have := wpList_of_mList hup (l.drop n) (l.take n) 0 a Ups.none w h hs (fun i p hp => by cases hp)
  rwa [List.take_append_drop] at this
section
variable {P : Program} {D : Nat → Nat → Prop} {ops : Array Oper} {S : World → Prop} {M : List Nat} {Φ : Nat → Value → World → World → Prop} {L : Act → Ups → Prop} {k : Nat} {o : Oper} {rest : List Oper} {a : Act} {us : Ups}
theorem m_plain {v : Value} (hc : M.contains k = false) (hw : Region.wanted o (yielded ops a.tmps) = true) (hv : ∀ w, S w → (execOp a.eval o).run P w = .ok (.value v) w)
    (h : ∀ K : Act → Ups → Prop, (∀ a us, mList P D ops S M Φ L (k + 1) rest a us → K a us) → K (a.put o.dst v) us) : mList P D ops S M Φ L k (o :: rest) a us :=
  .inl ⟨hc, v, .inl ⟨hw, hv⟩, h _ fun _ _ h => h⟩
theorem m_skip (hc : M.contains k = false) (hw : Region.wanted o (yielded ops a.tmps) = false)
    (h : ∀ K : Act → Ups → Prop, (∀ a us, mList P D ops S M Φ L (k + 1) rest a us → K a us) → K (a.put o.dst undef) us) : mList P D ops S M Φ L k (o :: rest) a us :=
  .inl ⟨hc, undef, .inr ⟨hw, rfl⟩, h _ fun _ _ h => h⟩
theorem m_make (hc : M.contains k = true) (hw : Region.wanted o (yielded ops a.tmps) = true)
    (hA : ∀ w, S w → (∀ i p, us i = some p → D i k → Ext p.2 w) → ∀ R : Value → World → Prop, Hid (∀ v w', Ext w w' ∧ Φ k v w w' → R v w') → does P o a w R)
    (h : ∀ v w w', Good D S Φ us k v w w' → ∀ K : Act → Ups → Prop, (∀ a us, mList P D ops S M Φ L (k + 1) rest a us → K a us) → K (a.put o.dst v) (us.upd k (w, w'))) : mList P D ops S M Φ L k (o :: rest) a us :=
  .inr ⟨hc, ⟨hw, fun w hs hd => hA w hs hd _ (fun _ _ h => h)⟩, fun v w w' hg => h v w w' hg _ fun _ _ h => h⟩
theorem m_nil (h : L a us) : mList P D ops S M Φ L k [] a us := h
end
end Go.Proofs.Ytkbbdlibamcilaa
