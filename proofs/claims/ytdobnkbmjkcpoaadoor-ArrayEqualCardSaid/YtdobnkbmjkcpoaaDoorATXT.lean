/- array.Text: contract. Conditions: the string is read; the tables of unicode/utf8 lie as their initialisers lay them. -/
import Derived.Test.YtdobnkbmjkcpoaaDoorABOX
import Derived.Ground.NamesProg
import Derived.Shelf.Lay
import Derived.Shelf.Unicode.ValidAny
import Derived.Lib.OthersKept
set_option linter.unusedVariables false
set_option linter.unusedSimpArgs false
namespace Go.Proofs
open Go.RowKit Go.Shelf Go.Lib
shelf_lay Lays.n196 Nm 196 at Tryd as Tryd.laysValid
end Go.Proofs
namespace Go.Proofs.YtdobnkbmjkcpoaaDoor
open Go.RowKit Go.Sort
attribute [local go_sem ↓] run_max2 run_min2
attribute [local go_sem] eql_ints_nil eql_arrs_nil
/-- the tables lie as they should -/
def Tabs (w : World) : Prop := Lib.Utf8Tabs (Tryd.laysValid_ren.g 3) (Tryd.laysValid_ren.g 4) w
/-- the runes of a string from position i on -/
def rns (s : ByteArray) : Nat → Nat → List Int
  | 0, _ => []
  | f + 1, i => if i < s.size then ((Utf8.decode s i).1 : Int) :: rns s f (i + (Utf8.decode s i).2) else []
def rnL (s : ByteArray) : List Int := rns s s.size 0
def txtA (s : ByteArray) : Arr := .mk 2 [((rnL s).length : Int)] (rnL s) []
def txtS (s : ByteArray) : Arr := if Lib.validD s.data.toList = true then validS (txtA s) else .zero
theorem utf8_ValidString (s : ByteArray) (w : World) (hs : s.size ≤ 9223372036854775807) (hT : Tabs w) :
    Calls Tryd.prog 56 #[.string s] w fun e w' => e = .returned (.bool (Lib.validD s.data.toList)) ∧ Below w.heap.size w w' :=
  Any.utf8_ValidString Tryd.laysValid s w hs hT
theorem decode_w (s : ByteArray) (i : Nat) : 1 ≤ (Utf8.decode s i).2 ∧ (Utf8.decode s i).1 ≤ 1114111 := by
  unfold Utf8.decode
  dsimp only
  split
  · exact ⟨Nat.le_refl _, by dsimp only; omega⟩
  · split
    · split
      · exact ⟨by dsimp only; omega, by dsimp only; omega⟩
      · exact ⟨by decide, by decide⟩
    · split
      · split
        · exact ⟨by dsimp only; omega, by dsimp only; omega⟩
        · exact ⟨by decide, by decide⟩
      · split
        · split
          · rename_i h
            refine ⟨by dsimp only; omega, ?_⟩
            simp only [Utf8.valid, ge_iff_le, Bool.and_eq_true, decide_eq_true_eq, Bool.or_eq_true] at h
            dsimp only; omega
          · exact ⟨by decide, by decide⟩
        · exact ⟨by decide, by decide⟩
section
variable {ops : Array Oper} {rest : List Oper} {o : Oper} {a : Act} {Q : Exit → Act → World → Prop} {w0 w : World} {S : Nat → Prop} {L : List Fact}
theorem wplE_next (E : Env w0 S w L) (j : Nat) {k : Nat} {s : ByteArray} {pos : Nat} (hj : L[j]? = some (.obj k (.stringIter s pos))) (hgd : o.guard = none) (p : Operand) (ho : o.op = .next p true) (hp : a.eval p = .pointer (some ⟨k, 0, none⟩)) (hlt : pos < s.size)
    (h : ∀ V, Env w0 S V (L.set j (.obj k (.stringIter s (pos + (Utf8.decode s pos).2)))) → wpList Tryd.prog ops Q rest (a.put o.dst (.tuple #[.bool true, .int .i64 pos, .int .i32 (Utf8.decode s pos).1])) V) : wpList Tryd.prog ops Q (o :: rest) a w := by
  have hk := E.obj j hj
  refine wpList_plain hgd fun K hK => ?_
  have hr := Lib.run_next_any_at (P := Tryd.prog) w k s pos o.type hk hlt
  have hz := (E.lt j hj).2
  have := hK _ _ (h (w.iterAt k s (pos + (Utf8.decode s pos).2)) (E.chg j hj ⟨⟨rfl, rfl, rfl, Nat.le_of_eq (Lib.iterAt_size _ _ _ _).symm, fun b hb hne => Lib.iterAt_other _ _ _ _ _ (fun e => hne (by rw [e]))⟩, Lib.iterAt_size _ _ _ _⟩ (Lib.iterAt_heap _ _ _ _ _ hk)))
  unfold Oper.wp
  simp [execOp, ho, hp, hr, Result.andThen]
  exact this
theorem wplE_nextEnd (E : Env w0 S w L) (j : Nat) {k : Nat} {s : ByteArray} {pos : Nat} (hj : L[j]? = some (.obj k (.stringIter s pos))) (hgd : o.guard = none) (p : Operand) (ho : o.op = .next p true) (hp : a.eval p = .pointer (some ⟨k, 0, none⟩)) (hlt : ¬ pos < s.size)
    (h : wpList Tryd.prog ops Q rest (a.put o.dst (.tuple #[.bool false])) w) : wpList Tryd.prog ops Q (o :: rest) a w := by
  have hk := E.obj j hj
  refine wpList_plain hgd fun K hK => ?_
  have hr := Lib.run_next_end_at (P := Tryd.prog) w k s pos o.type hk hlt
  have := hK _ _ h
  unfold Oper.wp
  simp [execOp, ho, hp, hr, Result.andThen]
  exact this
end
theorem rns_step {s : ByteArray} {f pos : Nat} (h : pos < s.size) (hf : s.size ≤ pos + f) : ∃ f', rns s f pos = ((Utf8.decode s pos).1 : Int) :: rns s f' (pos + (Utf8.decode s pos).2) ∧ s.size ≤ pos + (Utf8.decode s pos).2 + f' := by
  match f, hf with
  | 0, hf => omega
  | f + 1, hf =>
    have := (decode_w s pos).1
    exact ⟨f, by rw [rns, if_pos h], by omega⟩
theorem rns_end {s : ByteArray} {f pos : Nat} (h : ¬ pos < s.size) : rns s f pos = [] := by
  match f with
  | 0 => rfl
  | f + 1 => rw [rns, if_neg h]
set_option maxRecDepth 100000 in
set_option maxHeartbeats 4000000 in
theorem array_Text (s : ByteArray) (w : World) (hs : s.size ≤ 1000000) (hT : Tabs w) : Calls Tryd.prog 31 #[.string s] w (RetA w (fun b => w.heap.size ≤ b) (txtS s)) := by
  refine calls_post fun R' hR => ?_
  obtain ⟨S, hS⟩ : ∃ S : Nat → Prop, S = fun _ => False := ⟨_, rfl⟩
  go_enter Tryd.func31, Tryd.ntmps31
  go_upto_region 1 with (fail)
  generalize hEW : (w).alloc (.cells #[.int .i64 0, .slice none 0 0, .slice none 0 0, .slice none 0 0] 26) = W
  have E := hid (env1 w S hEW)
  clear hEW
  have hTW : Tabs W := Utf8Tabs_below hT E.out.ext
  go_wp2_with fail
  refine (utf8_ValidString s W (by omega) hTW).mono ?_
  rintro e w1 ⟨rfl, hb⟩
  replace E := hid (E.out.up hb)
  clear hb hTW
  cases hv : Lib.validD s.data.toList with
  | false =>
    have hz : Hid (txtS s = .zero) := hid (by unfold txtS; rw [if_neg (by rw [hv]; decide)])
    replace hv := hid hv
    go_wp2_with (refine wpl_store4 rfl (.tmp 2) (.tmp 9) rfl _ rfl rfl (E.out.hdr 0 rfl) ?_; intro V HV CV; replace E := hid (E.out.chg 0 rfl CV HV))
    exact bodyPost_ret (end_arr rfl HV rfl) rfl (hR.out _ _ (RetA.zero hz.out E.out.ext))
  | true =>
    have hz : Hid (txtS s = validS (txtA s)) := hid (by unfold txtS; rw [if_pos hv])
    replace hv := hid hv
    go_upto_region 4 with (refine wpl_store4 rfl (.tmp 3) (.tmp 10) rfl _ rfl rfl ((E.out.alloc _).hdr 1 rfl) ?_; intro V1 HV CV; replace E := hid ((E.out.alloc _).chg 1 rfl CV HV); clear CV HV; (try simp only [List.cons_append, List.nil_append, List.set_cons_zero, List.set_cons_succ] at E))
    generalize w1.heap.size = bo at E ⊢
    replace E := hid E.out.row0I
    (try simp only [List.cons_append, List.nil_append, List.set_cons_zero, List.set_cons_succ] at E)
    go_wp2_with fail
    have E1 : Env w S (V1.iter s 0) _ := E.out.alloc (.stringIter s 0)
    clear E
    have E := hid E1
    clear E1
    generalize V1.iter s 0 = V2 at E ⊢
    generalize V1.heap.size = pi at E ⊢
    (try simp only [List.cons_append, List.nil_append, List.set_cons_zero, List.set_cons_succ] at E)
    go_loopw [5] (fun u wr => ∃ (pos f : Nat) (ln : List Int) (na : Option Addr) (nc : Nat), Hid (ln ++ rns s f pos = rnL s ∧ s.size ≤ pos + f) ∧ ln.length ≤ pos ∧ ln.length ≤ s.size ∧ Env w S wr [.obj w.heap.size (.cells #[.int .i64 0, .slice none 0 0, .slice none 0 0, .slice none 0 0] 26 (0, 0)), .obj bo (.cells #[.int .i64 2, .slice none 0 0, .slice na ln.length nc, .slice none 0 0] 26 (0, 0)), .rowI na nc ln, .obj pi (.stringIter s pos)]) (fun _ wr => s.size - World.iterPos wr pi)
    case atStart => exact ⟨0, s.size, [], none, 0, hid ⟨rfl, by omega⟩, Nat.zero_le _, Nat.zero_le _, E.out⟩
    case round =>
      clear E
      obtain ⟨pos, f, ln, na, nc, hI, hl1, hl2, E⟩ := hrel
      replace E := hid E
      have hip : World.iterPos wr pi = pos := by unfold World.iterPos; rw [E.out.obj 3 rfl]
      by_cases hp : pos < s.size
      case pos =>
        obtain ⟨f', hf1, hf2⟩ := rns_step hp hI.out.2
        obtain ⟨hw1, hw2⟩ := decode_w s pos
        have hI2 := hI.out.1
        rw [hf1] at hI2
        obtain ⟨r, hr⟩ : ∃ r, r = (Utf8.decode s pos).1 := ⟨_, rfl⟩
        obtain ⟨wd, hwd⟩ : ∃ r, r = (Utf8.decode s pos).2 := ⟨_, rfl⟩
        rw [← hr] at hw2 hI2
        rw [← hwd] at hw1 hI2 hf2
        replace hI2 : Hid ((ln ++ [(r : Int)]) ++ rns s f' (pos + wd) = rnL s) := hid (by rw [List.append_assoc]; exact hI2)
        replace hr := hid hr
        replace hwd := hid hwd
        have hrz : (r : Int) ≤ 1114111 := by omega
        go_upto_region 6 with (refine wplE_next E.out 3 rfl rfl (.tmp 12) rfl rfl hp ?_; rw [← hr.out, ← hwd.out]; intro V3 E1; clear E; have E := hid E1; clear E1; (try simp only [List.cons_append, List.nil_append, List.set_cons_zero, List.set_cons_succ] at E))
        obtain ⟨q10, q11, q12, q13⟩ := (E.out.hdr 1 rfl).all
        go_wp2_with (first
          | (refine wpl_buildW rfl (r : Int) (.tmp 19) rfl rfl ?_; have E1 : Env w S (V3.alloc (.cells #[.int .i64 (r : Int)] 3)) _ := E.out.lit [(r : Int)] (show (1 : Nat) ≤ 17592186044416 by decide); clear E; have E := hid E1; clear E1; generalize World.alloc _ (.cells #[.int .i64 (r : Int)] 3) = V4 at E ⊢; generalize V3.heap.size = pl at E ⊢; (try simp only [List.cons_append, List.nil_append, List.set_cons_zero, List.set_cons_succ] at E))
          | (at_builtin; refine wplE_addN E.out 1 2 rfl rfl (by decide) rfl rfl rfl (.tmp 17) (.tmp 20) (.tmp 3) (.tmp 22) (.tmp 21) rfl rfl rfl _ _ 1 [(r : Int)] rfl rfl (E.out.ints 4 rfl) (by simp only [List.length_cons, List.length_nil]; omega) (fun _ => rfl) (fun _ _ => rfl) (fun _ _ => rfl) ?_; intro V5 na' nc' E'; clear E; have E := hid E'; clear E'; (try simp only [List.cons_append, List.nil_append, List.set_cons_zero, List.set_cons_succ] at E)))
        have hip2 : World.iterPos V5 pi = pos + wd := by unfold World.iterPos; rw [E.out.obj 3 rfl]
        go_roundw
        case rel => (repeat apply Exists.intro); exact ⟨⟨pos + wd, f', ln ++ [(r : Int)], na', nc', hid ⟨hI2.out, hf2⟩, by simp only [List.length_append, List.length_cons, List.length_nil]; omega, by simp only [List.length_append, List.length_cons, List.length_nil]; omega, E.out.sub (List.Sublist.cons_cons _ (List.Sublist.cons_cons _ (List.Sublist.cons_cons _ (List.Sublist.cons_cons _ (List.nil_sublist _)))))⟩, rfl⟩
        case measure => rw [hip, hip2]; omega
      case neg =>
        have hln : Hid (ln = rnL s) := hid (by have := hI.out.1; rw [rns_end hp, List.append_nil] at this; exact this)
        go_upto_region 8 with (refine wplE_nextEnd E.out 3 rfl rfl (.tmp 12) rfl rfl hp ?_)
        replace E := hid (E.out.doneI 2 rfl (by omega))
        (try simp only [List.cons_append, List.nil_append, List.set_cons_zero, List.set_cons_succ] at E)
        obtain ⟨q10, q11, q12, q13⟩ := (E.out.hdr 1 rfl).all
        go_upto_region 9 with (first
          | (refine wpl_buildW rfl (ln.length : Int) (.tmp 25) rfl rfl ?_; have E1 : Env w S (wr.alloc (.cells #[.int .i64 (ln.length : Int)] 3)) _ := E.out.lit [(ln.length : Int)] (show (1 : Nat) ≤ 17592186044416 by decide); clear E; have E := hid E1; clear E1; generalize World.alloc _ (.cells #[.int .i64 (ln.length : Int)] 3) = V4 at E ⊢; generalize wr.heap.size = pl at E ⊢; (try simp only [List.cons_append, List.nil_append, List.set_cons_zero, List.set_cons_succ] at E))
          | (refine wpl_store1 rfl (.tmp 27) (.tmp 26) rfl bo rfl rfl (E.out.hdr 1 rfl) ?_; intro V HV CV; replace E := hid (E.out.chg 1 rfl CV HV); clear HV CV; (try simp only [List.cons_append, List.nil_append, List.set_cons_zero, List.set_cons_succ] at E)))
        clear q10 q11 q12 q13
        obtain ⟨q10, q11, q12, q13⟩ := (E.out.hdr 1 rfl).all
        go_wp2_with fail
        clear q10 q11 q12 q13
        refine (array_valid (.mk 2 [(ln.length : Int)] ln []) _ 1 _ _ none 0 _ _ (vec_at (E.out.ints 4 rfl) (E.out.ints 2 rfl))).mono ?_
        intro e w5 h
        obtain ⟨s7, c7, n7, m7, i7, j7, rfl, hA, hb⟩ := h.eq rfl
        replace E := hid ((E.out.up hb).addArr hA (fun b _ hq => E.out.res (Ext.refl _) hq))
        clear hA hb h
        (try simp only [List.cons_append, List.nil_append, List.set_cons_zero, List.set_cons_succ] at E)
        have hz2 : Hid (txtS s = validS (.mk 2 [(ln.length : Int)] ln [])) := hid (by rw [hz.out, txtA, ← hln.out])
        generalize validS (.mk 2 [(ln.length : Int)] ln []) = r at E hz2 ⊢
        go_wp2_with (refine wpl_store4 rfl (.tmp 2) (.tmp 29) rfl _ rfl rfl (E.out.hdr 0 rfl) ?_; intro V6 HV CV; replace E := hid (E.out.chg 0 rfl CV HV))
        subst hS
        exact bodyPost_ret (end_arr rfl HV rfl) rfl (hR.out _ _ (RetA.to hz2.out (ArrAt.mono (fun b _ h => h.1.elim False.elim id) _ (E.out.arr 5 rfl)) E.out.ext))
end Go.Proofs.YtdobnkbmjkcpoaaDoor
