/- rotating.Reverse and rotating.Rotate: contracts. Conditions: the arrays are read. -/
import Derived.Test.YtkbbdlibamcilaaBUILD
import Derived.Test.YtkbbdlibamcilaaVIS
set_option linter.unusedVariables false
set_option linter.unusedSimpArgs false
namespace Go.Proofs.Ytkbbdlibamcilaa
open Go.RowKit Go.Sort
attribute [local go_sem ↓] run_max2 run_min2
attribute [local go_sem] eql_ints_nil eql_arrs_nil
theorem right_ok {a : Arr} (h : rightS a = 0) : (a.kind = 1 ∨ a.kind = 2 ∨ a.kind = 3) ∧ shapeB a.shape = true ∧ ((a.kind = 3 ∧ (a.items.length : Int) = cnt a.shape ∧ a.nums.length = 0) ∨ (a.kind ≠ 3 ∧ (a.nums.length : Int) = cnt a.shape ∧ a.items.length = 0)) :=
  formE_zero (chk_ok h).1
/-- an array and an error number -/
def RetAE (w : World) (S : Nat → Prop) (a : Arr) (n : Int) (e : Ending) (w' : World) : Prop :=
  ∃ sa sc na nc ia ic, e = .returned (.tuple #[.agg #[.int .i64 a.kind, .slice sa a.shape.length sc, .slice na a.nums.length nc, .slice ia a.items.length ic], .int .i64 n]) ∧ ArrAt w' S a sa na ia ∧ Below w.heap.size w w'
theorem end_arr2 {fn : Func} {p q : Tmp} (hres : fn.results = #[.cell p 26, .tmp q]) {w : World} {b : Nat} {tmps : Array Value} {k s n i : Value} (h : Hdr w b k s n i) (hp : tmps.getD p undef = .pointer (some ⟨b, 0, none⟩)) {v : Value} (hq : tmps.getD q undef = v) :
    (results fn tmps).run Try.prog w = .ok (.tuple #[.agg #[k, s, n, i], v]) w := by
  have hp' : tmps[p]?.getD undef = .pointer (some ⟨b, 0, none⟩) := by simpa using hp
  have hq' : tmps[q]?.getD undef = v := by simpa using hq
  simp [results, hres, hp', hq', asAddr, run_loadVar_row w b _ _ _ _ _ h Try.underlying26 rfl (by kernel_rfl)]
def revF (s : List Int) (j n : Int) : Int := if j = 0 then s.getD 0 0 - 1 - n else n
theorem RetA.to {w V : World} {S : Nat → Prop} {a b : Arr} {sa na ia : Option Addr} {sc nc ic : Nat} (E : a = b) (h : ArrAt V S b sa na ia) (hb : Below w.heap.size w V) : RetA w S a (.returned (.agg #[.int .i64 b.kind, .slice sa b.shape.length sc, .slice na b.nums.length nc, .slice ia b.items.length ic])) V := by
  subst E; exact ⟨sa, sc, na, nc, ia, ic, rfl, h, hb⟩
theorem RetA.zero {w V : World} {S : Nat → Prop} {a : Arr} (E : a = .zero) (hb : Below w.heap.size w V) : RetA w S a (.returned (.agg #[.int .i64 0, .slice none 0 0, .slice none 0 0, .slice none 0 0])) V := by
  subst E; exact ⟨none, 0, none, 0, none, 0, rfl, zero_at _ _ _ _ _, hb⟩
theorem RetAE.to {w V : World} {S : Nat → Prop} {a b : Arr} {n m : Int} {sa na ia : Option Addr} {sc nc ic : Nat} (E : a = b) (E2 : n = m) (h : ArrAt V S b sa na ia) (hb : Below w.heap.size w V) : RetAE w S a n (.returned (.tuple #[.agg #[.int .i64 b.kind, .slice sa b.shape.length sc, .slice na b.nums.length nc, .slice ia b.items.length ic], .int .i64 m])) V := by
  subst E; subst E2; exact ⟨sa, sc, na, nc, ia, ic, rfl, h, hb⟩
theorem RetAE.zero {w V : World} {S : Nat → Prop} {a : Arr} {n m : Int} (E : a = .zero) (E2 : n = m) (hb : Below w.heap.size w V) : RetAE w S a n (.returned (.tuple #[.agg #[.int .i64 0, .slice none 0 0, .slice none 0 0, .slice none 0 0], .int .i64 m])) V := by
  subst E; subst E2; exact ⟨none, 0, none, 0, none, 0, rfl, zero_at _ _ _ _ _, hb⟩
theorem revF_keeps (s : List Int) : keeps (revF s) s := fun j n hj h0 h1 => by
  unfold revF
  by_cases e : (j : Int) = 0
  · rw [if_pos e]
    have : j = 0 := by omega
    subst this
    omega
  · rw [if_neg e]; exact ⟨h0, h1⟩
def revS (a : Arr) : Arr := if rightS a = 0 then gathS a a.shape (srcS (revF a.shape) a.shape) (cnt a.shape).toNat else .zero
/-- the rotated place -/
def rotF (xs s : List Int) (j n : Int) : Int := if (xs.length : Int) ≤ j then n else (n + xs.getD j.toNat 0) % s.getD j.toNat 0
theorem rotF_keeps (xs s : List Int) : keeps (rotF xs s) s := fun j n hj h0 h1 => by
  unfold rotF
  split
  · exact ⟨h0, h1⟩
  · simp only [Int.toNat_natCast]
    exact ⟨Int.emod_nonneg _ (by omega), Int.emod_lt_of_pos _ (by omega)⟩
theorem tmod_bd (x d : Int) (hd : 0 < d) : -d < x.tmod d ∧ x.tmod d < d := by
  have h1 := Int.tmod_lt_of_pos x hd
  have h2 : -d < x.tmod d := by
    have h3 := Int.tmod_lt_of_pos (-x) hd
    rw [Int.neg_tmod] at h3
    omega
  exact ⟨h2, h1⟩
theorem rot_mod (n x d : Int) (hd : 0 < d) : (n + x.tmod d + d) % d = (n + x) % d := by
  have e : x.tmod d = x - d * x.tdiv d := by have := Int.mul_tdiv_add_tmod x d; omega
  rw [e, Int.add_emod_right]
  have e2 : n + (x - d * x.tdiv d) = (n + x) + d * (-(x.tdiv d)) := by rw [Int.mul_neg]; omega
  rw [e2, Int.add_mul_emod_self_left]
def rotE (x y : Arr) : Int := if rightS x ≠ 0 ∨ rightS y ≠ 0 then 1 else if x.kind ≠ 1 then 14 else if 1 < x.shape.length then 15 else if y.shape.length < x.nums.length then 16 else 0
def rotS (x y : Arr) : Arr := if rotE x y = 0 then gathS y y.shape (srcS (rotF x.nums y.shape) y.shape) (cnt y.shape).toNat else .zero
end Go.Proofs.Ytkbbdlibamcilaa
