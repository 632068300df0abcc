/- The statements about package structure: each returns true. Condition: the arrays are read. -/
import Derived.Test.YtkbbdlibamcilaaC17B
import Derived.Test.YtkbbdlibamcilaaC17C
import Derived.Test.YtkbbdlibamcilaaC17D
import Derived.Test.YtkbbdlibamcilaaC17E
import Derived.Test.YtkbbdlibamcilaaC17I
set_option linter.unusedVariables false
set_option linter.unusedSimpArgs false
namespace Go.Proofs.Ytkbbdlibamcilaa
open Go.RowKit Go.Sort
attribute [local go_sem ↓] run_max2 run_min2
attribute [local go_sem] eql_ints_nil eql_arrs_nil
set_option maxHeartbeats 2000000 in
theorem law17_ints (s l : List Int) (so : Option Addr) (sc : Nat) (lo : Option Addr) (lc : Nat) (S : Nat → Prop) (w : World) (h : IntsAt w S so s) (g : IntsAt w S lo l) : Calls Try.prog 17 #[.slice so s.length sc, .slice lo l.length lc] w (RetA w (fun b => S b ∨ w.heap.size ≤ b) (.mk 1 s l [])) := by
  refine calls_post fun R' hR => ?_
  have h0 := hid h
  have g0 := hid g
  clear h g
  go_enter Try.func17, Try.ntmps17
  go_upto_region 1 with (fail)
  generalize hEW : (w).alloc (.cells #[.int .i64 0, .slice none 0 0, .slice none 0 0, .slice none 0 0] 26) = W
  have E := hid (env1 w S hEW)
  clear hEW
  replace E := hid ((E.out.argI h0.out).argI g0.out)
  (try simp only [List.cons_append, List.nil_append, List.set_cons_zero, List.set_cons_succ] at E)
  go_wp2_with (refine wpl_store4 rfl (.tmp 4) (.tmp 7) rfl _ rfl rfl (E.out.hdr 0 rfl) ?_; intro V HV CV; replace E := hid (E.out.chg 0 rfl CV HV))
  exact bodyPost_ret (end_arr rfl HV rfl) rfl (hR.out _ _ (RetA.to (b := .mk 1 s l []) rfl (ArrAt.mono (fun b _ h => h.1) _ (vec_at (E.out.ints 1 rfl) (E.out.ints 2 rfl))) E.out.ext))
end Go.Proofs.Ytkbbdlibamcilaa
