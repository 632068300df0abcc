/- ref03.Clone: a contract that tells that the copy's rows are its own. Condition: the array is read. -/
import Derived.Test.YtcoknjlkhefgpaaGG
import Derived.Test.YtcoknjlkhefgpaaGK
import Derived.Test.YtcoknjlkhefgpaaGC
set_option linter.unusedVariables false
set_option linter.unusedSimpArgs false
namespace Go.Proofs.Ytcoknjlkhefgpaa
open Go.RowKit Go.Sort
attribute [local go_sem ↓] run_max2 run_min2
attribute [local go_sem] eql_ints_nil eql_arrs_nil
theorem own4 {w : World} {base : Nat} {ao : Option Addr} {cap : Nat} {xs : List Int} {b : Nat} {v0 v1 v2 v3 : Value} (h : OwnI w base ao cap xs) (hb : rowOf ao ≠ some b) : OwnI ((((w.setCell ⟨b, 0, none⟩ v0).setCell ⟨b, 1, none⟩ v1).setCell ⟨b, 2, none⟩ v2).setCell ⟨b, 3, none⟩ v3) base ao cap xs :=
  h.keep fun k hk => set4 w b v0 v1 v2 v3 (fun e => hb (e ▸ hk))
theorem env_own {w V : World} {a : Arr} {n1 io s1 : Option Addr} {m1 icap d1 B2 : Nat} (hb : Below w.heap.size w V) (hB : w.heap.size ≤ B2) (hS : OwnI V w.heap.size s1 d1 a.shape) (hsl : a.shape.length ≤ 17592186044416) (hN : OwnI V w.heap.size n1 m1 a.nums) (hI : OwnA V B2 (fun b => B2 ≤ b) io icap a.items) (h1 : ∀ k, rowOf s1 = some k → rowOf n1 ≠ some k ∧ k < B2) (h2 : ∀ k, rowOf n1 = some k → k < B2) :
    Env w (fun _ => False) V [.rowI n1 m1 a.nums, .rowA io icap a.items, .ints a.shape s1] := by
  have hbk : blks [.rowI n1 m1 a.nums, .rowA io icap a.items, .ints a.shape s1] = (rowOf n1).toList ++ (rowOf io).toList := by simp [blks, Fact.blk]
  have hr := hI.row
  have hx : ∀ k ∈ (rowOf n1).toList ++ (rowOf io).toList, (rowOf n1 = some k ∨ rowOf io = some k) := fun k hk => by
    simpa [List.mem_append] using hk
  refine ⟨hb, ?_, ?_, ?_⟩
  · rw [hbk, List.nodup_append]
    refine ⟨nodup_opt _, nodup_opt _, fun a ha b hb' => ?_⟩
    simp only [Option.mem_toList, Option.mem_def] at ha hb'
    have := h2 a ha
    have := (hr b hb').1
    omega
  · intro b h
    rw [hbk] at h
    rcases hx b h with q | q
    · exact hN.row b q
    · have := hr b q; omega
  · intro f hf
    simp only [List.mem_cons, List.not_mem_nil, or_false] at hf
    rcases hf with rfl | rfl | rfl
    · exact hN
    · obtain ⟨cs, c1, c2⟩ := hI.base hB
      refine ⟨cs, c1, c2.mono fun b _ hs => ⟨⟨Or.inr (Nat.le_trans hB hs.1), fun q => ?_⟩, hs.2⟩⟩
      rw [hbk] at q
      rcases hx b q with q | q
      · exact absurd (h2 b q) (Nat.not_lt.2 hs.1)
      · exact hs.2 q.symm
    · refine (hS.ints hsl).mono fun b _ hs => ⟨Or.inr hs.1, fun q => ?_⟩
      rw [hbk] at q
      rcases hx b q with q | q
      · exact (h1 b hs.2).1 q
      · have := (h1 b hs.2).2; have := (hr b q).1; omega
/-- rows that a call has made, and what was known before -/
theorem Env.joinOwn {w0 w w' : World} {S : Nat → Prop} {L : List Fact} {n1 io s1 : Option Addr} {m1 icap : Nat} {xs s : List Int} {l : List Arr} (E : Env w0 S w L) (F : Env w (fun _ => False) w' [.rowI n1 m1 xs, .rowA io icap l, .ints s s1]) : Env w0 S w' (.rowI n1 m1 xs :: .rowA io icap l :: .ints s s1 :: L) := by
  have hbk : blks (.rowI n1 m1 xs :: .rowA io icap l :: .ints s s1 :: L) = blks [.rowI n1 m1 xs, .rowA io icap l, .ints s s1] ++ blks L := by simp [blks, Fact.blk]
  have hz := E.size
  have eF : Ext w w' := F.ext
  have hT : ∀ b, b < w'.heap.size → Tst w (fun _ => False) [.rowI n1 m1 xs, .rowA io icap l, .ints s s1] b → Tst w0 S (.rowI n1 m1 xs :: .rowA io icap l :: .ints s s1 :: L) b := fun b _ hb => by
    have h1 : w.heap.size ≤ b := hb.1.elim (fun q => q.elim) id
    refine ⟨Or.inr (by omega), fun q => ?_⟩
    rw [hbk, List.mem_append] at q
    rcases q with q | q
    · exact hb.2 q
    · have := (E.lo b q).2; omega
  refine ⟨(E.up eF).ext, ?_, ?_, ?_⟩
  · rw [hbk, List.nodup_append]
    refine ⟨F.nd, E.nd, fun a ha b hb => ?_⟩
    have := (F.lo a ha).1
    have := (E.lo b hb).2
    omega
  · intro b h
    rw [hbk, List.mem_append] at h
    rcases h with h | h
    · have := F.lo b h; omega
    · exact (E.up eF).lo b h
  · intro f hf
    simp only [List.mem_cons] at hf
    rcases hf with rfl | rfl | rfl | hf
    · exact OwnI.base (F.rowI 0 rfl) hz
    · exact OwnA.mono (OwnA.base (F.rowA 1 rfl) hz) hT
    · exact IntsAt.mono (F.ints 2 rfl) hT
    · refine Fact.keep (E.h f hf) (fun b hb => eF.block b (E.lo b (mem_blks.2 ⟨f, hf, hb⟩)).2) (fun b _ hlt => eF.block b hlt) (fun b hlt hb => ⟨hb.1, fun q => ?_⟩)
      rw [hbk, List.mem_append] at q
      rcases q with q | q
      · have := (F.lo b q).1; omega
      · exact hb.2 q
/-- an array whose rows are its own -/
def RetOwn (w : World) (a : Arr) (e : Ending) (w' : World) : Prop :=
  ∃ sa sc na nc ia ic, e = .returned (.agg #[.int .i64 a.kind, .slice sa a.shape.length sc, .slice na a.nums.length nc, .slice ia a.items.length ic]) ∧ a.shape.length ≤ sc ∧ a.nums.length ≤ nc ∧ a.items.length ≤ ic ∧ Env w (fun _ => False) w' [.rowI na nc a.nums, .rowA ia ic a.items, .ints a.shape sa]
/-- the copy's variable, behind the first statement -/
def RcMidO (w W : World) (a : Arr) (p : Value) (wx : World) : Prop :=
  ∃ bx sa sc na nc, p = .pointer (some ⟨bx, 0, none⟩) ∧ w.heap.size + 2 ≤ bx ∧ bx < wx.heap.size ∧ wx.cell? ⟨bx, 0, none⟩ = some (.int .i64 a.kind) ∧ wx.cell? ⟨bx, 1, none⟩ = some (.slice sa a.shape.length sc) ∧ wx.cell? ⟨bx, 2, none⟩ = some (.slice na a.nums.length nc) ∧ wx.cell? ⟨bx, 3, none⟩ = some (.slice none 0 0) ∧ wx.frozen? ⟨bx, 3, none⟩ = false ∧
    OwnI wx (w.heap.size + 2) sa sc a.shape ∧ OwnI wx (w.heap.size + 2) na nc a.nums ∧ (∀ k, rowOf sa = some k → k ≠ bx ∧ rowOf na ≠ some k) ∧ (∀ k, rowOf na = some k → k ≠ bx) ∧ Below W.heap.size W wx
set_option maxRecDepth 100000 in
set_option maxHeartbeats 4000000 in
theorem ref03_CloneO (a : Arr) : ∀ (sa : Option Addr) (sc : Nat) (na : Option Addr) (nc : Nat) (ia : Option Addr) (ic : Nat) (S : Nat → Prop) (w : World), ArrAt w S a sa na ia →
    Calls Try.prog 46 #[.agg #[.int .i64 a.kind, .slice sa a.shape.length sc, .slice na a.nums.length nc, .slice ia a.items.length ic]] w (RetOwn w a) := by
  induction a using Arr.ind with
  | h a IH0 =>
    intro sa sc na nc ia ic S w h
    have IH : Hid (∀ x ∈ a.items, ∀ (sa : Option Addr) (sc : Nat) (na : Option Addr) (nc : Nat) (ia : Option Addr) (ic : Nat) (S : Nat → Prop) (w : World), ArrAt w S x sa na ia → Calls Try.prog 46 #[.agg #[.int .i64 x.kind, .slice sa x.shape.length sc, .slice na x.nums.length nc, .slice ia x.items.length ic]] w (RetA w (fun b => w.heap.size ≤ b) x)) := hid (fun x _ => ref03_Clone x)
    clear IH0
    refine calls_post fun R' hR => ?_
    have hil := h.len
    have hsl := h.shape.1
    have hnl := h.nums.1
    have h0 := hid h
    clear h
    go_enter Try.func46, Try.ntmps46
    go_wp2_with fail
    go_cut [3] (fun p wx => RcMidO w ((w.alloc (.cells #[.int .i64 a.kind, .slice sa a.shape.length sc, .slice na a.nums.length nc, .slice ia a.items.length ic] 26)).alloc (.cells #[.int .i64 0, .slice none 0 0, .slice none 0 0, .slice none 0 0] 26)) a p wx)
    case first =>
      have c0 : ((w.alloc (.cells #[.int .i64 a.kind, .slice sa a.shape.length sc, .slice na a.nums.length nc, .slice ia a.items.length ic] 26)).alloc (.cells #[.int .i64 0, .slice none 0 0, .slice none 0 0, .slice none 0 0] 26)).cell? ⟨w.heap.size, 0, none⟩ = some (.int .i64 a.kind) := by simp [go_sem]
      have c1 : ((w.alloc (.cells #[.int .i64 a.kind, .slice sa a.shape.length sc, .slice na a.nums.length nc, .slice ia a.items.length ic] 26)).alloc (.cells #[.int .i64 0, .slice none 0 0, .slice none 0 0, .slice none 0 0] 26)).cell? ⟨w.heap.size, 1, none⟩ = some (.slice sa a.shape.length sc) := by simp [go_sem]
      have c2 : ((w.alloc (.cells #[.int .i64 a.kind, .slice sa a.shape.length sc, .slice na a.nums.length nc, .slice ia a.items.length ic] 26)).alloc (.cells #[.int .i64 0, .slice none 0 0, .slice none 0 0, .slice none 0 0] 26)).cell? ⟨w.heap.size, 2, none⟩ = some (.slice na a.nums.length nc) := by simp [go_sem]
      have hsz : ((w.alloc (.cells #[.int .i64 a.kind, .slice sa a.shape.length sc, .slice na a.nums.length nc, .slice ia a.items.length ic] 26)).alloc (.cells #[.int .i64 0, .slice none 0 0, .slice none 0 0, .slice none 0 0] 26)).heap.size = w.heap.size + 2 := by simp
      have h1 : Hid (ArrAt ((w.alloc (.cells #[.int .i64 a.kind, .slice sa a.shape.length sc, .slice na a.nums.length nc, .slice ia a.items.length ic] 26)).alloc (.cells #[.int .i64 0, .slice none 0 0, .slice none 0 0, .slice none 0 0] 26)) S a sa na ia) := hid ((h0.out.alloc _).alloc _)
      generalize hWe : ((w.alloc (.cells #[.int .i64 a.kind, .slice sa a.shape.length sc, .slice na a.nums.length nc, .slice ia a.items.length ic] 26)).alloc (.cells #[.int .i64 0, .slice none 0 0, .slice none 0 0, .slice none 0 0] 26)) = W at c0 c1 c2 hsz h1 ⊢
      replace hWe := hid hWe
      go_region_held3 (fun w' => w'.cell? ⟨w.heap.size, 0, none⟩ = some (.int .i64 a.kind) ∧ w'.cell? ⟨w.heap.size, 1, none⟩ = some (.slice sa a.shape.length sc) ∧ w'.cell? ⟨w.heap.size, 2, none⟩ = some (.slice na a.nums.length nc)) (simp [go_sem, World.cell?_alloc_past, *])
        (first
          | (refine step_appI _ (by rfl) (.const (.slice none 0 0)) (.tmp 8) (by rfl) (w.heap.size + 2) none 0 [] (by rfl) (OwnI.nil _ _) S sa sc a.shape (by rfl) (by first | exact h1.out.shape.drew | exact (h1.out.shape.alloc _).drew) (by simp; omega) (by (try simp); omega) ?_; intro aoA capA wA ownA hgA hrA; obtain ⟨hcA, hfA⟩ := bcell (below_app0 hgA); have hsA := hgA.size; (try simp at hsA); have hltA : w.heap.size < wA.heap.size := (by omega); have hltA1 : w.heap.size < wA.heap.size + 1 := (by omega); (try have hltA2 : w.heap.size + 2 < wA.heap.size := (by omega)))
          | (refine step_appI _ (by rfl) (.const (.slice none 0 0)) (.tmp 11) (by rfl) (w.heap.size + 2) none 0 [] (by rfl) (OwnI.nil _ _) S na nc a.nums (by rfl) (by first | exact h1.out.nums.drew.grown0 hgA | exact (h1.out.nums.alloc _).drew.grown0 hgA | exact (h1.out.nums.drew.grown0 hgA).alloc _) (by simp; omega) (by (try simp); omega) ?_; intro aoB capB wB ownB hgB hrB; obtain ⟨hcB, hfB⟩ := bcell (below_app0 hgB); have hsB := hgB.size; (try simp at hsB); have hltB : w.heap.size < wB.heap.size := (by omega); (try have hltB2 : w.heap.size + 2 < wB.heap.size := (by omega)); (try have hltB3 : wA.heap.size < wB.heap.size := (by omega))))
      all_goals
        have ownA' : Hid (OwnI wA (w.heap.size + 2) aoA capA a.shape) := ownA
        have ownB' : Hid (OwnI wB (w.heap.size + 2) aoB capB a.nums) := ownB
        have bA : Hid (Below W.heap.size W wA) := by first | exact undrew (below_app0 hgA) | exact below_alloc (undrew (below_app0 hgA))
        have bB : Hid (Below wA.heap.size wA wB) := by first | exact below_app0 hgB | exact below_alloc (below_app0 hgB)
      · have XA := hid (OwnI.up ownA'.out bB.out)
        have XC : Hid (∀ k, rowOf aoA = some k → k ≠ wB.heap.size ∧ rowOf aoB ≠ some k) := hid (fun k hk => ⟨(by have hh := ownA'.out.row k hk; rcases hrA with h | h <;> rw [h] at hk <;> simp [rowOf] at hk <;> omega), fun hk2 => by have hh := ownA'.out.row k hk; rcases hrB with h | h <;> rw [h] at hk2 <;> simp [rowOf] at hk2 <;> omega⟩)
        have XB := hid ownB'.out
        have XD : Hid (∀ k, rowOf aoB = some k → k ≠ wB.heap.size) := hid (fun k hk => by have hh := ownB'.out.row k hk; rcases hrB with h | h <;> rw [h] at hk <;> simp [rowOf] at hk <;> omega)
        have zB := bB.out.size
        go_wp2_with fail
        go_meet
        exact ⟨wB.heap.size, aoA, capA, aoB, capB, rfl, by omega, by (first | omega | (simp; done) | (simp; omega)), by simp [go_sem, *], by simp [go_sem, *], by simp [go_sem, *], by simp [go_sem, *], by simp [go_sem, *], by exact XA.out.alloc _, by exact XB.out.alloc _, XC.out, XD.out, by rw [hWe.out]; exact (bA.out.trans (bB.out.mono bA.out.size)).alloc (bA.out.trans (bB.out.mono bA.out.size)).size _⟩
      · have XA := hid (OwnI.up ownA'.out bB.out)
        have XC : Hid (∀ k, rowOf aoA = some k → k ≠ wA.heap.size ∧ rowOf aoB ≠ some k) := hid (fun k hk => ⟨(by have hh := ownA'.out.row k hk; rcases hrA with h | h <;> rw [h] at hk <;> simp [rowOf] at hk <;> omega), fun hk2 => by have hh := ownA'.out.row k hk; rcases hrB with h | h <;> rw [h] at hk2 <;> simp [rowOf] at hk2 <;> omega⟩)
        have XB := hid ownB'.out
        have XD : Hid (∀ k, rowOf aoB = some k → k ≠ wA.heap.size) := hid (fun k hk => by have hh := ownB'.out.row k hk; rcases hrB with h | h <;> rw [h] at hk <;> simp [rowOf] at hk <;> omega)
        have zB := bB.out.size
        go_wp2_with fail
        go_meet
        exact ⟨wA.heap.size, aoA, capA, aoB, capB, rfl, by omega, by (first | omega | (simp; done) | (simp; omega)), by simp [go_sem, *], by simp [go_sem, *], by simp [go_sem, *], by simp [go_sem, *], by simp [go_sem, *], own4 XA.out (fun q => (XC.out _ q).1 rfl), own4 XB.out (fun q => XD.out _ q rfl), XC.out, XD.out, by rw [hWe.out]; exact ((((bA.out.trans (bB.out.mono bA.out.size)).setCell (show W.heap.size ≤ wA.heap.size by omega) _).setCell (show W.heap.size ≤ wA.heap.size by omega) _).setCell (show W.heap.size ≤ wA.heap.size by omega) _).setCell (show W.heap.size ≤ wA.heap.size by omega) _⟩
      · have XA := hid (OwnI.up ownA'.out bB.out)
        have XC : Hid (∀ k, rowOf aoA = some k → k ≠ (w.heap.size + 2) ∧ rowOf aoB ≠ some k) := hid (fun k hk => ⟨(by have hh := ownA'.out.row k hk; rcases hrA with h | h <;> rw [h] at hk <;> simp [rowOf] at hk <;> omega), fun hk2 => by have hh := ownA'.out.row k hk; rcases hrB with h | h <;> rw [h] at hk2 <;> simp [rowOf] at hk2 <;> omega⟩)
        have XB := hid ownB'.out
        have XD : Hid (∀ k, rowOf aoB = some k → k ≠ (w.heap.size + 2)) := hid (fun k hk => by have hh := ownB'.out.row k hk; rcases hrB with h | h <;> rw [h] at hk <;> simp [rowOf] at hk <;> omega)
        have zB := bB.out.size
        go_wp2_with fail
        go_meet
        exact ⟨(w.heap.size + 2), aoA, capA, aoB, capB, rfl, by omega, by (first | omega | (simp; done) | (simp; omega)), by simp [go_sem, *], by simp [go_sem, *], by simp [go_sem, *], by simp [go_sem, *], by simp [go_sem, *], own4 XA.out (fun q => (XC.out _ q).1 rfl), own4 XB.out (fun q => XD.out _ q rfl), XC.out, XD.out, by rw [hWe.out]; exact ((((bA.out.trans (bB.out.mono bA.out.size)).setCell (show W.heap.size ≤ (w.heap.size + 2) by omega) _).setCell (show W.heap.size ≤ (w.heap.size + 2) by omega) _).setCell (show W.heap.size ≤ (w.heap.size + 2) by omega) _).setCell (show W.heap.size ≤ (w.heap.size + 2) by omega) _⟩
    case rest =>
      obtain ⟨bx, s1, d1, n1, m1, rfl, hbx, hbxl, k0, k1, k2, k3, kf, hS1, hN1, hd1, hd2, hB0⟩ := hcut
      have p3 : wc.cell? ⟨w.heap.size, 3, none⟩ = some (.slice ia a.items.length ic) := (hB0.cell (p := ⟨w.heap.size, 3, none⟩) (by simp; omega)).trans (by simp [go_sem])
      have hB := hid (below_alloc (below_alloc hB0))
      have z0 : wc.cell? ⟨w.heap.size + 1, 0, none⟩ = some (.int .i64 0) := (hB0.cell (p := ⟨w.heap.size + 1, 0, none⟩) (by simp)).trans (by simp [go_sem])
      have z1 : wc.cell? ⟨w.heap.size + 1, 1, none⟩ = some (.slice none 0 0) := (hB0.cell (p := ⟨w.heap.size + 1, 1, none⟩) (by simp)).trans (by simp [go_sem])
      have z2 : wc.cell? ⟨w.heap.size + 1, 2, none⟩ = some (.slice none 0 0) := (hB0.cell (p := ⟨w.heap.size + 1, 2, none⟩) (by simp)).trans (by simp [go_sem])
      have z3 : wc.cell? ⟨w.heap.size + 1, 3, none⟩ = some (.slice none 0 0) := (hB0.cell (p := ⟨w.heap.size + 1, 3, none⟩) (by simp)).trans (by simp [go_sem])
      have zf : ∀ o, wc.frozen? ⟨w.heap.size + 1, o, none⟩ = false := fun o => (hB0.frozen (p := ⟨w.heap.size + 1, o, none⟩) (by simp)).trans (by simp [go_sem])
      clear hB0
      go_wp2_with fail
      go_loopw [4] (fun i wr => RcRel wc bx a.kind s1 a.shape.length d1 n1 a.nums.length m1 a.items i wr) (fun i _ => a.items.length - (intOf i).toNat)
      case atStart => exact ⟨0, none, 0, Nat.zero_le _, rfl, k0, k1, k2, by simpa using k3, kf, by simpa using OwnA.nil _ _ _, World.grownBy.refl _ _⟩
      case round =>
        obtain ⟨k, io, icap, hk, rfl, r0, r1, r2, r3, rf, hown, hg⟩ := hrel
        have hBr := hid (bgrown hB.out hg (show w.heap.size ≤ bx by omega))
        have hsr := hg.size
        have q3 : wr.cell? ⟨w.heap.size, 3, none⟩ = some (.slice ia a.items.length ic) := (hg.cell (a := ⟨w.heap.size, 3, none⟩) p3 (by simp; omega))
        by_cases hlt : k < a.items.length
        · obtain ⟨b, off, sa', sc', na', nc', ja', jc', rfl, hS, hbl, e0, e1, e2, e3, hx⟩ := (h0.out.later hBr.out).items.at hlt
          have hmem := hid (List.getElem_mem hlt)
          have hT : Hid (a.items.take (k + 1) = a.items.take k ++ [a.items[k]]) := (List.take_append_getElem hlt).symm
          have hL : Hid ((a.items.take k).length = k) := by simp only [Hid, List.length_take]; omega
          generalize a.items[k] = x at e0 e1 e2 e3 hx hmem hT
          generalize a.items.take k = l at hT hL hown r3
          go_wp2_with fail
          have HX := hid hx
          have ki0 : (0 : Int) ≤ (k : Int) := Int.natCast_nonneg _
          have ki1 : (k : Int) < (a.items.length : Int) := by omega
          have HO := hid hown
          have ub : bx < wr.heap.size := by omega
          have uw : w.heap.size < wr.heap.size := by omega
          have hrow := hid hown.row
          clear hx hown
          go_region_law (first
            | (go_simp; go_at_call 46; refine (IH.out x hmem.out sa' sc' na' nc' ja' jc' S _ HX.out.drew).mono ?_; rintro e w2 ⟨ts, tsc, tn, tnc, ti, tic, rfl, hA2, hb2⟩; replace hb2 := undrew hb2; obtain ⟨hc2, hf2⟩ := bcell hb2; have hs2 := hb2.size; have HA2 := hid hA2; have HB2 := hid hb2; have OW := hid (HO.out.keep (fun q hq => hb2.block q (HO.out.row q hq).2) (fun q _ hq => hb2.block q hq)); have IT : Hid (ItemsAt (w2.alloc (.cells #[.int .i64 x.kind, .slice ts x.shape.length tsc, .slice tn x.nums.length tnc, .slice ti x.items.length tic] 26)) (fun b => wr.heap.size ≤ b) (some ⟨w2.heap.size, 0, none⟩) 0 [x]) := hid (items_one (sc := tsc) (nc := tnc) (jc := tic) (show wr.heap.size ≤ w2.heap.size from hs2) (by simp [go_sem]) (by simp [go_sem]) (by simp [go_sem]) (by simp [go_sem]) (HA2.out.alloc _)); have ub2 : bx < w2.heap.size := (by omega); have g3 : (w2.alloc (.cells #[.int .i64 x.kind, .slice ts x.shape.length tsc, .slice tn x.nums.length tnc, .slice ti x.items.length tic] 26)).cell? ⟨bx, 3, none⟩ = some (.slice io l.length icap) := (World.cell?_alloc_lt w2 _ ⟨bx, 3, none⟩ ub2).trans ((hc2 bx 3 ub).trans r3); clear hA2 hb2)
            | (refine step_appA _ (by rfl) (.tmp 22) (.tmp 29) (by rfl) wc.heap.size (fun b => wc.heap.size ≤ b) io icap l (by rfl) (OW.out.alloc _) (fun b => wr.heap.size ≤ b) (some ⟨w2.heap.size, 0, none⟩) 1 [x] (by rfl) IT.out (fun b _ hb => ⟨show wc.heap.size ≤ b by (have hb' : wr.heap.size ≤ b := hb); omega, fun e => by have := hrow.out b e.symm; (have hb' : wr.heap.size ≤ b := hb); omega⟩) (by simp; rw [hL.out]; omega) (by simp; omega) ?_; intro io' icap' w4 own4 hg4 hr4; have c4 : w4.cell? ⟨bx, 3, none⟩ = some (.slice io l.length icap) := hg4.cell (a := ⟨bx, 3, none⟩) (by rw [World.cell?_alloc_lt _ _ _ (by simp; omega)]; rw [hc2 bx 3 ub]; exact r3) (fun e => by have := hrow.out bx e.symm; omega); have f4 : w4.frozen? ⟨bx, 3, none⟩ = false := (hg4.frozen_far ⟨bx, 3, none⟩ (by simp; omega) (fun e => by have := hrow.out bx e.symm; omega)).trans ((World.frozen?_of_block (Below.heap_alloc w2 _ bx (by omega))).trans ((hf2 bx 3 ub).trans rf)); have Own4 := hid own4; have Hg4 := hid hg4; clear own4 hg4 hr4))
          all_goals
            have C4 : ∀ o, w4.cell? ⟨bx, o, none⟩ = wr.cell? ⟨bx, o, none⟩ := fun o => (Hg4.out.cell_far ⟨bx, o, none⟩ (by simp; omega) (fun e => by have := hrow.out bx e.symm; omega)).trans ((World.cell?_alloc_lt w2 _ ⟨bx, o, none⟩ ub2).trans (hc2 bx o ub))
            have s0 : Hid ((w4.setCell ⟨bx, 3, none⟩ (.slice io' (l.length + 1) icap')).cell? ⟨bx, 0, none⟩ = some (.int .i64 a.kind)) := hid (by have := (C4 0).trans r0; simp [go_sem, this])
            have s1' : Hid ((w4.setCell ⟨bx, 3, none⟩ (.slice io' (l.length + 1) icap')).cell? ⟨bx, 1, none⟩ = some (.slice s1 a.shape.length d1)) := hid (by have := (C4 1).trans r1; simp [go_sem, this])
            have s2' : Hid ((w4.setCell ⟨bx, 3, none⟩ (.slice io' (l.length + 1) icap')).cell? ⟨bx, 2, none⟩ = some (.slice n1 a.nums.length m1)) := hid (by have := (C4 2).trans r2; simp [go_sem, this])
            have s3' : Hid ((w4.setCell ⟨bx, 3, none⟩ (.slice io' (l.length + 1) icap')).cell? ⟨bx, 3, none⟩ = some (.slice io' (a.items.take (k + 1)).length icap')) := hid (by rw [hT.out]; simp only [List.length_append, List.length_singleton]; exact World.cell?_setCell_same _ _ _ c4)
            have f4' : Hid ((w4.setCell ⟨bx, 3, none⟩ (.slice io' (l.length + 1) icap')).frozen? ⟨bx, 3, none⟩ = false) := hid (by rw [World.frozen?_setCell]; exact f4)
            have G := hid (rc_step hg HB2.out _ Hg4.out (fun q hq => (hrow.out q hq).1) (.slice io' (l.length + 1) icap'))
            have O := hid (own_step Own4.out hbxl (.slice io' (l.length + 1) icap'))
            clear C4 hc2 hf2 c4 f4 g3 r0 r1 r2 r3 rf e0 e1 e2 e3 q3 p3 k0 k1 k2 k3 kf z0 z1 z2 z3
            go_wp2_with fail
            go_roundw
            case rel => exact ⟨k + 1, io', icap', by omega, by go_num, s0.out, s1'.out, s2'.out, s3'.out, f4'.out, by rw [hT.out]; exact O.out, G.out⟩
            case measure => simp [intOf]; omega
        · have hke : k = a.items.length := by omega
          subst hke
          rw [List.take_length] at hown r3
          have y0 := hg.cell z0 (by simp; omega)
          have y1 := hg.cell z1 (by simp; omega)
          have y2 := hg.cell z2 (by simp; omega)
          have y3 := hg.cell z3 (by simp; omega)
          have yf : ∀ o, wr.frozen? ⟨w.heap.size + 1, o, none⟩ = false := fun o => (hg.frozen_far ⟨w.heap.size + 1, o, none⟩ (by simp; omega) (by simp; omega)).trans (zf o)
          have HO := hid (hown.keep (w' := (((wr.setCell ⟨w.heap.size + 1, 0, none⟩ (.int .i64 a.kind)).setCell ⟨w.heap.size + 1, 1, none⟩ (.slice s1 a.shape.length d1)).setCell ⟨w.heap.size + 1, 2, none⟩ (.slice n1 a.nums.length m1)).setCell ⟨w.heap.size + 1, 3, none⟩ (.slice io a.items.length icap)) (fun q hq => set4 wr _ _ _ _ _ (by have := (hown.row q hq).1; omega)) (fun q _ hq => set4 wr _ _ _ _ _ (by (have hq' : wc.heap.size ≤ q := ‹_›); omega)))
          clear hown z0 z1 z2 z3 zf k0 k1 k2 k3 kf p3 rf
          go_wp2_with fail
          refine bodyPost_ret (v := .agg #[.int .i64 a.kind, .slice s1 a.shape.length d1, .slice n1 a.nums.length m1, .slice io a.items.length icap]) (by simp [results, Try.results46, go_sem, *]) rfl (hR.out _ _ ?_)
          have zr := hg.size
          have o1 := own4 (v0 := .int .i64 a.kind) (v1 := .slice s1 a.shape.length d1) (v2 := .slice n1 a.nums.length m1) (v3 := .slice io a.items.length icap) (hS1.kept hg (Or.inr fun q => (hd1 _ q).1 rfl)) (b := w.heap.size + 1) (fun q => by have := hS1.row _ q; omega)
          have o2 := own4 (v0 := .int .i64 a.kind) (v1 := .slice s1 a.shape.length d1) (v2 := .slice n1 a.nums.length m1) (v3 := .slice io a.items.length icap) (hN1.kept hg (Or.inr fun q => hd2 _ q rfl)) (b := w.heap.size + 1) (fun q => by have := hN1.row _ q; omega)
          exact ⟨s1, d1, n1, m1, io, icap, rfl, OwnI.cap o1, OwnI.cap o2, OwnA.cap HO.out, env_own ((((hBr.out.setCell (show w.heap.size ≤ w.heap.size + 1 by omega) _).setCell (show w.heap.size ≤ w.heap.size + 1 by omega) _).setCell (show w.heap.size ≤ w.heap.size + 1 by omega) _).setCell (show w.heap.size ≤ w.heap.size + 1 by omega) _) (by have := hB.out.size; omega) (o1.base (by omega)) hsl (o2.base (by omega)) HO.out (fun k q => ⟨(hd1 k q).2, (hS1.row k q).2⟩) (fun k q => (hN1.row k q).2)⟩
end Go.Proofs.Ytcoknjlkhefgpaa
