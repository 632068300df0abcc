/- A literal slice of two arrays. Conditions: those of each lemma. -/
import Derived.Test.YtdpdcjadedcglaaGG
set_option linter.unusedVariables false
set_option maxRecDepth 20000
set_option linter.unusedSimpArgs false
namespace Go.Proofs.Ytdpdcjadedcglaa
open Go.RowKit Go.Sort
theorem items_two {w : World} {S : Nat → Prop} {b : Nat} {x y : Arr} {sa na ja sb nb jb : Option Addr} {sc nc jc sd nd jd : Nat} (hS : S b)
    (h : w.heap[b]? = some (.cells #[.int .i64 x.kind, .slice sa x.shape.length sc, .slice na x.nums.length nc, .slice ja x.items.length jc, .int .i64 y.kind, .slice sb y.shape.length sd, .slice nb y.nums.length nd, .slice jb y.items.length jd] 27 (0, 0)))
    (hx : ArrAt w S x sa na ja) (hy : ArrAt w S y sb nb jb) : ItemsAt w S (some ⟨b, 0, none⟩) 0 [x, y] := by
  refine ItemsAt.of_get fun j z hz => ?_
  have hj : j < 2 := by have := (List.getElem?_eq_some_iff.1 hz).1; simpa using this
  match j, hj with
  | 0, _ =>
    simp at hz; subst hz
    exact ⟨b, 0, sa, sc, na, nc, ja, jc, rfl, hS, block_lt_of_cell (cell_of_row w b 0 _ _ _ h), cell_of_row w b 0 _ _ _ h, cell_of_row w b 1 _ _ _ h, cell_of_row w b 2 _ _ _ h, cell_of_row w b 3 _ _ _ h, hx⟩
  | 1, _ =>
    simp at hz; subst hz
    exact ⟨b, 0, sb, sd, nb, nd, jb, jd, rfl, hS, block_lt_of_cell (cell_of_row w b 0 _ _ _ h), cell_of_row w b 4 _ _ _ h, cell_of_row w b 5 _ _ _ h, cell_of_row w b 6 _ _ _ h, cell_of_row w b 7 _ _ _ h, hy⟩
theorem Env.pair {w0 w : World} {S : Nat → Prop} {L : List Fact} {a b : Arr} {sa na ia sb nb ib : Option Addr} (E : Env w0 S w L) (j k : Nat) (hj : L[j]? = some (.arr a sa na ia)) (hk : L[k]? = some (.arr b sb nb ib)) (sc nc ic sd nd id : Nat) :
    Env w0 S (w.alloc (.cells #[.int .i64 a.kind, .slice sa a.shape.length sc, .slice na a.nums.length nc, .slice ia a.items.length ic, .int .i64 b.kind, .slice sb b.shape.length sd, .slice nb b.nums.length nd, .slice ib b.items.length id] 27)) (L ++ [.items [a, b] (some ⟨w.heap.size, 0, none⟩)]) :=
  (E.up (ext_alloc _ _)).addItems (T := Tst w0 S L) (items_two (E.fresh (Ext.refl _) (Nat.le_refl _)) (heap_alloc_new _ _) ((E.arr j hj).up (ext_alloc _ _)) ((E.arr k hk).up (ext_alloc _ _))) fun b _ hb => hb
end Go.Proofs.Ytdpdcjadedcglaa
