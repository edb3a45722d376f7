/- A store into one cell of a block that is known whole: the world behind it is a letter. -/
import Derived.Test.YtdkbhbolkieeiaaKC
import Derived.Deep.MidRow
import Derived.Great.BuildSlice
import Derived.Deep.WholeRow
namespace Go.Proofs.YtdkbhbolkieeiaaW.PrintWords
open Go.RowKit
theorem wpList_store_blk {P : Program} {ops : Array Oper} {rest : List Oper} {op : Oper} {a : Act} {w : World} {Q : Exit → Act → World → Prop} (hgd : op.guard = none) (hd : op.dst = none) (ty : TypeId) (x y : Operand) (ho : op.op = .store ty x y)
    (g i : Nat) (v : Value) (hx : a.eval x = .pointer (some ⟨g, i, none⟩)) (hy : a.eval y = v) (h1 : v.oneCell' = true) (hi : (P.info? ty).map (·.size) = some 1) {cs : Array Value} {t : TypeId}
    (BK : w.heap[g]? = some (.cells cs t (0, 0))) (hlt : i < cs.size)
    (h : ∀ w1, w1.heap[g]? = some (.cells (cs.setIfInBounds i v) t (0, 0)) → w.grownBy w1 (some g) → wpList P ops Q rest a w1) : wpList P ops Q (op :: rest) a w := by
  refine wpList_plain hgd fun _ hK => ?_
  have hrun : (storeVar ty ⟨g, i, none⟩ v).run P w = .ok () (w.setCell ⟨g, i, none⟩ v) := by
    have hc : v.cells = #[v] := by cases v <;> first | rfl | cases h1
    have hcell : w.cell? ⟨g, i, none⟩ = some cs[i] := by rw [blk_cell BK]; exact Array.getElem?_eq_getElem hlt
    have := run_storeCells_cells (P := P) g i [v] 0 w (fun j hj => by
        have : j = 0 := by simpa using hj
        subst this
        simp [hcell]) (fun j hj => by
        have : j = 0 := by simpa using hj
        subst this
        exact blk_frozen BK _) (fun u hu => by simp at hu; subst hu; exact h1)
    cases hq : P.info? ty with
    | none => simp [hq] at hi
    | some q =>
      have hs : q.size = 1 := by simpa [hq] using hi
      simp only [Nat.add_zero] at this
      simp [storeVar, sizeOf, typeInfo, hq, hc, hs, this]
      rfl
  unfold Oper.wp execOp
  simp only [ho, hx, hy, Instr.storeAt, Instr.sureAddr, Sem.run_bind, Sem.run_pure, Result.andThen_ok, hrun]
  refine hK _ _ ?_
  rw [hd]
  exact h _ (blk_set BK i v) ⟨rfl, rfl, rfl, by simp [World.setCell], fun k _ hk => Below.heap_setCell w ⟨g, i, none⟩ v k (fun e => hk (congrArg some e))⟩
/-- A whole array or struct stored into its block: the world behind it is a letter. -/
theorem wpList_store_rowL {P : Program} {ops : Array Oper} {rest : List Oper} {op : Oper} {a : Act} {w : World} {Q : Exit → Act → World → Prop} (hgd : op.guard = none) (hd : op.dst = none) (ty : TypeId) (x y : Operand) (ho : op.op = .store ty x y)
    (g : Nat) (cells : Array Value) (hx : a.eval x = .pointer (some ⟨g, 0, none⟩)) (hy : a.eval y = .agg cells) (t : TypeId) (old : Array Value) (hg : w.heap[g]? = some (.cells old t (0, 0))) (hi : (P.info? ty).map (·.size) = some cells.size)
    (hold : old.size = cells.size) (h1 : cells.all (·.oneCell') = true)
    (h : ∀ w1, w1.heap[g]? = some (.cells cells t (0, 0)) → w.grownBy w1 (some g) → wpList P ops Q rest a w1) : wpList P ops Q (op :: rest) a w :=
  wpList_store_rowTo hgd ty x y ho hd g cells hx hy t old hg hi hold h1 (h _ (setRow_heap _ _ _ _ _ _ hg) ⟨rfl, rfl, rfl, by simp, fun k _ hk => setRow_other _ _ _ _ (fun e => hk (congrArg some e))⟩)
/-- .. into the block that was made last. -/
theorem wpList_store_newL {P : Program} {ops : Array Oper} {rest : List Oper} {op : Oper} {a : Act} {w0 w : World} {Q : Exit → Act → World → Prop} (hgd : op.guard = none) (hd : op.dst = none) (ty : TypeId) (x y : Operand) (ho : op.op = .store ty x y)
    (cells : Array Value) (t : TypeId) (old : Array Value) (hw : w = w0.alloc (.cells old t (0, 0))) (hx : a.eval x = .pointer (some ⟨w0.heap.size, 0, none⟩)) (hy : a.eval y = .agg cells) (hi : (P.info? ty).map (·.size) = some cells.size)
    (hold : old.size = cells.size) (h1 : cells.all (·.oneCell') = true)
    (h : ∀ w1, w1.heap[w0.heap.size]? = some (.cells cells t (0, 0)) → Below w0.heap.size w0 w1 → wpList P ops Q rest a w1) : wpList P ops Q (op :: rest) a w := by
  subst hw
  refine wpList_store_rowL hgd hd ty x y ho w0.heap.size cells hx hy t old (heap_alloc_new _ _) hi hold h1 fun w1 h1 hg => h w1 h1 ?_
  exact ⟨hg.os, hg.tape, hg.output, Nat.le_trans (by simp) hg.size, fun k hk => (hg.block k (by simp; omega) (fun e => by cases e; omega)).trans (Below.heap_alloc w0 _ k hk)⟩
end Go.Proofs.YtdkbhbolkieeiaaW.PrintWords
