/- The walks of the package inode: numbers, odd, Fresh. -/
import Derived.Test.YtdknolnoimpgeaaK02b
import Derived.Deep.RegionHeld3
import Derived.Great.BuildSlice
import Derived.Deep.WholeRow
namespace Go.Proofs.Ytdknolnoimpgeaa.K
open Go.RowKit Go.Proofs.YtdknolnoimpgeaaW.PrintWords Go.Proofs.YtdknolnoimpgeaaW.PrintLast Go.Proofs.YtdknolnoimpgeaaW.PrintMore
set_option linter.unusedVariables false
set_option linter.unusedSimpArgs false
def inoV (k im nl ge sz p0 p1 p2 p3 at_ : Int) : Value := .agg #[.int .i64 k, .int .i64 im, .int .i64 nl, .int .i64 ge, .int .i64 sz, .int .i64 p0, .int .i64 p1, .int .i64 p2, .int .i64 p3, .int .i64 at_]
def inoN (k im nl ge sz p0 p1 p2 p3 at_ : Int) : Value := .agg #[.int .i64 k, .int .i64 1, .int .i64 4, .int .i64 im, .int .i64 1, .int .i64 255, .int .i64 nl, .int .i64 2, .int .i64 65535, .int .i64 ge, .int .i64 4, .int .i64 268435455, .int .i64 sz, .int .i64 2, .int .i64 256,
  .int .i64 p0, .int .i64 2, .int .i64 65535, .int .i64 p1, .int .i64 2, .int .i64 65535, .int .i64 p2, .int .i64 2, .int .i64 65535, .int .i64 p3, .int .i64 2, .int .i64 65535, .int .i64 at_, .int .i64 2, .int .i64 65535]
theorem heap_at {W : World} {o : Obj} {g : Nat} (hg : W.heap.size = g) : (W.alloc o).heap[g]? = some o := by
  subst hg
  exact heap_alloc_new _ _
set_option maxRecDepth 100000 in
theorem inoFresh_walk (w : World) : Calls Try.prog 49 #[] w fun e w' => e = .returned (inoV 1 0 2 0 0 0 0 0 0 0) ∧ Below w.heap.size w w' := by
  unfold inoV
  go_enter Try.func49, Try.ntmps49
  go_wp2
  refine bodyPost_ret (results_cell_row rfl _ _ w.heap.size 54 #[.int .i64 1, .int .i64 0, .int .i64 2, .int .i64 0, .int .i64 0, .int .i64 0, .int .i64 0, .int .i64 0, .int .i64 0, .int .i64 0] (0, 0) _ rfl (by exact heap_alloc_new _ _) Try.underlying54 rfl (by kernel_rfl)) rfl ?_
  exact ⟨by first | rfl | (go_simp; rfl), (by repeat (first | exact Below.refl _ _ | apply Below.drew | apply below_alloc))⟩
set_option maxRecDepth 100000 in
theorem inoNumbers_walk (k im nl ge sz p0 p1 p2 p3 at_ : Int) (w : World) : Calls Try.prog 105 #[inoV k im nl ge sz p0 p1 p2 p3 at_] w fun e w' => e = .returned (inoN k im nl ge sz p0 p1 p2 p3 at_) ∧ Below w.heap.size w w' := by
  unfold inoV inoN
  go_enter Try.func105, Try.ntmps105
  go_wp2_with ((with_reducible refine gate_store (p := 2) rfl ?_); go_loud (refine wpList_store_rowTo rfl 121 (.tmp 2) (.tmp 37) rfl rfl (w.heap.size + 1) #[.int .i64 k, .int .i64 1, .int .i64 4, .int .i64 im, .int .i64 1, .int .i64 255, .int .i64 nl, .int .i64 2, .int .i64 65535, .int .i64 ge, .int .i64 4, .int .i64 268435455, .int .i64 sz, .int .i64 2, .int .i64 256, .int .i64 p0, .int .i64 2, .int .i64 65535, .int .i64 p1, .int .i64 2, .int .i64 65535, .int .i64 p2, .int .i64 2, .int .i64 65535, .int .i64 p3, .int .i64 2, .int .i64 65535, .int .i64 at_, .int .i64 2, .int .i64 65535] rfl rfl 121 #[.int .i64 0, .int .i64 0, .int .i64 0, .int .i64 0, .int .i64 0, .int .i64 0, .int .i64 0, .int .i64 0, .int .i64 0, .int .i64 0, .int .i64 0, .int .i64 0, .int .i64 0, .int .i64 0, .int .i64 0, .int .i64 0, .int .i64 0, .int .i64 0, .int .i64 0, .int .i64 0, .int .i64 0, .int .i64 0, .int .i64 0, .int .i64 0, .int .i64 0, .int .i64 0, .int .i64 0, .int .i64 0, .int .i64 0, .int .i64 0] (heap_at (by simp)) (by kernel_rfl) rfl (by simp [Value.oneCell']) ?_; have e_ := World.setRow_alloc_new (w.alloc (.cells #[.int .i64 k, .int .i64 im, .int .i64 nl, .int .i64 ge, .int .i64 sz, .int .i64 p0, .int .i64 p1, .int .i64 p2, .int .i64 p3, .int .i64 at_] 54)) #[.int .i64 0, .int .i64 0, .int .i64 0, .int .i64 0, .int .i64 0, .int .i64 0, .int .i64 0, .int .i64 0, .int .i64 0, .int .i64 0, .int .i64 0, .int .i64 0, .int .i64 0, .int .i64 0, .int .i64 0, .int .i64 0, .int .i64 0, .int .i64 0, .int .i64 0, .int .i64 0, .int .i64 0, .int .i64 0, .int .i64 0, .int .i64 0, .int .i64 0, .int .i64 0, .int .i64 0, .int .i64 0, .int .i64 0, .int .i64 0] #[.int .i64 k, .int .i64 1, .int .i64 4, .int .i64 im, .int .i64 1, .int .i64 255, .int .i64 nl, .int .i64 2, .int .i64 65535, .int .i64 ge, .int .i64 4, .int .i64 268435455, .int .i64 sz, .int .i64 2, .int .i64 256, .int .i64 p0, .int .i64 2, .int .i64 65535, .int .i64 p1, .int .i64 2, .int .i64 65535, .int .i64 p2, .int .i64 2, .int .i64 65535, .int .i64 p3, .int .i64 2, .int .i64 65535, .int .i64 at_, .int .i64 2, .int .i64 65535] 121; rw [show (w.alloc (.cells #[.int .i64 k, .int .i64 im, .int .i64 nl, .int .i64 ge, .int .i64 sz, .int .i64 p0, .int .i64 p1, .int .i64 p2, .int .i64 p3, .int .i64 at_] 54)).heap.size = w.heap.size + 1 by simp] at e_; rw [e_]))
  refine bodyPost_ret (results_cell_row rfl _ _ (w.heap.size + 1) 121 #[.int .i64 k, .int .i64 1, .int .i64 4, .int .i64 im, .int .i64 1, .int .i64 255, .int .i64 nl, .int .i64 2, .int .i64 65535, .int .i64 ge, .int .i64 4, .int .i64 268435455, .int .i64 sz, .int .i64 2, .int .i64 256, .int .i64 p0, .int .i64 2, .int .i64 65535, .int .i64 p1, .int .i64 2, .int .i64 65535, .int .i64 p2, .int .i64 2, .int .i64 65535, .int .i64 p3, .int .i64 2, .int .i64 65535, .int .i64 at_, .int .i64 2, .int .i64 65535] (0, 0) _ rfl (heap_at (by simp)) Try.underlying121 rfl (by kernel_rfl)) rfl ?_
  exact ⟨rfl, (by repeat (first | exact Below.refl _ _ | apply Below.drew | apply below_alloc))⟩
end Go.Proofs.Ytdknolnoimpgeaa.K
