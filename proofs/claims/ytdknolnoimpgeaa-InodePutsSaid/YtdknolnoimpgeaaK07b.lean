/- inode.odd, inode.Right. -/
import Derived.Test.YtdknolnoimpgeaaK07
import Derived.Test.YtdknolnoimpgeaaKEqArr
import Derived.Test.YtdknolnoimpgeaaKS07
namespace Go.Proofs.Ytdknolnoimpgeaa.K
open Go.RowKit Go.Proofs.YtdknolnoimpgeaaW.PrintWords Go.Proofs.YtdknolnoimpgeaaW.PrintLast Go.Proofs.YtdknolnoimpgeaaW.PrintMore
set_option linter.unusedVariables false
set_option linter.unusedSimpArgs false
set_option maxRecDepth 100000 in
theorem inoOdd_walk (k im nl ge sz p0 p1 p2 p3 at_ : Int) (w : World) : Calls Try.prog 107 #[inoV k im nl ge sz p0 p1 p2 p3 at_] w fun e w' => e = .returned (.bool (inoOdd k sz p0 p1 p2 p3)) ∧ Below w.heap.size w w' := by
  unfold inoV
  by_cases h1 : k = 1
  · subst h1
    have E0 : Aside0 (inoOdd 1 sz p0 p1 p2 p3 = (sz != 0)) := ⟨by simp [inoOdd]⟩
    go_enter Try.func107, Try.ntmps107
    go_wp2
    go_ret
    exact ⟨by rw [E0.out]; rfl, (by repeat (first | exact Below.refl _ _ | apply Below.drew | apply below_alloc))⟩
  by_cases h4 : k = 4
  · subst h4
    by_cases hs : sz = 0
    · have E0 : Aside0 (inoOdd 4 sz p0 p1 p2 p3 = !(p0 == 0 && (p1 == 0 && (p2 == 0 && p3 == 0)))) := ⟨by simp [inoOdd, hs]⟩
      subst hs
      clear h1
      have q4 := fun w => eq4 w p0 p1 p2 p3 0 0 0 0
      go_enter Try.func107, Try.ntmps107
      go_wp2
      go_ret
      exact ⟨by rw [E0.out]; first | rfl | (simp; done) | trace_state, (by repeat (first | exact Below.refl _ _ | apply Below.drew | apply below_alloc))⟩
    · have E0 : Aside0 (inoOdd 4 sz p0 p1 p2 p3 = true) := ⟨by simp [inoOdd, hs]⟩
      have hsb : (sz != 0) = true := by simp [hs]
      clear h1
      go_enter Try.func107, Try.ntmps107
      go_wp2
      go_ret
      exact ⟨by rw [E0.out]; first | rfl | (simp; done) | trace_state, (by repeat (first | exact Below.refl _ _ | apply Below.drew | apply below_alloc))⟩
  · have E0 : Aside0 (inoOdd k sz p0 p1 p2 p3 = (k == 0)) := ⟨by simp [inoOdd, h1, h4]⟩
    have h1b : (k == 1) = false := by simp [h1]
    have h4b : (k == 4) = false := by simp [h4]
    go_enter Try.func107, Try.ntmps107
    go_wp2
    go_ret
    exact ⟨by rw [E0.out]; rfl, (by repeat (first | exact Below.refl _ _ | apply Below.drew | apply below_alloc))⟩
def inoRow (k im nl ge sz p0 p1 p2 p3 at_ : Int) : Nat → Int × Int × Int
  | 0 => (k, 1, 4) | 1 => (im, 1, 255) | 2 => (nl, 2, 65535) | 3 => (ge, 4, 268435455) | 4 => (sz, 2, 256)
  | 5 => (p0, 2, 65535) | 6 => (p1, 2, 65535) | 7 => (p2, 2, 65535) | 8 => (p3, 2, 65535) | _ => (at_, 2, 65535)
theorem lt10 {m : Nat} (h : m < 10) : m = 0 ∨ m = 1 ∨ m = 2 ∨ m = 3 ∨ m = 4 ∨ m = 5 ∨ m = 6 ∨ m = 7 ∨ m = 8 ∨ m = 9 := by omega
theorem inoN_at (k im nl ge sz p0 p1 p2 p3 at_ : Int) {m : Nat} (h : m < 10) (w : World) : (Instr.index 121 (inoN k im nl ge sz p0 p1 p2 p3 at_) (.int .i64 m)).run Try.prog w = .ok (.agg #[.int .i64 (inoRow k im nl ge sz p0 p1 p2 p3 at_ m).1, .int .i64 (inoRow k im nl ge sz p0 p1 p2 p3 at_ m).2.1, .int .i64 (inoRow k im nl ge sz p0 p1 p2 p3 at_ m).2.2]) w := by
  rcases lt10 h with rfl | rfl | rfl | rfl | rfl | rfl | rfl | rfl | rfl | rfl
  all_goals (unfold inoN inoRow; kernel_rfl)
end Go.Proofs.Ytdknolnoimpgeaa.K
