/- Bits of small numbers, by trial. -/
import Derived.Test.YtdknolnoimpgeaaKC
namespace Go.Proofs.Ytdknolnoimpgeaa.K
open Go.RowKit Go.Proofs.YtdknolnoimpgeaaW.PrintWords Go.Proofs.YtdknolnoimpgeaaW.PrintLast Go.Proofs.YtdknolnoimpgeaaW.PrintMore
theorem bit256 : ∀ n : Fin 256, (Int.tmod ((n : Nat) : Int) 2 = 0 ↔ Go.bits .and .i64 ((n : Nat) : Int) 1 = 0) ∧ (Int.tmod (wrap64 (Int.tdiv ((n : Nat) : Int) 2)) 2 = 0 ↔ Go.bits .and .i64 ((n : Nat) : Int) 2 = 0) ∧
    (Int.tmod (wrap64 (Int.tdiv ((n : Nat) : Int) 4)) 2 = 0 ↔ Go.bits .and .i64 ((n : Nat) : Int) 4 = 0) ∧ (Int.tmod (wrap64 (Int.tdiv ((n : Nat) : Int) 8)) 2 = 0 ↔ Go.bits .and .i64 ((n : Nat) : Int) 8 = 0) := by decide +kernel
theorem bit32 : ∀ h : Fin 32, Go.bits .andNot .i64 ((h : Nat) : Int) (Go.bits .andNot .i64 31 ((h : Nat) : Int)) = ((h : Nat) : Int) ∧
    (Go.bits .and .i64 (Go.bits .andNot .i64 31 ((h : Nat) : Int)) 1 = 0 ↔ ¬ Go.bits .and .i64 ((h : Nat) : Int) 1 = 0) ∧ (Go.bits .and .i64 (Go.bits .andNot .i64 31 ((h : Nat) : Int)) 2 = 0 ↔ ¬ Go.bits .and .i64 ((h : Nat) : Int) 2 = 0) ∧
    (Go.bits .and .i64 (Go.bits .andNot .i64 31 ((h : Nat) : Int)) 4 = 0 ↔ ¬ Go.bits .and .i64 ((h : Nat) : Int) 4 = 0) ∧ (Go.bits .and .i64 (Go.bits .andNot .i64 31 ((h : Nat) : Int)) 8 = 0 ↔ ¬ Go.bits .and .i64 ((h : Nat) : Int) 8 = 0) := by decide +kernel
theorem bitPair : ∀ h : Fin 32, ∀ b : Fin 256, (0 ≤ Go.bits .andNot .i64 ((h : Nat) : Int) ((b : Nat) : Int) ∧ Go.bits .andNot .i64 ((h : Nat) : Int) ((b : Nat) : Int) ≤ 31) ∧
    Go.bits .andNot .i64 (Go.bits .andNot .i64 ((h : Nat) : Int) ((b : Nat) : Int)) ((b : Nat) : Int) = Go.bits .andNot .i64 ((h : Nat) : Int) ((b : Nat) : Int) ∧
    (Go.bits .and .i64 (Go.bits .andNot .i64 ((h : Nat) : Int) ((b : Nat) : Int)) 1 = 0 ↔ ¬ Go.bits .and .i64 ((b : Nat) : Int) 1 = 0 ∨ Go.bits .and .i64 ((h : Nat) : Int) 1 = 0) ∧
    (Go.bits .and .i64 (Go.bits .andNot .i64 ((h : Nat) : Int) ((b : Nat) : Int)) 2 = 0 ↔ ¬ Go.bits .and .i64 ((b : Nat) : Int) 2 = 0 ∨ Go.bits .and .i64 ((h : Nat) : Int) 2 = 0) ∧
    (Go.bits .and .i64 (Go.bits .andNot .i64 ((h : Nat) : Int) ((b : Nat) : Int)) 4 = 0 ↔ ¬ Go.bits .and .i64 ((b : Nat) : Int) 4 = 0 ∨ Go.bits .and .i64 ((h : Nat) : Int) 4 = 0) ∧
    (Go.bits .and .i64 (Go.bits .andNot .i64 ((h : Nat) : Int) ((b : Nat) : Int)) 8 = 0 ↔ ¬ Go.bits .and .i64 ((b : Nat) : Int) 8 = 0 ∨ Go.bits .and .i64 ((h : Nat) : Int) 8 = 0) := by decide +kernel
end Go.Proofs.Ytdknolnoimpgeaa.K
