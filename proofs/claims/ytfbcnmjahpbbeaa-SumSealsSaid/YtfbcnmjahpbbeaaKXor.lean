/- A byte turned by another is another byte. Plain. -/
import Derived.Test.YtfbcnmjahpbbeaaKC
namespace Go.Proofs.Ytfbcnmjahpbbeaa.K
theorem xor_u8 : ∀ x : Fin 256, ∀ t : Fin 256, t.val ≠ 0 → 0 ≤ bits .xor .u8 (x.val : Int) (t.val : Int) ∧ bits .xor .u8 (x.val : Int) (t.val : Int) < 256 ∧ bits .xor .u8 (x.val : Int) (t.val : Int) ≠ (x.val : Int) := by decide +kernel
end Go.Proofs.Ytfbcnmjahpbbeaa.K
