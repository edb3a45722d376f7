/- What comes in, turned. -/
import Derived.Test.YtdkbhbolkieeiaaKOpen
import Derived.Test.YtdkbhbolkieeiaaKSl
namespace Go.Proofs.Ytdkbhbolkieeiaa.K
open Go.RowKit Go.Deep Go.Proofs.YtdkbhbolkieeiaaW.PrintWords Go.Proofs.YtdkbhbolkieeiaaW.PrintLast Go.Proofs.YtdkbhbolkieeiaaW.PrintMore
theorem opens_convS {α β : Type} {P : Program} {d : Kd α} {d' : Kd β} {t : TypeId} {good : α → Prop} {good' : β → Prop} (h : Opens P d t good) (hc : ∀ w a cs, d.K w a cs → good a → ∃ b, d'.K w b cs ∧ good' b) : Opens P d' t good' := by
  intro H enc w base spare held fuel cs x hx
  obtain ⟨a, hk, hg⟩ := h H enc w base spare held fuel cs x hx
  exact hc w a cs hk hg
end Go.Proofs.Ytdkbhbolkieeiaa.K
