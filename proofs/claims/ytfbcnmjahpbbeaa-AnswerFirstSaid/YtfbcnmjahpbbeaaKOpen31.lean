/- What comes in as answers, findings and scripts. -/
import Derived.Test.YtfbcnmjahpbbeaaKFn31
import Derived.Test.YtfbcnmjahpbbeaaKOpen
namespace Go.Proofs.Ytfbcnmjahpbbeaa.K
open Go.RowKit Go.Deep Go.Proofs.YtfbcnmjahpbbeaaW.PrintWords Go.Proofs.YtfbcnmjahpbbeaaW.PrintLast Go.Proofs.YtfbcnmjahpbbeaaW.PrintMore
set_option linter.unusedVariables false
set_option linter.unusedSimpArgs false
theorem opens_conv {α β : Type} {P : Program} {d : Kd α} {d' : Kd β} {t : TypeId} {good : α → Prop} {good' : β → Prop} (h : Opens P d t good) (hc : ∀ w a cs, d.K w a cs → good a → ∃ b, d'.K w b cs ∧ good' b) : Opens P d' t good' := by
  intro H enc w base spare held fuel cs x hx
  obtain ⟨a, hk, hg⟩ := h H enc w base spare held fuel cs x hx
  exact hc w a cs hk hg
theorem opens_fnd : Opens Try.prog kFnd 68 (fun _ => True) :=
  opens_conv (opens_struct Try.underlying68 (by kernel_rfl) (opensFs_cons rfl (opens_int Try.underlying3) (opensFs_cons rfl (opens_int Try.underlying3) (opensFs_cons rfl (opens_int Try.underlying3) (opensFs_one rfl (opens_int Try.underlying3)))))) (by
    rintro w ⟨a, b, c, d⟩ cs ⟨c0, d0, e0, u0, c1, d1, e1, u1, c2, d2, e2, u2, v2⟩ _
    refine ⟨⟨a, b, c, d⟩, ?_, trivial⟩
    show cs = _
    rw [e0, u0, e1, u1, e2, u2, v2]; rfl)
theorem opens_ans : Opens Try.prog kAns 102 (fun _ => True) :=
  opens_conv (opens_struct Try.underlying102 (by kernel_rfl) (opensFs_cons rfl (opens_int Try.underlying3) (opensFs_cons rfl (opens_int Try.underlying3) (opensFs_cons rfl (opens_int Try.underlying3) (opensFs_one rfl (opens_bool Try.underlying4)))))) (by
    rintro w ⟨a, b, c, d⟩ cs ⟨c0, d0, e0, u0, c1, d1, e1, u1, c2, d2, e2, u2, v2⟩ _
    refine ⟨⟨a, b, c, d⟩, ?_, trivial⟩
    show cs = _
    rw [e0, u0, e1, u1, e2, u2, v2]; rfl)
theorem opens_script : Opens Try.prog (Kd.pair (Kd.int .i64) (Kd.pair (Kd.slice 102 kAns) Kd.bool)) 66 (fun x => x.2.1.length ≤ 9223372036854775807) :=
  opens_mono (opens_struct Try.underlying66 (by kernel_rfl) (opensFs_cons rfl (opens_int Try.underlying3) (opensFs_cons rfl (opens_slice Try.underlying64 (by kernel_rfl) opens_ans) (opensFs_one rfl (opens_bool Try.underlying4))))) (fun x h => h.2.1.1)
end Go.Proofs.Ytfbcnmjahpbbeaa.K
