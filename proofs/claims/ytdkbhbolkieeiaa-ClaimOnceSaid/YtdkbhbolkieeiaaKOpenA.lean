/- An array of four whole numbers that comes in as data. -/
import Derived.Test.YtdkbhbolkieeiaaKOpen
namespace Go.Proofs.Ytdkbhbolkieeiaa.K
open Go.RowKit Go.Deep Go.Proofs.YtdkbhbolkieeiaaW.PrintWords Go.Proofs.YtdkbhbolkieeiaaW.PrintLast Go.Proofs.YtdkbhbolkieeiaaW.PrintMore
set_option linter.unusedVariables false
set_option linter.unusedSimpArgs false
theorem opens_arr4 {α : Type} {P : Program} {d : Kd α} {t e : TypeId} {good : α → Prop} (ht : P.underlying t = some (.array 4 e)) (hce : P.cellsOf e = 1) (hct : P.cellsOf t = 4) (he : Opens P d e good) :
    Opens P (Kd.pair d (Kd.pair d (Kd.pair d d))) t (fun _ => True) := by
  intro H enc w base spare held fuel cs x h
  obtain ⟨xs, m, _, _, hl, hn, hx⟩ := DataW.trod_array ht h
  rw [hct] at hl
  obtain ⟨c0, c1, c2, c3, rfl⟩ : ∃ c0 c1 c2 c3, cs = [c0, c1, c2, c3] := by
    match cs, hl with
    | [c0, c1, c2, c3], _ => exact ⟨c0, c1, c2, c3, rfl⟩
  have key : ∀ i c, i < 4 → [c0, c1, c2, c3][i]? = some c → ∃ a, d.K w a [c] := by
    intro i c hi hc
    have := hx i hi
    rw [hce, List.getElem?_eq_getElem (show i < xs.length by omega)] at this
    have hd : List.take 1 (List.drop (i * 1) [c0, c1, c2, c3]) = [c] := by
      have h4 : i = 0 ∨ i = 1 ∨ i = 2 ∨ i = 3 := by omega
      rcases h4 with rfl | rfl | rfl | rfl <;> simpa using hc
    rw [hd] at this
    obtain ⟨a, hk, _⟩ := he H enc w base spare held m _ _ this
    exact ⟨a, hk⟩
  obtain ⟨a0, k0⟩ := key 0 c0 (by omega) rfl
  obtain ⟨a1, k1⟩ := key 1 c1 (by omega) rfl
  obtain ⟨a2, k2⟩ := key 2 c2 (by omega) rfl
  obtain ⟨a3, k3⟩ := key 3 c3 (by omega) rfl
  exact ⟨(a0, a1, a2, a3), ⟨[c0], [c1, c2, c3], rfl, k0, ⟨[c1], [c2, c3], rfl, k1, ⟨[c2], [c3], rfl, k2, k3⟩⟩⟩, trivial⟩
end Go.Proofs.Ytdkbhbolkieeiaa.K
