/- ClaimOnce: the walk's end; what comes in as inodes. -/
import Derived.Test.YtdkbhbolkieeiaaL11b
import Derived.Test.YtdkbhbolkieeiaaKOpenA
namespace Go.Proofs.Ytdkbhbolkieeiaa.K
open Go.RowKit Go.Deep Go.Proofs.YtdkbhbolkieeiaaW.PrintWords Go.Proofs.YtdkbhbolkieeiaaW.PrintLast Go.Proofs.YtdkbhbolkieeiaaW.PrintMore Go.Proofs.Ytdkbhbolkieeiaa.Y11
set_option linter.unusedVariables false
set_option linter.unusedSimpArgs false
theorem opens_arr4g {α : Type} {P : Program} {d : Kd α} {t e : TypeId} {good : α → Prop} (ht : P.underlying t = some (.array 4 e)) (hce : P.cellsOf e = 1) (hct : P.cellsOf t = 4) (he : Opens P d e good) :
    Opens P (Kd.pair d (Kd.pair d (Kd.pair d d))) t (fun x => good x.1 ∧ good x.2.1 ∧ good x.2.2.1 ∧ good x.2.2.2) := by
  intro H enc w base spare held fuel cs x h
  obtain ⟨xs, m, _, _, hl, hn, hx⟩ := DataW.trod_array ht h
  rw [hct] at hl
  obtain ⟨c0, c1, c2, c3, rfl⟩ : ∃ c0 c1 c2 c3, cs = [c0, c1, c2, c3] := by
    match cs, hl with
    | [c0, c1, c2, c3], _ => exact ⟨c0, c1, c2, c3, rfl⟩
  have key : ∀ i c, i < 4 → [c0, c1, c2, c3][i]? = some c → ∃ a, d.K w a [c] ∧ good a := by
    intro i c hi hc
    have := hx i hi
    rw [hce, List.getElem?_eq_getElem (show i < xs.length by omega)] at this
    have hd : List.take 1 (List.drop (i * 1) [c0, c1, c2, c3]) = [c] := by
      have h4 : i = 0 ∨ i = 1 ∨ i = 2 ∨ i = 3 := by omega
      rcases h4 with rfl | rfl | rfl | rfl <;> simpa using hc
    rw [hd] at this
    obtain ⟨a, hk, hg⟩ := he H enc w base spare held m _ _ this
    exact ⟨a, hk, hg⟩
  obtain ⟨a0, k0, g0⟩ := key 0 c0 (by omega) rfl
  obtain ⟨a1, k1, g1⟩ := key 1 c1 (by omega) rfl
  obtain ⟨a2, k2, g2⟩ := key 2 c2 (by omega) rfl
  obtain ⟨a3, k3, g3⟩ := key 3 c3 (by omega) rfl
  exact ⟨(a0, a1, a2, a3), ⟨[c0], [c1, c2, c3], rfl, k0, ⟨[c1], [c2, c3], rfl, k1, ⟨[c2], [c3], rfl, k2, k3⟩⟩⟩, g0, g1, g2, g3⟩
theorem opens_convI {α β : Type} {P : Program} {d : Kd α} {d' : Kd β} {t : TypeId} {good : α → Prop} {good' : β → Prop} (h : Opens P d t good) (hc : ∀ w a cs, d.K w a cs → good a → ∃ b, d'.K w b cs ∧ good' b) : Opens P d' t good' := by
  intro H enc w base spare held fuel cs x hx
  obtain ⟨a, hk, hg⟩ := h H enc w base spare held fuel cs x hx
  exact hc w a cs hk hg
theorem wf_bounds {n : Int} (h : (Lit.int .i64 n).wf = true) : -9223372036854775808 ≤ n ∧ n ≤ 9223372036854775807 := i64B_iff.1 h
theorem opens_inoC : Opens Try.prog kInoC 70 InoC.ok :=
  opens_convI (opens_struct Try.underlying70 (by kernel_rfl) (opensFs_cons rfl (opens_int Try.underlying3) (opensFs_cons rfl (opens_int Try.underlying3) (opensFs_cons rfl (opens_int Try.underlying3) (opensFs_cons rfl (opens_int Try.underlying3) (opensFs_cons rfl (opens_int Try.underlying3) (opensFs_cons rfl (opens_arr4g Try.underlying68 (by kernel_rfl) (by kernel_rfl) (opens_int Try.underlying3)) (opensFs_one rfl (opens_int Try.underlying3))))))))) (by
    rintro w ⟨a, b, c, d, e, ⟨p0, p1, p2, p3⟩, q⟩ cs ⟨c0, d0, e0, u0, c1, d1, e1, u1, c2, d2, e2, u2, c3, d3, e3, u3, c4, d4, e4, u4, c5, d5, e5, ⟨f0, g0, h0, v0, f1, g1, h1, v1, f2, g2, h2, v2, v3⟩, v⟩ ⟨_, _, _, _, _, ⟨w0, w1, w2, w3⟩, w4⟩
    refine ⟨⟨a, b, c, d, e, p0, p1, p2, p3, q⟩, ?_, ?_⟩
    · show cs = _
      rw [e0, u0, e1, u1, e2, u2, e3, u3, e4, u4, e5, h0, v0, h1, v1, h2, v2, v3, v]; rfl
    · intro k
      have w0 := wf_bounds w0
      have w1 := wf_bounds w1
      have w2 := wf_bounds w2
      have w3 := wf_bounds w3
      have w4 := wf_bounds w4
      unfold InoC.pt
      split <;> simp only <;> assumption)
theorem C_fromI {W : World} {A : Option Addr} {l : List InoC} (h : Kd.C kInoC W A l.length l) (hok : ∀ x ∈ l, InoC.ok x) : ∃ ys : List S70, Kd.C k70 W A ys.length ys ∧ ys.length = l.length ∧ ys.all inoB = true := by
  obtain ⟨ys, hC, hm⟩ := C_turnI (d' := k70) inoTo rfl (fun w a cs hk => by
    have e : cs = InoC.enc a := hk
    subst e
    exact ⟨inoFrom a, k70_mk w (inoFrom a), rfl⟩) h
  have hl : ys.length = l.length := by rw [← hm, List.length_map]
  refine ⟨ys, by rw [hl]; exact hC, hl, List.all_eq_true.2 fun y hy => ?_⟩
  have hy2 : inoTo y ∈ l := by rw [← hm]; exact List.mem_map.2 ⟨y, hy, rfl⟩
  have hk := hok _ hy2
  unfold inoB
  simp only [Bool.and_eq_true, i64B_iff]
  exact ⟨hk 0, hk 1, hk 2, hk 3, hk 4⟩
theorem l11_Once (A0 : Option Addr) (c0 : Nat) (l0 : List InoC) (a1 : Int) (W : World) (C0 : Kd.C kInoC W A0 l0.length l0) (H0 : l0.length ≤ c0) (hok : ∀ x ∈ l0, InoC.ok x) (h0 : 0 ≤ a1) (h1 : a1 < 256) :
    Calls Try.prog 4 #[.slice A0 l0.length c0, .int .u8 a1] W fun e w' => e = .returned (.bool true) ∧ Below W.heap.size W w' := by
  obtain ⟨ys, hC, hl, hb⟩ := C_fromI C0 hok
  have := craquelurelaw11_ClaimOnce.calls 2000 A0 c0 ys a1 true W hC (by omega) (once_true hb h0 h1)
  rw [hl] at this
  exact this
end Go.Proofs.Ytdkbhbolkieeiaa.K
