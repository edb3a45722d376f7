/- The row of the law JournalLays: for every input the call returns true, and each argument reads behind it as it read before. No condition. -/
import Derived.Test.YtdkbhbolkieeiaaRows
import Derived.Test.YtdkbhbolkieeiaaAH
import Derived.WalkKit
import Derived.ProofKit
import Derived.OpenShut
import Derived.ShutString
import Derived.ChangeOld
import Derived.Below
import Derived.SizedLaws
import Derived.Test.YtdkbhbolkieeiaaWSized
namespace Go.Proofs.Ytdkbhbolkieeiaa.journalLays
open Go.ChangeShapes Go.WideShapes Go.ChangeAt Go.RowKit Go.Proofs.YtdkbhbolkieeiaaW.PrintWords Go.Proofs.YtdkbhbolkieeiaaW.PrintLast Go.Proofs.YtdkbhbolkieeiaaW.PrintMore Go.Proofs.Ytdkbhbolkieeiaa.K
open Go.ChangeMaps (open_string shut_string)
set_option linter.unusedVariables false
set_option linter.unusedSimpArgs false
theorem own : ownKnob Try.prog.godebug = none := by kernel_rfl
theorem laidOut : laidOutB Try.prog = true := by kernel_rfl
set_option maxRecDepth 100000 in
theorem lifted (os : Os) (started : os.Started) (H : Type) (enc : TypeId × Value → H) :
    ReturnsInHanded {} Try.checked os 5 .any (Rows.journalLaysSpec.pre6 enc Try.prog Try.f5 Rows.journalLaysRow.domain false) (Rows.journalLaysSpec.post enc Try.prog Try.f5 false true false false) := by
  refine returnsInHanded_of_change_sized (C := Try.checked) own started (by kernel_rfl) Try.func5
    (ChangeSpec.witness6 (enc := enc) (C := Try.checked) false ⟨#[], #[.agg #[.int .i64 0, .int .i64 0, .int .i64 0, .int .i64 0], .slice none 0 0], []⟩ 8 (by kernel_rfl) (by kernel_rfl) (by kernel_rfl) (by kernel_rfl)) ?_
  intro W base args ds gs before hval0 hW hcnd hsz0 _
  have hsz : (DataW.weightsEach Try.prog (Try.f5.params.toList ++ Rows.journalLaysSpec.plain.varTypes Try.prog) (ds ++ gs)).all (· ≤ reachBytes) = true := hsz0
  have hval : ∀ (j : Nat) t v, Try.f5.params[j]? = some t → args[j]? = some v → Value.okWide Try.prog W .any base t v := hval0
  have hW' := hW
  obtain ⟨p, q, hA0, hV, rfl, hfz, hnd⟩ := hW
  have hA : DataW.TrodAll enc Try.prog W 0 (fun _ => true) true Try.f5.params.toList args.toList ds p := hA0
  rw [Try.params5] at hA hval hsz
  obtain ⟨v0, vs0, d0, ds0, p0, q0, hargs, rfl, rfl, h0, r0⟩ := trodAll_cons hA
  obtain ⟨v1, vs1, d1, ds1, p1, q1, rfl, rfl, rfl, h1, r1⟩ := trodAll_cons r0
  obtain ⟨rfl, rfl, rfl⟩ := trodAll_nil r1
  obtain rfl : args = #[v0, v1] := by cases args; simp_all
  obtain ⟨rfl, rfl⟩ := trodVars_none hV
  obtain ⟨cs0, rfl, _⟩ := okWide_struct Try.underlying38 (hval 0 38 v0 rfl rfl)
  have k0 := h0
  have lt0 : ∀ x ∈ p0, x.block < W.heap.size := by obtain ⟨m, hm⟩ := k0; exact DataW.trod_lt m _ _ _ hm
  obtain ⟨a0_0, a0_1, a0_2, a0_3, rfl, G0⟩ : ∃ a0_0 a0_1 a0_2 a0_3 : Int, cs0 = #[.int .i64 a0_0, .int .i64 a0_1, .int .i64 a0_2, .int .i64 a0_3] ∧ (Lit.int .i64 a0_0).wf = true ∧ (Lit.int .i64 a0_1).wf = true ∧ (Lit.int .i64 a0_2).wf = true ∧ (Lit.int .i64 a0_3).wf = true := by
    obtain ⟨fuel, hf⟩ := h0
    obtain ⟨⟨x0, x1, x2, x3⟩, hK, ⟨g0, g1, g2, g3⟩⟩ := (opens_struct Try.underlying38 (by kernel_rfl) (opensFs_cons rfl (opens_int Try.underlying3) (opensFs_cons rfl (opens_int Try.underlying3) (opensFs_cons rfl (opens_int Try.underlying3) (opensFs_one rfl (opens_int Try.underlying3)))))) H enc W 0 _ _ fuel _ _ hf
    obtain ⟨c0, d0, e0, f0, hK⟩ := hK
    obtain ⟨c1, d1, e1, f1, hK⟩ := hK
    obtain ⟨c2, d2, e2, f2, hK⟩ := hK
    have f3 := hK
    refine ⟨x0, x1, x2, x3, ?_, g0, g1, g2, g3⟩
    apply Array.ext'
    simp only [Value.cells] at e0
    rw [e0, f0, e1, f1, e2, f2, f3]
    rfl
  obtain ⟨A1, len1, c1, rfl⟩ := okWide_slice Try.underlying39 (hval 1 39 v1 rfl rfl)
  have k1 := h1
  have lt1 : ∀ x ∈ p1, x.block < W.heap.size := by obtain ⟨m, hm⟩ := k1; exact DataW.trod_lt m _ _ _ hm
  obtain ⟨l1, H1, C1, rfl, G1⟩ : ∃ l, l.length ≤ c1 ∧ Kd.C kWr W A1 l.length l ∧ len1 = l.length ∧ (l.length ≤ 9223372036854775807 ∧ ∀ x ∈ l, (fun x => (Lit.int .i64 x.at_).wf = true ∧ x.s.l.length ≤ 9223372036854775807 ∧ ∀ n ∈ x.s.l, (Lit.int .u8 n).wf = true) x) := by
    obtain ⟨fuel, hf⟩ := h1
    obtain ⟨l, ⟨A, c, hcs, hl, hC⟩, hg⟩ := (opens_slice Try.underlying39 (by kernel_rfl) opens_wr) H enc W 0 _ _ fuel _ _ hf
    simp [Value.cells] at hcs
    obtain ⟨rfl, rfl, rfl⟩ := hcs
    exact ⟨l, hl, hC, rfl, hg⟩
  clear hA0 hval0 hsz0 hsz
  refine (lays_walk a0_0 a0_1 a0_2 a0_3 A1 c1 l1 W C1 G1.1 (fun x hx n hn => by have := bounds_u8 ((G1.2 x hx).2.2 n hn); omega)).mono fun e W' ⟨he, bel⟩ => ?_
  subst he
  exact ⟨_, rfl, _, _, _, [], _, [], hW', trodAll_mk1 (shut_bool Try.underlying4 _), (trodAll_cons_mk (Below.trod laidOut (by kernel_rfl) (of_decide_eq_true (by kernel_rfl)) k0 bel lt0) (trodAll_cons_mk (Below.trod laidOut (by kernel_rfl) (of_decide_eq_true (by kernel_rfl)) k1 bel lt1) trodAll_mk0)), rfl, bel.frame _, fun h => by cases h⟩
theorem over : Rows.journalLaysRow.holds Try.pinned (OpenSpec.ofChange Rows.journalLaysSpec) :=
  OpenClaim.holds_of_wide 5 Try.f5 rfl rfl rfl rfl rfl rfl rfl ⟨rfl, rfl, rfl, rfl, rfl⟩ rfl rfl rfl rfl rfl (by kernel_rfl) Try.func5 (by kernel_rfl)
    (of_decide_eq_true (by kernel_rfl)) (by unfold Func.isWrapper; first | (rw [if_pos (by decide +kernel)]; kernel_rfl) | (rw [if_neg (by decide +kernel)]; exact ⟨rfl, rfl⟩))
    (fun os started H enc _ => lifted os started H enc)
theorem proved : Rows.JournalLaysSaid := over
#print axioms proved
end Go.Proofs.Ytdkbhbolkieeiaa.journalLays
namespace Go.Proofs.Ytdkbhbolkieeiaa
/-- The row, under a short name, for the claim. -/
theorem journalLays_holds : Rows.JournalLaysSaid := journalLays.proved
end Go.Proofs.Ytdkbhbolkieeiaa

