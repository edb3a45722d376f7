/- The row of the law AnswerTells: for every input the call returns true, and each argument reads behind it as it read before. No condition. -/
import Derived.Test.YtfbcnmjahpbbeaaRows
import Derived.Test.YtfbcnmjahpbbeaaL31
import Derived.Test.YtfbcnmjahpbbeaaKOpen31
import Derived.WalkKit
import Derived.ProofKit
import Derived.OpenShut
import Derived.ShutString
import Derived.ChangeOld
import Derived.Below
import Derived.SizedLaws
import Derived.Test.YtfbcnmjahpbbeaaWSized
namespace Go.Proofs.Ytfbcnmjahpbbeaa.answerTells
open Go.ChangeShapes Go.WideShapes Go.ChangeAt Go.RowKit Go.Proofs.YtfbcnmjahpbbeaaW.PrintWords Go.Proofs.YtfbcnmjahpbbeaaW.PrintLast Go.Proofs.YtfbcnmjahpbbeaaW.PrintMore Go.Proofs.Ytfbcnmjahpbbeaa.K
open Go.ChangeMaps (open_string shut_string)
set_option linter.unusedVariables false
set_option linter.unusedSimpArgs false
theorem own : ownKnob Try.prog.godebug = none := by kernel_rfl
theorem laidOut : laidOutB Try.prog = true := by kernel_rfl
set_option maxRecDepth 100000 in
theorem lifted (os : Os) (started : os.Started) (H : Type) (enc : TypeId × Value → H) :
    ReturnsInHanded {} Try.checked os 13 .any (Rows.answerTellsSpec.pre6 enc Try.prog Try.f13 Rows.answerTellsRow.domain false) (Rows.answerTellsSpec.post enc Try.prog Try.f13 false true false false) := by
  refine returnsInHanded_of_change_sized (C := Try.checked) own started (by kernel_rfl) Try.func13
    (ChangeSpec.witness6 (enc := enc) (C := Try.checked) false ⟨#[], #[.agg #[.int .i64 0, .slice none 0 0, .bool false], .agg #[.int .i64 0, .int .i64 0, .int .i64 0, .int .i64 0], .slice none 0 0], []⟩ 8 (by kernel_rfl) (by kernel_rfl) (by kernel_rfl) (by kernel_rfl)) ?_
  intro W base args ds gs before hval0 hW hcnd hsz0 _
  have hsz : (DataW.weightsEach Try.prog (Try.f13.params.toList ++ Rows.answerTellsSpec.plain.varTypes Try.prog) (ds ++ gs)).all (· ≤ reachBytes) = true := hsz0
  have hval : ∀ (j : Nat) t v, Try.f13.params[j]? = some t → args[j]? = some v → Value.okWide Try.prog W .any base t v := hval0
  have hW' := hW
  obtain ⟨p, q, hA0, hV, rfl, hfz, hnd⟩ := hW
  have hA : DataW.TrodAll enc Try.prog W 0 (fun _ => true) true Try.f13.params.toList args.toList ds p := hA0
  rw [Try.params13] at hA hval hsz
  obtain ⟨v0, vs0, d0, ds0, p0, q0, hargs, rfl, rfl, h0, r0⟩ := trodAll_cons hA
  obtain ⟨v1, vs1, d1, ds1, p1, q1, rfl, rfl, rfl, h1, r1⟩ := trodAll_cons r0
  obtain ⟨v2, vs2, d2, ds2, p2, q2, rfl, rfl, rfl, h2, r2⟩ := trodAll_cons r1
  obtain ⟨rfl, rfl, rfl⟩ := trodAll_nil r2
  obtain rfl : args = #[v0, v1, v2] := by cases args; simp_all
  obtain ⟨rfl, rfl⟩ := trodVars_none hV
  obtain ⟨cs0, rfl, _⟩ := okWide_struct Try.underlying66 (hval 0 66 v0 rfl rfl)
  have k0 := h0
  have lt0 : ∀ x ∈ p0, x.block < W.heap.size := by obtain ⟨m, hm⟩ := k0; exact DataW.trod_lt m _ _ _ hm
  obtain ⟨a0, A0, c0, l0, d0, rfl, C0, G0⟩ : ∃ (a : Int) (A : Option Addr) (c : Nat) (l : List Ans) (d : Bool), cs0 = #[.int .i64 a, .slice A l.length c, .bool d] ∧ Kd.C kAns W A l.length l ∧ l.length ≤ 9223372036854775807 := by
    obtain ⟨fuel, hf⟩ := h0
    obtain ⟨⟨x0, x1, x2⟩, hK, gl⟩ := opens_script H enc W 0 _ _ fuel _ _ hf
    obtain ⟨c0, d0, e0, u0, c1, d1, e1, ⟨A, cc, u1, _, C⟩, v1⟩ := hK
    refine ⟨x0, A, cc, x1, x2, ?_, C, gl⟩
    apply Array.ext'
    simp only [Value.cells] at e0
    rw [e0, u0, e1, u1, v1]
    rfl
  obtain ⟨cs1, rfl, _⟩ := okWide_struct Try.underlying68 (hval 1 68 v1 rfl rfl)
  have k1 := h1
  have lt1 : ∀ x ∈ p1, x.block < W.heap.size := by obtain ⟨m, hm⟩ := k1; exact DataW.trod_lt m _ _ _ hm
  obtain ⟨a1_0, a1_1, a1_2, a1_3, rfl, G1⟩ : ∃ a1_0 a1_1 a1_2 a1_3 : Int, cs1 = #[.int .i64 a1_0, .int .i64 a1_1, .int .i64 a1_2, .int .i64 a1_3] ∧ (Lit.int .i64 a1_0).wf = true ∧ (Lit.int .i64 a1_1).wf = true ∧ (Lit.int .i64 a1_2).wf = true ∧ (Lit.int .i64 a1_3).wf = true := by
    obtain ⟨fuel, hf⟩ := h1
    obtain ⟨⟨x0, x1, x2, x3⟩, hK, ⟨g0, g1, g2, g3⟩⟩ := (opens_struct Try.underlying68 (by kernel_rfl) (opensFs_cons rfl (opens_int Try.underlying3) (opensFs_cons rfl (opens_int Try.underlying3) (opensFs_cons rfl (opens_int Try.underlying3) (opensFs_one rfl (opens_int Try.underlying3)))))) H enc W 0 _ _ fuel _ _ hf
    obtain ⟨c0, d0, e0, f0, hK⟩ := hK
    obtain ⟨c1, d1, e1, f1, hK⟩ := hK
    obtain ⟨c2, d2, e2, f2, hK⟩ := hK
    have f3 := hK
    refine ⟨x0, x1, x2, x3, ?_, g0, g1, g2, g3⟩
    apply Array.ext'
    simp only [Value.cells] at e0
    rw [e0, f0, e1, f1, e2, f2, f3]
    rfl
  obtain ⟨A2, len2, c2, rfl⟩ := okWide_slice Try.underlying69 (hval 2 69 v2 rfl rfl)
  have k2 := h2
  have lt2 : ∀ x ∈ p2, x.block < W.heap.size := by obtain ⟨m, hm⟩ := k2; exact DataW.trod_lt m _ _ _ hm
  obtain ⟨l2, H2, C2, rfl, G2⟩ : ∃ l, l.length ≤ c2 ∧ Kd.C kFnd W A2 l.length l ∧ len2 = l.length ∧ (l.length ≤ 9223372036854775807 ∧ ∀ x ∈ l, (fun _ => True) x) := by
    obtain ⟨fuel, hf⟩ := h2
    obtain ⟨l, ⟨A, c, hcs, hl, hC⟩, hg⟩ := (opens_slice Try.underlying69 (by kernel_rfl) opens_fnd) H enc W 0 _ _ fuel _ _ hf
    simp [Value.cells] at hcs
    obtain ⟨rfl, rfl, rfl⟩ := hcs
    exact ⟨l, hl, hC, rfl, hg⟩
  clear hA0 hval0 hsz0 hsz
  refine (l31_Tells a0 A0 c0 l0 d0 ⟨a1_0, a1_1, a1_2, a1_3⟩ A2 c2 l2 W C0 G0 C2 G2.1).mono fun e W' ⟨he, bel⟩ => ?_
  subst he
  exact ⟨_, rfl, _, _, _, [], _, [], hW', trodAll_mk1 (shut_bool Try.underlying4 _), (trodAll_cons_mk (Below.trod laidOut (by kernel_rfl) (of_decide_eq_true (by kernel_rfl)) k0 bel lt0) (trodAll_cons_mk (Below.trod laidOut (by kernel_rfl) (of_decide_eq_true (by kernel_rfl)) k1 bel lt1) (trodAll_cons_mk (Below.trod laidOut (by kernel_rfl) (of_decide_eq_true (by kernel_rfl)) k2 bel lt2) trodAll_mk0))), rfl, bel.frame _, fun h => by cases h⟩
theorem over : Rows.answerTellsRow.holds Try.pinned (OpenSpec.ofChange Rows.answerTellsSpec) :=
  OpenClaim.holds_of_wide 13 Try.f13 rfl rfl rfl rfl rfl rfl rfl ⟨rfl, rfl, rfl, rfl, rfl⟩ rfl rfl rfl rfl rfl (by kernel_rfl) Try.func13 (by kernel_rfl)
    (of_decide_eq_true (by kernel_rfl)) (by unfold Func.isWrapper; first | (rw [if_pos (by decide +kernel)]; kernel_rfl) | (rw [if_neg (by decide +kernel)]; exact ⟨rfl, rfl⟩))
    (fun os started H enc _ => lifted os started H enc)
theorem proved : Rows.AnswerTellsSaid := over
#print axioms proved
end Go.Proofs.Ytfbcnmjahpbbeaa.answerTells
namespace Go.Proofs.Ytfbcnmjahpbbeaa
/-- The row, under a short name, for the claim. -/
theorem answerTells_holds : Rows.AnswerTellsSaid := answerTells.proved
end Go.Proofs.Ytfbcnmjahpbbeaa

