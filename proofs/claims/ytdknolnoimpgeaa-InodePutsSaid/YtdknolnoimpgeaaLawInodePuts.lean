/- The row of the law InodePuts: for every input the call returns true, and each argument reads behind it as it read before. No condition. -/
import Derived.Test.YtdknolnoimpgeaaRows
import Derived.Test.YtdknolnoimpgeaaL07
import Derived.Test.YtdknolnoimpgeaaKOpenA
import Derived.WalkKit
import Derived.ProofKit
import Derived.OpenShut
import Derived.ShutString
import Derived.ChangeOld
import Derived.Below
import Derived.SizedLaws
import Derived.Test.YtdknolnoimpgeaaWSized
namespace Go.Proofs.Ytdknolnoimpgeaa.inodePuts
open Go.ChangeShapes Go.WideShapes Go.ChangeAt Go.RowKit Go.Proofs.YtdknolnoimpgeaaW.PrintWords Go.Proofs.YtdknolnoimpgeaaW.PrintLast Go.Proofs.YtdknolnoimpgeaaW.PrintMore Go.Proofs.Ytdknolnoimpgeaa.K
open Go.ChangeMaps (open_string shut_string)
set_option linter.unusedVariables false
set_option linter.unusedSimpArgs false
theorem own : ownKnob Try.prog.godebug = none := by kernel_rfl
theorem laidOut : laidOutB Try.prog = true := by kernel_rfl
set_option maxRecDepth 100000 in
theorem lifted (os : Os) (started : os.Started) (H : Type) (enc : TypeId × Value → H) :
    ReturnsInHanded {} Try.checked os 8 .any (Rows.inodePutsSpec.pre6 enc Try.prog Try.f8 Rows.inodePutsRow.domain false) (Rows.inodePutsSpec.post enc Try.prog Try.f8 false true false false) := by
  refine returnsInHanded_of_change_sized (C := Try.checked) own started (by kernel_rfl) Try.func8
    (ChangeSpec.witness6 (enc := enc) (C := Try.checked) false ⟨#[], #[.agg #[.int .i64 0, .int .i64 0, .int .i64 0, .int .i64 0, .int .i64 0, .int .i64 0, .int .i64 0, .int .i64 0, .int .i64 0, .int .i64 0]], []⟩ 8 (by kernel_rfl) (by kernel_rfl) (by kernel_rfl) (by kernel_rfl)) ?_
  intro W base args ds gs before hval0 hW hcnd hsz0 _
  have hsz : (DataW.weightsEach Try.prog (Try.f8.params.toList ++ Rows.inodePutsSpec.plain.varTypes Try.prog) (ds ++ gs)).all (· ≤ reachBytes) = true := hsz0
  have hval : ∀ (j : Nat) t v, Try.f8.params[j]? = some t → args[j]? = some v → Value.okWide Try.prog W .any base t v := hval0
  have hW' := hW
  obtain ⟨p, q, hA0, hV, rfl, hfz, hnd⟩ := hW
  have hA : DataW.TrodAll enc Try.prog W 0 (fun _ => true) true Try.f8.params.toList args.toList ds p := hA0
  rw [Try.params8] at hA hval hsz
  obtain ⟨v0, vs0, d0, ds0, p0, q0, hargs, rfl, rfl, h0, r0⟩ := trodAll_cons hA
  obtain ⟨rfl, rfl, rfl⟩ := trodAll_nil r0
  obtain rfl : args = #[v0] := by cases args; simp_all
  obtain ⟨rfl, rfl⟩ := trodVars_none hV
  obtain ⟨cs0, rfl, _⟩ := okWide_struct Try.underlying54 (hval 0 54 v0 rfl rfl)
  have k0 := h0
  have lt0 : ∀ x ∈ p0, x.block < W.heap.size := by obtain ⟨m, hm⟩ := k0; exact DataW.trod_lt m _ _ _ hm
  obtain ⟨a0_0, a0_1, a0_2, a0_3, a0_4, a0_5, a0_6, a0_7, a0_8, a0_9, rfl⟩ : ∃ (a0_0 : Int) (a0_1 : Int) (a0_2 : Int) (a0_3 : Int) (a0_4 : Int) (a0_5 : Int) (a0_6 : Int) (a0_7 : Int) (a0_8 : Int) (a0_9 : Int), cs0 = #[.int .i64 a0_0, .int .i64 a0_1, .int .i64 a0_2, .int .i64 a0_3, .int .i64 a0_4, .int .i64 a0_5, .int .i64 a0_6, .int .i64 a0_7, .int .i64 a0_8, .int .i64 a0_9] := by
    obtain ⟨fuel, hf⟩ := h0
    obtain ⟨⟨x0, x1, x2, x3, x4, ⟨x5, x6, x7, x8⟩, x12⟩, hK, _⟩ := (opens_struct Try.underlying54 (by kernel_rfl) (opensFs_cons rfl (opens_int Try.underlying3) (opensFs_cons rfl (opens_int Try.underlying3) (opensFs_cons rfl (opens_int Try.underlying3) (opensFs_cons rfl (opens_int Try.underlying3) (opensFs_cons rfl (opens_int Try.underlying3) (opensFs_cons rfl (opens_arr4 Try.underlying52 (by kernel_rfl) (by kernel_rfl) (opens_int Try.underlying3)) (opensFs_one rfl (opens_int Try.underlying3))))))))) H enc W 0 _ _ fuel _ _ hf
    obtain ⟨c13, d13, e13, u13, v13⟩ := hK
    have f0 := u13
    obtain ⟨c14, d14, e14, u14, v14⟩ := v13
    have f1 := u14
    obtain ⟨c15, d15, e15, u15, v15⟩ := v14
    have f2 := u15
    obtain ⟨c16, d16, e16, u16, v16⟩ := v15
    have f3 := u16
    obtain ⟨c17, d17, e17, u17, v17⟩ := v16
    have f4 := u17
    obtain ⟨c18, d18, e18, u18, v18⟩ := v17
    obtain ⟨c9, d9, e9, u9, v9⟩ := u18
    have f5 := u9
    obtain ⟨c10, d10, e10, u10, v10⟩ := v9
    have f6 := u10
    obtain ⟨c11, d11, e11, u11, v11⟩ := v10
    have f7 := u11
    have f8 := v11
    have f12 := v18
    refine ⟨x0, x1, x2, x3, x4, x5, x6, x7, x8, x12, ?_⟩
    apply Array.ext'
    simp only [Value.cells] at e13
    rw [e13, f0, e14, f1, e15, f2, e16, f3, e17, f4, e18, e9, f5, e10, f6, e11, f7, f8, f12]
    rfl
  clear hA0 hval0 hsz0 hsz
  refine (l07_Puts a0_0 a0_1 a0_2 a0_3 a0_4 a0_5 a0_6 a0_7 a0_8 a0_9 W).mono fun e W' ⟨he, bel⟩ => ?_
  subst he
  exact ⟨_, rfl, _, _, _, [], _, [], hW', trodAll_mk1 (shut_bool Try.underlying4 _), (trodAll_cons_mk (Below.trod laidOut (by kernel_rfl) (of_decide_eq_true (by kernel_rfl)) k0 bel lt0) trodAll_mk0), rfl, bel.frame _, fun h => by cases h⟩
theorem over : Rows.inodePutsRow.holds Try.pinned (OpenSpec.ofChange Rows.inodePutsSpec) :=
  OpenClaim.holds_of_wide 8 Try.f8 rfl rfl rfl rfl rfl rfl rfl ⟨rfl, rfl, rfl, rfl, rfl⟩ rfl rfl rfl rfl rfl (by kernel_rfl) Try.func8 (by kernel_rfl)
    (of_decide_eq_true (by kernel_rfl)) (by unfold Func.isWrapper; first | (rw [if_pos (by decide +kernel)]; kernel_rfl) | (rw [if_neg (by decide +kernel)]; exact ⟨rfl, rfl⟩))
    (fun os started H enc _ => lifted os started H enc)
theorem proved : Rows.InodePutsSaid := over
#print axioms proved
end Go.Proofs.Ytdknolnoimpgeaa.inodePuts
namespace Go.Proofs.Ytdknolnoimpgeaa
/-- The row, under a short name, for the claim. -/
theorem inodePuts_holds : Rows.InodePutsSaid := inodePuts.proved
end Go.Proofs.Ytdknolnoimpgeaa

