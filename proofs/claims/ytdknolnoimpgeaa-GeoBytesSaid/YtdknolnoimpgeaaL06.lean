/- The laws of chapter 6, walked: GeoBytes. -/
import Derived.Test.YtdknolnoimpgeaaL06a
import Derived.Test.YtdknolnoimpgeaaG06b
import Derived.Test.YtdknolnoimpgeaaY06A
namespace Go.Proofs.Ytdknolnoimpgeaa.K
open Go.RowKit Go.Proofs.YtdknolnoimpgeaaW.PrintWords Go.Proofs.YtdknolnoimpgeaaW.PrintLast Go.Proofs.YtdknolnoimpgeaaW.PrintMore Go.Proofs.Ytdknolnoimpgeaa.Y06
set_option linter.unusedVariables false
set_option linter.unusedSimpArgs false
theorem l06_Bytes (a b c d : Int) (A : Option Addr) (cp : Nat) (l : List Int) (w : World) (hr : Kd.C (Kd.int .u8) w A l.length l) (hc : l.length ≤ cp) (hb : Byts l) :
    Calls Try.prog 3 #[.agg #[.int .i64 a, .int .i64 b, .int .i64 c, .int .i64 d], .slice A l.length cp] w fun e w' => e = .returned (.bool true) ∧ Below w.heap.size w w' := by
  refine craquelurelaw06_GeoBytes.calls a b c d A cp l w hr hc ?_
  unfold craquelurelaw06_GeoBytes.f
  by_cases h4 : (l.length : Int) > 40000
  · rw [if_pos h4]; rfl
  rw [if_neg h4]
  obtain ⟨r, h1, h2⟩ := geoGet_same l hb (by omega)
  have hby : Byts (geoBy a b c d) := by
    unfold geoBy; split
    · exact sealS_byts (geoHead_byts a b c d)
    · intro x hx; cases hx
  have hs := bytsB_of hby
  have hs' : bytsB (geoBy a b c d) = true := hs
  simp only [geo_Put.f, craquelureref06_Put.f, geo_Get.f, craquelureref06_Get.f, h1, h2, geo_Check.f, craquelureref06_Check.f, geo_Total.f, craquelureref06_Total.f, bytes_Equal.f, craquelurelaw06_awake.f, Option.bind_some, if_true, beq_self_eq_true, Bool.and_self, decide_true]
  rw [if_pos ⟨hs', hs'⟩]
  rfl
end Go.Proofs.Ytdknolnoimpgeaa.K
