/- The laws of chapter 6, walked: GeoPlaces. -/
import Derived.Test.YtdknolnoimpgeaaL06a
import Derived.Test.YtdknolnoimpgeaaZ06A
namespace Go.Proofs.Ytdknolnoimpgeaa.K
open Go.RowKit Go.Proofs.YtdknolnoimpgeaaW.PrintWords Go.Proofs.YtdknolnoimpgeaaW.PrintLast Go.Proofs.YtdknolnoimpgeaaW.PrintMore Go.Proofs.Ytdknolnoimpgeaa.Z06
set_option linter.unusedVariables false
set_option linter.unusedSimpArgs false
theorem l06_Places (a b c d l n : Int) (w : World) :
    Calls Try.prog 6 #[.agg #[.int .i64 a, .int .i64 b, .int .i64 c, .int .i64 d], .int .i64 l, .int .i64 n] w fun e w' => e = .returned (.bool true) ∧ Below w.heap.size w w' := by
  refine craquelurelaw06_GeoPlaces.calls a b c d l n w ?_
  simp only [craquelurelaw06_GeoPlaces.f, geo_Bitmap.f, craquelureref06_Start.f, geo_Inode.f, craquelureref06_Inode.f, geo_Block.f, craquelureref06_Block.f, geo_Log.f, craquelureref06_Log.f, geo_Upper.f, craquelureref06_Upper.f, craquelurelaw06_awake.f, Option.bind_some, if_true, beq_self_eq_true]
end Go.Proofs.Ytdknolnoimpgeaa.K
