/- The law DevNil. -/
import Derived.Test.YtdknolnoimpgeaaL05
namespace Go.Proofs.Ytdknolnoimpgeaa.K
open Go.RowKit Go.Proofs.YtdknolnoimpgeaaW.PrintWords Go.Proofs.YtdknolnoimpgeaaW.PrintLast Go.Proofs.YtdknolnoimpgeaaW.PrintMore
set_option linter.unusedVariables false
set_option linter.unusedSimpArgs false
set_option maxHeartbeats 4000000 in
set_option maxRecDepth 100000 in
theorem l05_Nil (i : Int) (A : Option Addr) (n c : Nat) (w : World) :
    Calls Try.prog 12 #[.int .i64 i, .slice A n c] w fun e w' => e = .returned (.bool true) ∧ Below w.heap.size w w' := by
  have WA := Aside0.mk (fun W => l05_awake W)
  go_enter Try.func12, Try.ntmps12
  go_wp2_with (first | (go_at_call 68; (with_reducible refine (devRead_nil _ _).mono ?_); (rintro e w' ⟨rfl, h_⟩; have h_ := h_.symm; subst h_)) | (go_at_call 69; (with_reducible refine (devArm_nil _ _).mono ?_); (rintro e w' ⟨⟨v_, rfl⟩, h_⟩; have h_ := h_.symm; subst h_)) | (go_at_call 70; (with_reducible refine (devCrash_nil _ _).mono ?_); (rintro e w' ⟨⟨v_, rfl⟩, h_⟩; have h_ := h_.symm; subst h_)) | (go_at_call 71; (with_reducible refine (devWrite_nil _ _ _).mono ?_); (rintro e w' ⟨rfl, h_⟩; have h_ := h_.symm; subst h_)) | (go_at_call 72; (with_reducible refine (devFlush_nil _).mono ?_); (rintro e w' ⟨rfl, h_⟩; have h_ := h_.symm; subst h_)) | (go_at_call 73; (with_reducible refine (devSize_nil _).mono ?_); (rintro e w' ⟨rfl, h_⟩; have h_ := h_.symm; subst h_)) | (go_at_call 74; (with_reducible refine (devWrites_nil _).mono ?_); (rintro e w' ⟨rfl, h_⟩; have h_ := h_.symm; subst h_)) | (go_at_call 75; (with_reducible refine (devFlushes_nil _).mono ?_); (rintro e w' ⟨rfl, h_⟩; have h_ := h_.symm; subst h_)) | (go_at_call 76; (with_reducible refine (devWaiting_nil _).mono ?_); (rintro e w' ⟨rfl, h_⟩; have h_ := h_.symm; subst h_)) | (go_at_call 77; (with_reducible refine (devSafe_nil _).mono ?_); (rintro e w' ⟨rfl, h_⟩; have h_ := h_.symm; subst h_)) | (go_at_call 78; (with_reducible refine (devBytes_nil _).mono ?_); (rintro e w' ⟨rfl, h_⟩; have h_ := h_.symm; subst h_)) | (go_at_call 79; (with_reducible refine (devOff_nil _).mono ?_); (rintro e w' ⟨rfl, h_⟩; have h_ := h_.symm; subst h_)) | (go_at_call 80; (with_reducible refine (WA.out _).mono ?_); rintro e w9 ⟨rfl, hb⟩; have HB := Aside0.mk hb; clear hb))
  go_ret
  exact ⟨by rfl, HB.out⟩
end Go.Proofs.Ytdknolnoimpgeaa.K
