/- geo.Put: the first sector of a layout. -/
import Derived.Test.YtdknolnoimpgeaaK06
import Derived.Test.YtdknolnoimpgeaaK02b
import Derived.Test.YtdknolnoimpgeaaKGrow
namespace Go.Proofs.Ytdknolnoimpgeaa.K
open Go.RowKit Go.Proofs.YtdknolnoimpgeaaW.PrintWords Go.Proofs.YtdknolnoimpgeaaW.PrintLast Go.Proofs.YtdknolnoimpgeaaW.PrintMore
set_option linter.unusedVariables false
set_option linter.unusedSimpArgs false
def geoHead (a b c d : Int) : List Int := [82, 84, 66, 76, 1, a % 256, b % 256, c % 256, d % 256]
def geoBy (a b c d : Int) : List Int := if geoOk a b c d = true then sealS (geoHead a b c d) else []
theorem geoHead_byts (a b c d : Int) : Byts (geoHead a b c d) := by
  intro x hx
  simp only [geoHead, List.mem_cons, List.not_mem_nil, or_false] at hx
  rcases hx with rfl | rfl | rfl | rfl | rfl | rfl | rfl | rfl | rfl <;> omega
set_option maxRecDepth 100000 in
theorem geoPut_walk (a b c d : Int) (w : World) :
    Calls Try.prog 16 #[geoV a b c d] w fun e w' => ∃ v : Value, e = .returned (.tuple #[v, .int .i64 (geoE a b c d)]) ∧ Kd.R (Kd.int .u8) 5 w' w.heap.size (fun _ => True) v (geoBy a b c d) ∧ Below w.heap.size w w' := by
  have W1 : Aside0 (∀ W, Calls Try.prog 20 #[.agg #[.int .i64 a, .int .i64 b, .int .i64 c, .int .i64 d]] W fun e w' => e = .returned (.int .i64 (geoE a b c d)) ∧ w' = W.alloc (.cells #[.int .i64 a, .int .i64 b, .int .i64 c, .int .i64 d] 23)) := ⟨fun W => geoCheck_walk a b c d W⟩
  unfold geoV
  by_cases hok : geoOk a b c d = true
  case neg =>
    have E0 : Aside0 (geoBy a b c d = []) := ⟨by unfold geoBy; rw [if_neg hok]⟩
    have E1 : Aside0 (geoE a b c d = 1) := ⟨geoE_bad hok⟩
    clear hok
    go_enter Try.func16, Try.ntmps16
    go_wp2_with (go_at_call 20; (with_reducible refine (W1.out _).mono ?_); rintro e w' ⟨rfl, h_⟩; have h_ := h_.symm; subst h_; rw [E1.out])
    go_ret2
    exact ⟨_, by rw [E1.out]; rfl, by rw [E0.out]; exact Kd.R_nil _ _ _ _ _, (by repeat (first | exact Below.refl _ _ | apply Below.drew | apply below_alloc))⟩
  have E1 : Aside0 (geoE a b c d = 0) := ⟨geoE_ok hok⟩
  have E0 : Aside0 (geoBy a b c d = sealS (geoHead a b c d)) := ⟨by unfold geoBy; rw [if_pos hok]⟩
  have kc : (convert 24 24 (.slice (some ⟨w.heap.size + 1 + 1, 0, none⟩) 5 5)).run Try.prog (((w.alloc (.cells #[.int .i64 a, .int .i64 b, .int .i64 c, .int .i64 d] 23)).alloc (.cells #[.int .i64 a, .int .i64 b, .int .i64 c, .int .i64 d] 23)).alloc (.cells #[.int .u8 82, .int .u8 84, .int .u8 66, .int .u8 76, .int .u8 1] 5)) = .ok (.slice (some ⟨w.heap.size + 1 + 1, 0, none⟩) 5 5) (((w.alloc (.cells #[.int .i64 a, .int .i64 b, .int .i64 c, .int .i64 d] 23)).alloc (.cells #[.int .i64 a, .int .i64 b, .int .i64 c, .int .i64 d] 23)).alloc (.cells #[.int .u8 82, .int .u8 84, .int .u8 66, .int .u8 76, .int .u8 1] 5 (5, 6))) := by
    exact Kd.conv_bytes_at ((w.alloc (.cells #[.int .i64 a, .int .i64 b, .int .i64 c, .int .i64 d] 23)).alloc (.cells #[.int .i64 a, .int .i64 b, .int .i64 c, .int .i64 d] 23)) 24 5 #[.int .u8 82, .int .u8 84, .int .u8 66, .int .u8 76, .int .u8 1] 5 5 _ (by simp) Try.underlying24 Try.underlying5
  clear hok
  go_enter Try.func16, Try.ntmps16
  go_wp2_with (first | (go_at_call 20; (with_reducible refine (W1.out _).mono ?_); rintro e w' ⟨rfl, h_⟩; have h_ := h_.symm; subst h_; rw [E1.out]) | ((with_reducible refine gate_builtin (b := .append) (xs := #[.tmp 11, .tmp 24]) rfl ?_); at_builtin; go_loud (refine Kd.R_grows (k := .u8) (w0 := w) w.heap.size rfl (.tmp 11) (.tmp 24) 24 5 (.int .u8 0) 1 rfl Try.underlying24 u8info rfl (by decide) ⟨w.heap.size + 1 + 1, 0, none⟩ ⟨w.heap.size + 1 + 1 + 1, 0, none⟩ 5 5 4 4 [82, 84, 66, 76, 1] [a % 256, b % 256, c % 256, d % 256] rfl rfl rfl rfl ?hX ?hY (by decide) ?hB ?hs (by decide) ?_; (case hX => (intro j hj; rcases j with _ | _ | _ | _ | _ | j; all_goals first | exact Kd.cell_new (by simp) rfl | exact Kd.cell_old _ (Kd.cell_new (by simp) rfl) | (exfalso; omega))); (case hY => (intro j hj; rcases j with _ | _ | _ | _ | _ | j; all_goals first | exact Kd.cell_new (by simp) rfl | exact Kd.cell_old _ (Kd.cell_new (by simp) rfl) | (exfalso; omega))); (case hB => exact (by repeat (first | exact Below.refl _ _ | apply Below.drew | apply below_alloc))); (case hs => exact below_size (by repeat (first | exact Below.refl _ _ | apply Below.drew | apply below_alloc))); intro v4 w4 ho hb; have HO4 := Aside0.mk (show Kd.R (Kd.int .u8) 5 w4 w.heap.size (fun _ => True) v4 (geoHead a b c d) from ho); have HB4 := Aside0.mk hb; clear ho hb; obtain ⟨A4, c4, e4⟩ := Kd.R_slice HO4.out; subst e4)) | (go_at_call 90; refine (seal_walk A4 c4 (geoHead a b c d) w4 (Kd.R_reads' HO4.out).2.2 (geoHead_byts a b c d)).mono ?_; rintro e w5 ⟨v5, rfl, ho, hb⟩; have HO5 := Aside0.mk (Kd.R_lower ho (show w.heap.size ≤ w4.heap.size from HB4.out.size)); have HB5 := Aside0.mk (below_step HB4.out hb); clear ho hb))
  go_ret2
  exact ⟨_, by rw [E1.out]; rfl, by rw [E0.out]; exact HO5.out, HB5.out⟩
end Go.Proofs.Ytdknolnoimpgeaa.K
