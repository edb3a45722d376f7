/- The walks of the reference of chapter 6. -/
import Derived.Test.YtdknolnoimpgeaaK06
import Derived.Test.YtdknolnoimpgeaaR02
namespace Go.Proofs.Ytdknolnoimpgeaa.K
open Go.RowKit Go.Proofs.YtdknolnoimpgeaaW.PrintWords Go.Proofs.YtdknolnoimpgeaaW.PrintLast Go.Proofs.YtdknolnoimpgeaaW.PrintMore
set_option linter.unusedVariables false
set_option linter.unusedSimpArgs false
set_option maxRecDepth 100000 in
set_option maxHeartbeats 4000000 in
theorem rCheck_walk (a b c d : Int) (w : World) : Calls Try.prog 21 #[geoV a b c d] w fun e w' => e = .returned (.int .i64 (geoE a b c d)) ∧ w' = w.alloc (.cells #[.int .i64 a, .int .i64 b, .int .i64 c, .int .i64 d] 23) := by
  unfold geoV
  by_cases h1 : 1 ≤ a
  case neg =>
    have E0 : Aside0 (geoE a b c d = 1) := ⟨geoE_bad (fun h => by have := geoOk_parts h; omega)⟩
    go_enter Try.func21, Try.ntmps21
    go_wp2
    go_ret
    exact ⟨by rw [E0.out]; rfl, rfl⟩
  by_cases h2 : a ≤ 3
  case neg =>
    have E0 : Aside0 (geoE a b c d = 1) := ⟨geoE_bad (fun h => by have := geoOk_parts h; omega)⟩
    go_enter Try.func21, Try.ntmps21
    go_wp2
    go_ret
    exact ⟨by rw [E0.out]; rfl, rfl⟩
  by_cases h3 : 4 ≤ b
  case neg =>
    have E0 : Aside0 (geoE a b c d = 1) := ⟨geoE_bad (fun h => by have := geoOk_parts h; omega)⟩
    go_enter Try.func21, Try.ntmps21
    go_wp2
    go_ret
    exact ⟨by rw [E0.out]; rfl, rfl⟩
  by_cases h4 : b ≤ 24
  case neg =>
    have E0 : Aside0 (geoE a b c d = 1) := ⟨geoE_bad (fun h => by have := geoOk_parts h; omega)⟩
    go_enter Try.func21, Try.ntmps21
    go_wp2
    go_ret
    exact ⟨by rw [E0.out]; rfl, rfl⟩
  by_cases h5 : 1 ≤ c
  case neg =>
    have E0 : Aside0 (geoE a b c d = 1) := ⟨geoE_bad (fun h => by have := geoOk_parts h; omega)⟩
    go_enter Try.func21, Try.ntmps21
    go_wp2
    go_ret
    exact ⟨by rw [E0.out]; rfl, rfl⟩
  by_cases h6 : c ≤ 60
  case neg =>
    have E0 : Aside0 (geoE a b c d = 1) := ⟨geoE_bad (fun h => by have := geoOk_parts h; omega)⟩
    go_enter Try.func21, Try.ntmps21
    go_wp2
    go_ret
    exact ⟨by rw [E0.out]; rfl, rfl⟩
  by_cases h7 : 1 ≤ d
  case neg =>
    have E0 : Aside0 (geoE a b c d = 1) := ⟨geoE_bad (fun h => by have := geoOk_parts h; omega)⟩
    go_enter Try.func21, Try.ntmps21
    go_wp2
    go_ret
    exact ⟨by rw [E0.out]; rfl, rfl⟩
  by_cases h8 : d ≤ 64
  case neg =>
    have E0 : Aside0 (geoE a b c d = 1) := ⟨geoE_bad (fun h => by have := geoOk_parts h; omega)⟩
    go_enter Try.func21, Try.ntmps21
    go_wp2
    go_ret
    exact ⟨by rw [E0.out]; rfl, rfl⟩
  have E0 : Aside0 (geoE a b c d = 0) := ⟨geoE_ok (by simp [geoOk, win, *])⟩
  go_enter Try.func21, Try.ntmps21
  go_wp2
  go_ret
  exact ⟨by rw [E0.out]; rfl, rfl⟩
theorem rLayer_walk (a b c d : Int) (w : World) (hb0 : -1000000 ≤ b) (hb1 : b ≤ 1000000) (hc0 : -1000000 ≤ c) (hc1 : c ≤ 1000000) :
    Calls Try.prog 95 #[.agg #[.int .i64 a, .int .i64 b, .int .i64 c, .int .i64 d]] w fun e w' => e = .returned (.int .i64 (1 + b + c)) ∧ w' = w.alloc (.cells #[.int .i64 a, .int .i64 b, .int .i64 c, .int .i64 d] 23) := by
  go_enter Try.func95, Try.ntmps95
  go_wp2
  go_ret
  exact ⟨rfl, rfl⟩
set_option maxRecDepth 100000 in
theorem rTotal_walk (a b c d : Int) (w : World) :
    Calls Try.prog 23 #[geoV a b c d] w fun e w' => e = .returned (.int .i64 (geoT a b c d)) ∧ Below w.heap.size w w' := by
  have W1 : Aside0 (∀ W, Calls Try.prog 21 #[.agg #[.int .i64 a, .int .i64 b, .int .i64 c, .int .i64 d]] W fun e w' => e = .returned (.int .i64 (geoE a b c d)) ∧ w' = W.alloc (.cells #[.int .i64 a, .int .i64 b, .int .i64 c, .int .i64 d] 23)) := ⟨fun W => rCheck_walk a b c d W⟩
  unfold geoV
  by_cases hok : geoOk a b c d = true
  case neg =>
    have E1 : Aside0 (geoE a b c d = 1) := ⟨geoE_bad hok⟩
    have E0 : Aside0 (geoT a b c d = 0) := ⟨by unfold geoT; rw [if_neg hok]⟩
    clear hok
    go_enter Try.func23, Try.ntmps23
    go_wp2_with (go_at_call 21; (with_reducible refine (W1.out _).mono ?_); rintro e w' ⟨rfl, h_⟩; have h_ := h_.symm; subst h_; rw [E1.out])
    go_ret
    exact ⟨by rw [E0.out]; rfl, (by repeat (first | exact Below.refl _ _ | apply Below.drew | apply below_alloc))⟩
  have E1 : Aside0 (geoE a b c d = 0) := ⟨geoE_ok hok⟩
  have E0 : Aside0 (geoT a b c d = 1 + (a + 1) * (1 + b + c) + d) := ⟨by unfold geoT; rw [if_pos hok]⟩
  obtain ⟨⟨ha0, ha1⟩, ⟨hb0, hb1⟩, ⟨hc0, hc1⟩, hd⟩ := geoOk_parts hok
  have W2 := Aside0.mk (fun W => rLayer_walk a b c d W (by omega) (by omega) (by omega) (by omega))
  obtain ⟨m0, m1⟩ := small_log ha0 ha1 hb0 hb1 hc0 hc1
  have H1 : Aside0 (IntKind.i64.wrap (IntKind.i64.wrap (1 + IntKind.i64.wrap (IntKind.i64.wrap (a + 1) * (1 + b + c))) + d) = 1 + (a + 1) * (1 + b + c) + d) := ⟨by
    rw [show IntKind.i64.wrap (a + 1) = a + 1 by rw [IntKind.wrap_i64]; omega]
    generalize (a + 1) * (1 + b + c) = m at m0 m1 ⊢
    rw [IntKind.wrap_i64, IntKind.wrap_i64, IntKind.wrap_i64]; omega⟩
  clear hok m0 m1
  go_enter Try.func23, Try.ntmps23
  go_wp2_with (go_at_call 21; (with_reducible refine (W1.out _).mono ?_); rintro e w' ⟨rfl, h_⟩; have h_ := h_.symm; subst h_; rw [E1.out])
  go_region_held3 (fun W => W.cell? ⟨w.heap.size, 0, none⟩ = some (.int .i64 a) ∧ W.cell? ⟨w.heap.size, 1, none⟩ = some (.int .i64 b) ∧ W.cell? ⟨w.heap.size, 2, none⟩ = some (.int .i64 c) ∧ W.cell? ⟨w.heap.size, 3, none⟩ = some (.int .i64 d)) (first | go_keep | (refine ⟨pw_cell_below hb ?_, pw_cell_below hb ?_, pw_cell_below hb ?_, pw_cell_below hb ?_⟩ <;> go_keep)) (first | (go_at_call 95; (with_reducible refine (W2.out _).mono ?_); rintro e w' ⟨rfl, h_⟩; have h_ := h_.symm; subst h_))
  go_wp2
  go_ret
  exact ⟨by go_simp; rw [E0.out, ← H1.out], (by repeat (first | exact Below.refl _ _ | apply Below.drew | apply below_alloc))⟩
set_option maxRecDepth 100000 in
theorem rStart_walk (a b c d l : Int) (w : World) :
    Calls Try.prog 35 #[geoV a b c d, .int .i64 l] w fun e w' => e = .returned (.int .i64 (geoB a b c d l)) ∧ Below w.heap.size w w' := by
  have W1 : Aside0 (∀ W, Calls Try.prog 21 #[.agg #[.int .i64 a, .int .i64 b, .int .i64 c, .int .i64 d]] W fun e w' => e = .returned (.int .i64 (geoE a b c d)) ∧ w' = W.alloc (.cells #[.int .i64 a, .int .i64 b, .int .i64 c, .int .i64 d] 23)) := ⟨fun W => rCheck_walk a b c d W⟩
  unfold geoV
  by_cases hok : geoOk a b c d = true
  case neg =>
    have E1 : Aside0 (geoE a b c d = 1) := ⟨geoE_bad hok⟩
    have E0 : Aside0 (geoB a b c d l = -1) := ⟨geoB_bad (fun h => hok h.1)⟩
    clear hok
    go_enter Try.func35, Try.ntmps35
    go_wp2_with (go_at_call 21; (with_reducible refine (W1.out _).mono ?_); rintro e w' ⟨rfl, h_⟩; have h_ := h_.symm; subst h_; rw [E1.out])
    go_ret
    exact ⟨by rw [E0.out]; rfl, (by repeat (first | exact Below.refl _ _ | apply Below.drew | apply below_alloc))⟩
  have E1 : Aside0 (geoE a b c d = 0) := ⟨geoE_ok hok⟩
  by_cases hl : 0 ≤ l ∧ l ≤ a
  case neg =>
    have E0 : Aside0 (geoB a b c d l = -1) := ⟨geoB_bad (fun h => hl h.2)⟩
    clear hok
    by_cases hl1 : 0 ≤ l
    · have hl2 : a < l := by omega
      clear hl
      go_enter Try.func35, Try.ntmps35
      go_wp2_with (go_at_call 21; (with_reducible refine (W1.out _).mono ?_); rintro e w' ⟨rfl, h_⟩; have h_ := h_.symm; subst h_; rw [E1.out])
      go_ret
      exact ⟨by rw [E0.out]; rfl, (by repeat (first | exact Below.refl _ _ | apply Below.drew | apply below_alloc))⟩
    · clear hl
      go_enter Try.func35, Try.ntmps35
      go_wp2_with (go_at_call 21; (with_reducible refine (W1.out _).mono ?_); rintro e w' ⟨rfl, h_⟩; have h_ := h_.symm; subst h_; rw [E1.out])
      go_ret
      exact ⟨by rw [E0.out]; rfl, (by repeat (first | exact Below.refl _ _ | apply Below.drew | apply below_alloc))⟩
  obtain ⟨hl1, hl2⟩ := hl
  obtain ⟨⟨ha0, ha1⟩, ⟨hb0, hb1⟩, ⟨hc0, hc1⟩, hd⟩ := geoOk_parts hok
  have W2 := Aside0.mk (fun W => rLayer_walk a b c d W (by omega) (by omega) (by omega) (by omega))
  by_cases hl0 : l = 0
  · subst hl0
    have E0 : Aside0 (geoB a b c d 0 = IntKind.i64.wrap (1 + IntKind.i64.wrap (a * (1 + b + c)))) := ⟨by
      rw [geoB_zero hok]
      have : 0 ≤ a * (1 + b + c) ∧ a * (1 + b + c) ≤ 300 := by rcases (by omega : a = 1 ∨ a = 2 ∨ a = 3) with rfl | rfl | rfl <;> omega
      rw [IntKind.wrap_i64, IntKind.wrap_i64]; omega⟩
    clear hok
    go_enter Try.func35, Try.ntmps35
    go_wp2_with (go_at_call 21; (with_reducible refine (W1.out _).mono ?_); rintro e w' ⟨rfl, h_⟩; have h_ := h_.symm; subst h_; rw [E1.out])
    go_region_held3 (fun W => W.cell? ⟨w.heap.size, 0, none⟩ = some (.int .i64 a) ∧ W.cell? ⟨w.heap.size, 1, none⟩ = some (.int .i64 b) ∧ W.cell? ⟨w.heap.size, 2, none⟩ = some (.int .i64 c) ∧ W.cell? ⟨w.heap.size, 3, none⟩ = some (.int .i64 d)) (first | go_keep | (refine ⟨pw_cell_below hb ?_, pw_cell_below hb ?_, pw_cell_below hb ?_, pw_cell_below hb ?_⟩ <;> go_keep)) (first | (go_at_call 95; (with_reducible refine (W2.out _).mono ?_); rintro e w' ⟨rfl, h_⟩; have h_ := h_.symm; subst h_))
    go_wp2
    go_ret
    exact ⟨by go_simp; rw [E0.out], (by repeat (first | exact Below.refl _ _ | apply Below.drew | apply below_alloc))⟩
  · have hs : 0 ≤ (l - 1) * (1 + b + c) ∧ (l - 1) * (1 + b + c) ≤ 300 := by
      rcases (by omega : l = 1 ∨ l = 2 ∨ l = 3) with rfl | rfl | rfl <;> omega
    have E0 : Aside0 (geoB a b c d l = 1 + (l - 1) * (1 + b + c)) := ⟨geoB_pos hok (by omega) hl2⟩
    have hw1 : Aside0 (wrap64 ((l - 1) * (1 + b + c)) = (l - 1) * (1 + b + c)) := ⟨by unfold wrap64; omega⟩
    have hw2 : Aside0 (wrap64 (1 + (l - 1) * (1 + b + c)) = 1 + (l - 1) * (1 + b + c)) := ⟨by unfold wrap64; omega⟩
    have hlz : (l == 0) = false := by simp [hl0]
    clear hok hs
    go_enter Try.func35, Try.ntmps35
    go_wp2_with (first | (go_at_call 21; (with_reducible refine (W1.out _).mono ?_); rintro e w' ⟨rfl, h_⟩; have h_ := h_.symm; subst h_; rw [E1.out]) | (go_at_call 95; (with_reducible refine (W2.out _).mono ?_); rintro e w' ⟨rfl, h_⟩; have h_ := h_.symm; subst h_))
    go_ret
    exact ⟨by go_simp; rw [hw1.out, hw2.out, E0.out], (by repeat (first | exact Below.refl _ _ | apply Below.drew | apply below_alloc))⟩
set_option maxRecDepth 100000 in
theorem rLog_walk (a b c d : Int) (w : World) :
    Calls Try.prog 41 #[geoV a b c d] w fun e w' => e = .returned (.int .i64 (geoL a b c d)) ∧ Below w.heap.size w w' := by
  have W1 : Aside0 (∀ W, Calls Try.prog 21 #[.agg #[.int .i64 a, .int .i64 b, .int .i64 c, .int .i64 d]] W fun e w' => e = .returned (.int .i64 (geoE a b c d)) ∧ w' = W.alloc (.cells #[.int .i64 a, .int .i64 b, .int .i64 c, .int .i64 d] 23)) := ⟨fun W => rCheck_walk a b c d W⟩
  have W2 : Aside0 (∀ W, Calls Try.prog 23 #[.agg #[.int .i64 a, .int .i64 b, .int .i64 c, .int .i64 d]] W fun e w' => e = .returned (.int .i64 (geoT a b c d)) ∧ Below W.heap.size W w') := ⟨fun W => rTotal_walk a b c d W⟩
  unfold geoV
  by_cases hok : geoOk a b c d = true
  case neg =>
    have E1 : Aside0 (geoE a b c d = 1) := ⟨geoE_bad hok⟩
    have E0 : Aside0 (geoL a b c d = -1) := ⟨by unfold geoL; rw [if_neg hok]⟩
    clear hok
    go_enter Try.func41, Try.ntmps41
    go_wp2_with (go_at_call 21; (with_reducible refine (W1.out _).mono ?_); rintro e w' ⟨rfl, h_⟩; have h_ := h_.symm; subst h_; rw [E1.out])
    go_ret
    exact ⟨by rw [E0.out]; rfl, (by repeat (first | exact Below.refl _ _ | apply Below.drew | apply below_alloc))⟩
  have E1 : Aside0 (geoE a b c d = 0) := ⟨geoE_ok hok⟩
  have E0 : Aside0 (geoL a b c d = IntKind.i64.wrap (geoT a b c d - d)) := ⟨by
    obtain ⟨⟨ha0, ha1⟩, ⟨hb0, hb1⟩, ⟨hc0, hc1⟩, hd⟩ := geoOk_parts hok
    obtain ⟨m0, m1⟩ := small_log ha0 ha1 hb0 hb1 hc0 hc1
    unfold geoL geoT
    rw [if_pos hok, if_pos hok]
    generalize (a + 1) * (1 + b + c) = m at m0 m1 ⊢
    rw [IntKind.wrap_i64]; omega⟩
  clear hok
  go_enter Try.func41, Try.ntmps41
  go_wp2_with (go_at_call 21; (with_reducible refine (W1.out _).mono ?_); rintro e w' ⟨rfl, h_⟩; have h_ := h_.symm; subst h_; rw [E1.out])
  go_region_held3 (fun W => W.cell? ⟨w.heap.size, 0, none⟩ = some (.int .i64 a) ∧ W.cell? ⟨w.heap.size, 1, none⟩ = some (.int .i64 b) ∧ W.cell? ⟨w.heap.size, 2, none⟩ = some (.int .i64 c) ∧ W.cell? ⟨w.heap.size, 3, none⟩ = some (.int .i64 d)) (first | go_keep | (refine ⟨pw_cell_below hb ?_, pw_cell_below hb ?_, pw_cell_below hb ?_, pw_cell_below hb ?_⟩ <;> go_keep)) (first | (go_at_call 23; (with_reducible refine (W2.out _).mono ?_); rintro e w4 ⟨rfl, hb⟩))
  go_wp2
  go_ret
  exact ⟨by go_simp; rw [E0.out], below_step (by repeat (first | exact Below.refl _ _ | apply Below.drew | apply below_alloc)) hb⟩
end Go.Proofs.Ytdknolnoimpgeaa.K
