/- The walks of the package geo. -/
import Derived.Test.YtdknolnoimpgeaaK02b
import Derived.Deep.RegionHeld3
namespace Go.Proofs.Ytdknolnoimpgeaa.K
open Go.RowKit Go.Proofs.YtdknolnoimpgeaaW.PrintWords Go.Proofs.YtdknolnoimpgeaaW.PrintLast Go.Proofs.YtdknolnoimpgeaaW.PrintMore
set_option linter.unusedVariables false
set_option linter.unusedSimpArgs false
def win (n lo hi : Int) : Bool := decide (lo ≤ n) && decide (n ≤ hi)
def geoOk (a b c d : Int) : Bool := win a 1 3 && win b 4 24 && win c 1 60 && win d 1 64
def geoE (a b c d : Int) : Int := if geoOk a b c d = true then 0 else 1
def geoV (a b c d : Int) : Value := .agg #[.int .i64 a, .int .i64 b, .int .i64 c, .int .i64 d]
def geoT (a b c d : Int) : Int := if geoOk a b c d = true then 1 + (a + 1) * (1 + b + c) + d else 0
theorem within_walk (n lo hi : Int) (w : World) : Calls Try.prog 93 #[.int .i64 n, .int .i64 lo, .int .i64 hi] w fun e w' => e = .returned (.bool (win n lo hi)) ∧ w' = w := by
  by_cases h1 : lo ≤ n
  · by_cases h2 : n ≤ hi
    · have E0 : Aside0 (win n lo hi = true) := ⟨by simp [win, h1, h2]⟩
      go_enter Try.func93, Try.ntmps93
      go_wp2
      go_ret
      exact ⟨ret_b (by rw [E0.out]), rfl⟩
    · have E0 : Aside0 (win n lo hi = false) := ⟨by simp [win, h2]⟩
      go_enter Try.func93, Try.ntmps93
      go_wp2
      go_ret
      exact ⟨ret_b (by rw [E0.out]), rfl⟩
  · have E0 : Aside0 (win n lo hi = false) := ⟨by simp [win, h1]⟩
    go_enter Try.func93, Try.ntmps93
    go_wp2
    go_ret
    exact ⟨ret_b (by rw [E0.out]), rfl⟩
theorem geoCheck_walk (a b c d : Int) (w : World) : Calls Try.prog 20 #[geoV a b c d] w fun e w' => e = .returned (.int .i64 (geoE a b c d)) ∧ w' = w.alloc (.cells #[.int .i64 a, .int .i64 b, .int .i64 c, .int .i64 d] 23) := by
  obtain ⟨p, hp⟩ : ∃ p, p = win a 1 3 := ⟨_, rfl⟩
  obtain ⟨q, hq⟩ : ∃ q, q = win b 4 24 := ⟨_, rfl⟩
  obtain ⟨r, hr⟩ : ∃ r, r = win c 1 60 := ⟨_, rfl⟩
  obtain ⟨s, hs⟩ : ∃ s, s = win d 1 64 := ⟨_, rfl⟩
  have E0 : Aside0 (geoE a b c d = if (p && q && r && s) = true then 0 else 1) := ⟨by rw [hp, hq, hr, hs]; rfl⟩
  have W1 : Aside0 (∀ w, Calls Try.prog 93 #[.int .i64 a, .int .i64 1, .int .i64 3] w fun e w' => e = .returned (.bool p) ∧ w' = w) := ⟨fun w => by rw [hp]; exact within_walk a 1 3 w⟩
  have W2 : Aside0 (∀ w, Calls Try.prog 93 #[.int .i64 b, .int .i64 4, .int .i64 24] w fun e w' => e = .returned (.bool q) ∧ w' = w) := ⟨fun w => by rw [hq]; exact within_walk b 4 24 w⟩
  have W3 : Aside0 (∀ w, Calls Try.prog 93 #[.int .i64 c, .int .i64 1, .int .i64 60] w fun e w' => e = .returned (.bool r) ∧ w' = w) := ⟨fun w => by rw [hr]; exact within_walk c 1 60 w⟩
  have W4 : Aside0 (∀ w, Calls Try.prog 93 #[.int .i64 d, .int .i64 1, .int .i64 64] w fun e w' => e = .returned (.bool s) ∧ w' = w) := ⟨fun w => by rw [hs]; exact within_walk d 1 64 w⟩
  clear hp hq hr hs
  unfold geoV
  cases p <;> cases q <;> cases r <;> cases s <;> (
    go_enter Try.func20, Try.ntmps20
    go_wp2_with (first | (go_at_call 93; (with_reducible refine (W1.out _).mono ?_); rintro e w' ⟨rfl, h_⟩; have h_ := h_.symm; subst h_) | (go_at_call 93; (with_reducible refine (W2.out _).mono ?_); rintro e w' ⟨rfl, h_⟩; have h_ := h_.symm; subst h_) | (go_at_call 93; (with_reducible refine (W3.out _).mono ?_); rintro e w' ⟨rfl, h_⟩; have h_ := h_.symm; subst h_) | (go_at_call 93; (with_reducible refine (W4.out _).mono ?_); rintro e w' ⟨rfl, h_⟩; have h_ := h_.symm; subst h_))
    go_ret
    exact ⟨by rw [E0.out]; rfl, by first | rfl | skip⟩)
/-- The layout's block behind a call. -/
theorem boxed {w w' : World} {x0 x1 x2 x3 : Value} {T : TypeId} (h : Below (w.heap.size + 1) (w.alloc (.cells #[x0, x1, x2, x3] T)) w') :
    w'.cell? ⟨w.heap.size, 0, none⟩ = some x0 ∧ w'.cell? ⟨w.heap.size, 1, none⟩ = some x1 ∧ w'.cell? ⟨w.heap.size, 2, none⟩ = some x2 ∧ w'.cell? ⟨w.heap.size, 3, none⟩ = some x3 := by
  have h1 := h.block w.heap.size (by omega)
  have h2 : (w.alloc (.cells #[x0, x1, x2, x3] T)).heap[w.heap.size]? = some (.cells #[x0, x1, x2, x3] T) := heap_alloc_new w _
  rw [h2] at h1
  simp [World.cell?, h1]
def layerN (b c : Int) : Int := 1 + b + c
theorem wrap_small {n : Int} (h0 : -9223372036854775808 ≤ n) (h1 : n ≤ 9223372036854775807) : IntKind.i64.wrap n = n := by rw [IntKind.wrap_i64]; omega
theorem layer_walk (a b c d : Int) (w : World) (hb0 : -1000000 ≤ b) (hb1 : b ≤ 1000000) (hc0 : -1000000 ≤ c) (hc1 : c ≤ 1000000) :
    Calls Try.prog 134 #[.agg #[.int .i64 a, .int .i64 b, .int .i64 c, .int .i64 d]] w fun e w' => e = .returned (.int .i64 (1 + b + c)) ∧ w' = w.alloc (.cells #[.int .i64 a, .int .i64 b, .int .i64 c, .int .i64 d] 111) := by
  go_enter Try.func134, Try.ntmps134
  go_wp2
  go_ret
  exact ⟨rfl, rfl⟩
theorem small_log {a b c : Int} (ha0 : 1 ≤ a) (ha1 : a ≤ 3) (hb0 : 4 ≤ b) (hb1 : b ≤ 24) (hc0 : 1 ≤ c) (hc1 : c ≤ 60) : 7 ≤ (a + 1) * (1 + b + c) ∧ (a + 1) * (1 + b + c) ≤ 340 := by
  rcases (by omega : a = 1 ∨ a = 2 ∨ a = 3) with rfl | rfl | rfl <;> omega
theorem geoOk_parts {a b c d : Int} (h : geoOk a b c d = true) : (1 ≤ a ∧ a ≤ 3) ∧ (4 ≤ b ∧ b ≤ 24) ∧ (1 ≤ c ∧ c ≤ 60) ∧ 1 ≤ d ∧ d ≤ 64 := by
  simp only [geoOk, win, Bool.and_eq_true, decide_eq_true_eq] at h
  omega
set_option maxRecDepth 100000 in
theorem log_walk (a b c d : Int) (w : World) (hok : geoOk a b c d = true) :
    Calls Try.prog 94 #[.agg #[.int .i64 a, .int .i64 b, .int .i64 c, .int .i64 d]] w fun e w' => e = .returned (.int .i64 (1 + (a + 1) * (1 + b + c))) ∧ Below w.heap.size w w' := by
  obtain ⟨⟨ha0, ha1⟩, ⟨hb0, hb1⟩, ⟨hc0, hc1⟩, hd⟩ := geoOk_parts hok
  have HW := Aside0.mk (fun W => layer_walk a b c d W (by omega) (by omega) (by omega) (by omega))
  obtain ⟨m0, m1⟩ := small_log ha0 ha1 hb0 hb1 hc0 hc1
  obtain ⟨m, hm⟩ : ∃ m, m = (a + 1) * (1 + b + c) := ⟨_, rfl⟩
  rw [← hm] at m0 m1 ⊢
  have HM := Aside0.mk hm
  have w1 : IntKind.i64.wrap (a + 1) = a + 1 := by rw [IntKind.wrap_i64]; omega
  have w2 : IntKind.i64.wrap m = m := by rw [IntKind.wrap_i64]; omega
  have w3 : IntKind.i64.wrap (1 + m) = 1 + m := by rw [IntKind.wrap_i64]; omega
  have H1 := Aside0.mk w1
  have H2 := Aside0.mk w2
  have H3 := Aside0.mk w3
  clear hm w1 w2 w3 hok
  go_enter Try.func94, Try.ntmps94
  go_wp2
  go_region_held3 (fun W => W.cell? ⟨w.heap.size, 0, none⟩ = some (.int .i64 a) ∧ W.cell? ⟨w.heap.size, 1, none⟩ = some (.int .i64 b) ∧ W.cell? ⟨w.heap.size, 2, none⟩ = some (.int .i64 c) ∧ W.cell? ⟨w.heap.size, 3, none⟩ = some (.int .i64 d)) (go_keep) (first | (go_at_call 134; (with_reducible refine (HW.out _).mono ?_); rintro e w' ⟨rfl, h_⟩; have h_ := h_.symm; subst h_))
  go_wp2
  go_ret
  exact ⟨by go_simp; rw [H1.out, ← HM.out, H2.out, H3.out], by repeat (first | exact Below.refl _ _ | apply Below.drew | apply below_alloc)⟩
set_option maxRecDepth 100000 in
theorem geoTotal_walk (a b c d : Int) (w : World) :
    Calls Try.prog 22 #[geoV a b c d] w fun e w' => e = .returned (.int .i64 (geoT a b c d)) ∧ Below w.heap.size w w' := by
  have W1 := Aside0.mk (fun W => geoCheck_walk a b c d W)
  by_cases hok : geoOk a b c d = true
  case neg =>
    have E1 : Aside0 (geoE a b c d = 1) := ⟨by unfold geoE; rw [if_neg hok]⟩
    have E0 : Aside0 (geoT a b c d = 0) := ⟨by unfold geoT; rw [if_neg hok]⟩
    clear hok
    unfold geoV at *
    go_enter Try.func22, Try.ntmps22
    go_wp2_with (go_at_call 20; (with_reducible refine (W1.out _).mono ?_); rintro e w' ⟨rfl, h_⟩; have h_ := h_.symm; subst h_; rw [E1.out])
    go_ret
    exact ⟨by rw [E0.out]; rfl, by repeat (first | exact Below.refl _ _ | apply Below.drew | apply below_alloc)⟩
  have E1 : Aside0 (geoE a b c d = 0) := ⟨by unfold geoE; rw [if_pos hok]⟩
  have E0 : Aside0 (geoT a b c d = 1 + (a + 1) * (1 + b + c) + d) := ⟨by unfold geoT; rw [if_pos hok]⟩
  have W2 := Aside0.mk (fun W => log_walk a b c d W hok)
  obtain ⟨⟨ha0, ha1⟩, ⟨hb0, hb1⟩, ⟨hc0, hc1⟩, hd⟩ := geoOk_parts hok
  obtain ⟨m0, m1⟩ := small_log ha0 ha1 hb0 hb1 hc0 hc1
  obtain ⟨m, hm⟩ : ∃ m, m = (a + 1) * (1 + b + c) := ⟨_, rfl⟩
  rw [← hm] at m0 m1 E0 W2
  have w3 : IntKind.i64.wrap (1 + m + d) = 1 + m + d := by rw [IntKind.wrap_i64]; omega
  have H3 := Aside0.mk w3
  clear hm w3 hok
  unfold geoV at *
  go_enter Try.func22, Try.ntmps22
  go_wp2_with (go_at_call 20; (with_reducible refine (W1.out _).mono ?_); rintro e w' ⟨rfl, h_⟩; have h_ := h_.symm; subst h_; rw [E1.out])
  go_region_held3 (fun W => W.cell? ⟨w.heap.size, 0, none⟩ = some (.int .i64 a) ∧ W.cell? ⟨w.heap.size, 1, none⟩ = some (.int .i64 b) ∧ W.cell? ⟨w.heap.size, 2, none⟩ = some (.int .i64 c) ∧ W.cell? ⟨w.heap.size, 3, none⟩ = some (.int .i64 d)) (first | go_keep | (refine ⟨pw_cell_below hb ?_, pw_cell_below hb ?_, pw_cell_below hb ?_, pw_cell_below hb ?_⟩ <;> go_keep)) (first | (go_at_call 94; (with_reducible refine (W2.out _).mono ?_); rintro e w4 ⟨rfl, hb⟩))
  go_wp2
  go_ret
  exact ⟨by go_simp; rw [H3.out, E0.out], below_step (by repeat (first | exact Below.refl _ _ | apply Below.drew | apply below_alloc)) hb⟩
def geoB (a b c d l : Int) : Int := if geoOk a b c d = true ∧ 0 ≤ l ∧ l ≤ a then (if l = 0 then 1 + a * (1 + b + c) else 1 + (l - 1) * (1 + b + c)) else -1
theorem geoB_bad {a b c d l : Int} (h : ¬ (geoOk a b c d = true ∧ 0 ≤ l ∧ l ≤ a)) : geoB a b c d l = -1 := by unfold geoB; rw [if_neg h]
theorem geoB_zero {a b c d : Int} (h : geoOk a b c d = true) : geoB a b c d 0 = 1 + a * (1 + b + c) := by
  obtain ⟨⟨ha0, ha1⟩, _⟩ := geoOk_parts h
  unfold geoB; rw [if_pos ⟨h, by omega, by omega⟩, if_pos rfl]
theorem geoB_pos {a b c d l : Int} (h : geoOk a b c d = true) (h0 : 0 < l) (h1 : l ≤ a) : geoB a b c d l = 1 + (l - 1) * (1 + b + c) := by
  unfold geoB; rw [if_pos ⟨h, by omega, by omega⟩, if_neg (by omega)]
theorem geoE_ok {a b c d : Int} (h : geoOk a b c d = true) : geoE a b c d = 0 := by unfold geoE; rw [if_pos h]
theorem geoE_bad {a b c d : Int} (h : ¬ geoOk a b c d = true) : geoE a b c d = 1 := by unfold geoE; rw [if_neg h]
def geoL (a b c d : Int) : Int := if geoOk a b c d = true then 1 + (a + 1) * (1 + b + c) else -1
set_option maxRecDepth 100000 in
theorem start_walk (a b c d l : Int) (w : World) :
    Calls Try.prog 103 #[.agg #[.int .i64 a, .int .i64 b, .int .i64 c, .int .i64 d], .int .i64 l] w fun e w' => e = .returned (.int .i64 (geoB a b c d l)) ∧ Below w.heap.size w w' := by
  have W1 : Aside0 (∀ W, Calls Try.prog 20 #[.agg #[.int .i64 a, .int .i64 b, .int .i64 c, .int .i64 d]] W fun e w' => e = .returned (.int .i64 (geoE a b c d)) ∧ w' = W.alloc (.cells #[.int .i64 a, .int .i64 b, .int .i64 c, .int .i64 d] 23)) := ⟨fun W => geoCheck_walk a b c d W⟩
  by_cases hok : geoOk a b c d = true
  case neg =>
    have E0 : Aside0 (geoB a b c d l = -1) := ⟨geoB_bad (fun h => hok h.1)⟩
    have E1 : Aside0 (geoE a b c d = 1) := ⟨geoE_bad hok⟩
    clear hok
    go_enter Try.func103, Try.ntmps103
    go_wp2_with (go_at_call 20; (with_reducible refine (W1.out _).mono ?_); rintro e w' ⟨rfl, h_⟩; have h_ := h_.symm; subst h_; rw [E1.out])
    go_ret
    exact ⟨by rw [E0.out]; rfl, (by repeat (first | exact Below.refl _ _ | apply Below.drew | apply below_alloc))⟩
  have E1 : Aside0 (geoE a b c d = 0) := ⟨geoE_ok hok⟩
  have W3 : Aside0 (∀ W, Calls Try.prog 93 #[.int .i64 l, .int .i64 0, .int .i64 a] W fun e w' => e = .returned (.bool (win l 0 a)) ∧ w' = W) := ⟨fun W => within_walk l 0 a W⟩
  by_cases hl : win l 0 a = true
  case neg =>
    have E0 : Aside0 (geoB a b c d l = -1) := ⟨geoB_bad (fun h => hl (by simp [win, h.2.1, h.2.2]))⟩
    have E3 : Aside0 (win l 0 a = false) := ⟨by simpa using hl⟩
    clear hok hl
    go_enter Try.func103, Try.ntmps103
    go_wp2_with (first | (go_at_call 20; (with_reducible refine (W1.out _).mono ?_); rintro e w' ⟨rfl, h_⟩; have h_ := h_.symm; subst h_; rw [E1.out]) | (go_at_call 93; (with_reducible refine (W3.out _).mono ?_); rintro e w' ⟨rfl, h_⟩; have h_ := h_.symm; subst h_; rw [E3.out]))
    go_ret
    exact ⟨by rw [E0.out]; rfl, (by repeat (first | exact Below.refl _ _ | apply Below.drew | apply below_alloc))⟩
  have E3 : Aside0 (win l 0 a = true) := ⟨hl⟩
  have hl' : 0 ≤ l ∧ l ≤ a := by simpa [win] using hl
  have WL := Aside0.mk (fun W => log_walk a b c d W hok)
  obtain ⟨⟨ha0, ha1⟩, ⟨hb0, hb1⟩, ⟨hc0, hc1⟩, hd⟩ := geoOk_parts hok
  have WY := Aside0.mk (fun W => layer_walk a b c d W (by omega) (by omega) (by omega) (by omega))
  by_cases hl0 : l = 0
  · subst hl0
    have E0 : Aside0 (geoB a b c d 0 = IntKind.i64.wrap (1 + (a + 1) * (1 + b + c) - (1 + b + c))) := ⟨by
      obtain ⟨m0, m1⟩ := small_log ha0 ha1 hb0 hb1 hc0 hc1
      rw [geoB_zero hok, IntKind.wrap_i64]
      have : (a + 1) * (1 + b + c) = a * (1 + b + c) + (1 + b + c) := by rw [Int.add_mul, Int.one_mul]
      omega⟩
    clear hok hl hl'
    go_enter Try.func103, Try.ntmps103
    go_wp2_with (first | (go_at_call 20; (with_reducible refine (W1.out _).mono ?_); rintro e w' ⟨rfl, h_⟩; have h_ := h_.symm; subst h_; rw [E1.out]) | (go_at_call 93; (with_reducible refine (W3.out _).mono ?_); rintro e w' ⟨rfl, h_⟩; have h_ := h_.symm; subst h_; rw [E3.out]))
    go_region_held3 (fun W => W.cell? ⟨w.heap.size, 0, none⟩ = some (.int .i64 a) ∧ W.cell? ⟨w.heap.size, 1, none⟩ = some (.int .i64 b) ∧ W.cell? ⟨w.heap.size, 2, none⟩ = some (.int .i64 c) ∧ W.cell? ⟨w.heap.size, 3, none⟩ = some (.int .i64 d)) (first | go_keep | (refine ⟨pw_cell_below hb ?_, pw_cell_below hb ?_, pw_cell_below hb ?_, pw_cell_below hb ?_⟩ <;> go_keep)) (first | (go_at_call 94; (with_reducible refine (WL.out _).mono ?_); rintro e w4 ⟨rfl, hb⟩) | (go_at_call 134; (with_reducible refine (WY.out _).mono ?_); rintro e w' ⟨rfl, h_⟩; have h_ := h_.symm; subst h_))
    go_wp2
    go_ret
    exact ⟨by go_simp; rw [E0.out], by first | exact below_alloc (below_step (by repeat (first | exact Below.refl _ _ | apply Below.drew | apply below_alloc)) hb) _ | exact (below_alloc (below_step (by repeat (first | exact Below.refl _ _ | apply Below.drew | apply below_alloc)) hb) _).drew⟩
  · have hs : 0 ≤ (l - 1) * (1 + b + c) ∧ (l - 1) * (1 + b + c) ≤ 300 := by
      rcases (by omega : l = 1 ∨ l = 2 ∨ l = 3) with rfl | rfl | rfl <;> omega
    have E0 : Aside0 (geoB a b c d l = 1 + (l - 1) * (1 + b + c)) := ⟨geoB_pos hok (by omega) hl'.2⟩
    have hw1 : Aside0 (wrap64 ((l - 1) * (1 + b + c)) = (l - 1) * (1 + b + c)) := ⟨by unfold wrap64; omega⟩
    have hw2 : Aside0 (wrap64 (1 + (l - 1) * (1 + b + c)) = 1 + (l - 1) * (1 + b + c)) := ⟨by unfold wrap64; omega⟩
    have hlz : (l == 0) = false := by simp [hl0]
    clear hok hl hs
    go_enter Try.func103, Try.ntmps103
    go_wp2_with (first | (go_at_call 20; (with_reducible refine (W1.out _).mono ?_); rintro e w' ⟨rfl, h_⟩; have h_ := h_.symm; subst h_; rw [E1.out]) | (go_at_call 93; (with_reducible refine (W3.out _).mono ?_); rintro e w' ⟨rfl, h_⟩; have h_ := h_.symm; subst h_; rw [E3.out]) | (go_at_call 134; (with_reducible refine (WY.out _).mono ?_); rintro e w' ⟨rfl, h_⟩; have h_ := h_.symm; subst h_))
    go_ret
    exact ⟨by go_simp; rw [hw1.out, hw2.out, E0.out], (by repeat (first | exact Below.refl _ _ | apply Below.drew | apply below_alloc))⟩
set_option maxRecDepth 100000 in
theorem geoBitmap_walk (a b c d l : Int) (w : World) :
    Calls Try.prog 34 #[geoV a b c d, .int .i64 l] w fun e w' => e = .returned (.int .i64 (geoB a b c d l)) ∧ Below w.heap.size w w' := by
  have W1 := Aside0.mk (fun W => start_walk a b c d l W)
  unfold geoV
  go_enter Try.func34, Try.ntmps34
  go_wp2_with (go_at_call 103; (with_reducible refine (W1.out _).mono ?_); rintro e w4 ⟨rfl, hb⟩)
  go_ret
  exact ⟨by go_simp, below_step (by repeat (first | exact Below.refl _ _ | apply Below.drew | apply below_alloc)) hb⟩
set_option maxRecDepth 100000 in
theorem geoLog_walk (a b c d : Int) (w : World) :
    Calls Try.prog 40 #[geoV a b c d] w fun e w' => e = .returned (.int .i64 (geoL a b c d)) ∧ Below w.heap.size w w' := by
  have W1 : Aside0 (∀ W, Calls Try.prog 20 #[.agg #[.int .i64 a, .int .i64 b, .int .i64 c, .int .i64 d]] W fun e w' => e = .returned (.int .i64 (geoE a b c d)) ∧ w' = W.alloc (.cells #[.int .i64 a, .int .i64 b, .int .i64 c, .int .i64 d] 23)) := ⟨fun W => geoCheck_walk a b c d W⟩
  unfold geoV
  by_cases hok : geoOk a b c d = true
  case neg =>
    have E0 : Aside0 (geoL a b c d = -1) := ⟨by unfold geoL; rw [if_neg hok]⟩
    have E1 : Aside0 (geoE a b c d = 1) := ⟨geoE_bad hok⟩
    clear hok
    go_enter Try.func40, Try.ntmps40
    go_wp2_with (go_at_call 20; (with_reducible refine (W1.out _).mono ?_); rintro e w' ⟨rfl, h_⟩; have h_ := h_.symm; subst h_; rw [E1.out])
    go_ret
    exact ⟨by rw [E0.out]; rfl, (by repeat (first | exact Below.refl _ _ | apply Below.drew | apply below_alloc))⟩
  have E1 : Aside0 (geoE a b c d = 0) := ⟨geoE_ok hok⟩
  have E0 : Aside0 (geoL a b c d = 1 + (a + 1) * (1 + b + c)) := ⟨by unfold geoL; rw [if_pos hok]⟩
  have W2 := Aside0.mk (fun W => log_walk a b c d W hok)
  clear hok
  go_enter Try.func40, Try.ntmps40
  go_wp2_with (first | (go_at_call 20; (with_reducible refine (W1.out _).mono ?_); rintro e w' ⟨rfl, h_⟩; have h_ := h_.symm; subst h_; rw [E1.out]) | (go_at_call 94; (with_reducible refine (W2.out _).mono ?_); rintro e w4 ⟨rfl, hb⟩))
  go_ret
  exact ⟨by rw [E0.out]; rfl, below_step (by repeat (first | exact Below.refl _ _ | apply Below.drew | apply below_alloc)) hb⟩
/-- A sector of a layer. -/
def geoP (a b c d l n lo hi at_ : Int) : Int := if geoB a b c d l < 0 ∨ ¬ win n lo hi = true then -1 else wrap64 (wrap64 (geoB a b c d l + at_) + n)
set_option maxRecDepth 100000 in
theorem place_walk (a b c d l n lo hi at_ : Int) (w : World) :
    Calls Try.prog 104 #[.agg #[.int .i64 a, .int .i64 b, .int .i64 c, .int .i64 d], .int .i64 l, .int .i64 n, .int .i64 lo, .int .i64 hi, .int .i64 at_] w fun e w' => e = .returned (.int .i64 (geoP a b c d l n lo hi at_)) ∧ Below w.heap.size w w' := by
  obtain ⟨s, hs⟩ : ∃ s, s = geoB a b c d l := ⟨_, rfl⟩
  have W1 : Aside0 (∀ W, Calls Try.prog 103 #[.agg #[.int .i64 a, .int .i64 b, .int .i64 c, .int .i64 d], .int .i64 l] W fun e w' => e = .returned (.int .i64 s) ∧ Below W.heap.size W w') := ⟨fun W => by rw [hs]; exact start_walk a b c d l W⟩
  obtain ⟨q, hq⟩ : ∃ q, q = win n lo hi := ⟨_, rfl⟩
  have W3 : Aside0 (∀ W, Calls Try.prog 93 #[.int .i64 n, .int .i64 lo, .int .i64 hi] W fun e w' => e = .returned (.bool q) ∧ w' = W) := ⟨fun W => by rw [hq]; exact within_walk n lo hi W⟩
  have E0 : Aside0 (geoP a b c d l n lo hi at_ = if s < 0 ∨ ¬ q = true then -1 else wrap64 (wrap64 (s + at_) + n)) := ⟨by unfold geoP; rw [hs, hq]⟩
  clear hs hq
  by_cases h0 : s < 0
  · have E1 : Aside0 (geoP a b c d l n lo hi at_ = -1) := ⟨by rw [E0.out, if_pos (.inl h0)]⟩
    clear E0
    go_enter Try.func104, Try.ntmps104
    go_wp2_with (go_at_call 103; (with_reducible refine (W1.out _).mono ?_); rintro e w4 ⟨rfl, hb⟩)
    go_ret
    exact ⟨by rw [E1.out]; rfl, below_step (by repeat (first | exact Below.refl _ _ | apply Below.drew | apply below_alloc)) hb⟩
  cases q with
  | false =>
    have E1 : Aside0 (geoP a b c d l n lo hi at_ = -1) := ⟨by rw [E0.out, if_pos (.inr (by simp))]⟩
    clear E0
    go_enter Try.func104, Try.ntmps104
    go_wp2_with (first | (go_at_call 103; (with_reducible refine (W1.out _).mono ?_); rintro e w4 ⟨rfl, hb⟩) | (go_at_call 93; (with_reducible refine (W3.out _).mono ?_); rintro e w' ⟨rfl, h_⟩; have h_ := h_.symm; subst h_))
    go_ret
    exact ⟨by rw [E1.out]; rfl, below_step (by repeat (first | exact Below.refl _ _ | apply Below.drew | apply below_alloc)) hb⟩
  | true =>
    have E1 : Aside0 (geoP a b c d l n lo hi at_ = wrap64 (wrap64 (s + at_) + n)) := ⟨by rw [E0.out, if_neg (by simp; omega)]⟩
    clear E0
    go_enter Try.func104, Try.ntmps104
    go_wp2_with (first | (go_at_call 103; (with_reducible refine (W1.out _).mono ?_); rintro e w4 ⟨rfl, hb⟩) | (go_at_call 93; (with_reducible refine (W3.out _).mono ?_); rintro e w' ⟨rfl, h_⟩; have h_ := h_.symm; subst h_))
    go_ret
    exact ⟨by rw [E1.out]; rfl, below_step (by repeat (first | exact Below.refl _ _ | apply Below.drew | apply below_alloc)) hb⟩
set_option maxRecDepth 100000 in
theorem geoInode_walk (a b c d l n : Int) (w : World) :
    Calls Try.prog 36 #[geoV a b c d, .int .i64 l, .int .i64 n] w fun e w' => e = .returned (.int .i64 (geoP a b c d l n 1 b 0)) ∧ Below w.heap.size w w' := by
  have W1 := Aside0.mk (fun W => place_walk a b c d l n 1 b 0 W)
  unfold geoV
  go_enter Try.func36, Try.ntmps36
  go_wp2_with (go_at_call 104; (with_reducible refine (W1.out _).mono ?_); rintro e w4 ⟨rfl, hb⟩)
  go_ret
  exact ⟨by go_simp, below_step (by repeat (first | exact Below.refl _ _ | apply Below.drew | apply below_alloc)) hb⟩
set_option maxRecDepth 100000 in
theorem geoBlock_walk (a b c d l n : Int) (w : World) :
    Calls Try.prog 38 #[geoV a b c d, .int .i64 l, .int .i64 n] w fun e w' => e = .returned (.int .i64 (geoP a b c d l n 0 (wrap64 (c - 1)) (wrap64 (1 + b)))) ∧ Below w.heap.size w w' := by
  have W1 := Aside0.mk (fun W => place_walk a b c d l n 0 (wrap64 (c - 1)) (wrap64 (1 + b)) W)
  unfold geoV
  go_enter Try.func38, Try.ntmps38
  go_wp2_with (go_at_call 104; (with_reducible refine (W1.out _).mono ?_); rintro e w4 ⟨rfl, hb⟩)
  go_ret
  exact ⟨by go_simp, below_step (by repeat (first | exact Below.refl _ _ | apply Below.drew | apply below_alloc)) hb⟩
end Go.Proofs.Ytdknolnoimpgeaa.K
