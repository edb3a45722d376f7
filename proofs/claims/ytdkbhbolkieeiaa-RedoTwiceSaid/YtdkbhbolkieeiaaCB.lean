/- Walks and plain laws of this claim, merged: K06, KGrow, K06p, K06g, K06v, K07, K07b, K07c, R07. -/
import Derived.Test.YtdkbhbolkieeiaaCA
import Derived.Deep.RegionHeld3
import Derived.Test.YtdkbhbolkieeiaaKC
import Derived.ArgAppend
import Derived.Lib.SlBytesConst
import Derived.Test.YtdkbhbolkieeiaaKBytes
import Derived.Test.YtdkbhbolkieeiaaKRes
import Derived.Test.YtdkbhbolkieeiaaKBlk2
import Derived.Deep.MidRow
import Derived.Great.BuildSlice
import Derived.Deep.WholeRow
import Derived.Test.YtdkbhbolkieeiaaKEqArr
namespace Go.Proofs.Ytdkbhbolkieeiaa.K
open Go.RowKit Go.Proofs.YtdkbhbolkieeiaaW.PrintWords Go.Proofs.YtdkbhbolkieeiaaW.PrintLast Go.Proofs.YtdkbhbolkieeiaaW.PrintMore
set_option linter.unusedVariables false
set_option linter.unusedSimpArgs false
def win (n lo hi : Int) : Bool := decide (lo ≤ n) && decide (n ≤ hi)
def geoOk (a b c d : Int) : Bool := win a 1 3 && win b 4 24 && win c 1 60 && win d 1 64
def geoE (a b c d : Int) : Int := if geoOk a b c d = true then 0 else 1
def geoV (a b c d : Int) : Value := .agg #[.int .i64 a, .int .i64 b, .int .i64 c, .int .i64 d]
def geoT (a b c d : Int) : Int := if geoOk a b c d = true then 1 + (a + 1) * (1 + b + c) + d else 0
theorem within_walk (n lo hi : Int) (w : World) : Calls Try.prog 98 #[.int .i64 n, .int .i64 lo, .int .i64 hi] w fun e w' => e = .returned (.bool (win n lo hi)) ∧ w' = w := by
  by_cases h1 : lo ≤ n
  · by_cases h2 : n ≤ hi
    · have E0 : Aside0 (win n lo hi = true) := ⟨by simp [win, h1, h2]⟩
      go_enter Try.func98, Try.ntmps98
      go_wp2
      go_ret
      exact ⟨ret_b (by rw [E0.out]), rfl⟩
    · have E0 : Aside0 (win n lo hi = false) := ⟨by simp [win, h2]⟩
      go_enter Try.func98, Try.ntmps98
      go_wp2
      go_ret
      exact ⟨ret_b (by rw [E0.out]), rfl⟩
  · have E0 : Aside0 (win n lo hi = false) := ⟨by simp [win, h1]⟩
    go_enter Try.func98, Try.ntmps98
    go_wp2
    go_ret
    exact ⟨ret_b (by rw [E0.out]), rfl⟩
theorem geoCheck_walk (a b c d : Int) (w : World) : Calls Try.prog 59 #[geoV a b c d] w fun e w' => e = .returned (.int .i64 (geoE a b c d)) ∧ w' = w.alloc (.cells #[.int .i64 a, .int .i64 b, .int .i64 c, .int .i64 d] 38) := by
  obtain ⟨p, hp⟩ : ∃ p, p = win a 1 3 := ⟨_, rfl⟩
  obtain ⟨q, hq⟩ : ∃ q, q = win b 4 24 := ⟨_, rfl⟩
  obtain ⟨r, hr⟩ : ∃ r, r = win c 1 60 := ⟨_, rfl⟩
  obtain ⟨s, hs⟩ : ∃ s, s = win d 1 64 := ⟨_, rfl⟩
  have E0 : Aside0 (geoE a b c d = if (p && q && r && s) = true then 0 else 1) := ⟨by rw [hp, hq, hr, hs]; rfl⟩
  have W1 : Aside0 (∀ w, Calls Try.prog 98 #[.int .i64 a, .int .i64 1, .int .i64 3] w fun e w' => e = .returned (.bool p) ∧ w' = w) := ⟨fun w => by rw [hp]; exact within_walk a 1 3 w⟩
  have W2 : Aside0 (∀ w, Calls Try.prog 98 #[.int .i64 b, .int .i64 4, .int .i64 24] w fun e w' => e = .returned (.bool q) ∧ w' = w) := ⟨fun w => by rw [hq]; exact within_walk b 4 24 w⟩
  have W3 : Aside0 (∀ w, Calls Try.prog 98 #[.int .i64 c, .int .i64 1, .int .i64 60] w fun e w' => e = .returned (.bool r) ∧ w' = w) := ⟨fun w => by rw [hr]; exact within_walk c 1 60 w⟩
  have W4 : Aside0 (∀ w, Calls Try.prog 98 #[.int .i64 d, .int .i64 1, .int .i64 64] w fun e w' => e = .returned (.bool s) ∧ w' = w) := ⟨fun w => by rw [hs]; exact within_walk d 1 64 w⟩
  clear hp hq hr hs
  unfold geoV
  cases p <;> cases q <;> cases r <;> cases s <;> (
    go_enter Try.func59, Try.ntmps59
    go_wp2_with (first | (go_at_call 98; (with_reducible refine (W1.out _).mono ?_); rintro e w' ⟨rfl, h_⟩; have h_ := h_.symm; subst h_) | (go_at_call 98; (with_reducible refine (W2.out _).mono ?_); rintro e w' ⟨rfl, h_⟩; have h_ := h_.symm; subst h_) | (go_at_call 98; (with_reducible refine (W3.out _).mono ?_); rintro e w' ⟨rfl, h_⟩; have h_ := h_.symm; subst h_) | (go_at_call 98; (with_reducible refine (W4.out _).mono ?_); rintro e w' ⟨rfl, h_⟩; have h_ := h_.symm; subst h_))
    go_ret
    exact ⟨by rw [E0.out]; rfl, by first | rfl | skip⟩)
/-- The layout's block behind a call. -/
theorem boxed {w w' : World} {x0 x1 x2 x3 : Value} {T : TypeId} (h : Below (w.heap.size + 1) (w.alloc (.cells #[x0, x1, x2, x3] T)) w') :
    w'.cell? ⟨w.heap.size, 0, none⟩ = some x0 ∧ w'.cell? ⟨w.heap.size, 1, none⟩ = some x1 ∧ w'.cell? ⟨w.heap.size, 2, none⟩ = some x2 ∧ w'.cell? ⟨w.heap.size, 3, none⟩ = some x3 := by
  have h1 := h.block w.heap.size (by omega)
  have h2 : (w.alloc (.cells #[x0, x1, x2, x3] T)).heap[w.heap.size]? = some (.cells #[x0, x1, x2, x3] T) := heap_alloc_new w _
  rw [h2] at h1
  simp [World.cell?, h1]
def layerN (b c : Int) : Int := 1 + b + c
theorem wrap_small {n : Int} (h0 : -9223372036854775808 ≤ n) (h1 : n ≤ 9223372036854775807) : IntKind.i64.wrap n = n := by rw [IntKind.wrap_i64]; omega
theorem layer_walk (a b c d : Int) (w : World) (hb0 : -1000000 ≤ b) (hb1 : b ≤ 1000000) (hc0 : -1000000 ≤ c) (hc1 : c ≤ 1000000) :
    Calls Try.prog 125 #[.agg #[.int .i64 a, .int .i64 b, .int .i64 c, .int .i64 d]] w fun e w' => e = .returned (.int .i64 (1 + b + c)) ∧ w' = w.alloc (.cells #[.int .i64 a, .int .i64 b, .int .i64 c, .int .i64 d] 149) := by
  go_enter Try.func125, Try.ntmps125
  go_wp2
  go_ret
  exact ⟨rfl, rfl⟩
theorem small_log {a b c : Int} (ha0 : 1 ≤ a) (ha1 : a ≤ 3) (hb0 : 4 ≤ b) (hb1 : b ≤ 24) (hc0 : 1 ≤ c) (hc1 : c ≤ 60) : 7 ≤ (a + 1) * (1 + b + c) ∧ (a + 1) * (1 + b + c) ≤ 340 := by
  rcases (by omega : a = 1 ∨ a = 2 ∨ a = 3) with rfl | rfl | rfl <;> omega
theorem geoOk_parts {a b c d : Int} (h : geoOk a b c d = true) : (1 ≤ a ∧ a ≤ 3) ∧ (4 ≤ b ∧ b ≤ 24) ∧ (1 ≤ c ∧ c ≤ 60) ∧ 1 ≤ d ∧ d ≤ 64 := by
  simp only [geoOk, win, Bool.and_eq_true, decide_eq_true_eq] at h
  omega
set_option maxRecDepth 100000 in
theorem log_walk (a b c d : Int) (w : World) (hok : geoOk a b c d = true) :
    Calls Try.prog 107 #[.agg #[.int .i64 a, .int .i64 b, .int .i64 c, .int .i64 d]] w fun e w' => e = .returned (.int .i64 (1 + (a + 1) * (1 + b + c))) ∧ Below w.heap.size w w' := by
  obtain ⟨⟨ha0, ha1⟩, ⟨hb0, hb1⟩, ⟨hc0, hc1⟩, hd⟩ := geoOk_parts hok
  have HW := Aside0.mk (fun W => layer_walk a b c d W (by omega) (by omega) (by omega) (by omega))
  obtain ⟨m0, m1⟩ := small_log ha0 ha1 hb0 hb1 hc0 hc1
  obtain ⟨m, hm⟩ : ∃ m, m = (a + 1) * (1 + b + c) := ⟨_, rfl⟩
  rw [← hm] at m0 m1 ⊢
  have HM := Aside0.mk hm
  have w1 : IntKind.i64.wrap (a + 1) = a + 1 := by rw [IntKind.wrap_i64]; omega
  have w2 : IntKind.i64.wrap m = m := by rw [IntKind.wrap_i64]; omega
  have w3 : IntKind.i64.wrap (1 + m) = 1 + m := by rw [IntKind.wrap_i64]; omega
  have H1 := Aside0.mk w1
  have H2 := Aside0.mk w2
  have H3 := Aside0.mk w3
  clear hm w1 w2 w3 hok
  go_enter Try.func107, Try.ntmps107
  go_wp2
  go_region_held3 (fun W => W.cell? ⟨w.heap.size, 0, none⟩ = some (.int .i64 a) ∧ W.cell? ⟨w.heap.size, 1, none⟩ = some (.int .i64 b) ∧ W.cell? ⟨w.heap.size, 2, none⟩ = some (.int .i64 c) ∧ W.cell? ⟨w.heap.size, 3, none⟩ = some (.int .i64 d)) (go_keep) (first | (go_at_call 125; (with_reducible refine (HW.out _).mono ?_); rintro e w' ⟨rfl, h_⟩; have h_ := h_.symm; subst h_))
  go_wp2
  go_ret
  exact ⟨by go_simp; rw [H1.out, ← HM.out, H2.out, H3.out], by repeat (first | exact Below.refl _ _ | apply Below.drew | apply below_alloc)⟩
set_option maxRecDepth 100000 in
theorem geoTotal_walk (a b c d : Int) (w : World) :
    Calls Try.prog 78 #[geoV a b c d] w fun e w' => e = .returned (.int .i64 (geoT a b c d)) ∧ Below w.heap.size w w' := by
  have W1 := Aside0.mk (fun W => geoCheck_walk a b c d W)
  by_cases hok : geoOk a b c d = true
  case neg =>
    have E1 : Aside0 (geoE a b c d = 1) := ⟨by unfold geoE; rw [if_neg hok]⟩
    have E0 : Aside0 (geoT a b c d = 0) := ⟨by unfold geoT; rw [if_neg hok]⟩
    clear hok
    unfold geoV at *
    go_enter Try.func78, Try.ntmps78
    go_wp2_with (go_at_call 59; (with_reducible refine (W1.out _).mono ?_); rintro e w' ⟨rfl, h_⟩; have h_ := h_.symm; subst h_; rw [E1.out])
    go_ret
    exact ⟨by rw [E0.out]; rfl, by repeat (first | exact Below.refl _ _ | apply Below.drew | apply below_alloc)⟩
  have E1 : Aside0 (geoE a b c d = 0) := ⟨by unfold geoE; rw [if_pos hok]⟩
  have E0 : Aside0 (geoT a b c d = 1 + (a + 1) * (1 + b + c) + d) := ⟨by unfold geoT; rw [if_pos hok]⟩
  have W2 := Aside0.mk (fun W => log_walk a b c d W hok)
  obtain ⟨⟨ha0, ha1⟩, ⟨hb0, hb1⟩, ⟨hc0, hc1⟩, hd⟩ := geoOk_parts hok
  obtain ⟨m0, m1⟩ := small_log ha0 ha1 hb0 hb1 hc0 hc1
  obtain ⟨m, hm⟩ : ∃ m, m = (a + 1) * (1 + b + c) := ⟨_, rfl⟩
  rw [← hm] at m0 m1 E0 W2
  have w3 : IntKind.i64.wrap (1 + m + d) = 1 + m + d := by rw [IntKind.wrap_i64]; omega
  have H3 := Aside0.mk w3
  clear hm w3 hok
  unfold geoV at *
  go_enter Try.func78, Try.ntmps78
  go_wp2_with (go_at_call 59; (with_reducible refine (W1.out _).mono ?_); rintro e w' ⟨rfl, h_⟩; have h_ := h_.symm; subst h_; rw [E1.out])
  go_region_held3 (fun W => W.cell? ⟨w.heap.size, 0, none⟩ = some (.int .i64 a) ∧ W.cell? ⟨w.heap.size, 1, none⟩ = some (.int .i64 b) ∧ W.cell? ⟨w.heap.size, 2, none⟩ = some (.int .i64 c) ∧ W.cell? ⟨w.heap.size, 3, none⟩ = some (.int .i64 d)) (first | go_keep | (refine ⟨pw_cell_below hb ?_, pw_cell_below hb ?_, pw_cell_below hb ?_, pw_cell_below hb ?_⟩ <;> go_keep)) (first | (go_at_call 107; (with_reducible refine (W2.out _).mono ?_); rintro e w4 ⟨rfl, hb⟩))
  go_wp2
  go_ret
  exact ⟨by go_simp; rw [H3.out, E0.out], below_step (by repeat (first | exact Below.refl _ _ | apply Below.drew | apply below_alloc)) hb⟩
def geoB (a b c d l : Int) : Int := if geoOk a b c d = true ∧ 0 ≤ l ∧ l ≤ a then (if l = 0 then 1 + a * (1 + b + c) else 1 + (l - 1) * (1 + b + c)) else -1
theorem geoB_bad {a b c d l : Int} (h : ¬ (geoOk a b c d = true ∧ 0 ≤ l ∧ l ≤ a)) : geoB a b c d l = -1 := by unfold geoB; rw [if_neg h]
theorem geoB_zero {a b c d : Int} (h : geoOk a b c d = true) : geoB a b c d 0 = 1 + a * (1 + b + c) := by
  obtain ⟨⟨ha0, ha1⟩, _⟩ := geoOk_parts h
  unfold geoB; rw [if_pos ⟨h, by omega, by omega⟩, if_pos rfl]
theorem geoB_pos {a b c d l : Int} (h : geoOk a b c d = true) (h0 : 0 < l) (h1 : l ≤ a) : geoB a b c d l = 1 + (l - 1) * (1 + b + c) := by
  unfold geoB; rw [if_pos ⟨h, by omega, by omega⟩, if_neg (by omega)]
theorem geoE_ok {a b c d : Int} (h : geoOk a b c d = true) : geoE a b c d = 0 := by unfold geoE; rw [if_pos h]
theorem geoE_bad {a b c d : Int} (h : ¬ geoOk a b c d = true) : geoE a b c d = 1 := by unfold geoE; rw [if_neg h]
def geoL (a b c d : Int) : Int := if geoOk a b c d = true then 1 + (a + 1) * (1 + b + c) else -1
set_option maxRecDepth 100000 in
theorem start_walk (a b c d l : Int) (w : World) :
    Calls Try.prog 122 #[.agg #[.int .i64 a, .int .i64 b, .int .i64 c, .int .i64 d], .int .i64 l] w fun e w' => e = .returned (.int .i64 (geoB a b c d l)) ∧ Below w.heap.size w w' := by
  have W1 : Aside0 (∀ W, Calls Try.prog 59 #[.agg #[.int .i64 a, .int .i64 b, .int .i64 c, .int .i64 d]] W fun e w' => e = .returned (.int .i64 (geoE a b c d)) ∧ w' = W.alloc (.cells #[.int .i64 a, .int .i64 b, .int .i64 c, .int .i64 d] 38)) := ⟨fun W => geoCheck_walk a b c d W⟩
  by_cases hok : geoOk a b c d = true
  case neg =>
    have E0 : Aside0 (geoB a b c d l = -1) := ⟨geoB_bad (fun h => hok h.1)⟩
    have E1 : Aside0 (geoE a b c d = 1) := ⟨geoE_bad hok⟩
    clear hok
    go_enter Try.func122, Try.ntmps122
    go_wp2_with (go_at_call 59; (with_reducible refine (W1.out _).mono ?_); rintro e w' ⟨rfl, h_⟩; have h_ := h_.symm; subst h_; rw [E1.out])
    go_ret
    exact ⟨by rw [E0.out]; rfl, (by repeat (first | exact Below.refl _ _ | apply Below.drew | apply below_alloc))⟩
  have E1 : Aside0 (geoE a b c d = 0) := ⟨geoE_ok hok⟩
  have W3 : Aside0 (∀ W, Calls Try.prog 98 #[.int .i64 l, .int .i64 0, .int .i64 a] W fun e w' => e = .returned (.bool (win l 0 a)) ∧ w' = W) := ⟨fun W => within_walk l 0 a W⟩
  by_cases hl : win l 0 a = true
  case neg =>
    have E0 : Aside0 (geoB a b c d l = -1) := ⟨geoB_bad (fun h => hl (by simp [win, h.2.1, h.2.2]))⟩
    have E3 : Aside0 (win l 0 a = false) := ⟨by simpa using hl⟩
    clear hok hl
    go_enter Try.func122, Try.ntmps122
    go_wp2_with (first | (go_at_call 59; (with_reducible refine (W1.out _).mono ?_); rintro e w' ⟨rfl, h_⟩; have h_ := h_.symm; subst h_; rw [E1.out]) | (go_at_call 98; (with_reducible refine (W3.out _).mono ?_); rintro e w' ⟨rfl, h_⟩; have h_ := h_.symm; subst h_; rw [E3.out]))
    go_ret
    exact ⟨by rw [E0.out]; rfl, (by repeat (first | exact Below.refl _ _ | apply Below.drew | apply below_alloc))⟩
  have E3 : Aside0 (win l 0 a = true) := ⟨hl⟩
  have hl' : 0 ≤ l ∧ l ≤ a := by simpa [win] using hl
  have WL := Aside0.mk (fun W => log_walk a b c d W hok)
  obtain ⟨⟨ha0, ha1⟩, ⟨hb0, hb1⟩, ⟨hc0, hc1⟩, hd⟩ := geoOk_parts hok
  have WY := Aside0.mk (fun W => layer_walk a b c d W (by omega) (by omega) (by omega) (by omega))
  by_cases hl0 : l = 0
  · subst hl0
    have E0 : Aside0 (geoB a b c d 0 = IntKind.i64.wrap (1 + (a + 1) * (1 + b + c) - (1 + b + c))) := ⟨by
      obtain ⟨m0, m1⟩ := small_log ha0 ha1 hb0 hb1 hc0 hc1
      rw [geoB_zero hok, IntKind.wrap_i64]
      have : (a + 1) * (1 + b + c) = a * (1 + b + c) + (1 + b + c) := by rw [Int.add_mul, Int.one_mul]
      omega⟩
    clear hok hl hl'
    go_enter Try.func122, Try.ntmps122
    go_wp2_with (first | (go_at_call 59; (with_reducible refine (W1.out _).mono ?_); rintro e w' ⟨rfl, h_⟩; have h_ := h_.symm; subst h_; rw [E1.out]) | (go_at_call 98; (with_reducible refine (W3.out _).mono ?_); rintro e w' ⟨rfl, h_⟩; have h_ := h_.symm; subst h_; rw [E3.out]))
    go_region_held3 (fun W => W.cell? ⟨w.heap.size, 0, none⟩ = some (.int .i64 a) ∧ W.cell? ⟨w.heap.size, 1, none⟩ = some (.int .i64 b) ∧ W.cell? ⟨w.heap.size, 2, none⟩ = some (.int .i64 c) ∧ W.cell? ⟨w.heap.size, 3, none⟩ = some (.int .i64 d)) (first | go_keep | (refine ⟨pw_cell_below hb ?_, pw_cell_below hb ?_, pw_cell_below hb ?_, pw_cell_below hb ?_⟩ <;> go_keep)) (first | (go_at_call 107; (with_reducible refine (WL.out _).mono ?_); rintro e w4 ⟨rfl, hb⟩) | (go_at_call 125; (with_reducible refine (WY.out _).mono ?_); rintro e w' ⟨rfl, h_⟩; have h_ := h_.symm; subst h_))
    go_wp2
    go_ret
    exact ⟨by go_simp; rw [E0.out], by first | exact below_alloc (below_step (by repeat (first | exact Below.refl _ _ | apply Below.drew | apply below_alloc)) hb) _ | exact (below_alloc (below_step (by repeat (first | exact Below.refl _ _ | apply Below.drew | apply below_alloc)) hb) _).drew⟩
  · have hs : 0 ≤ (l - 1) * (1 + b + c) ∧ (l - 1) * (1 + b + c) ≤ 300 := by
      rcases (by omega : l = 1 ∨ l = 2 ∨ l = 3) with rfl | rfl | rfl <;> omega
    have E0 : Aside0 (geoB a b c d l = 1 + (l - 1) * (1 + b + c)) := ⟨geoB_pos hok (by omega) hl'.2⟩
    have hw1 : Aside0 (wrap64 ((l - 1) * (1 + b + c)) = (l - 1) * (1 + b + c)) := ⟨by unfold wrap64; omega⟩
    have hw2 : Aside0 (wrap64 (1 + (l - 1) * (1 + b + c)) = 1 + (l - 1) * (1 + b + c)) := ⟨by unfold wrap64; omega⟩
    have hlz : (l == 0) = false := by simp [hl0]
    clear hok hl hs
    go_enter Try.func122, Try.ntmps122
    go_wp2_with (first | (go_at_call 59; (with_reducible refine (W1.out _).mono ?_); rintro e w' ⟨rfl, h_⟩; have h_ := h_.symm; subst h_; rw [E1.out]) | (go_at_call 98; (with_reducible refine (W3.out _).mono ?_); rintro e w' ⟨rfl, h_⟩; have h_ := h_.symm; subst h_; rw [E3.out]) | (go_at_call 125; (with_reducible refine (WY.out _).mono ?_); rintro e w' ⟨rfl, h_⟩; have h_ := h_.symm; subst h_))
    go_ret
    exact ⟨by go_simp; rw [hw1.out, hw2.out, E0.out], (by repeat (first | exact Below.refl _ _ | apply Below.drew | apply below_alloc))⟩
set_option maxRecDepth 100000 in
theorem geoBitmap_walk (a b c d l : Int) (w : World) :
    Calls Try.prog 99 #[geoV a b c d, .int .i64 l] w fun e w' => e = .returned (.int .i64 (geoB a b c d l)) ∧ Below w.heap.size w w' := by
  have W1 := Aside0.mk (fun W => start_walk a b c d l W)
  unfold geoV
  go_enter Try.func99, Try.ntmps99
  go_wp2_with (go_at_call 122; (with_reducible refine (W1.out _).mono ?_); rintro e w4 ⟨rfl, hb⟩)
  go_ret
  exact ⟨by go_simp, below_step (by repeat (first | exact Below.refl _ _ | apply Below.drew | apply below_alloc)) hb⟩
set_option maxRecDepth 100000 in
theorem geoLog_walk (a b c d : Int) (w : World) :
    Calls Try.prog 71 #[geoV a b c d] w fun e w' => e = .returned (.int .i64 (geoL a b c d)) ∧ Below w.heap.size w w' := by
  have W1 : Aside0 (∀ W, Calls Try.prog 59 #[.agg #[.int .i64 a, .int .i64 b, .int .i64 c, .int .i64 d]] W fun e w' => e = .returned (.int .i64 (geoE a b c d)) ∧ w' = W.alloc (.cells #[.int .i64 a, .int .i64 b, .int .i64 c, .int .i64 d] 38)) := ⟨fun W => geoCheck_walk a b c d W⟩
  unfold geoV
  by_cases hok : geoOk a b c d = true
  case neg =>
    have E0 : Aside0 (geoL a b c d = -1) := ⟨by unfold geoL; rw [if_neg hok]⟩
    have E1 : Aside0 (geoE a b c d = 1) := ⟨geoE_bad hok⟩
    clear hok
    go_enter Try.func71, Try.ntmps71
    go_wp2_with (go_at_call 59; (with_reducible refine (W1.out _).mono ?_); rintro e w' ⟨rfl, h_⟩; have h_ := h_.symm; subst h_; rw [E1.out])
    go_ret
    exact ⟨by rw [E0.out]; rfl, (by repeat (first | exact Below.refl _ _ | apply Below.drew | apply below_alloc))⟩
  have E1 : Aside0 (geoE a b c d = 0) := ⟨geoE_ok hok⟩
  have E0 : Aside0 (geoL a b c d = 1 + (a + 1) * (1 + b + c)) := ⟨by unfold geoL; rw [if_pos hok]⟩
  have W2 := Aside0.mk (fun W => log_walk a b c d W hok)
  clear hok
  go_enter Try.func71, Try.ntmps71
  go_wp2_with (first | (go_at_call 59; (with_reducible refine (W1.out _).mono ?_); rintro e w' ⟨rfl, h_⟩; have h_ := h_.symm; subst h_; rw [E1.out]) | (go_at_call 107; (with_reducible refine (W2.out _).mono ?_); rintro e w4 ⟨rfl, hb⟩))
  go_ret
  exact ⟨by rw [E0.out]; rfl, below_step (by repeat (first | exact Below.refl _ _ | apply Below.drew | apply below_alloc)) hb⟩
/-- A sector of a layer. -/
def geoP (a b c d l n lo hi at_ : Int) : Int := if geoB a b c d l < 0 ∨ ¬ win n lo hi = true then -1 else wrap64 (wrap64 (geoB a b c d l + at_) + n)
end Go.Proofs.Ytdkbhbolkieeiaa.K
namespace Go.Proofs.YtdkbhbolkieeiaaW.PrintWords
open Go.RowKit
namespace Kd
section
variable {P : Program} {ops : Array Oper} {rest : List Oper} {o : Oper} {a : Act} {Q : Exit → Act → World → Prop}
theorem R_grows {k : IntKind} {w0 W : World} (base : Nat) (hgd : o.guard = none) (s x : Operand) (t e : TypeId) (z : Value) (bytes : Nat)
    (ho : o.op = .call { callee := .builtin .append, args := #[s, x], argTypes := #[t, t] })
    (ht : P.underlying t = some (.slice e)) (hinfo : (P.info? e).map (fun i => (i.zero, i.size, i.bytes)) = some (some z, 1, bytes)) (hz : z.cells.size = 1) (hb0 : 0 < bytes)
    (ad ad2 : Addr) (n c m c2 : Nat) (xs ys : List Int) (hs : a.eval s = .slice (some ad) n c) (hx : a.eval x = .slice (some ad2) m c2)
    (hxn : xs.length = n) (hym : ys.length = m) (HX : ∀ j, j < n → W.cell? (ad.add j) = some (.int k (xs.getD j 0))) (HY : ∀ j, j < m → W.cell? (ad2.add j) = some (.int k (ys.getD j 0)))
    (hfull : c < n + m) (HB : Below base w0 W) (hbase : base ≤ W.heap.size) (hl : (n + m) * bytes ≤ 140737488355328)
    (h : ∀ v1 w1, (Kd.int k).R e w1 base (fun _ => True) v1 (xs ++ ys) → Below base w0 w1 → wpList P ops Q rest (a.put o.dst v1) w1) : wpList P ops Q (o :: rest) a W := by
  subst hxn
  subst hym
  obtain ⟨i0, hi, hzz⟩ := Option.map_eq_some_iff.1 hinfo
  simp only [Prod.mk.injEq] at hzz
  obtain ⟨hz0, hz1, hz2⟩ := hzz
  have hlen : xs.length + ys.length ≤ 140737488355328 := Nat.le_trans (Nat.le_mul_of_pos_right _ hb0) hl
  have hget : ∀ (zs : List Int) (b : Addr), (∀ j, j < zs.length → W.cell? (b.add j) = some (.int k (zs.getD j 0))) → ∀ (j : Nat) (u : Value), (zs.map (Value.int k))[j]? = some u → W.cell? (b.add j) = some u := by
    intro zs b hb j u hu
    rcases Nat.lt_or_ge j zs.length with hj | hj
    · rw [hb j hj, ← hu]
      simp [List.getD_eq_getElem?_getD, hj]
    · rw [List.getElem?_eq_none (by simpa using hj)] at hu
      cases hu
  refine wpList_append_grows (P := P) W hgd s x t ho e i0 z 1 bytes ht hi hz0 hz1 hz2 hz Nat.one_pos (some ad) xs.length c (xs.map (Value.int k)) hs (by simp) (by simp)
    (fun b hb j u hu => by cases hb; exact hget xs ad HX j u hu) ad2 ys.length c2 (ys.map (Value.int k)) hx (by simp) (hget ys ad2 HY)
    (by intro u hu; simp only [List.mem_map] at hu; obtain ⟨q, _, rfl⟩ := hu; rfl) hfull (by simp only [maxLen]; omega) hl ?_
  intro v' w' hown hg
  have hR : (Kd.int k).R e w' W.heap.size (fun _ => True) v' (xs ++ ys) := R_of_own (by rw [List.length_append]; simpa [encs] using hown) (fun _ _ => trivial)
  exact h v' w' (R_lower hR hbase) (HB.grown hg hbase (fun k hk => by cases hk))
theorem conv_bytes_at {P : Program} (W : World) (t e : TypeId) (C : Array Value) (n c g : Nat) (hg : W.heap.size = g) (ht : P.underlying t = some (.slice e)) (he : P.underlying e = some (.int .u8)) :
    (convert t t (.slice (some ⟨g, 0, none⟩) n c)).run P (W.alloc (.cells C e)) = .ok (.slice (some ⟨g, 0, none⟩) n c) (W.alloc (.cells C e (C.size, C.size + 1))) := by
  subst hg
  exact Lib.run_convert_bytes_const W t e C n c ht he
theorem cell_new {W : World} {C : Array Value} {e : TypeId} {fz : Nat × Nat} {g j : Nat} {v : Value} (hg : W.heap.size = g) (h : C[j]? = some v) : (W.alloc (.cells C e fz)).cell? ⟨g, j, none⟩ = some v := by
  subst hg
  have h1 := heap_alloc_new W (.cells C e fz)
  unfold World.cell?
  rw [h1]
  exact h
theorem cell_old {W : World} {a : Addr} {v : Value} (o : Obj) (h : W.cell? a = some v) : (W.alloc o).cell? a = some v := Lib.cell?_alloc_marked o h
end
end Kd
end Go.Proofs.YtdkbhbolkieeiaaW.PrintWords
namespace Go.Proofs.Ytdkbhbolkieeiaa.K
open Go.RowKit Go.Proofs.YtdkbhbolkieeiaaW.PrintWords Go.Proofs.YtdkbhbolkieeiaaW.PrintLast Go.Proofs.YtdkbhbolkieeiaaW.PrintMore
set_option linter.unusedVariables false
set_option linter.unusedSimpArgs false
def geoHead (a b c d : Int) : List Int := [82, 84, 66, 76, 1, a % 256, b % 256, c % 256, d % 256]
def geoBy (a b c d : Int) : List Int := if geoOk a b c d = true then sealS (geoHead a b c d) else []
theorem geoHead_byts (a b c d : Int) : Byts (geoHead a b c d) := by
  intro x hx
  simp only [geoHead, List.mem_cons, List.not_mem_nil, or_false] at hx
  rcases hx with rfl | rfl | rfl | rfl | rfl | rfl | rfl | rfl | rfl <;> omega
set_option maxRecDepth 100000 in
theorem geoPut_walk (a b c d : Int) (w : World) :
    Calls Try.prog 77 #[geoV a b c d] w fun e w' => ∃ v : Value, e = .returned (.tuple #[v, .int .i64 (geoE a b c d)]) ∧ Kd.R (Kd.int .u8) 5 w' w.heap.size (fun _ => True) v (geoBy a b c d) ∧ Below w.heap.size w w' := by
  have W1 : Aside0 (∀ W, Calls Try.prog 59 #[.agg #[.int .i64 a, .int .i64 b, .int .i64 c, .int .i64 d]] W fun e w' => e = .returned (.int .i64 (geoE a b c d)) ∧ w' = W.alloc (.cells #[.int .i64 a, .int .i64 b, .int .i64 c, .int .i64 d] 38)) := ⟨fun W => geoCheck_walk a b c d W⟩
  unfold geoV
  by_cases hok : geoOk a b c d = true
  case neg =>
    have E0 : Aside0 (geoBy a b c d = []) := ⟨by unfold geoBy; rw [if_neg hok]⟩
    have E1 : Aside0 (geoE a b c d = 1) := ⟨geoE_bad hok⟩
    clear hok
    go_enter Try.func77, Try.ntmps77
    go_wp2_with (go_at_call 59; (with_reducible refine (W1.out _).mono ?_); rintro e w' ⟨rfl, h_⟩; have h_ := h_.symm; subst h_; rw [E1.out])
    go_ret2
    exact ⟨_, by rw [E1.out]; rfl, by rw [E0.out]; exact Kd.R_nil _ _ _ _ _, (by repeat (first | exact Below.refl _ _ | apply Below.drew | apply below_alloc))⟩
  have E1 : Aside0 (geoE a b c d = 0) := ⟨geoE_ok hok⟩
  have E0 : Aside0 (geoBy a b c d = sealS (geoHead a b c d)) := ⟨by unfold geoBy; rw [if_pos hok]⟩
  have kc : (convert 44 44 (.slice (some ⟨w.heap.size + 1 + 1, 0, none⟩) 5 5)).run Try.prog (((w.alloc (.cells #[.int .i64 a, .int .i64 b, .int .i64 c, .int .i64 d] 38)).alloc (.cells #[.int .i64 a, .int .i64 b, .int .i64 c, .int .i64 d] 38)).alloc (.cells #[.int .u8 82, .int .u8 84, .int .u8 66, .int .u8 76, .int .u8 1] 5)) = .ok (.slice (some ⟨w.heap.size + 1 + 1, 0, none⟩) 5 5) (((w.alloc (.cells #[.int .i64 a, .int .i64 b, .int .i64 c, .int .i64 d] 38)).alloc (.cells #[.int .i64 a, .int .i64 b, .int .i64 c, .int .i64 d] 38)).alloc (.cells #[.int .u8 82, .int .u8 84, .int .u8 66, .int .u8 76, .int .u8 1] 5 (5, 6))) := by
    exact Kd.conv_bytes_at ((w.alloc (.cells #[.int .i64 a, .int .i64 b, .int .i64 c, .int .i64 d] 38)).alloc (.cells #[.int .i64 a, .int .i64 b, .int .i64 c, .int .i64 d] 38)) 44 5 #[.int .u8 82, .int .u8 84, .int .u8 66, .int .u8 76, .int .u8 1] 5 5 _ (by simp) Try.underlying44 Try.underlying5
  clear hok
  go_enter Try.func77, Try.ntmps77
  go_wp2_with (first | (go_at_call 59; (with_reducible refine (W1.out _).mono ?_); rintro e w' ⟨rfl, h_⟩; have h_ := h_.symm; subst h_; rw [E1.out]) | ((with_reducible refine gate_builtin (b := .append) (xs := #[.tmp 11, .tmp 24]) rfl ?_); at_builtin; go_loud (refine Kd.R_grows (k := .u8) (w0 := w) w.heap.size rfl (.tmp 11) (.tmp 24) 44 5 (.int .u8 0) 1 rfl Try.underlying44 u8info rfl (by decide) ⟨w.heap.size + 1 + 1, 0, none⟩ ⟨w.heap.size + 1 + 1 + 1, 0, none⟩ 5 5 4 4 [82, 84, 66, 76, 1] [a % 256, b % 256, c % 256, d % 256] rfl rfl rfl rfl ?hX ?hY (by decide) ?hB ?hs (by decide) ?_; (case hX => (intro j hj; rcases j with _ | _ | _ | _ | _ | j; all_goals first | exact Kd.cell_new (by simp) rfl | exact Kd.cell_old _ (Kd.cell_new (by simp) rfl) | (exfalso; omega))); (case hY => (intro j hj; rcases j with _ | _ | _ | _ | _ | j; all_goals first | exact Kd.cell_new (by simp) rfl | exact Kd.cell_old _ (Kd.cell_new (by simp) rfl) | (exfalso; omega))); (case hB => exact (by repeat (first | exact Below.refl _ _ | apply Below.drew | apply below_alloc))); (case hs => exact below_size (by repeat (first | exact Below.refl _ _ | apply Below.drew | apply below_alloc))); intro v4 w4 ho hb; have HO4 := Aside0.mk (show Kd.R (Kd.int .u8) 5 w4 w.heap.size (fun _ => True) v4 (geoHead a b c d) from ho); have HB4 := Aside0.mk hb; clear ho hb; obtain ⟨A4, c4, e4⟩ := Kd.R_slice HO4.out; subst e4)) | (go_at_call 64; refine (seal_walk A4 c4 (geoHead a b c d) w4 (Kd.R_reads' HO4.out).2.2 (geoHead_byts a b c d)).mono ?_; rintro e w5 ⟨v5, rfl, ho, hb⟩; have HO5 := Aside0.mk (Kd.R_lower ho (show w.heap.size ≤ w4.heap.size from HB4.out.size)); have HB5 := Aside0.mk (below_step HB4.out hb); clear ho hb))
  go_ret2
  exact ⟨_, by rw [E1.out]; rfl, by rw [E0.out]; exact HO5.out, HB5.out⟩
end Go.Proofs.Ytdkbhbolkieeiaa.K
namespace Go.Proofs.Ytdkbhbolkieeiaa.K
open Go.RowKit Go.Proofs.YtdkbhbolkieeiaaW.PrintWords Go.Proofs.YtdkbhbolkieeiaaW.PrintLast Go.Proofs.YtdkbhbolkieeiaaW.PrintMore
set_option linter.unusedVariables false
set_option linter.unusedSimpArgs false
theorem exec_storeG {P : Program} {o : Oper} {a : Act} {W W' : World} {ty : TypeId} {x y : Operand} {v u : Value} (ho : o.op = .store ty x y) (hx : a.eval x = v) (hy : a.eval y = u) (h : (Instr.storeAt ty v u).run P W = .ok () W') : (execOp a.eval o).run P W = .ok .skip W' := by
  unfold execOp
  simp only [ho, hx, hy, Sem.run_bind, h, Result.andThen_ok, Sem.run_pure]
/-- A struct's store into a block of its own: the world behind is a letter. -/
theorem run_store_let {P : Program} {ty : TypeId} (w : World) (g : Nat) (cells : Array Value) (t : TypeId) (old : Array Value) (hg : w.heap[g]? = some (.cells old t (0, 0))) (hold : old.size = cells.size) (hi : (P.info? ty).map (·.size) = some cells.size) (h1 : cells.all (·.oneCell') = true) :
    ∃ w1, (Instr.storeAt ty (.pointer (some ⟨g, 0, none⟩)) (.agg cells)).run P w = .ok () w1 ∧ w1.heap[g]? = some (.cells cells t (0, 0)) ∧ w.grownBy w1 (some g) := by
  obtain ⟨cs', h2, h3, h4⟩ := setCells_row cells.toList 0 w old hg (by simp; omega)
  refine ⟨_, run_storeAt_mid w g 0 ty cells (there_of_blk hg (by omega)) hi h1, ?_, grown_setCells _ _ _ _⟩
  have e : cs' = cells := by
    apply Array.toList_inj.1
    rw [h4, List.take_zero, List.nil_append, List.drop_eq_nil_of_le (by simp; omega), List.append_nil]
  rw [e] at h2
  exact h2
/-- The byte at a place; 0 outside. -/
def byN (l : List Int) (i : Nat) : Int := l.getD i 0
def geoGok (l : List Int) : Bool := decide (64 ≤ l.length) && (geoOk (byN l 5) (byN l 6) (byN l 7) (byN l 8) && (decide (l.take 64 = sealS (geoHead (byN l 5) (byN l 6) (byN l 7) (byN l 8))) && decide ((l.length : Int) = 64 * geoT (byN l 5) (byN l 6) (byN l 7) (byN l 8))))
/-- What an image's layout is, and the error. -/
def geoG (l : List Int) : (Int × Int × Int × Int) × Int := if geoGok l = true then ((byN l 5, byN l 6, byN l 7, byN l 8), 0) else ((0, 0, 0, 0), 2)
theorem byN_get {l : List Int} {i : Nat} (h : i < l.length) : byN l i = l[i] := by
  unfold byN
  rw [List.getD_eq_getElem?_getD, List.getElem?_eq_getElem h]
  rfl
set_option maxHeartbeats 4000000 in
set_option maxRecDepth 100000 in
theorem geoGet_walk (A : Option Addr) (c : Nat) (l : List Int) (w0 : World) (hr : Kd.C (Kd.int .u8) w0 A l.length l) (hc : l.length ≤ c) (hl : l.length < 140737488355320) (hb : Byts l) :
    Calls Try.prog 38 #[.slice A l.length c] w0 fun e w' => e = .returned (.tuple #[.agg #[.int .i64 (geoG l).1.1, .int .i64 (geoG l).1.2.1, .int .i64 (geoG l).1.2.2.1, .int .i64 (geoG l).1.2.2.2], .int .i64 (geoG l).2]) ∧ Below w0.heap.size w0 w' := by
  have HR := Aside0.mk hr
  have HY := Aside0.mk hb
  have HC := Aside0.mk hc
  have HL := Aside0.mk hl
  have EG : Aside0 (geoG l = if geoGok l = true then ((byN l 5, byN l 6, byN l 7, byN l 8), 0) else ((0, 0, 0, 0), 2)) := ⟨rfl⟩
  have EO : Aside0 (geoGok l = (decide (64 ≤ l.length) && (geoOk (byN l 5) (byN l 6) (byN l 7) (byN l 8) && (decide (l.take 64 = sealS (geoHead (byN l 5) (byN l 6) (byN l 7) (byN l 8))) && decide ((l.length : Int) = 64 * geoT (byN l 5) (byN l 6) (byN l 7) (byN l 8)))))) := ⟨rfl⟩
  obtain ⟨G, hG⟩ : ∃ G, G = geoG l := ⟨_, rfl⟩
  rw [← hG] at EG
  rw [← hG]
  clear hr hb hc hl hG
  by_cases h64 : 64 ≤ l.length
  case neg =>
    have E0 : Aside0 (G = ((0, 0, 0, 0), 2)) := ⟨by rw [EG.out, EO.out]; simp [h64]⟩
    have hlt : (l.length : Int) < 64 := by omega
    go_enter Try.func38, Try.ntmps38
    go_wp2
    refine bodyPost_ret (resRow2 rfl _ _ w0.heap.size 38 #[.int .i64 0, .int .i64 0, .int .i64 0, .int .i64 0] (0, 0) _ (.int .i64 2) rfl rfl (heap_alloc_new _ _) Try.underlying38 rfl (by kernel_rfl)) rfl ?_
    exact ⟨by rw [E0.out], below_alloc (Below.refl _ _) _⟩
  obtain ⟨ad, hA, x5⟩ := Kd.at_int HR.out 5 (by omega) (by omega)
  obtain ⟨ad2, hA2, x6⟩ := Kd.at_int HR.out 6 (by omega) (by omega)
  obtain ⟨ad3, hA3, x7⟩ := Kd.at_int HR.out 7 (by omega) (by omega)
  obtain ⟨ad4, hA4, x8⟩ := Kd.at_int HR.out 8 (by omega) (by omega)
  subst hA
  cases hA2
  cases hA3
  cases hA4
  have hcc : l.length ≤ c := HC.out
  have hge : ¬ (l.length : Int) < 64 := by omega
  obtain ⟨a, ha⟩ : ∃ a, a = byN l 5 := ⟨_, rfl⟩
  obtain ⟨b, hb⟩ : ∃ b, b = byN l 6 := ⟨_, rfl⟩
  obtain ⟨d, hd⟩ : ∃ d, d = byN l 7 := ⟨_, rfl⟩
  obtain ⟨h, hh⟩ : ∃ h, h = byN l 8 := ⟨_, rfl⟩
  have z5 : w0.cell? ⟨ad.block, ad.off + 5, none⟩ = some (.int .u8 a) := by rw [ha]; exact x5
  have z6 : w0.cell? ⟨ad.block, ad.off + 6, none⟩ = some (.int .u8 b) := by rw [hb]; exact x6
  have z7 : w0.cell? ⟨ad.block, ad.off + 7, none⟩ = some (.int .u8 d) := by rw [hd]; exact x7
  have z8 : w0.cell? ⟨ad.block, ad.off + 8, none⟩ = some (.int .u8 h) := by rw [hh]; exact x8
  have HA : Aside0 ((0 ≤ a ∧ a < 256) ∧ (0 ≤ b ∧ b < 256) ∧ (0 ≤ d ∧ d < 256) ∧ 0 ≤ h ∧ h < 256) := ⟨by
    rw [ha, hb, hd, hh, byN_get (by omega), byN_get (by omega), byN_get (by omega), byN_get (by omega)]
    exact ⟨HY.out _ (List.getElem_mem _), HY.out _ (List.getElem_mem _), HY.out _ (List.getElem_mem _), HY.out _ (List.getElem_mem _)⟩⟩
  rw [← ha, ← hb, ← hd, ← hh] at EG EO
  clear x5 x6 x7 x8 ha hb hd hh
  go_enter Try.func38, Try.ntmps38
  go_wp2
  obtain ⟨w1, hw1⟩ : ∃ w1, w1 = w0.alloc (.cells #[.int .i64 0, .int .i64 0, .int .i64 0, .int .i64 0] 38) := ⟨_, rfl⟩
  have hb1 : Below w0.heap.size w0 w1 := by rw [hw1]; exact below_alloc (Below.refl _ _) _
  have BR : w1.heap[w0.heap.size]? = some (.cells #[.int .i64 0, .int .i64 0, .int .i64 0, .int .i64 0] 38 (0, 0)) := by rw [hw1]; exact heap_alloc_new _ _
  have y5 := pw_cell_below hb1 z5
  have y6 := pw_cell_below hb1 z6
  have y7 := pw_cell_below hb1 z7
  have y8 := pw_cell_below hb1 z8
  have HB1 := Aside0.mk hb1
  have BR1 := Aside0.mk BR
  rw [← hw1]
  clear hw1 z5 z6 z7 z8 hb1 BR
  have q0 : 0 < l.length - 5 := by omega
  have q1 : (1 : Int) < ((l.length - 5 : Nat) : Int) := by omega
  have q2 : (2 : Int) < ((l.length - 5 : Nat) : Int) := by omega
  have q3 : (3 : Int) < ((l.length - 5 : Nat) : Int) := by omega
  have wa : RowKit.wrap64 a = a := by have := HA.out; unfold RowKit.wrap64; omega
  have wb : RowKit.wrap64 b = b := by have := HA.out; unfold RowKit.wrap64; omega
  have wd : RowKit.wrap64 d = d := by have := HA.out; unfold RowKit.wrap64; omega
  have wh : RowKit.wrap64 h = h := by have := HA.out; unfold RowKit.wrap64; omega
  refine start_ (n := 19) (S := fun w' => w'.cell? ⟨ad.block, ad.off + 5, none⟩ = some (.int .u8 a) ∧ w'.cell? ⟨ad.block, ad.off + 5 + 1, none⟩ = some (.int .u8 b) ∧ w'.cell? ⟨ad.block, ad.off + 5 + 2, none⟩ = some (.int .u8 d) ∧ w'.cell? ⟨ad.block, ad.off + 5 + 3, none⟩ = some (.int .u8 h)) (ds := [18]) #[false, false, false, false, false, false, false, false, false, false, false, false, false, false, false, false, false, false, false] (by kernel_rfl) rfl rfl ⟨(pw_cell_below (below_drew1 (Below.refl w1.heap.size w1)) y5), (pw_cell_below (below_drew1 (Below.refl w1.heap.size w1)) y6), (pw_cell_below (below_drew1 (Below.refl w1.heap.size w1)) y7), (pw_cell_below (below_drew1 (Below.refl w1.heap.size w1)) y8)⟩ (fun hHeld => ?_)
  refine pure_ (i := 0) (N := some 14) (v := ?_) (a' := ?_) #[true, false, false, false, false, false, false, false, false, false, false, false, false, false, false, false, false, false, false] rfl rfl (by kernel_rfl) (fun _ _ _ h => h) (Or.inl ⟨by rfl, ?_⟩) ?_ ?_
  rotate_left
  · intro w'
    go_simp
    with_reducible rfl
  rotate_left
  · simp only [Act.put, List.setIfInBounds_toArray, List.set_cons_zero, List.set_cons_succ, i64_w, i32_w]
    rfl
  refine pure_ (i := 1) (N := some 15) (v := ?_) (a' := ?_) #[true, true, false, false, false, false, false, false, false, false, false, false, false, false, false, false, false, false, false] rfl rfl (by kernel_rfl) (fun _ _ _ h => h) (Or.inl ⟨by rfl, ?_⟩) ?_ ?_
  rotate_left
  · intro w'
    go_simp
    with_reducible rfl
  rotate_left
  · simp only [Act.put, List.setIfInBounds_toArray, List.set_cons_zero, List.set_cons_succ, i64_w, i32_w]
    rfl
  refine pure_ (i := 4) (N := some 18) (v := ?_) (a' := ?_) #[true, true, false, false, true, false, false, false, false, false, false, false, false, false, false, false, false, false, false] rfl rfl (by kernel_rfl) (fun _ _ _ h => h) (Or.inl ⟨by rfl, ?_⟩) ?_ ?_
  rotate_left
  · intro w'
    go_simp
    with_reducible rfl
  rotate_left
  · simp only [Act.put, List.setIfInBounds_toArray, List.set_cons_zero, List.set_cons_succ, i64_w, i32_w]
    rfl
  refine pure_ (i := 5) (N := some 19) (v := ?_) (a' := ?_) #[true, true, false, false, true, true, false, false, false, false, false, false, false, false, false, false, false, false, false] rfl rfl (by kernel_rfl) (fun _ _ _ h => h) (Or.inl ⟨by rfl, ?_⟩) ?_ ?_
  rotate_left
  · intro w'
    go_simp
    with_reducible rfl
  rotate_left
  · simp only [Act.put, List.setIfInBounds_toArray, List.set_cons_zero, List.set_cons_succ, i64_w, i32_w]
    rfl
  refine pure_ (i := 8) (N := some 22) (v := ?_) (a' := ?_) #[true, true, false, false, true, true, false, false, true, false, false, false, false, false, false, false, false, false, false] rfl rfl (by kernel_rfl) (fun _ _ _ h => h) (Or.inl ⟨by rfl, ?_⟩) ?_ ?_
  rotate_left
  · intro w'
    go_simp
    with_reducible rfl
  rotate_left
  · simp only [Act.put, List.setIfInBounds_toArray, List.set_cons_zero, List.set_cons_succ, i64_w, i32_w]
    rfl
  refine pure_ (i := 9) (N := some 23) (v := ?_) (a' := ?_) #[true, true, false, false, true, true, false, false, true, true, false, false, false, false, false, false, false, false, false] rfl rfl (by kernel_rfl) (fun _ _ _ h => h) (Or.inl ⟨by rfl, ?_⟩) ?_ ?_
  rotate_left
  · intro w'
    go_simp
    with_reducible rfl
  rotate_left
  · simp only [Act.put, List.setIfInBounds_toArray, List.set_cons_zero, List.set_cons_succ, i64_w, i32_w]
    rfl
  refine pure_ (i := 12) (N := some 26) (v := ?_) (a' := ?_) #[true, true, false, false, true, true, false, false, true, true, false, false, true, false, false, false, false, false, false] rfl rfl (by kernel_rfl) (fun _ _ _ h => h) (Or.inl ⟨by rfl, ?_⟩) ?_ ?_
  rotate_left
  · intro w'
    go_simp
    with_reducible rfl
  rotate_left
  · simp only [Act.put, List.setIfInBounds_toArray, List.set_cons_zero, List.set_cons_succ, i64_w, i32_w]
    rfl
  refine pure_ (i := 13) (N := some 27) (v := ?_) (a' := ?_) #[true, true, false, false, true, true, false, false, true, true, false, false, true, true, false, false, false, false, false] rfl rfl (by kernel_rfl) (fun _ _ _ h => h) (Or.inl ⟨by rfl, ?_⟩) ?_ ?_
  rotate_left
  · intro w'
    go_simp
    with_reducible rfl
  rotate_left
  · simp only [Act.put, List.setIfInBounds_toArray, List.set_cons_zero, List.set_cons_succ, i64_w, i32_w]
    rfl
  refine take_ (i := 2) (N := some 16) (v := ?_) (a' := ?_) #[true, true, true, false, true, true, false, false, true, true, false, false, true, true, false, false, false, false, false] rfl rfl (by kernel_rfl) (fun _ _ _ h => h) (Or.inl ⟨by rfl, ?_⟩) hHeld ?_ ?_
  rotate_left
  · rintro w' ⟨s0, s1, s2, s3⟩
    go_simp
    with_reducible rfl
  rotate_left
  · simp only [Act.put, List.setIfInBounds_toArray, List.set_cons_zero, List.set_cons_succ, i64_w, i32_w]
    rfl
  refine pure_ (i := 3) (N := some 17) (v := ?_) (a' := ?_) #[true, true, true, true, true, true, false, false, true, true, false, false, true, true, false, false, false, false, false] rfl rfl (by kernel_rfl) (fun _ _ _ h => h) (Or.inl ⟨by rfl, ?_⟩) ?_ ?_
  rotate_left
  · intro w'
    go_simp
    with_reducible rfl
  rotate_left
  · simp only [Act.put, List.setIfInBounds_toArray, List.set_cons_zero, List.set_cons_succ, i64_w, i32_w]
    rfl
  refine take_ (i := 6) (N := some 20) (v := ?_) (a' := ?_) #[true, true, true, true, true, true, true, false, true, true, false, false, true, true, false, false, false, false, false] rfl rfl (by kernel_rfl) (fun _ _ _ h => h) (Or.inl ⟨by rfl, ?_⟩) hHeld ?_ ?_
  rotate_left
  · rintro w' ⟨s0, s1, s2, s3⟩
    go_simp
    with_reducible rfl
  rotate_left
  · simp only [Act.put, List.setIfInBounds_toArray, List.set_cons_zero, List.set_cons_succ, i64_w, i32_w]
    rfl
  refine pure_ (i := 7) (N := some 21) (v := ?_) (a' := ?_) #[true, true, true, true, true, true, true, true, true, true, false, false, true, true, false, false, false, false, false] rfl rfl (by kernel_rfl) (fun _ _ _ h => h) (Or.inl ⟨by rfl, ?_⟩) ?_ ?_
  rotate_left
  · intro w'
    go_simp
    with_reducible rfl
  rotate_left
  · simp only [Act.put, List.setIfInBounds_toArray, List.set_cons_zero, List.set_cons_succ, i64_w, i32_w]
    rfl
  refine take_ (i := 10) (N := some 24) (v := ?_) (a' := ?_) #[true, true, true, true, true, true, true, true, true, true, true, false, true, true, false, false, false, false, false] rfl rfl (by kernel_rfl) (fun _ _ _ h => h) (Or.inl ⟨by rfl, ?_⟩) hHeld ?_ ?_
  rotate_left
  · rintro w' ⟨s0, s1, s2, s3⟩
    go_simp
    with_reducible rfl
  rotate_left
  · simp only [Act.put, List.setIfInBounds_toArray, List.set_cons_zero, List.set_cons_succ, i64_w, i32_w]
    rfl
  refine pure_ (i := 11) (N := some 25) (v := ?_) (a' := ?_) #[true, true, true, true, true, true, true, true, true, true, true, true, true, true, false, false, false, false, false] rfl rfl (by kernel_rfl) (fun _ _ _ h => h) (Or.inl ⟨by rfl, ?_⟩) ?_ ?_
  rotate_left
  · intro w'
    go_simp
    with_reducible rfl
  rotate_left
  · simp only [Act.put, List.setIfInBounds_toArray, List.set_cons_zero, List.set_cons_succ, i64_w, i32_w]
    rfl
  refine take_ (i := 14) (N := some 28) (v := ?_) (a' := ?_) #[true, true, true, true, true, true, true, true, true, true, true, true, true, true, true, false, false, false, false] rfl rfl (by kernel_rfl) (fun _ _ _ h => h) (Or.inl ⟨by rfl, ?_⟩) hHeld ?_ ?_
  rotate_left
  · rintro w' ⟨s0, s1, s2, s3⟩
    go_simp
    with_reducible rfl
  rotate_left
  · simp only [Act.put, List.setIfInBounds_toArray, List.set_cons_zero, List.set_cons_succ, i64_w, i32_w]
    rfl
  refine pure_ (i := 15) (N := some 29) (v := ?_) (a' := ?_) #[true, true, true, true, true, true, true, true, true, true, true, true, true, true, true, true, false, false, false] rfl rfl (by kernel_rfl) (fun _ _ _ h => h) (Or.inl ⟨by rfl, ?_⟩) ?_ ?_
  rotate_left
  · intro w'
    go_simp
    with_reducible rfl
  rotate_left
  · simp only [Act.put, List.setIfInBounds_toArray, List.set_cons_zero, List.set_cons_succ, i64_w, i32_w]
    rfl
  refine pure_ (i := 16) (N := some 30) (v := ?_) (a' := ?_) #[true, true, true, true, true, true, true, true, true, true, true, true, true, true, true, true, true, false, false] rfl rfl (by kernel_rfl) (fun _ _ _ h => h) (Or.inl ⟨by rfl, ?_⟩) ?_ ?_
  rotate_left
  · intro w'
    go_simp
    with_reducible rfl
  rotate_left
  · simp only [Act.put, List.setIfInBounds_toArray, List.set_cons_zero, List.set_cons_succ, i64_w, i32_w]
    rfl
  refine one_ (i := 17) (N := some 5) #[true, true, true, true, true, true, true, true, true, true, true, true, true, true, true, true, true, true, false] rfl rfl (by kernel_rfl) (by decide) (fun K hK => ?_)
  obtain ⟨w2, hw2⟩ : ∃ w2, w2 = w1.drew := ⟨_, rfl⟩
  rw [← hw2] at hHeld ⊢
  have hb2 : Below w1.heap.size w1 w2 := by rw [hw2]; exact below_drew1 (Below.refl _ _)
  clear hw2 hHeld
  refine value_ (w1 := ?_) (v := ?_) (by rfl) rfl ?_ ?_
  rotate_left 2
  · go_simp
    constructor
    · rfl
    · rfl
  refine hK.out _ _ ⟨(pw_cell_below (below_alloc hb2 _) y5), (pw_cell_below (below_alloc hb2 _) y6), (pw_cell_below (below_alloc hb2 _) y7), (pw_cell_below (below_alloc hb2 _) y8)⟩ (fun hHeld => ?_)
  clear hK K
  refine norm_ (a' := ?_) ?_ ?_
  rotate_left
  · show Act.put _ (some 5) _ = _
    simp only [Act.put, List.setIfInBounds_toArray, List.set_cons_zero, List.set_cons_succ, i64_w, i32_w]
    rfl
  refine last_ (i := 18) (N := none) #[true, true, true, true, true, true, true, true, true, true, true, true, true, true, true, true, true, true, true] rfl rfl (by kernel_rfl) (by decide) (fun K hK => ?_)
  clear hHeld
  obtain ⟨w5, hrun, bk5, hg5⟩ := run_store_let (P := Try.prog) (ty := 38) (w2.alloc (.cells #[.int .i64 0, .int .i64 0, .int .i64 0, .int .i64 0] 38)) w2.heap.size #[.int .i64 a, .int .i64 b, .int .i64 d, .int .i64 h] 38 #[.int .i64 0, .int .i64 0, .int .i64 0, .int .i64 0] (heap_alloc_new _ _) rfl (by kernel_rfl) (by simp [Value.oneCell'])
  refine skip_ (w1 := w5) (by rfl) rfl ?_ ?_
  · exact exec_storeG (x := .tmp 5) (y := .tmp 30) rfl rfl rfl hrun
  refine hK.out _ _ ?_
  clear hK K
  refine done_ (by kernel_rfl) ?_
  have hb5 : Below w1.heap.size w1 w5 := (below_alloc hb2 _).grown hg5 (by have := hb2.size; simp; omega) (fun k e => by cases e; exact hb2.size)
  have BK5 := Aside0.mk bk5
  have BR5 := Aside0.mk (blk_below BR1.out hb5)
  have HB5 := Aside0.mk (below_step HB1.out hb5)
  have HR5 := Aside0.mk (Kd.C_below HR.out HB5.out)
  have c0 : w5.cell? ⟨w2.heap.size, 0, none⟩ = some (.int .i64 a) := (blk_cell BK5.out 0).trans rfl
  have c1 : w5.cell? ⟨w2.heap.size, 1, none⟩ = some (.int .i64 b) := (blk_cell BK5.out 1).trans rfl
  have c2 : w5.cell? ⟨w2.heap.size, 2, none⟩ = some (.int .i64 d) := (blk_cell BK5.out 2).trans rfl
  have c3 : w5.cell? ⟨w2.heap.size, 3, none⟩ = some (.int .i64 h) := (blk_cell BK5.out 3).trans rfl
  have WP : Aside0 (∀ W, Calls Try.prog 77 #[.agg #[.int .i64 a, .int .i64 b, .int .i64 d, .int .i64 h]] W fun e w' => ∃ v : Value, e = .returned (.tuple #[v, .int .i64 (geoE a b d h)]) ∧ Kd.R (Kd.int .u8) 5 w' W.heap.size (fun _ => True) v (geoBy a b d h) ∧ Below W.heap.size W w') := ⟨fun W => geoPut_walk a b d h W⟩
  have WT : Aside0 (∀ W, Calls Try.prog 78 #[.agg #[.int .i64 a, .int .i64 b, .int .i64 d, .int .i64 h]] W fun e w' => e = .returned (.int .i64 (geoT a b d h)) ∧ Below W.heap.size W w') := ⟨fun W => geoTotal_walk a b d h W⟩
  clear bk5 hg5 hb5 hb2 HB1 BR1 y5 y6 y7 y8 q0 q1 q2 q3 wa wb wd wh
  by_cases hok : geoOk a b d h = true
  case neg =>
    have E0 : Aside0 (G = ((0, 0, 0, 0), 2)) := ⟨by rw [EG.out, EO.out]; simp [hok]⟩
    rw [geoE_bad hok] at WP
    clear hok
    go_wp2_with (first | ((with_reducible refine gate_store (p := 2) rfl ?_); go_loud (refine wpList_store_rowL rfl rfl 38 (.tmp 2) (.tmp 53) rfl (w0.heap.size) #[.int .i64 0, .int .i64 0, .int .i64 0, .int .i64 0] rfl rfl 38 #[.int .i64 0, .int .i64 0, .int .i64 0, .int .i64 0] (BR6.out) (by kernel_rfl) rfl (by simp [Value.oneCell']) ?_; intro w9 bk_ hg_)) | (go_at_call 77; go_loud ((with_reducible refine (WP.out _).mono ?_); rintro e w6 ⟨v6, rfl, ho, hb⟩; obtain ⟨A6, c6, rfl⟩ := Kd.R_slice ho; have HR6 := Aside0.mk (Kd.R_reads' ho).2.2; have BR6 := Aside0.mk (blk_below BR5.out hb); have B56 := Aside0.mk (blk_below BK5.out hb); have HB6 := Aside0.mk (below_step HB5.out hb); have HRl := Aside0.mk (Kd.C_below HR5.out hb); have c0 : w6.cell? ⟨w2.heap.size, 0, none⟩ = some (.int .i64 a) := (blk_cell B56.out 0).trans rfl; have c1 : w6.cell? ⟨w2.heap.size, 1, none⟩ = some (.int .i64 b) := (blk_cell B56.out 1).trans rfl; have c2 : w6.cell? ⟨w2.heap.size, 2, none⟩ = some (.int .i64 d) := (blk_cell B56.out 2).trans rfl; have c3 : w6.cell? ⟨w2.heap.size, 3, none⟩ = some (.int .i64 h) := (blk_cell B56.out 3).trans rfl; clear ho hb BR5 BK5 HB5 HR5)))
    refine bodyPost_ret (resRow2 rfl _ _ w0.heap.size 38 #[.int .i64 0, .int .i64 0, .int .i64 0, .int .i64 0] (0, 0) _ (.int .i64 2) rfl rfl bk_ Try.underlying38 rfl (by kernel_rfl)) rfl ?_
    exact ⟨by rw [E0.out], (HB6.out).grown hg_ (below_size HB6.out) (fun k e => by cases e; exact Nat.le_refl _)⟩
  have HTB : Aside0 (0 ≤ geoT a b d h ∧ geoT a b d h ≤ 10000) := ⟨by
    obtain ⟨⟨a0, a1⟩, ⟨b0, b1⟩, ⟨d0, d1⟩, h0, h1⟩ := geoOk_parts hok
    unfold geoT
    rw [if_pos hok]
    have := small_log a0 a1 b0 b1 d0 d1
    omega⟩
  have EO2 : Aside0 (geoGok l = (decide (l.take 64 = geoBy a b d h) && decide ((l.length : Int) = 64 * geoT a b d h))) := ⟨by rw [EO.out, geoBy, if_pos hok]; simp [hok, h64]⟩
  have HBY : Aside0 (Byts (geoBy a b d h)) := ⟨by rw [geoBy, if_pos hok]; exact sealS_byts (geoHead_byts _ _ _ _)⟩
  rw [geoE_ok hok] at WP
  obtain ⟨F, hF⟩ : ∃ F, F = geoBy a b d h := ⟨_, rfl⟩
  obtain ⟨tt, htt⟩ : ∃ tt, tt = geoT a b d h := ⟨_, rfl⟩
  rw [← hF] at WP EO2 HBY
  rw [← htt] at WT EO2 HTB
  have hwt : RowKit.wrap64 (64 * tt) = 64 * tt := by have := HTB.out; unfold RowKit.wrap64; omega
  obtain ⟨f, hf⟩ : ∃ f, f = decide (F = l.take 64) := ⟨_, rfl⟩
  have WE : Aside0 (∀ A c2 W, Kd.C (Kd.int .u8) W A F.length F → Kd.C (Kd.int .u8) W (some ad) l.length l → Calls Try.prog 28 #[.slice A F.length c2, .slice (some ad) 64 c] W fun e w' => e = .returned (.bool f) ∧ w' = W) := ⟨fun A c2 W h1 h2 => by
    have := bEq_same A c2 F (some ad) c (l.take 64) W h1 (Kd.C_take h2 h64) HBY.out (fun x hx => HY.out x (List.mem_of_mem_take hx))
    rw [List.length_take, Nat.min_eq_left h64, ← hf] at this
    exact this⟩
  clear hok hF htt EO
  cases f with
  | false =>
    have E0 : Aside0 (G = ((0, 0, 0, 0), 2)) := ⟨by rw [EG.out, EO2.out]; have := of_decide_eq_false hf.symm; rw [if_neg]; simp; intro h1; exact absurd h1.symm this⟩
    clear hf
    go_wp2_with (first | ((with_reducible refine gate_store (p := 2) rfl ?_); go_loud (refine wpList_store_rowL rfl rfl 38 (.tmp 2) (.tmp 53) rfl (w0.heap.size) #[.int .i64 0, .int .i64 0, .int .i64 0, .int .i64 0] rfl rfl 38 #[.int .i64 0, .int .i64 0, .int .i64 0, .int .i64 0] (BR6.out) (by kernel_rfl) rfl (by simp [Value.oneCell']) ?_; intro w9 bk_ hg_)) | (go_at_call 77; go_loud ((with_reducible refine (WP.out _).mono ?_); rintro e w6 ⟨v6, rfl, ho, hb⟩; obtain ⟨A6, c6, rfl⟩ := Kd.R_slice ho; have HR6 := Aside0.mk (Kd.R_reads' ho).2.2; have BR6 := Aside0.mk (blk_below BR5.out hb); have B56 := Aside0.mk (blk_below BK5.out hb); have HB6 := Aside0.mk (below_step HB5.out hb); have HRl := Aside0.mk (Kd.C_below HR5.out hb); have c0 : w6.cell? ⟨w2.heap.size, 0, none⟩ = some (.int .i64 a) := (blk_cell B56.out 0).trans rfl; have c1 : w6.cell? ⟨w2.heap.size, 1, none⟩ = some (.int .i64 b) := (blk_cell B56.out 1).trans rfl; have c2 : w6.cell? ⟨w2.heap.size, 2, none⟩ = some (.int .i64 d) := (blk_cell B56.out 2).trans rfl; have c3 : w6.cell? ⟨w2.heap.size, 3, none⟩ = some (.int .i64 h) := (blk_cell B56.out 3).trans rfl; clear ho hb BR5 BK5 HB5 HR5)) | (go_at_call 28; go_loud ((with_reducible refine (WE.out _ _ _ HR6.out HRl.out).mono ?_); rintro e w' ⟨rfl, h_⟩; have h_ := h_.symm; subst h_)))
    refine bodyPost_ret (resRow2 rfl _ _ w0.heap.size 38 #[.int .i64 0, .int .i64 0, .int .i64 0, .int .i64 0] (0, 0) _ (.int .i64 2) rfl rfl bk_ Try.underlying38 rfl (by kernel_rfl)) rfl ?_
    exact ⟨by rw [E0.out], (HB6.out).grown hg_ (below_size HB6.out) (fun k e => by cases e; exact Nat.le_refl _)⟩
  | true =>
    have hF2 := of_decide_eq_true hf.symm
    by_cases hlen : (l.length : Int) = 64 * tt
    · have E0 : Aside0 (G = ((a, b, d, h), 0)) := ⟨by rw [EG.out, EO2.out, if_pos]; simp [hF2, hlen]⟩
      have hlb : ((l.length : Int) != 64 * tt) = false := by simpa using hlen
      clear hf hF2 hlen
      go_wp2_with (first | ((with_reducible refine gate_store (p := 2) rfl ?_); go_loud (refine wpList_store_rowL rfl rfl 38 (.tmp 2) (.tmp 54) rfl (w0.heap.size) #[.int .i64 a, .int .i64 b, .int .i64 d, .int .i64 h] rfl rfl 38 #[.int .i64 0, .int .i64 0, .int .i64 0, .int .i64 0] (BR7.out) (by kernel_rfl) rfl (by simp [Value.oneCell']) ?_; intro w9 bk_ hg_)) | (go_at_call 77; go_loud ((with_reducible refine (WP.out _).mono ?_); rintro e w6 ⟨v6, rfl, ho, hb⟩; obtain ⟨A6, c6, rfl⟩ := Kd.R_slice ho; have HR6 := Aside0.mk (Kd.R_reads' ho).2.2; have BR6 := Aside0.mk (blk_below BR5.out hb); have B56 := Aside0.mk (blk_below BK5.out hb); have HB6 := Aside0.mk (below_step HB5.out hb); have HRl := Aside0.mk (Kd.C_below HR5.out hb); have c0 : w6.cell? ⟨w2.heap.size, 0, none⟩ = some (.int .i64 a) := (blk_cell B56.out 0).trans rfl; have c1 : w6.cell? ⟨w2.heap.size, 1, none⟩ = some (.int .i64 b) := (blk_cell B56.out 1).trans rfl; have c2 : w6.cell? ⟨w2.heap.size, 2, none⟩ = some (.int .i64 d) := (blk_cell B56.out 2).trans rfl; have c3 : w6.cell? ⟨w2.heap.size, 3, none⟩ = some (.int .i64 h) := (blk_cell B56.out 3).trans rfl; clear ho hb BR5 BK5 HB5 HR5)) | (go_at_call 28; go_loud ((with_reducible refine (WE.out _ _ _ HR6.out HRl.out).mono ?_); rintro e w' ⟨rfl, h_⟩; have h_ := h_.symm; subst h_)) | (go_at_call 78; go_loud ((with_reducible refine (WT.out _).mono ?_); rintro e w7 ⟨rfl, hb⟩; have BR7 := Aside0.mk (blk_below BR6.out hb); have B57 := Aside0.mk (blk_below B56.out hb); have HB7 := Aside0.mk (below_step HB6.out hb); have d0 : w7.cell? ⟨w2.heap.size, 0, none⟩ = some (.int .i64 a) := (blk_cell B57.out 0).trans rfl; have d1 : w7.cell? ⟨w2.heap.size, 1, none⟩ = some (.int .i64 b) := (blk_cell B57.out 1).trans rfl; have d2 : w7.cell? ⟨w2.heap.size, 2, none⟩ = some (.int .i64 d) := (blk_cell B57.out 2).trans rfl; have d3 : w7.cell? ⟨w2.heap.size, 3, none⟩ = some (.int .i64 h) := (blk_cell B57.out 3).trans rfl; clear hb c0 c1 c2 c3)))
      refine bodyPost_ret (resRow2 rfl _ _ w0.heap.size 38 #[.int .i64 a, .int .i64 b, .int .i64 d, .int .i64 h] (0, 0) _ (.int .i64 0) rfl rfl bk_ Try.underlying38 rfl (by kernel_rfl)) rfl ?_
      exact ⟨by rw [E0.out], (HB7.out).grown hg_ (below_size HB7.out) (fun k e => by cases e; exact Nat.le_refl _)⟩
    · have E0 : Aside0 (G = ((0, 0, 0, 0), 2)) := ⟨by rw [EG.out, EO2.out, if_neg]; simp [hlen]⟩
      have hlb : ((l.length : Int) != 64 * tt) = true := by simpa using hlen
      clear hf hF2 hlen
      go_wp2_with (first | ((with_reducible refine gate_store (p := 2) rfl ?_); go_loud (refine wpList_store_rowL rfl rfl 38 (.tmp 2) (.tmp 53) rfl (w0.heap.size) #[.int .i64 0, .int .i64 0, .int .i64 0, .int .i64 0] rfl rfl 38 #[.int .i64 0, .int .i64 0, .int .i64 0, .int .i64 0] (BR7.out) (by kernel_rfl) rfl (by simp [Value.oneCell']) ?_; intro w9 bk_ hg_)) | (go_at_call 77; go_loud ((with_reducible refine (WP.out _).mono ?_); rintro e w6 ⟨v6, rfl, ho, hb⟩; obtain ⟨A6, c6, rfl⟩ := Kd.R_slice ho; have HR6 := Aside0.mk (Kd.R_reads' ho).2.2; have BR6 := Aside0.mk (blk_below BR5.out hb); have B56 := Aside0.mk (blk_below BK5.out hb); have HB6 := Aside0.mk (below_step HB5.out hb); have HRl := Aside0.mk (Kd.C_below HR5.out hb); have c0 : w6.cell? ⟨w2.heap.size, 0, none⟩ = some (.int .i64 a) := (blk_cell B56.out 0).trans rfl; have c1 : w6.cell? ⟨w2.heap.size, 1, none⟩ = some (.int .i64 b) := (blk_cell B56.out 1).trans rfl; have c2 : w6.cell? ⟨w2.heap.size, 2, none⟩ = some (.int .i64 d) := (blk_cell B56.out 2).trans rfl; have c3 : w6.cell? ⟨w2.heap.size, 3, none⟩ = some (.int .i64 h) := (blk_cell B56.out 3).trans rfl; clear ho hb BR5 BK5 HB5 HR5)) | (go_at_call 28; go_loud ((with_reducible refine (WE.out _ _ _ HR6.out HRl.out).mono ?_); rintro e w' ⟨rfl, h_⟩; have h_ := h_.symm; subst h_)) | (go_at_call 78; go_loud ((with_reducible refine (WT.out _).mono ?_); rintro e w7 ⟨rfl, hb⟩; have BR7 := Aside0.mk (blk_below BR6.out hb); have HB7 := Aside0.mk (below_step HB6.out hb); clear hb c0 c1 c2 c3)))
      refine bodyPost_ret (resRow2 rfl _ _ w0.heap.size 38 #[.int .i64 0, .int .i64 0, .int .i64 0, .int .i64 0] (0, 0) _ (.int .i64 2) rfl rfl bk_ Try.underlying38 rfl (by kernel_rfl)) rfl ?_
      exact ⟨by rw [E0.out], (HB7.out).grown hg_ (below_size HB7.out) (fun k e => by cases e; exact Nat.le_refl _)⟩
end Go.Proofs.Ytdkbhbolkieeiaa.K
namespace Go.Proofs.Ytdkbhbolkieeiaa.K
open Go.RowKit Go.Proofs.YtdkbhbolkieeiaaW.PrintWords Go.Proofs.YtdkbhbolkieeiaaW.PrintLast Go.Proofs.YtdkbhbolkieeiaaW.PrintMore
set_option linter.unusedVariables false
set_option linter.unusedSimpArgs false
def geoUp (a b c d s : Int) : Bool := geoOk a b c d && win s (geoB a b c d 0) (geoL a b c d - 1)
def capJ (a b c d : Int) : Int := if geoOk a b c d = true then (d - 1) / 2 else 0
set_option maxHeartbeats 1000000 in
set_option maxRecDepth 100000 in
theorem geoUp_walk (a b c d s : Int) (w0 : World) :
    Calls Try.prog 62 #[.agg #[.int .i64 a, .int .i64 b, .int .i64 c, .int .i64 d], .int .i64 s] w0 fun e w' => e = .returned (.bool (geoUp a b c d s)) ∧ Below w0.heap.size w0 w' := by
  have EU : Aside0 (geoUp a b c d s = (geoOk a b c d && win s (geoB a b c d 0) (geoL a b c d - 1))) := ⟨rfl⟩
  have WK : Aside0 (∀ W, Calls Try.prog 59 #[.agg #[.int .i64 a, .int .i64 b, .int .i64 c, .int .i64 d]] W fun e w' => e = .returned (.int .i64 (geoE a b c d)) ∧ Below W.heap.size W w') := ⟨fun W => (geoCheck_walk a b c d W).mono fun e w' h => ⟨h.1, by rw [h.2]; exact below_alloc (Below.refl _ _) _⟩⟩
  have WP : Aside0 (∀ W, Calls Try.prog 99 #[.agg #[.int .i64 a, .int .i64 b, .int .i64 c, .int .i64 d], .int .i64 0] W fun e w' => e = .returned (.int .i64 (geoB a b c d 0)) ∧ Below W.heap.size W w') := ⟨fun W => geoBitmap_walk a b c d 0 W⟩
  have WL : Aside0 (∀ W, Calls Try.prog 71 #[.agg #[.int .i64 a, .int .i64 b, .int .i64 c, .int .i64 d]] W fun e w' => e = .returned (.int .i64 (geoL a b c d)) ∧ Below W.heap.size W w') := ⟨fun W => geoLog_walk a b c d W⟩
  obtain ⟨R, hR⟩ : ∃ R, R = geoUp a b c d s := ⟨_, rfl⟩
  rw [← hR] at EU
  rw [← hR]
  clear hR
  by_cases hok : geoOk a b c d = true
  case neg =>
    have hf : geoOk a b c d = false := by simpa using hok
    have E0 : Aside0 (R = false) := ⟨by rw [EU.out, hf]; rfl⟩
    have e1 : geoE a b c d = 1 := by unfold geoE; rw [if_neg hok]
    rw [e1] at WK
    clear hok hf e1
    go_enter Try.func62, Try.ntmps62
    go_wp2
    obtain ⟨w1, hw1⟩ : ∃ w1, w1 = w0.alloc (.cells #[.int .i64 a, .int .i64 b, .int .i64 c, .int .i64 d] 38) := ⟨_, rfl⟩
    have HB1 : Aside0 (Below w0.heap.size w0 w1) := ⟨by rw [hw1]; exact below_alloc (Below.refl _ _) _⟩
    have BK1 : Aside0 (w1.heap[w0.heap.size]? = some (.cells #[.int .i64 a, .int .i64 b, .int .i64 c, .int .i64 d] 38 (0, 0))) := ⟨by rw [hw1]; exact heap_alloc_new _ _⟩
    rw [← hw1]
    clear hw1
    refine start_ (n := 13) (S := fun w' => w'.cell? ⟨w0.heap.size, 0, none⟩ = some (.int .i64 a) ∧ w'.cell? ⟨w0.heap.size, 1, none⟩ = some (.int .i64 b) ∧ w'.cell? ⟨w0.heap.size, 2, none⟩ = some (.int .i64 c) ∧ w'.cell? ⟨w0.heap.size, 3, none⟩ = some (.int .i64 d)) (ds := []) #[false, false, false, false, false, false, false, false, false, false, false, false, false] (by kernel_rfl) rfl rfl ⟨((blk_cell (blk_drew BK1.out) 0).trans rfl), ((blk_cell (blk_drew BK1.out) 1).trans rfl), ((blk_cell (blk_drew BK1.out) 2).trans rfl), ((blk_cell (blk_drew BK1.out) 3).trans rfl)⟩ (fun hHeld => ?_)
    refine take_ (i := 0) (N := some 5) (v := ?_) (a' := ?_) #[true, false, false, false, false, false, false, false, false, false, false, false, false] rfl rfl (by kernel_rfl) (fun _ _ _ h => h) (Or.inl ⟨by rfl, ?_⟩) hHeld ?_ ?_
    rotate_left
    · rintro w' ⟨s0, s1, s2, s3⟩
      go_simp
      with_reducible rfl
    rotate_left
    · simp only [Act.put, List.setIfInBounds_toArray, List.set_cons_zero, List.set_cons_succ, i64_w, i32_w]
      rfl
    refine one_ (i := 1) (N := some 6) #[true, true, false, false, false, false, false, false, false, false, false, false, false] rfl rfl (by kernel_rfl) (by decide) (fun K hK => ?_)
    clear hHeld
    refine goes_ Try.func59 (by kernel_rfl) rfl #[.agg #[.int .i64 a, .int .i64 b, .int .i64 c, .int .i64 d]] (by rfl) rfl rfl (by simp only [List.map_toArray, List.map_cons, List.map_nil]; rfl) ?_
    with_reducible refine (WK.out _).mono ?_
    rintro e w2 ⟨rfl, hb2⟩
    refine ⟨_, rfl, ?_⟩
    have BK2 := Aside0.mk (blk_below (blk_drew BK1.out) hb2)
    have HB2 := Aside0.mk (below_step (below_drew1 HB1.out) hb2)
    clear BK1 HB1
    refine hK.out _ _ ⟨((blk_cell BK2.out 0).trans rfl), ((blk_cell BK2.out 1).trans rfl), ((blk_cell BK2.out 2).trans rfl), ((blk_cell BK2.out 3).trans rfl)⟩ (fun hHeld => ?_)
    clear hK K
    refine norm_ (a' := ?_) ?_ ?_
    rotate_left
    · show Act.put _ (some 6) _ = _
      simp only [Act.put, List.setIfInBounds_toArray, List.set_cons_zero, List.set_cons_succ, i64_w, i32_w]
      rfl
    refine pure_ (i := 2) (N := some 7) (v := ?_) (a' := ?_) #[true, true, true, false, false, false, false, false, false, false, false, false, false] rfl rfl (by kernel_rfl) (fun _ _ _ h => h) (Or.inl ⟨by rfl, ?_⟩) ?_ ?_
    rotate_left
    · intro w'
      go_simp
      with_reducible rfl
    rotate_left
    · simp only [Act.put, List.setIfInBounds_toArray, List.set_cons_zero, List.set_cons_succ, i64_w, i32_w]
      rfl
    refine pure_ (i := 3) (N := some 8) (v := ?_) (a' := ?_) #[true, true, true, true, false, false, false, false, false, false, false, false, false] rfl rfl (by kernel_rfl) (fun _ _ _ h => h) (Or.inl ⟨by rfl, ?_⟩) ?_ ?_
    rotate_left
    · intro w'
      go_simp
      with_reducible rfl
    rotate_left
    · simp only [Act.put, List.setIfInBounds_toArray, List.set_cons_zero, List.set_cons_succ, i64_w, i32_w]
      rfl
    refine pure_ (i := 4) (N := some 9) (v := undef) (a' := ?_) #[true, true, true, true, true, false, false, false, false, false, false, false, false] rfl rfl (by kernel_rfl) (fun _ _ _ h => h) (Or.inr ⟨by rfl, rfl⟩) ?_ ?_
    rotate_left
    · simp only [Act.put, List.setIfInBounds_toArray, List.set_cons_zero, List.set_cons_succ, i64_w, i32_w]
      rfl
    refine pure_ (i := 5) (N := some 10) (v := undef) (a' := ?_) #[true, true, true, true, true, true, false, false, false, false, false, false, false] rfl rfl (by kernel_rfl) (fun _ _ _ h => h) (Or.inr ⟨by rfl, rfl⟩) ?_ ?_
    rotate_left
    · simp only [Act.put, List.setIfInBounds_toArray, List.set_cons_zero, List.set_cons_succ, i64_w, i32_w]
      rfl
    refine pure_ (i := 6) (N := some 11) (v := undef) (a' := ?_) #[true, true, true, true, true, true, true, false, false, false, false, false, false] rfl rfl (by kernel_rfl) (fun _ _ _ h => h) (Or.inr ⟨by rfl, rfl⟩) ?_ ?_
    rotate_left
    · simp only [Act.put, List.setIfInBounds_toArray, List.set_cons_zero, List.set_cons_succ, i64_w, i32_w]
      rfl
    refine pure_ (i := 7) (N := some 12) (v := undef) (a' := ?_) #[true, true, true, true, true, true, true, true, false, false, false, false, false] rfl rfl (by kernel_rfl) (fun _ _ _ h => h) (Or.inr ⟨by rfl, rfl⟩) ?_ ?_
    rotate_left
    · simp only [Act.put, List.setIfInBounds_toArray, List.set_cons_zero, List.set_cons_succ, i64_w, i32_w]
      rfl
    refine pure_ (i := 8) (N := some 13) (v := undef) (a' := ?_) #[true, true, true, true, true, true, true, true, true, false, false, false, false] rfl rfl (by kernel_rfl) (fun _ _ _ h => h) (Or.inr ⟨by rfl, rfl⟩) ?_ ?_
    rotate_left
    · simp only [Act.put, List.setIfInBounds_toArray, List.set_cons_zero, List.set_cons_succ, i64_w, i32_w]
      rfl
    refine pure_ (i := 9) (N := some 14) (v := undef) (a' := ?_) #[true, true, true, true, true, true, true, true, true, true, false, false, false] rfl rfl (by kernel_rfl) (fun _ _ _ h => h) (Or.inr ⟨by rfl, rfl⟩) ?_ ?_
    rotate_left
    · simp only [Act.put, List.setIfInBounds_toArray, List.set_cons_zero, List.set_cons_succ, i64_w, i32_w]
      rfl
    refine pure_ (i := 10) (N := some 15) (v := undef) (a' := ?_) #[true, true, true, true, true, true, true, true, true, true, true, false, false] rfl rfl (by kernel_rfl) (fun _ _ _ h => h) (Or.inr ⟨by rfl, rfl⟩) ?_ ?_
    rotate_left
    · simp only [Act.put, List.setIfInBounds_toArray, List.set_cons_zero, List.set_cons_succ, i64_w, i32_w]
      rfl
    refine pure_ (i := 11) (N := some 16) (v := ?_) (a' := ?_) #[true, true, true, true, true, true, true, true, true, true, true, true, false] rfl rfl (by kernel_rfl) (fun _ _ _ h => h) (Or.inl ⟨by rfl, ?_⟩) ?_ ?_
    rotate_left
    · intro w'
      go_simp
      with_reducible rfl
    rotate_left
    · simp only [Act.put, List.setIfInBounds_toArray, List.set_cons_zero, List.set_cons_succ, i64_w, i32_w]
      rfl
    refine pure_ (i := 12) (N := some 4) (v := ?_) (a' := ?_) #[true, true, true, true, true, true, true, true, true, true, true, true, true] rfl rfl (by kernel_rfl) (fun _ _ _ h => h) (Or.inl ⟨by rfl, ?_⟩) ?_ ?_
    rotate_left
    · intro w'
      go_simp
      with_reducible rfl
    rotate_left
    · simp only [Act.put, List.setIfInBounds_toArray, List.set_cons_zero, List.set_cons_succ, i64_w, i32_w]
      rfl
    refine done_ (by kernel_rfl) ?_
    go_wp2
    go_ret
    exact ⟨by rw [E0.out]; rfl, HB2.out⟩
  have hp := geoOk_parts hok
  have e1 : geoE a b c d = 0 := by unfold geoE; rw [if_pos hok]
  obtain ⟨p, hpB⟩ : ∃ p, p = geoB a b c d 0 := ⟨_, rfl⟩
  obtain ⟨q, hqL⟩ : ∃ q, q = geoL a b c d := ⟨_, rfl⟩
  have hq0 : 0 ≤ q ∧ q ≤ 100000 := by
    have h1 : (a + 1) * (1 + b + c) ≤ 4 * (1 + b + c) := Int.mul_le_mul_of_nonneg_right (by omega) (by omega)
    have h2 : 0 ≤ (a + 1) * (1 + b + c) := Int.mul_nonneg (by omega) (by omega)
    rw [hqL]; unfold geoL; rw [if_pos hok]; omega
  have hw : RowKit.wrap64 (q - 1) = q - 1 := by unfold RowKit.wrap64; omega
  have WW : Aside0 (∀ W, Calls Try.prog 98 #[.int .i64 s, .int .i64 p, .int .i64 (RowKit.wrap64 (q - 1))] W fun e w' => e = .returned (.bool R) ∧ Below W.heap.size W w') := ⟨fun W => by
    rw [hw]
    refine (within_walk s p (q - 1) W).mono ?_
    rintro e w' ⟨rfl, rfl⟩
    exact ⟨by rw [EU.out, hok, hpB, hqL]; rfl, Below.refl _ _⟩⟩
  rw [e1] at WK
  rw [← hpB] at WP
  rw [← hqL] at WL
  clear hp hpB hqL hq0 hok e1 hw EU
  go_enter Try.func62, Try.ntmps62
  go_wp2
  obtain ⟨w1, hw1⟩ : ∃ w1, w1 = w0.alloc (.cells #[.int .i64 a, .int .i64 b, .int .i64 c, .int .i64 d] 38) := ⟨_, rfl⟩
  have HB1 : Aside0 (Below w0.heap.size w0 w1) := ⟨by rw [hw1]; exact below_alloc (Below.refl _ _) _⟩
  have BK1 : Aside0 (w1.heap[w0.heap.size]? = some (.cells #[.int .i64 a, .int .i64 b, .int .i64 c, .int .i64 d] 38 (0, 0))) := ⟨by rw [hw1]; exact heap_alloc_new _ _⟩
  rw [← hw1]
  clear hw1
  refine start_ (n := 13) (S := fun w' => w'.cell? ⟨w0.heap.size, 0, none⟩ = some (.int .i64 a) ∧ w'.cell? ⟨w0.heap.size, 1, none⟩ = some (.int .i64 b) ∧ w'.cell? ⟨w0.heap.size, 2, none⟩ = some (.int .i64 c) ∧ w'.cell? ⟨w0.heap.size, 3, none⟩ = some (.int .i64 d)) (ds := []) #[false, false, false, false, false, false, false, false, false, false, false, false, false] (by kernel_rfl) rfl rfl ⟨((blk_cell (blk_drew BK1.out) 0).trans rfl), ((blk_cell (blk_drew BK1.out) 1).trans rfl), ((blk_cell (blk_drew BK1.out) 2).trans rfl), ((blk_cell (blk_drew BK1.out) 3).trans rfl)⟩ (fun hHeld => ?_)
  refine take_ (i := 0) (N := some 5) (v := ?_) (a' := ?_) #[true, false, false, false, false, false, false, false, false, false, false, false, false] rfl rfl (by kernel_rfl) (fun _ _ _ h => h) (Or.inl ⟨by rfl, ?_⟩) hHeld ?_ ?_
  rotate_left
  · rintro w' ⟨s0, s1, s2, s3⟩
    go_simp
    with_reducible rfl
  rotate_left
  · simp only [Act.put, List.setIfInBounds_toArray, List.set_cons_zero, List.set_cons_succ, i64_w, i32_w]
    rfl
  refine one_ (i := 1) (N := some 6) #[true, true, false, false, false, false, false, false, false, false, false, false, false] rfl rfl (by kernel_rfl) (by decide) (fun K hK => ?_)
  clear hHeld
  refine goes_ Try.func59 (by kernel_rfl) rfl #[.agg #[.int .i64 a, .int .i64 b, .int .i64 c, .int .i64 d]] (by rfl) rfl rfl (by simp only [List.map_toArray, List.map_cons, List.map_nil]; rfl) ?_
  with_reducible refine (WK.out _).mono ?_
  rintro e w2 ⟨rfl, hb2⟩
  refine ⟨_, rfl, ?_⟩
  have BK2 := Aside0.mk (blk_below (blk_drew BK1.out) hb2)
  have HB2 := Aside0.mk (below_step (below_drew1 HB1.out) hb2)
  clear BK1 HB1
  refine hK.out _ _ ⟨((blk_cell BK2.out 0).trans rfl), ((blk_cell BK2.out 1).trans rfl), ((blk_cell BK2.out 2).trans rfl), ((blk_cell BK2.out 3).trans rfl)⟩ (fun hHeld => ?_)
  clear hK K
  refine norm_ (a' := ?_) ?_ ?_
  rotate_left
  · show Act.put _ (some 6) _ = _
    simp only [Act.put, List.setIfInBounds_toArray, List.set_cons_zero, List.set_cons_succ, i64_w, i32_w]
    rfl
  refine pure_ (i := 2) (N := some 7) (v := ?_) (a' := ?_) #[true, true, true, false, false, false, false, false, false, false, false, false, false] rfl rfl (by kernel_rfl) (fun _ _ _ h => h) (Or.inl ⟨by rfl, ?_⟩) ?_ ?_
  rotate_left
  · intro w'
    go_simp
    with_reducible rfl
  rotate_left
  · simp only [Act.put, List.setIfInBounds_toArray, List.set_cons_zero, List.set_cons_succ, i64_w, i32_w]
    rfl
  refine pure_ (i := 3) (N := some 8) (v := ?_) (a' := ?_) #[true, true, true, true, false, false, false, false, false, false, false, false, false] rfl rfl (by kernel_rfl) (fun _ _ _ h => h) (Or.inl ⟨by rfl, ?_⟩) ?_ ?_
  rotate_left
  · intro w'
    go_simp
    with_reducible rfl
  rotate_left
  · simp only [Act.put, List.setIfInBounds_toArray, List.set_cons_zero, List.set_cons_succ, i64_w, i32_w]
    rfl
  refine pure_ (i := 4) (N := some 9) (v := ?_) (a' := ?_) #[true, true, true, true, true, false, false, false, false, false, false, false, false] rfl rfl (by kernel_rfl) (fun _ _ _ h => h) (Or.inl ⟨by rfl, ?_⟩) ?_ ?_
  rotate_left
  · intro w'
    go_simp
    with_reducible rfl
  rotate_left
  · simp only [Act.put, List.setIfInBounds_toArray, List.set_cons_zero, List.set_cons_succ, i64_w, i32_w]
    rfl
  refine take_ (i := 5) (N := some 10) (v := ?_) (a' := ?_) #[true, true, true, true, true, true, false, false, false, false, false, false, false] rfl rfl (by kernel_rfl) (fun _ _ _ h => h) (Or.inl ⟨by rfl, ?_⟩) hHeld ?_ ?_
  rotate_left
  · rintro w' ⟨s0, s1, s2, s3⟩
    go_simp
    with_reducible rfl
  rotate_left
  · simp only [Act.put, List.setIfInBounds_toArray, List.set_cons_zero, List.set_cons_succ, i64_w, i32_w]
    rfl
  refine take_ (i := 7) (N := some 12) (v := ?_) (a' := ?_) #[true, true, true, true, true, true, false, true, false, false, false, false, false] rfl rfl (by kernel_rfl) (fun _ _ _ h => h) (Or.inl ⟨by rfl, ?_⟩) hHeld ?_ ?_
  rotate_left
  · rintro w' ⟨s0, s1, s2, s3⟩
    go_simp
    with_reducible rfl
  rotate_left
  · simp only [Act.put, List.setIfInBounds_toArray, List.set_cons_zero, List.set_cons_succ, i64_w, i32_w]
    rfl
  refine one_ (i := 6) (N := some 11) #[true, true, true, true, true, true, true, true, false, false, false, false, false] rfl rfl (by kernel_rfl) (by decide) (fun K hK => ?_)
  clear hHeld
  refine goes_ Try.func99 (by kernel_rfl) rfl #[.agg #[.int .i64 a, .int .i64 b, .int .i64 c, .int .i64 d], .int .i64 0] (by rfl) rfl rfl (by simp only [List.map_toArray, List.map_cons, List.map_nil]; rfl) ?_
  with_reducible refine (WP.out _).mono ?_
  rintro e w3 ⟨rfl, hb3⟩
  refine ⟨_, rfl, ?_⟩
  have BK3 := Aside0.mk (blk_below BK2.out hb3)
  have HB3 := Aside0.mk (below_step HB2.out hb3)
  clear BK2 HB2
  refine hK.out _ _ ⟨((blk_cell BK3.out 0).trans rfl), ((blk_cell BK3.out 1).trans rfl), ((blk_cell BK3.out 2).trans rfl), ((blk_cell BK3.out 3).trans rfl)⟩ (fun hHeld => ?_)
  clear hK K
  refine norm_ (a' := ?_) ?_ ?_
  rotate_left
  · show Act.put _ (some 11) _ = _
    simp only [Act.put, List.setIfInBounds_toArray, List.set_cons_zero, List.set_cons_succ, i64_w, i32_w]
    rfl
  refine one_ (i := 8) (N := some 13) #[true, true, true, true, true, true, true, true, true, false, false, false, false] rfl rfl (by kernel_rfl) (by decide) (fun K hK => ?_)
  clear hHeld
  refine goes_ Try.func71 (by kernel_rfl) rfl #[.agg #[.int .i64 a, .int .i64 b, .int .i64 c, .int .i64 d]] (by rfl) rfl rfl (by simp only [List.map_toArray, List.map_cons, List.map_nil]; rfl) ?_
  with_reducible refine (WL.out _).mono ?_
  rintro e w4 ⟨rfl, hb4⟩
  refine ⟨_, rfl, ?_⟩
  have BK4 := Aside0.mk (blk_below BK3.out hb4)
  have HB4 := Aside0.mk (below_step HB3.out hb4)
  clear BK3 HB3
  refine hK.out _ _ ⟨((blk_cell BK4.out 0).trans rfl), ((blk_cell BK4.out 1).trans rfl), ((blk_cell BK4.out 2).trans rfl), ((blk_cell BK4.out 3).trans rfl)⟩ (fun hHeld => ?_)
  clear hK K
  refine norm_ (a' := ?_) ?_ ?_
  rotate_left
  · show Act.put _ (some 13) _ = _
    simp only [Act.put, List.setIfInBounds_toArray, List.set_cons_zero, List.set_cons_succ, i64_w, i32_w]
    rfl
  refine pure_ (i := 9) (N := some 14) (v := ?_) (a' := ?_) #[true, true, true, true, true, true, true, true, true, true, false, false, false] rfl rfl (by kernel_rfl) (fun _ _ _ h => h) (Or.inl ⟨by rfl, ?_⟩) ?_ ?_
  rotate_left
  · intro w'
    go_simp
    with_reducible rfl
  rotate_left
  · simp only [Act.put, List.setIfInBounds_toArray, List.set_cons_zero, List.set_cons_succ, i64_w, i32_w]
    rfl
  refine one_ (i := 10) (N := some 15) #[true, true, true, true, true, true, true, true, true, true, true, false, false] rfl rfl (by kernel_rfl) (by decide) (fun K hK => ?_)
  clear hHeld
  refine goes_ Try.func98 (by kernel_rfl) rfl #[.int .i64 s, .int .i64 p, .int .i64 (RowKit.wrap64 (q - 1))] (by rfl) rfl rfl (by simp only [List.map_toArray, List.map_cons, List.map_nil]; rfl) ?_
  with_reducible refine (WW.out _).mono ?_
  rintro e w5 ⟨rfl, hb5⟩
  refine ⟨_, rfl, ?_⟩
  have BK5 := Aside0.mk (blk_below BK4.out hb5)
  have HB5 := Aside0.mk (below_step HB4.out hb5)
  clear BK4 HB4
  refine hK.out _ _ ⟨((blk_cell BK5.out 0).trans rfl), ((blk_cell BK5.out 1).trans rfl), ((blk_cell BK5.out 2).trans rfl), ((blk_cell BK5.out 3).trans rfl)⟩ (fun hHeld => ?_)
  clear hK K
  refine norm_ (a' := ?_) ?_ ?_
  rotate_left
  · show Act.put _ (some 15) _ = _
    simp only [Act.put, List.setIfInBounds_toArray, List.set_cons_zero, List.set_cons_succ, i64_w, i32_w]
    rfl
  refine pure_ (i := 11) (N := some 16) (v := ?_) (a' := ?_) #[true, true, true, true, true, true, true, true, true, true, true, true, false] rfl rfl (by kernel_rfl) (fun _ _ _ h => h) (Or.inl ⟨by rfl, ?_⟩) ?_ ?_
  rotate_left
  · intro w'
    go_simp
    with_reducible rfl
  rotate_left
  · simp only [Act.put, List.setIfInBounds_toArray, List.set_cons_zero, List.set_cons_succ, i64_w, i32_w]
    rfl
  refine pure_ (i := 12) (N := some 4) (v := ?_) (a' := ?_) #[true, true, true, true, true, true, true, true, true, true, true, true, true] rfl rfl (by kernel_rfl) (fun _ _ _ h => h) (Or.inl ⟨by rfl, ?_⟩) ?_ ?_
  rotate_left
  · intro w'
    go_simp
    with_reducible rfl
  rotate_left
  · simp only [Act.put, List.setIfInBounds_toArray, List.set_cons_zero, List.set_cons_succ, i64_w, i32_w]
    rfl
  refine done_ (by kernel_rfl) ?_
  go_wp2
  go_ret
  exact ⟨rfl, HB5.out⟩
set_option maxRecDepth 100000 in
theorem capJ_walk (a b c d : Int) (w : World) :
    Calls Try.prog 24 #[.agg #[.int .i64 a, .int .i64 b, .int .i64 c, .int .i64 d]] w fun e w' => e = .returned (.int .i64 (capJ a b c d)) ∧ Below w.heap.size w w' := by
  have WK : Aside0 (∀ W, Calls Try.prog 59 #[.agg #[.int .i64 a, .int .i64 b, .int .i64 c, .int .i64 d]] W fun e w' => e = .returned (.int .i64 (geoE a b c d)) ∧ w' = W.alloc (.cells #[.int .i64 a, .int .i64 b, .int .i64 c, .int .i64 d] 38)) := ⟨fun W => geoCheck_walk a b c d W⟩
  by_cases hok : geoOk a b c d = true
  case neg =>
    have E0 : Aside0 (capJ a b c d = 0) := ⟨by unfold capJ; rw [if_neg hok]⟩
    have e1 : geoE a b c d = 1 := by unfold geoE; rw [if_neg hok]
    rw [e1] at WK
    clear hok e1
    go_enter Try.func24, Try.ntmps24
    go_wp2_with (go_at_call 59; (with_reducible refine (WK.out _).mono ?_); rintro e w' ⟨rfl, h_⟩; have h_ := h_.symm; subst h_)
    go_ret
    exact ⟨by rw [E0.out]; rfl, below_alloc (below_alloc (Below.refl _ _) _) _⟩
  have hp := geoOk_parts hok
  have E0 : Aside0 (capJ a b c d = RowKit.wrap64 ((d - 1).tdiv 2)) := ⟨by unfold capJ; rw [if_pos hok, Int.tdiv_eq_ediv_of_nonneg (by omega)]; unfold RowKit.wrap64; omega⟩
  have e1 : geoE a b c d = 0 := by unfold geoE; rw [if_pos hok]
  have hw : RowKit.wrap64 (d - 1) = d - 1 := by unfold RowKit.wrap64; omega
  rw [e1] at WK
  clear hp hok e1
  go_enter Try.func24, Try.ntmps24
  go_wp2_with (go_at_call 59; (with_reducible refine (WK.out _).mono ?_); rintro e w' ⟨rfl, h_⟩; have h_ := h_.symm; subst h_)
  go_ret
  exact ⟨by rw [E0.out]; rfl, below_alloc (below_alloc (Below.refl _ _) _) _⟩
end Go.Proofs.Ytdkbhbolkieeiaa.K
namespace Go.Proofs.Ytdkbhbolkieeiaa.K
open Go.RowKit Go.Proofs.YtdkbhbolkieeiaaW.PrintWords Go.Proofs.YtdkbhbolkieeiaaW.PrintLast Go.Proofs.YtdkbhbolkieeiaaW.PrintMore
set_option linter.unusedVariables false
set_option linter.unusedSimpArgs false
def inoV (k im nl ge sz p0 p1 p2 p3 at_ : Int) : Value := .agg #[.int .i64 k, .int .i64 im, .int .i64 nl, .int .i64 ge, .int .i64 sz, .int .i64 p0, .int .i64 p1, .int .i64 p2, .int .i64 p3, .int .i64 at_]
def inoN (k im nl ge sz p0 p1 p2 p3 at_ : Int) : Value := .agg #[.int .i64 k, .int .i64 1, .int .i64 4, .int .i64 im, .int .i64 1, .int .i64 255, .int .i64 nl, .int .i64 2, .int .i64 65535, .int .i64 ge, .int .i64 4, .int .i64 268435455, .int .i64 sz, .int .i64 2, .int .i64 256,
  .int .i64 p0, .int .i64 2, .int .i64 65535, .int .i64 p1, .int .i64 2, .int .i64 65535, .int .i64 p2, .int .i64 2, .int .i64 65535, .int .i64 p3, .int .i64 2, .int .i64 65535, .int .i64 at_, .int .i64 2, .int .i64 65535]
theorem heap_at {W : World} {o : Obj} {g : Nat} (hg : W.heap.size = g) : (W.alloc o).heap[g]? = some o := by
  subst hg
  exact heap_alloc_new _ _
end Go.Proofs.Ytdkbhbolkieeiaa.K
namespace Go.Proofs.Ytdkbhbolkieeiaa.K
open Go.RowKit Go.Proofs.YtdkbhbolkieeiaaW.PrintWords Go.Proofs.YtdkbhbolkieeiaaW.PrintLast Go.Proofs.YtdkbhbolkieeiaaW.PrintMore
set_option linter.unusedVariables false
set_option linter.unusedSimpArgs false
def inoRow (k im nl ge sz p0 p1 p2 p3 at_ : Int) : Nat → Int × Int × Int
  | 0 => (k, 1, 4) | 1 => (im, 1, 255) | 2 => (nl, 2, 65535) | 3 => (ge, 4, 268435455) | 4 => (sz, 2, 256)
  | 5 => (p0, 2, 65535) | 6 => (p1, 2, 65535) | 7 => (p2, 2, 65535) | 8 => (p3, 2, 65535) | _ => (at_, 2, 65535)
theorem lt10 {m : Nat} (h : m < 10) : m = 0 ∨ m = 1 ∨ m = 2 ∨ m = 3 ∨ m = 4 ∨ m = 5 ∨ m = 6 ∨ m = 7 ∨ m = 8 ∨ m = 9 := by omega
end Go.Proofs.Ytdkbhbolkieeiaa.K
namespace Go.Proofs.Ytdkbhbolkieeiaa.K
open Go.RowKit Go.Proofs.YtdkbhbolkieeiaaW.PrintWords Go.Proofs.YtdkbhbolkieeiaaW.PrintLast Go.Proofs.YtdkbhbolkieeiaaW.PrintMore
set_option linter.unusedVariables false
set_option linter.unusedSimpArgs false
theorem inoR_rows {k im nl ge sz p0 p1 p2 p3 at_ : Int} (h : ∀ j, j < 10 → 0 ≤ (inoRow k im nl ge sz p0 p1 p2 p3 at_ j).1 ∧ (inoRow k im nl ge sz p0 p1 p2 p3 at_ j).1 ≤ (inoRow k im nl ge sz p0 p1 p2 p3 at_ j).2.2) : inoR k im nl ge sz p0 p1 p2 p3 at_ = true := by
  have h0 := h 0 (by omega)
  have h1 := h 1 (by omega)
  have h2 := h 2 (by omega)
  have h3 := h 3 (by omega)
  have h4 := h 4 (by omega)
  have h5 := h 5 (by omega)
  have h6 := h 6 (by omega)
  have h7 := h 7 (by omega)
  have h8 := h 8 (by omega)
  have h9 := h 9 (by omega)
  simp only [inoRow] at h0 h1 h2 h3 h4 h5 h6 h7 h8 h9
  simp only [inoR, rgB, Bool.and_eq_true, decide_eq_true_eq]
  omega
theorem inoR_not {k im nl ge sz p0 p1 p2 p3 at_ : Int} {j : Nat} (hj : j < 10) (h : (inoRow k im nl ge sz p0 p1 p2 p3 at_ j).1 < 0 ∨ (inoRow k im nl ge sz p0 p1 p2 p3 at_ j).2.2 < (inoRow k im nl ge sz p0 p1 p2 p3 at_ j).1) : inoR k im nl ge sz p0 p1 p2 p3 at_ = false := by
  cases hb : inoR k im nl ge sz p0 p1 p2 p3 at_ with
  | false => rfl
  | true =>
    obtain ⟨h0, h1, h2, h3, h4, h5, h6, h7, h8, h9⟩ := inoR_parts hb
    rcases lt10 hj with rfl | rfl | rfl | rfl | rfl | rfl | rfl | rfl | rfl | rfl <;> simp only [inoRow] at h <;> omega
end Go.Proofs.Ytdkbhbolkieeiaa.K
namespace Go.Proofs.Ytdkbhbolkieeiaa.K
open Go.RowKit Go.Proofs.YtdkbhbolkieeiaaW.PrintWords Go.Proofs.YtdkbhbolkieeiaaW.PrintLast Go.Proofs.YtdkbhbolkieeiaaW.PrintMore
set_option linter.unusedVariables false
set_option linter.unusedSimpArgs false
theorem rCount_walk (n top : Int) (w : World) : Calls Try.prog 140 #[.int .i64 n, .int .i64 top] w fun e w' => e = .returned (.bool (rgB n top)) ∧ w' = w := by
  by_cases h0 : 0 ≤ n
  · have E0 : Aside0 (rgB n top = decide (n ≤ top)) := ⟨by simp [rgB, h0]⟩
    go_enter Try.func140, Try.ntmps140
    go_wp2
    go_ret
    exact ⟨by rw [E0.out]; rfl, rfl⟩
  · have E0 : Aside0 (rgB n top = false) := ⟨by simp [rgB]; omega⟩
    have h1 : n < 0 := by omega
    clear h0
    go_enter Try.func140, Try.ntmps140
    go_wp2
    go_ret
    exact ⟨by rw [E0.out]; rfl, rfl⟩
def pN (p0 p1 p2 p3 : Int) : Nat → Int
  | 0 => p0 | 1 => p1 | 2 => p2 | _ => p3
theorem lt4 {m : Nat} (h : m < 4) : m = 0 ∨ m = 1 ∨ m = 2 ∨ m = 3 := by omega
theorem inoOk_count {k im nl ge sz p0 p1 p2 p3 at_ : Int} (hz : inoZ k im nl ge sz p0 p1 p2 p3 at_ = false) (h : k < 1 ∨ 4 < k ∨ rgB im 255 = false ∨ rgB nl 65535 = false ∨ rgB at_ 65535 = false ∨ rgB ge 268435455 = false ∨ rgB sz 256 = false ∨ ((k = 1 ∨ k = 4) ∧ sz ≠ 0) ∨ ∃ m, m < 4 ∧ (rgB (pN p0 p1 p2 p3 m) 65535 = false ∨ k = 4 ∧ pN p0 p1 p2 p3 m ≠ 0)) : inoOk k im nl ge sz p0 p1 p2 p3 at_ = false := by
  cases hb : inoOk k im nl ge sz p0 p1 p2 p3 at_ with
  | false => rfl
  | true =>
    exfalso
    unfold inoOk at hb
    rw [hz] at hb
    simp only [Bool.false_or, Bool.and_eq_true] at hb
    obtain ⟨hr, ho⟩ := hb
    have hr' := hr
    simp only [inoR, Bool.and_eq_true] at hr'
    obtain ⟨g0, g1, g2, g3, g4, g5, g6, g7, g8, g9⟩ := hr'
    have k0 := rgB_true g0
    rcases h with h | h | h | h | h | h | h | ⟨h, hs⟩ | ⟨m, hm, h | ⟨h, hp⟩⟩
    · have : k = 0 := by omega
      subst this; simp [inoOdd] at ho
    · omega
    · rw [g1] at h; cases h
    · rw [g2] at h; cases h
    · rw [g9] at h; cases h
    · rw [g3] at h; cases h
    · rw [g4] at h; cases h
    · rcases h with rfl | rfl <;> simp [inoOdd] at ho <;> omega
    · rcases lt4 hm with rfl | rfl | rfl | rfl <;> simp only [pN] at h
      · rw [g5] at h; cases h
      · rw [g6] at h; cases h
      · rw [g7] at h; cases h
      · rw [g8] at h; cases h
    · subst h
      simp [inoOdd] at ho
      rcases lt4 hm with rfl | rfl | rfl | rfl <;> simp only [pN] at hp <;> omega
theorem inoOk_yes {k im nl ge sz p0 p1 p2 p3 at_ : Int} (h0 : 1 ≤ k) (h4 : k ≤ 4) (h1 : rgB im 255 = true) (h2 : rgB nl 65535 = true) (h3 : rgB at_ 65535 = true) (h5 : rgB ge 268435455 = true) (h6 : rgB sz 256 = true) (hs : (k = 1 ∨ k = 4) → sz = 0)
    (hp : ∀ m, m < 4 → rgB (pN p0 p1 p2 p3 m) 65535 = true ∧ (k = 4 → pN p0 p1 p2 p3 m = 0)) : inoOk k im nl ge sz p0 p1 p2 p3 at_ = true := by
  have q0 := hp 0 (by omega)
  have q1 := hp 1 (by omega)
  have q2 := hp 2 (by omega)
  have q3 := hp 3 (by omega)
  simp only [pN] at q0 q1 q2 q3
  have hr : inoR k im nl ge sz p0 p1 p2 p3 at_ = true := by
    unfold inoR
    rw [h1, h2, h3, h5, h6, q0.1, q1.1, q2.1, q3.1, show rgB k 4 = true by simp [rgB]; omega]
    rfl
  have ho : inoOdd k sz p0 p1 p2 p3 = false := by
    unfold inoOdd
    by_cases a : k = 1
    · rw [if_pos a, hs (.inl a)]; rfl
    · rw [if_neg a]
      by_cases b : k = 4
      · rw [if_pos b, hs (.inr b), q0.2 b, q1.2 b, q2.2 b, q3.2 b]; rfl
      · rw [if_neg b]; simp; omega
  unfold inoOk
  rw [hr, ho]; simp
set_option maxHeartbeats 4000000 in
set_option maxRecDepth 100000 in
theorem r07Right_walk (k im nl ge sz p0 p1 p2 p3 at_ : Int) (w : World) : Calls Try.prog 136 #[inoV k im nl ge sz p0 p1 p2 p3 at_] w fun e w' => e = .returned (.bool (inoOk k im nl ge sz p0 p1 p2 p3 at_)) ∧ Below w.heap.size w w' := by
  unfold inoV
  by_cases hz : inoZ k im nl ge sz p0 p1 p2 p3 at_ = true
  · have E0 : Aside0 (inoOk k im nl ge sz p0 p1 p2 p3 at_ = true) := ⟨by unfold inoOk; rw [hz]; rfl⟩
    have q : ∀ w, (Op.equalIn 10000 70 (.agg #[.int .i64 k, .int .i64 im, .int .i64 nl, .int .i64 ge, .int .i64 sz, .int .i64 p0, .int .i64 p1, .int .i64 p2, .int .i64 p3, .int .i64 at_]) (.agg #[.int .i64 0, .int .i64 0, .int .i64 0, .int .i64 0, .int .i64 0, .int .i64 0, .int .i64 0, .int .i64 0, .int .i64 0, .int .i64 0])).run Try.prog w = .ok true w := fun w => by
      rw [eqIno 9997 w]; unfold inoZ at hz; rw [hz]
    clear hz
    go_enter Try.func136, Try.ntmps136
    go_wp2
    go_ret
    exact ⟨by rw [E0.out]; rfl, (by repeat (first | exact Below.refl _ _ | apply Below.drew | apply below_alloc))⟩
  have hzf : inoZ k im nl ge sz p0 p1 p2 p3 at_ = false := by simpa using hz
  have q : ∀ w, (Op.equalIn 10000 70 (.agg #[.int .i64 k, .int .i64 im, .int .i64 nl, .int .i64 ge, .int .i64 sz, .int .i64 p0, .int .i64 p1, .int .i64 p2, .int .i64 p3, .int .i64 at_]) (.agg #[.int .i64 0, .int .i64 0, .int .i64 0, .int .i64 0, .int .i64 0, .int .i64 0, .int .i64 0, .int .i64 0, .int .i64 0, .int .i64 0])).run Try.prog w = .ok false w := fun w => by
    rw [eqIno 9997 w]; unfold inoZ at hzf; rw [hzf]
  have HZ := Aside0.mk hzf
  have F0 := Aside0.mk (inoOk_count hzf)
  have WC := Aside0.mk (fun n t W => rCount_walk n t W)
  clear hz hzf
  by_cases c0 : k < 1
  · have E0 : Aside0 (inoOk k im nl ge sz p0 p1 p2 p3 at_ = false) := ⟨F0.out (.inl c0)⟩
    go_enter Try.func136, Try.ntmps136
    go_wp2
    go_ret
    exact ⟨by rw [E0.out]; rfl, (by repeat (first | exact Below.refl _ _ | apply Below.drew | apply below_alloc))⟩
  have d0 : 1 ≤ k := by omega
  clear c0
  by_cases c1 : 4 < k
  · have E0 : Aside0 (inoOk k im nl ge sz p0 p1 p2 p3 at_ = false) := ⟨F0.out (.inr (.inl c1))⟩
    go_enter Try.func136, Try.ntmps136
    go_wp2
    go_ret
    exact ⟨by rw [E0.out]; rfl, (by repeat (first | exact Below.refl _ _ | apply Below.drew | apply below_alloc))⟩
  have d1 : k ≤ 4 := by omega
  clear c1
  cases rim : rgB im 255 with
  | false =>
    have Cim := Aside0.mk rim
    have E0 : Aside0 (inoOk k im nl ge sz p0 p1 p2 p3 at_ = false) := ⟨F0.out (.inr (.inr (.inl rim)))⟩
    clear rim
    go_enter Try.func136, Try.ntmps136
    go_wp2_with (first | (go_at_call 140; (with_reducible refine (WC.out im 255 _).mono ?_); rintro e w' ⟨rfl, h_⟩; have h_ := h_.symm; subst h_; rw [Cim.out]))
    go_ret
    exact ⟨by rw [E0.out]; rfl, (by repeat (first | exact Below.refl _ _ | apply Below.drew | apply below_alloc))⟩
  | true =>
  have Cim := Aside0.mk rim
  clear rim
  cases rnl : rgB nl 65535 with
  | false =>
    have Cnl := Aside0.mk rnl
    have E0 : Aside0 (inoOk k im nl ge sz p0 p1 p2 p3 at_ = false) := ⟨F0.out (.inr (.inr (.inr (.inl rnl))))⟩
    clear rnl
    go_enter Try.func136, Try.ntmps136
    go_wp2_with (first | (go_at_call 140; (with_reducible refine (WC.out im 255 _).mono ?_); rintro e w' ⟨rfl, h_⟩; have h_ := h_.symm; subst h_; rw [Cim.out]) | (go_at_call 140; (with_reducible refine (WC.out nl 65535 _).mono ?_); rintro e w' ⟨rfl, h_⟩; have h_ := h_.symm; subst h_; rw [Cnl.out]))
    go_ret
    exact ⟨by rw [E0.out]; rfl, (by repeat (first | exact Below.refl _ _ | apply Below.drew | apply below_alloc))⟩
  | true =>
  have Cnl := Aside0.mk rnl
  clear rnl
  cases rat_ : rgB at_ 65535 with
  | false =>
    have Cat_ := Aside0.mk rat_
    have E0 : Aside0 (inoOk k im nl ge sz p0 p1 p2 p3 at_ = false) := ⟨F0.out (.inr (.inr (.inr (.inr (.inl rat_)))))⟩
    clear rat_
    go_enter Try.func136, Try.ntmps136
    go_wp2_with (first | (go_at_call 140; (with_reducible refine (WC.out im 255 _).mono ?_); rintro e w' ⟨rfl, h_⟩; have h_ := h_.symm; subst h_; rw [Cim.out]) | (go_at_call 140; (with_reducible refine (WC.out nl 65535 _).mono ?_); rintro e w' ⟨rfl, h_⟩; have h_ := h_.symm; subst h_; rw [Cnl.out]) | (go_at_call 140; (with_reducible refine (WC.out at_ 65535 _).mono ?_); rintro e w' ⟨rfl, h_⟩; have h_ := h_.symm; subst h_; rw [Cat_.out]))
    go_ret
    exact ⟨by rw [E0.out]; rfl, (by repeat (first | exact Below.refl _ _ | apply Below.drew | apply below_alloc))⟩
  | true =>
  have Cat_ := Aside0.mk rat_
  clear rat_
  cases rge : rgB ge 268435455 with
  | false =>
    have Cge := Aside0.mk rge
    have E0 : Aside0 (inoOk k im nl ge sz p0 p1 p2 p3 at_ = false) := ⟨F0.out (.inr (.inr (.inr (.inr (.inr (.inl rge))))))⟩
    clear rge
    go_enter Try.func136, Try.ntmps136
    go_wp2_with (first | (go_at_call 140; (with_reducible refine (WC.out im 255 _).mono ?_); rintro e w' ⟨rfl, h_⟩; have h_ := h_.symm; subst h_; rw [Cim.out]) | (go_at_call 140; (with_reducible refine (WC.out nl 65535 _).mono ?_); rintro e w' ⟨rfl, h_⟩; have h_ := h_.symm; subst h_; rw [Cnl.out]) | (go_at_call 140; (with_reducible refine (WC.out at_ 65535 _).mono ?_); rintro e w' ⟨rfl, h_⟩; have h_ := h_.symm; subst h_; rw [Cat_.out]) | (go_at_call 140; (with_reducible refine (WC.out ge 268435455 _).mono ?_); rintro e w' ⟨rfl, h_⟩; have h_ := h_.symm; subst h_; rw [Cge.out]))
    go_ret
    exact ⟨by rw [E0.out]; rfl, (by repeat (first | exact Below.refl _ _ | apply Below.drew | apply below_alloc))⟩
  | true =>
  have Cge := Aside0.mk rge
  clear rge
  cases rsz : rgB sz 256 with
  | false =>
    have Csz := Aside0.mk rsz
    have E0 : Aside0 (inoOk k im nl ge sz p0 p1 p2 p3 at_ = false) := ⟨F0.out (.inr (.inr (.inr (.inr (.inr (.inr (.inl rsz)))))))⟩
    clear rsz
    go_enter Try.func136, Try.ntmps136
    go_wp2_with (first | (go_at_call 140; (with_reducible refine (WC.out im 255 _).mono ?_); rintro e w' ⟨rfl, h_⟩; have h_ := h_.symm; subst h_; rw [Cim.out]) | (go_at_call 140; (with_reducible refine (WC.out nl 65535 _).mono ?_); rintro e w' ⟨rfl, h_⟩; have h_ := h_.symm; subst h_; rw [Cnl.out]) | (go_at_call 140; (with_reducible refine (WC.out at_ 65535 _).mono ?_); rintro e w' ⟨rfl, h_⟩; have h_ := h_.symm; subst h_; rw [Cat_.out]) | (go_at_call 140; (with_reducible refine (WC.out ge 268435455 _).mono ?_); rintro e w' ⟨rfl, h_⟩; have h_ := h_.symm; subst h_; rw [Cge.out]) | (go_at_call 140; (with_reducible refine (WC.out sz 256 _).mono ?_); rintro e w' ⟨rfl, h_⟩; have h_ := h_.symm; subst h_; rw [Csz.out]))
    go_ret
    exact ⟨by rw [E0.out]; rfl, (by repeat (first | exact Below.refl _ _ | apply Below.drew | apply below_alloc))⟩
  | true =>
  have Csz := Aside0.mk rsz
  clear rsz
  by_cases hs : (k = 1 ∨ k = 4) ∧ sz ≠ 0
  · have E0 : Aside0 (inoOk k im nl ge sz p0 p1 p2 p3 at_ = false) := ⟨F0.out (.inr (.inr (.inr (.inr (.inr (.inr (.inr (.inl hs))))))))⟩
    obtain ⟨hk, hs⟩ := hs
    have hsb : (sz != 0) = true := by simp [hs]
    clear hs
    rcases hk with rfl | rfl
    all_goals
      clear d0 d1
      go_enter Try.func136, Try.ntmps136
      go_wp2_with (first | (go_at_call 140; (with_reducible refine (WC.out _ 255 _).mono ?_); rintro e w' ⟨rfl, h_⟩; have h_ := h_.symm; subst h_; rw [Cim.out]) | (go_at_call 140; (with_reducible refine (WC.out _ 65535 _).mono ?_); rintro e w' ⟨rfl, h_⟩; have h_ := h_.symm; subst h_; rw [Cnl.out]) | (go_at_call 140; (with_reducible refine (WC.out _ 65535 _).mono ?_); rintro e w' ⟨rfl, h_⟩; have h_ := h_.symm; subst h_; rw [Cat_.out]) | (go_at_call 140; (with_reducible refine (WC.out _ 268435455 _).mono ?_); rintro e w' ⟨rfl, h_⟩; have h_ := h_.symm; subst h_; rw [Cge.out]) | (go_at_call 140; (with_reducible refine (WC.out _ 256 _).mono ?_); rintro e w' ⟨rfl, h_⟩; have h_ := h_.symm; subst h_; rw [Csz.out]))
      go_ret
      exact ⟨by rw [E0.out]; rfl, (by repeat (first | exact Below.refl _ _ | apply Below.drew | apply below_alloc))⟩
  have HS : Aside0 ((k = 1 ∨ k = 4) → sz = 0) := ⟨fun h => by
    by_cases h0 : sz = 0
    · exact h0
    · exact absurd ⟨h, h0⟩ hs⟩
  have HY : Aside0 ((∀ m, m < 4 → rgB (pN p0 p1 p2 p3 m) 65535 = true ∧ (k = 4 → pN p0 p1 p2 p3 m = 0)) → inoOk k im nl ge sz p0 p1 p2 p3 at_ = true) := ⟨fun hp => inoOk_yes d0 d1 Cim.out Cnl.out Cat_.out Cge.out Csz.out HS.out hp⟩
  have HC : Aside0 (∀ m, m < 4 → (w.alloc (.cells #[.int .i64 k, .int .i64 im, .int .i64 nl, .int .i64 ge, .int .i64 sz, .int .i64 p0, .int .i64 p1, .int .i64 p2, .int .i64 p3, .int .i64 at_] 70)).cell? ⟨w.heap.size, 5 + m, none⟩ = some (.int .i64 (pN p0 p1 p2 p3 m))) := ⟨fun m hm => by
    rcases lt4 hm with rfl | rfl | rfl | rfl <;> simp only [pN] <;> go_simp⟩
  have hk14 : k = 1 ∨ k = 4 ∨ k = 2 ∨ k = 3 := by omega
  clear d0 d1 hs
  rcases hk14 with rfl | rfl | rfl | rfl
  · have hs0 := HS.out (.inl rfl)
    subst hs0
    clear HS
    go_enter Try.func136, Try.ntmps136
    go_wp2_with (first | (go_at_call 140; (with_reducible refine (WC.out _ 255 _).mono ?_); rintro e w' ⟨rfl, h_⟩; have h_ := h_.symm; subst h_; rw [Cim.out]) | (go_at_call 140; (with_reducible refine (WC.out _ 65535 _).mono ?_); rintro e w' ⟨rfl, h_⟩; have h_ := h_.symm; subst h_; rw [Cnl.out]) | (go_at_call 140; (with_reducible refine (WC.out _ 65535 _).mono ?_); rintro e w' ⟨rfl, h_⟩; have h_ := h_.symm; subst h_; rw [Cat_.out]) | (go_at_call 140; (with_reducible refine (WC.out _ 268435455 _).mono ?_); rintro e w' ⟨rfl, h_⟩; have h_ := h_.symm; subst h_; rw [Cge.out]) | (go_at_call 140; (with_reducible refine (WC.out _ 256 _).mono ?_); rintro e w' ⟨rfl, h_⟩; have h_ := h_.symm; subst h_; rw [Csz.out]))
    go_loop [3] (fun v3 => ∃ m : Nat, v3 = .int .i64 m ∧ Aside0 (m ≤ 4) ∧ Aside0 (∀ j, j < m → rgB (pN p0 p1 p2 p3 j) 65535 = true ∧ ((1 : Int) = 4 → pN p0 p1 p2 p3 j = 0))) (fun i => 4 - (intOf i).toNat)
    case atStart => exact ⟨0, rfl, ⟨by omega⟩, ⟨fun j hj => absurd hj (by omega)⟩⟩
    case round =>
      obtain ⟨m, rfl, hm, hall⟩ := hrel
      have hm' := hm.out
      by_cases hlt : m < 4
      · have hc := HC.out m hlt
        obtain ⟨x, hx⟩ : ∃ x, x = pN p0 p1 p2 p3 m := ⟨_, rfl⟩
        rw [← hx] at hc
        cases hr : rgB x 65535 with
        | false =>
          have E0 : Aside0 (inoOk 1 im nl ge 0 p0 p1 p2 p3 at_ = false) := ⟨F0.out (.inr (.inr (.inr (.inr (.inr (.inr (.inr (.inr ⟨m, hlt, .inl (by rw [← hx]; exact hr)⟩))))))))⟩
          have CR := Aside0.mk hr
          clear hx hr
          go_wp2_with (go_at_call 140; (with_reducible refine (WC.out x 65535 _).mono ?_); rintro e w' ⟨rfl, h_⟩; have h_ := h_.symm; subst h_; rw [CR.out])
          go_ret
          exact ⟨by rw [E0.out]; rfl, (by repeat (first | exact Below.refl _ _ | apply Below.drew | apply below_alloc))⟩
        | true =>
          have CR := Aside0.mk hr
          have HA : Aside0 (∀ j, j < m + 1 → rgB (pN p0 p1 p2 p3 j) 65535 = true ∧ ((1 : Int) = 4 → pN p0 p1 p2 p3 j = 0)) := ⟨fun j hj => by
            by_cases hjm : j = m
            · subst hjm; rw [← hx]; exact ⟨hr, fun h => absurd h (by decide)⟩
            · exact hall.out j (by omega)⟩
          clear hx hr
          go_wp2_with (go_at_call 140; (with_reducible refine (WC.out x 65535 _).mono ?_); rintro e w' ⟨rfl, h_⟩; have h_ := h_.symm; subst h_; rw [CR.out])
          exact ⟨⟨m + 1, rfl, ⟨by omega⟩, HA⟩, by simp [intOf]; omega⟩
      · have hmn : 4 ≤ m := by omega
        have E0 : Aside0 (inoOk 1 im nl ge 0 p0 p1 p2 p3 at_ = true) := ⟨HY.out fun j hj => by have h := hall.out j (by omega); exact ⟨h.1, fun hq => h.2 (by first | exact hq | trivial | (simp at hq))⟩⟩
        go_wp2
        go_ret
        exact ⟨by rw [E0.out]; rfl, (by repeat (first | exact Below.refl _ _ | apply Below.drew | apply below_alloc))⟩
  · have hs0 := HS.out (.inr rfl)
    subst hs0
    clear HS
    go_enter Try.func136, Try.ntmps136
    go_wp2_with (first | (go_at_call 140; (with_reducible refine (WC.out _ 255 _).mono ?_); rintro e w' ⟨rfl, h_⟩; have h_ := h_.symm; subst h_; rw [Cim.out]) | (go_at_call 140; (with_reducible refine (WC.out _ 65535 _).mono ?_); rintro e w' ⟨rfl, h_⟩; have h_ := h_.symm; subst h_; rw [Cnl.out]) | (go_at_call 140; (with_reducible refine (WC.out _ 65535 _).mono ?_); rintro e w' ⟨rfl, h_⟩; have h_ := h_.symm; subst h_; rw [Cat_.out]) | (go_at_call 140; (with_reducible refine (WC.out _ 268435455 _).mono ?_); rintro e w' ⟨rfl, h_⟩; have h_ := h_.symm; subst h_; rw [Cge.out]) | (go_at_call 140; (with_reducible refine (WC.out _ 256 _).mono ?_); rintro e w' ⟨rfl, h_⟩; have h_ := h_.symm; subst h_; rw [Csz.out]))
    go_loop [3] (fun v3 => ∃ m : Nat, v3 = .int .i64 m ∧ Aside0 (m ≤ 4) ∧ Aside0 (∀ j, j < m → rgB (pN p0 p1 p2 p3 j) 65535 = true ∧ ((4 : Int) = 4 → pN p0 p1 p2 p3 j = 0))) (fun i => 4 - (intOf i).toNat)
    case atStart => exact ⟨0, rfl, ⟨by omega⟩, ⟨fun j hj => absurd hj (by omega)⟩⟩
    case round =>
      obtain ⟨m, rfl, hm, hall⟩ := hrel
      have hm' := hm.out
      by_cases hlt : m < 4
      · have hc := HC.out m hlt
        obtain ⟨x, hx⟩ : ∃ x, x = pN p0 p1 p2 p3 m := ⟨_, rfl⟩
        rw [← hx] at hc
        cases hr : rgB x 65535 with
        | false =>
          have E0 : Aside0 (inoOk 4 im nl ge 0 p0 p1 p2 p3 at_ = false) := ⟨F0.out (.inr (.inr (.inr (.inr (.inr (.inr (.inr (.inr ⟨m, hlt, .inl (by rw [← hx]; exact hr)⟩))))))))⟩
          have CR := Aside0.mk hr
          clear hx hr
          go_wp2_with (go_at_call 140; (with_reducible refine (WC.out x 65535 _).mono ?_); rintro e w' ⟨rfl, h_⟩; have h_ := h_.symm; subst h_; rw [CR.out])
          go_ret
          exact ⟨by rw [E0.out]; rfl, (by repeat (first | exact Below.refl _ _ | apply Below.drew | apply below_alloc))⟩
        | true =>
          have CR := Aside0.mk hr
          by_cases hx0 : x = 0
          case neg =>
            have E0 : Aside0 (inoOk 4 im nl ge 0 p0 p1 p2 p3 at_ = false) := ⟨F0.out (.inr (.inr (.inr (.inr (.inr (.inr (.inr (.inr ⟨m, hlt, .inr ⟨(by first | exact rfl | trivial), by rw [← hx]; exact hx0⟩⟩))))))))⟩
            have hxb : (x != 0) = true := by simp [hx0]
            clear hx hr hx0
            go_wp2_with (go_at_call 140; (with_reducible refine (WC.out x 65535 _).mono ?_); rintro e w' ⟨rfl, h_⟩; have h_ := h_.symm; subst h_; rw [CR.out])
            go_ret
            exact ⟨by rw [E0.out]; rfl, (by repeat (first | exact Below.refl _ _ | apply Below.drew | apply below_alloc))⟩
          have hxb : (x != 0) = false := by simp [hx0]
          have HA : Aside0 (∀ j, j < m + 1 → rgB (pN p0 p1 p2 p3 j) 65535 = true ∧ ((4 : Int) = 4 → pN p0 p1 p2 p3 j = 0)) := ⟨fun j hj => by
            by_cases hjm : j = m
            · subst hjm; rw [← hx]; exact ⟨hr, fun h => hx0⟩
            · exact hall.out j (by omega)⟩
          clear hx hr hx0
          go_wp2_with (go_at_call 140; (with_reducible refine (WC.out x 65535 _).mono ?_); rintro e w' ⟨rfl, h_⟩; have h_ := h_.symm; subst h_; rw [CR.out])
          exact ⟨⟨m + 1, rfl, ⟨by omega⟩, HA⟩, by simp [intOf]; omega⟩
      · have hmn : 4 ≤ m := by omega
        have E0 : Aside0 (inoOk 4 im nl ge 0 p0 p1 p2 p3 at_ = true) := ⟨HY.out fun j hj => by have h := hall.out j (by omega); exact ⟨h.1, fun hq => h.2 (by first | exact hq | trivial | (simp at hq))⟩⟩
        go_wp2
        go_ret
        exact ⟨by rw [E0.out]; rfl, (by repeat (first | exact Below.refl _ _ | apply Below.drew | apply below_alloc))⟩
  · skip
    clear HS
    go_enter Try.func136, Try.ntmps136
    go_wp2_with (first | (go_at_call 140; (with_reducible refine (WC.out _ 255 _).mono ?_); rintro e w' ⟨rfl, h_⟩; have h_ := h_.symm; subst h_; rw [Cim.out]) | (go_at_call 140; (with_reducible refine (WC.out _ 65535 _).mono ?_); rintro e w' ⟨rfl, h_⟩; have h_ := h_.symm; subst h_; rw [Cnl.out]) | (go_at_call 140; (with_reducible refine (WC.out _ 65535 _).mono ?_); rintro e w' ⟨rfl, h_⟩; have h_ := h_.symm; subst h_; rw [Cat_.out]) | (go_at_call 140; (with_reducible refine (WC.out _ 268435455 _).mono ?_); rintro e w' ⟨rfl, h_⟩; have h_ := h_.symm; subst h_; rw [Cge.out]) | (go_at_call 140; (with_reducible refine (WC.out _ 256 _).mono ?_); rintro e w' ⟨rfl, h_⟩; have h_ := h_.symm; subst h_; rw [Csz.out]))
    go_loop [3] (fun v3 => ∃ m : Nat, v3 = .int .i64 m ∧ Aside0 (m ≤ 4) ∧ Aside0 (∀ j, j < m → rgB (pN p0 p1 p2 p3 j) 65535 = true ∧ ((2 : Int) = 4 → pN p0 p1 p2 p3 j = 0))) (fun i => 4 - (intOf i).toNat)
    case atStart => exact ⟨0, rfl, ⟨by omega⟩, ⟨fun j hj => absurd hj (by omega)⟩⟩
    case round =>
      obtain ⟨m, rfl, hm, hall⟩ := hrel
      have hm' := hm.out
      by_cases hlt : m < 4
      · have hc := HC.out m hlt
        obtain ⟨x, hx⟩ : ∃ x, x = pN p0 p1 p2 p3 m := ⟨_, rfl⟩
        rw [← hx] at hc
        cases hr : rgB x 65535 with
        | false =>
          have E0 : Aside0 (inoOk 2 im nl ge sz p0 p1 p2 p3 at_ = false) := ⟨F0.out (.inr (.inr (.inr (.inr (.inr (.inr (.inr (.inr ⟨m, hlt, .inl (by rw [← hx]; exact hr)⟩))))))))⟩
          have CR := Aside0.mk hr
          clear hx hr
          go_wp2_with (go_at_call 140; (with_reducible refine (WC.out x 65535 _).mono ?_); rintro e w' ⟨rfl, h_⟩; have h_ := h_.symm; subst h_; rw [CR.out])
          go_ret
          exact ⟨by rw [E0.out]; rfl, (by repeat (first | exact Below.refl _ _ | apply Below.drew | apply below_alloc))⟩
        | true =>
          have CR := Aside0.mk hr
          have HA : Aside0 (∀ j, j < m + 1 → rgB (pN p0 p1 p2 p3 j) 65535 = true ∧ ((2 : Int) = 4 → pN p0 p1 p2 p3 j = 0)) := ⟨fun j hj => by
            by_cases hjm : j = m
            · subst hjm; rw [← hx]; exact ⟨hr, fun h => absurd h (by decide)⟩
            · exact hall.out j (by omega)⟩
          clear hx hr
          go_wp2_with (go_at_call 140; (with_reducible refine (WC.out x 65535 _).mono ?_); rintro e w' ⟨rfl, h_⟩; have h_ := h_.symm; subst h_; rw [CR.out])
          exact ⟨⟨m + 1, rfl, ⟨by omega⟩, HA⟩, by simp [intOf]; omega⟩
      · have hmn : 4 ≤ m := by omega
        have E0 : Aside0 (inoOk 2 im nl ge sz p0 p1 p2 p3 at_ = true) := ⟨HY.out fun j hj => by have h := hall.out j (by omega); exact ⟨h.1, fun hq => h.2 (by first | exact hq | trivial | (simp at hq))⟩⟩
        go_wp2
        go_ret
        exact ⟨by rw [E0.out]; rfl, (by repeat (first | exact Below.refl _ _ | apply Below.drew | apply below_alloc))⟩
  · skip
    clear HS
    go_enter Try.func136, Try.ntmps136
    go_wp2_with (first | (go_at_call 140; (with_reducible refine (WC.out _ 255 _).mono ?_); rintro e w' ⟨rfl, h_⟩; have h_ := h_.symm; subst h_; rw [Cim.out]) | (go_at_call 140; (with_reducible refine (WC.out _ 65535 _).mono ?_); rintro e w' ⟨rfl, h_⟩; have h_ := h_.symm; subst h_; rw [Cnl.out]) | (go_at_call 140; (with_reducible refine (WC.out _ 65535 _).mono ?_); rintro e w' ⟨rfl, h_⟩; have h_ := h_.symm; subst h_; rw [Cat_.out]) | (go_at_call 140; (with_reducible refine (WC.out _ 268435455 _).mono ?_); rintro e w' ⟨rfl, h_⟩; have h_ := h_.symm; subst h_; rw [Cge.out]) | (go_at_call 140; (with_reducible refine (WC.out _ 256 _).mono ?_); rintro e w' ⟨rfl, h_⟩; have h_ := h_.symm; subst h_; rw [Csz.out]))
    go_loop [3] (fun v3 => ∃ m : Nat, v3 = .int .i64 m ∧ Aside0 (m ≤ 4) ∧ Aside0 (∀ j, j < m → rgB (pN p0 p1 p2 p3 j) 65535 = true ∧ ((3 : Int) = 4 → pN p0 p1 p2 p3 j = 0))) (fun i => 4 - (intOf i).toNat)
    case atStart => exact ⟨0, rfl, ⟨by omega⟩, ⟨fun j hj => absurd hj (by omega)⟩⟩
    case round =>
      obtain ⟨m, rfl, hm, hall⟩ := hrel
      have hm' := hm.out
      by_cases hlt : m < 4
      · have hc := HC.out m hlt
        obtain ⟨x, hx⟩ : ∃ x, x = pN p0 p1 p2 p3 m := ⟨_, rfl⟩
        rw [← hx] at hc
        cases hr : rgB x 65535 with
        | false =>
          have E0 : Aside0 (inoOk 3 im nl ge sz p0 p1 p2 p3 at_ = false) := ⟨F0.out (.inr (.inr (.inr (.inr (.inr (.inr (.inr (.inr ⟨m, hlt, .inl (by rw [← hx]; exact hr)⟩))))))))⟩
          have CR := Aside0.mk hr
          clear hx hr
          go_wp2_with (go_at_call 140; (with_reducible refine (WC.out x 65535 _).mono ?_); rintro e w' ⟨rfl, h_⟩; have h_ := h_.symm; subst h_; rw [CR.out])
          go_ret
          exact ⟨by rw [E0.out]; rfl, (by repeat (first | exact Below.refl _ _ | apply Below.drew | apply below_alloc))⟩
        | true =>
          have CR := Aside0.mk hr
          have HA : Aside0 (∀ j, j < m + 1 → rgB (pN p0 p1 p2 p3 j) 65535 = true ∧ ((3 : Int) = 4 → pN p0 p1 p2 p3 j = 0)) := ⟨fun j hj => by
            by_cases hjm : j = m
            · subst hjm; rw [← hx]; exact ⟨hr, fun h => absurd h (by decide)⟩
            · exact hall.out j (by omega)⟩
          clear hx hr
          go_wp2_with (go_at_call 140; (with_reducible refine (WC.out x 65535 _).mono ?_); rintro e w' ⟨rfl, h_⟩; have h_ := h_.symm; subst h_; rw [CR.out])
          exact ⟨⟨m + 1, rfl, ⟨by omega⟩, HA⟩, by simp [intOf]; omega⟩
      · have hmn : 4 ≤ m := by omega
        have E0 : Aside0 (inoOk 3 im nl ge sz p0 p1 p2 p3 at_ = true) := ⟨HY.out fun j hj => by have h := hall.out j (by omega); exact ⟨h.1, fun hq => h.2 (by first | exact hq | trivial | (simp at hq))⟩⟩
        go_wp2
        go_ret
        exact ⟨by rw [E0.out]; rfl, (by repeat (first | exact Below.refl _ _ | apply Below.drew | apply below_alloc))⟩
end Go.Proofs.Ytdkbhbolkieeiaa.K
