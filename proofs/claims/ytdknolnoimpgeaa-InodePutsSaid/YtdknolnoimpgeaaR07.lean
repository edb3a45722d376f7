/- The reference of chapter 7: count, Right, Fresh. -/
import Derived.Test.YtdknolnoimpgeaaK07c
namespace Go.Proofs.Ytdknolnoimpgeaa.K
open Go.RowKit Go.Proofs.YtdknolnoimpgeaaW.PrintWords Go.Proofs.YtdknolnoimpgeaaW.PrintLast Go.Proofs.YtdknolnoimpgeaaW.PrintMore
set_option linter.unusedVariables false
set_option linter.unusedSimpArgs false
theorem rCount_walk (n top : Int) (w : World) : Calls Try.prog 108 #[.int .i64 n, .int .i64 top] w fun e w' => e = .returned (.bool (rgB n top)) ∧ w' = w := by
  by_cases h0 : 0 ≤ n
  · have E0 : Aside0 (rgB n top = decide (n ≤ top)) := ⟨by simp [rgB, h0]⟩
    go_enter Try.func108, Try.ntmps108
    go_wp2
    go_ret
    exact ⟨by rw [E0.out]; rfl, rfl⟩
  · have E0 : Aside0 (rgB n top = false) := ⟨by simp [rgB]; omega⟩
    have h1 : n < 0 := by omega
    clear h0
    go_enter Try.func108, Try.ntmps108
    go_wp2
    go_ret
    exact ⟨by rw [E0.out]; rfl, rfl⟩
set_option maxRecDepth 100000 in
theorem rFresh_walk (w : World) : Calls Try.prog 50 #[] w fun e w' => e = .returned (inoV 1 0 2 0 0 0 0 0 0 0) ∧ Below w.heap.size w w' := by
  unfold inoV
  go_enter Try.func50, Try.ntmps50
  go_wp2
  refine bodyPost_ret (results_cell_row rfl _ _ w.heap.size 54 #[.int .i64 1, .int .i64 0, .int .i64 2, .int .i64 0, .int .i64 0, .int .i64 0, .int .i64 0, .int .i64 0, .int .i64 0, .int .i64 0] (0, 0) _ rfl (by exact heap_alloc_new _ _) Try.underlying54 rfl (by kernel_rfl)) rfl ?_
  exact ⟨by first | rfl | (go_simp; rfl), (by repeat (first | exact Below.refl _ _ | apply Below.drew | apply below_alloc))⟩
def pN (p0 p1 p2 p3 : Int) : Nat → Int
  | 0 => p0 | 1 => p1 | 2 => p2 | _ => p3
theorem lt4 {m : Nat} (h : m < 4) : m = 0 ∨ m = 1 ∨ m = 2 ∨ m = 3 := by omega
theorem inoOk_count {k im nl ge sz p0 p1 p2 p3 at_ : Int} (hz : inoZ k im nl ge sz p0 p1 p2 p3 at_ = false) (h : k < 1 ∨ 4 < k ∨ rgB im 255 = false ∨ rgB nl 65535 = false ∨ rgB at_ 65535 = false ∨ rgB ge 268435455 = false ∨ rgB sz 256 = false ∨ ((k = 1 ∨ k = 4) ∧ sz ≠ 0) ∨ ∃ m, m < 4 ∧ (rgB (pN p0 p1 p2 p3 m) 65535 = false ∨ k = 4 ∧ pN p0 p1 p2 p3 m ≠ 0)) : inoOk k im nl ge sz p0 p1 p2 p3 at_ = false := by
  cases hb : inoOk k im nl ge sz p0 p1 p2 p3 at_ with
  | false => rfl
  | true =>
    exfalso
    unfold inoOk at hb
    rw [hz] at hb
    simp only [Bool.false_or, Bool.and_eq_true] at hb
    obtain ⟨hr, ho⟩ := hb
    have hr' := hr
    simp only [inoR, Bool.and_eq_true] at hr'
    obtain ⟨g0, g1, g2, g3, g4, g5, g6, g7, g8, g9⟩ := hr'
    have k0 := rgB_true g0
    rcases h with h | h | h | h | h | h | h | ⟨h, hs⟩ | ⟨m, hm, h | ⟨h, hp⟩⟩
    · have : k = 0 := by omega
      subst this; simp [inoOdd] at ho
    · omega
    · rw [g1] at h; cases h
    · rw [g2] at h; cases h
    · rw [g9] at h; cases h
    · rw [g3] at h; cases h
    · rw [g4] at h; cases h
    · rcases h with rfl | rfl <;> simp [inoOdd] at ho <;> omega
    · rcases lt4 hm with rfl | rfl | rfl | rfl <;> simp only [pN] at h
      · rw [g5] at h; cases h
      · rw [g6] at h; cases h
      · rw [g7] at h; cases h
      · rw [g8] at h; cases h
    · subst h
      simp [inoOdd] at ho
      rcases lt4 hm with rfl | rfl | rfl | rfl <;> simp only [pN] at hp <;> omega
theorem inoOk_yes {k im nl ge sz p0 p1 p2 p3 at_ : Int} (h0 : 1 ≤ k) (h4 : k ≤ 4) (h1 : rgB im 255 = true) (h2 : rgB nl 65535 = true) (h3 : rgB at_ 65535 = true) (h5 : rgB ge 268435455 = true) (h6 : rgB sz 256 = true) (hs : (k = 1 ∨ k = 4) → sz = 0)
    (hp : ∀ m, m < 4 → rgB (pN p0 p1 p2 p3 m) 65535 = true ∧ (k = 4 → pN p0 p1 p2 p3 m = 0)) : inoOk k im nl ge sz p0 p1 p2 p3 at_ = true := by
  have q0 := hp 0 (by omega)
  have q1 := hp 1 (by omega)
  have q2 := hp 2 (by omega)
  have q3 := hp 3 (by omega)
  simp only [pN] at q0 q1 q2 q3
  have hr : inoR k im nl ge sz p0 p1 p2 p3 at_ = true := by
    unfold inoR
    rw [h1, h2, h3, h5, h6, q0.1, q1.1, q2.1, q3.1, show rgB k 4 = true by simp [rgB]; omega]
    rfl
  have ho : inoOdd k sz p0 p1 p2 p3 = false := by
    unfold inoOdd
    by_cases a : k = 1
    · rw [if_pos a, hs (.inl a)]; rfl
    · rw [if_neg a]
      by_cases b : k = 4
      · rw [if_pos b, hs (.inr b), q0.2 b, q1.2 b, q2.2 b, q3.2 b]; rfl
      · rw [if_neg b]; simp; omega
  unfold inoOk
  rw [hr, ho]; simp
set_option maxHeartbeats 4000000 in
set_option maxRecDepth 100000 in
theorem rRight_walk (k im nl ge sz p0 p1 p2 p3 at_ : Int) (w : World) : Calls Try.prog 47 #[inoV k im nl ge sz p0 p1 p2 p3 at_] w fun e w' => e = .returned (.bool (inoOk k im nl ge sz p0 p1 p2 p3 at_)) ∧ Below w.heap.size w w' := by
  unfold inoV
  by_cases hz : inoZ k im nl ge sz p0 p1 p2 p3 at_ = true
  · have E0 : Aside0 (inoOk k im nl ge sz p0 p1 p2 p3 at_ = true) := ⟨by unfold inoOk; rw [hz]; rfl⟩
    have q : ∀ w, (Op.equalIn 10000 54 (.agg #[.int .i64 k, .int .i64 im, .int .i64 nl, .int .i64 ge, .int .i64 sz, .int .i64 p0, .int .i64 p1, .int .i64 p2, .int .i64 p3, .int .i64 at_]) (.agg #[.int .i64 0, .int .i64 0, .int .i64 0, .int .i64 0, .int .i64 0, .int .i64 0, .int .i64 0, .int .i64 0, .int .i64 0, .int .i64 0])).run Try.prog w = .ok true w := fun w => by
      rw [eqIno 9997 w]; unfold inoZ at hz; rw [hz]
    clear hz
    go_enter Try.func47, Try.ntmps47
    go_wp2
    go_ret
    exact ⟨by rw [E0.out]; rfl, (by repeat (first | exact Below.refl _ _ | apply Below.drew | apply below_alloc))⟩
  have hzf : inoZ k im nl ge sz p0 p1 p2 p3 at_ = false := by simpa using hz
  have q : ∀ w, (Op.equalIn 10000 54 (.agg #[.int .i64 k, .int .i64 im, .int .i64 nl, .int .i64 ge, .int .i64 sz, .int .i64 p0, .int .i64 p1, .int .i64 p2, .int .i64 p3, .int .i64 at_]) (.agg #[.int .i64 0, .int .i64 0, .int .i64 0, .int .i64 0, .int .i64 0, .int .i64 0, .int .i64 0, .int .i64 0, .int .i64 0, .int .i64 0])).run Try.prog w = .ok false w := fun w => by
    rw [eqIno 9997 w]; unfold inoZ at hzf; rw [hzf]
  have HZ := Aside0.mk hzf
  have F0 := Aside0.mk (inoOk_count hzf)
  have WC := Aside0.mk (fun n t W => rCount_walk n t W)
  clear hz hzf
  by_cases c0 : k < 1
  · have E0 : Aside0 (inoOk k im nl ge sz p0 p1 p2 p3 at_ = false) := ⟨F0.out (.inl c0)⟩
    go_enter Try.func47, Try.ntmps47
    go_wp2
    go_ret
    exact ⟨by rw [E0.out]; rfl, (by repeat (first | exact Below.refl _ _ | apply Below.drew | apply below_alloc))⟩
  have d0 : 1 ≤ k := by omega
  clear c0
  by_cases c1 : 4 < k
  · have E0 : Aside0 (inoOk k im nl ge sz p0 p1 p2 p3 at_ = false) := ⟨F0.out (.inr (.inl c1))⟩
    go_enter Try.func47, Try.ntmps47
    go_wp2
    go_ret
    exact ⟨by rw [E0.out]; rfl, (by repeat (first | exact Below.refl _ _ | apply Below.drew | apply below_alloc))⟩
  have d1 : k ≤ 4 := by omega
  clear c1
  cases rim : rgB im 255 with
  | false =>
    have Cim := Aside0.mk rim
    have E0 : Aside0 (inoOk k im nl ge sz p0 p1 p2 p3 at_ = false) := ⟨F0.out (.inr (.inr (.inl rim)))⟩
    clear rim
    go_enter Try.func47, Try.ntmps47
    go_wp2_with (first | (go_at_call 108; (with_reducible refine (WC.out im 255 _).mono ?_); rintro e w' ⟨rfl, h_⟩; have h_ := h_.symm; subst h_; rw [Cim.out]))
    go_ret
    exact ⟨by rw [E0.out]; rfl, (by repeat (first | exact Below.refl _ _ | apply Below.drew | apply below_alloc))⟩
  | true =>
  have Cim := Aside0.mk rim
  clear rim
  cases rnl : rgB nl 65535 with
  | false =>
    have Cnl := Aside0.mk rnl
    have E0 : Aside0 (inoOk k im nl ge sz p0 p1 p2 p3 at_ = false) := ⟨F0.out (.inr (.inr (.inr (.inl rnl))))⟩
    clear rnl
    go_enter Try.func47, Try.ntmps47
    go_wp2_with (first | (go_at_call 108; (with_reducible refine (WC.out im 255 _).mono ?_); rintro e w' ⟨rfl, h_⟩; have h_ := h_.symm; subst h_; rw [Cim.out]) | (go_at_call 108; (with_reducible refine (WC.out nl 65535 _).mono ?_); rintro e w' ⟨rfl, h_⟩; have h_ := h_.symm; subst h_; rw [Cnl.out]))
    go_ret
    exact ⟨by rw [E0.out]; rfl, (by repeat (first | exact Below.refl _ _ | apply Below.drew | apply below_alloc))⟩
  | true =>
  have Cnl := Aside0.mk rnl
  clear rnl
  cases rat_ : rgB at_ 65535 with
  | false =>
    have Cat_ := Aside0.mk rat_
    have E0 : Aside0 (inoOk k im nl ge sz p0 p1 p2 p3 at_ = false) := ⟨F0.out (.inr (.inr (.inr (.inr (.inl rat_)))))⟩
    clear rat_
    go_enter Try.func47, Try.ntmps47
    go_wp2_with (first | (go_at_call 108; (with_reducible refine (WC.out im 255 _).mono ?_); rintro e w' ⟨rfl, h_⟩; have h_ := h_.symm; subst h_; rw [Cim.out]) | (go_at_call 108; (with_reducible refine (WC.out nl 65535 _).mono ?_); rintro e w' ⟨rfl, h_⟩; have h_ := h_.symm; subst h_; rw [Cnl.out]) | (go_at_call 108; (with_reducible refine (WC.out at_ 65535 _).mono ?_); rintro e w' ⟨rfl, h_⟩; have h_ := h_.symm; subst h_; rw [Cat_.out]))
    go_ret
    exact ⟨by rw [E0.out]; rfl, (by repeat (first | exact Below.refl _ _ | apply Below.drew | apply below_alloc))⟩
  | true =>
  have Cat_ := Aside0.mk rat_
  clear rat_
  cases rge : rgB ge 268435455 with
  | false =>
    have Cge := Aside0.mk rge
    have E0 : Aside0 (inoOk k im nl ge sz p0 p1 p2 p3 at_ = false) := ⟨F0.out (.inr (.inr (.inr (.inr (.inr (.inl rge))))))⟩
    clear rge
    go_enter Try.func47, Try.ntmps47
    go_wp2_with (first | (go_at_call 108; (with_reducible refine (WC.out im 255 _).mono ?_); rintro e w' ⟨rfl, h_⟩; have h_ := h_.symm; subst h_; rw [Cim.out]) | (go_at_call 108; (with_reducible refine (WC.out nl 65535 _).mono ?_); rintro e w' ⟨rfl, h_⟩; have h_ := h_.symm; subst h_; rw [Cnl.out]) | (go_at_call 108; (with_reducible refine (WC.out at_ 65535 _).mono ?_); rintro e w' ⟨rfl, h_⟩; have h_ := h_.symm; subst h_; rw [Cat_.out]) | (go_at_call 108; (with_reducible refine (WC.out ge 268435455 _).mono ?_); rintro e w' ⟨rfl, h_⟩; have h_ := h_.symm; subst h_; rw [Cge.out]))
    go_ret
    exact ⟨by rw [E0.out]; rfl, (by repeat (first | exact Below.refl _ _ | apply Below.drew | apply below_alloc))⟩
  | true =>
  have Cge := Aside0.mk rge
  clear rge
  cases rsz : rgB sz 256 with
  | false =>
    have Csz := Aside0.mk rsz
    have E0 : Aside0 (inoOk k im nl ge sz p0 p1 p2 p3 at_ = false) := ⟨F0.out (.inr (.inr (.inr (.inr (.inr (.inr (.inl rsz)))))))⟩
    clear rsz
    go_enter Try.func47, Try.ntmps47
    go_wp2_with (first | (go_at_call 108; (with_reducible refine (WC.out im 255 _).mono ?_); rintro e w' ⟨rfl, h_⟩; have h_ := h_.symm; subst h_; rw [Cim.out]) | (go_at_call 108; (with_reducible refine (WC.out nl 65535 _).mono ?_); rintro e w' ⟨rfl, h_⟩; have h_ := h_.symm; subst h_; rw [Cnl.out]) | (go_at_call 108; (with_reducible refine (WC.out at_ 65535 _).mono ?_); rintro e w' ⟨rfl, h_⟩; have h_ := h_.symm; subst h_; rw [Cat_.out]) | (go_at_call 108; (with_reducible refine (WC.out ge 268435455 _).mono ?_); rintro e w' ⟨rfl, h_⟩; have h_ := h_.symm; subst h_; rw [Cge.out]) | (go_at_call 108; (with_reducible refine (WC.out sz 256 _).mono ?_); rintro e w' ⟨rfl, h_⟩; have h_ := h_.symm; subst h_; rw [Csz.out]))
    go_ret
    exact ⟨by rw [E0.out]; rfl, (by repeat (first | exact Below.refl _ _ | apply Below.drew | apply below_alloc))⟩
  | true =>
  have Csz := Aside0.mk rsz
  clear rsz
  by_cases hs : (k = 1 ∨ k = 4) ∧ sz ≠ 0
  · have E0 : Aside0 (inoOk k im nl ge sz p0 p1 p2 p3 at_ = false) := ⟨F0.out (.inr (.inr (.inr (.inr (.inr (.inr (.inr (.inl hs))))))))⟩
    obtain ⟨hk, hs⟩ := hs
    have hsb : (sz != 0) = true := by simp [hs]
    clear hs
    rcases hk with rfl | rfl
    all_goals
      clear d0 d1
      go_enter Try.func47, Try.ntmps47
      go_wp2_with (first | (go_at_call 108; (with_reducible refine (WC.out _ 255 _).mono ?_); rintro e w' ⟨rfl, h_⟩; have h_ := h_.symm; subst h_; rw [Cim.out]) | (go_at_call 108; (with_reducible refine (WC.out _ 65535 _).mono ?_); rintro e w' ⟨rfl, h_⟩; have h_ := h_.symm; subst h_; rw [Cnl.out]) | (go_at_call 108; (with_reducible refine (WC.out _ 65535 _).mono ?_); rintro e w' ⟨rfl, h_⟩; have h_ := h_.symm; subst h_; rw [Cat_.out]) | (go_at_call 108; (with_reducible refine (WC.out _ 268435455 _).mono ?_); rintro e w' ⟨rfl, h_⟩; have h_ := h_.symm; subst h_; rw [Cge.out]) | (go_at_call 108; (with_reducible refine (WC.out _ 256 _).mono ?_); rintro e w' ⟨rfl, h_⟩; have h_ := h_.symm; subst h_; rw [Csz.out]))
      go_ret
      exact ⟨by rw [E0.out]; rfl, (by repeat (first | exact Below.refl _ _ | apply Below.drew | apply below_alloc))⟩
  have HS : Aside0 ((k = 1 ∨ k = 4) → sz = 0) := ⟨fun h => by
    by_cases h0 : sz = 0
    · exact h0
    · exact absurd ⟨h, h0⟩ hs⟩
  have HY : Aside0 ((∀ m, m < 4 → rgB (pN p0 p1 p2 p3 m) 65535 = true ∧ (k = 4 → pN p0 p1 p2 p3 m = 0)) → inoOk k im nl ge sz p0 p1 p2 p3 at_ = true) := ⟨fun hp => inoOk_yes d0 d1 Cim.out Cnl.out Cat_.out Cge.out Csz.out HS.out hp⟩
  have HC : Aside0 (∀ m, m < 4 → (w.alloc (.cells #[.int .i64 k, .int .i64 im, .int .i64 nl, .int .i64 ge, .int .i64 sz, .int .i64 p0, .int .i64 p1, .int .i64 p2, .int .i64 p3, .int .i64 at_] 54)).cell? ⟨w.heap.size, 5 + m, none⟩ = some (.int .i64 (pN p0 p1 p2 p3 m))) := ⟨fun m hm => by
    rcases lt4 hm with rfl | rfl | rfl | rfl <;> simp only [pN] <;> go_simp⟩
  have hk14 : k = 1 ∨ k = 4 ∨ k = 2 ∨ k = 3 := by omega
  clear d0 d1 hs
  rcases hk14 with rfl | rfl | rfl | rfl
  · have hs0 := HS.out (.inl rfl)
    subst hs0
    clear HS
    go_enter Try.func47, Try.ntmps47
    go_wp2_with (first | (go_at_call 108; (with_reducible refine (WC.out _ 255 _).mono ?_); rintro e w' ⟨rfl, h_⟩; have h_ := h_.symm; subst h_; rw [Cim.out]) | (go_at_call 108; (with_reducible refine (WC.out _ 65535 _).mono ?_); rintro e w' ⟨rfl, h_⟩; have h_ := h_.symm; subst h_; rw [Cnl.out]) | (go_at_call 108; (with_reducible refine (WC.out _ 65535 _).mono ?_); rintro e w' ⟨rfl, h_⟩; have h_ := h_.symm; subst h_; rw [Cat_.out]) | (go_at_call 108; (with_reducible refine (WC.out _ 268435455 _).mono ?_); rintro e w' ⟨rfl, h_⟩; have h_ := h_.symm; subst h_; rw [Cge.out]) | (go_at_call 108; (with_reducible refine (WC.out _ 256 _).mono ?_); rintro e w' ⟨rfl, h_⟩; have h_ := h_.symm; subst h_; rw [Csz.out]))
    go_loop [3] (fun v3 => ∃ m : Nat, v3 = .int .i64 m ∧ Aside0 (m ≤ 4) ∧ Aside0 (∀ j, j < m → rgB (pN p0 p1 p2 p3 j) 65535 = true ∧ ((1 : Int) = 4 → pN p0 p1 p2 p3 j = 0))) (fun i => 4 - (intOf i).toNat)
    case atStart => exact ⟨0, rfl, ⟨by omega⟩, ⟨fun j hj => absurd hj (by omega)⟩⟩
    case round =>
      obtain ⟨m, rfl, hm, hall⟩ := hrel
      have hm' := hm.out
      by_cases hlt : m < 4
      · have hc := HC.out m hlt
        obtain ⟨x, hx⟩ : ∃ x, x = pN p0 p1 p2 p3 m := ⟨_, rfl⟩
        rw [← hx] at hc
        cases hr : rgB x 65535 with
        | false =>
          have E0 : Aside0 (inoOk 1 im nl ge 0 p0 p1 p2 p3 at_ = false) := ⟨F0.out (.inr (.inr (.inr (.inr (.inr (.inr (.inr (.inr ⟨m, hlt, .inl (by rw [← hx]; exact hr)⟩))))))))⟩
          have CR := Aside0.mk hr
          clear hx hr
          go_wp2_with (go_at_call 108; (with_reducible refine (WC.out x 65535 _).mono ?_); rintro e w' ⟨rfl, h_⟩; have h_ := h_.symm; subst h_; rw [CR.out])
          go_ret
          exact ⟨by rw [E0.out]; rfl, (by repeat (first | exact Below.refl _ _ | apply Below.drew | apply below_alloc))⟩
        | true =>
          have CR := Aside0.mk hr
          have HA : Aside0 (∀ j, j < m + 1 → rgB (pN p0 p1 p2 p3 j) 65535 = true ∧ ((1 : Int) = 4 → pN p0 p1 p2 p3 j = 0)) := ⟨fun j hj => by
            by_cases hjm : j = m
            · subst hjm; rw [← hx]; exact ⟨hr, fun h => absurd h (by decide)⟩
            · exact hall.out j (by omega)⟩
          clear hx hr
          go_wp2_with (go_at_call 108; (with_reducible refine (WC.out x 65535 _).mono ?_); rintro e w' ⟨rfl, h_⟩; have h_ := h_.symm; subst h_; rw [CR.out])
          exact ⟨⟨m + 1, rfl, ⟨by omega⟩, HA⟩, by simp [intOf]; omega⟩
      · have hmn : 4 ≤ m := by omega
        have E0 : Aside0 (inoOk 1 im nl ge 0 p0 p1 p2 p3 at_ = true) := ⟨HY.out fun j hj => by have h := hall.out j (by omega); exact ⟨h.1, fun hq => h.2 (by first | exact hq | trivial | (simp at hq))⟩⟩
        go_wp2
        go_ret
        exact ⟨by rw [E0.out]; rfl, (by repeat (first | exact Below.refl _ _ | apply Below.drew | apply below_alloc))⟩
  · have hs0 := HS.out (.inr rfl)
    subst hs0
    clear HS
    go_enter Try.func47, Try.ntmps47
    go_wp2_with (first | (go_at_call 108; (with_reducible refine (WC.out _ 255 _).mono ?_); rintro e w' ⟨rfl, h_⟩; have h_ := h_.symm; subst h_; rw [Cim.out]) | (go_at_call 108; (with_reducible refine (WC.out _ 65535 _).mono ?_); rintro e w' ⟨rfl, h_⟩; have h_ := h_.symm; subst h_; rw [Cnl.out]) | (go_at_call 108; (with_reducible refine (WC.out _ 65535 _).mono ?_); rintro e w' ⟨rfl, h_⟩; have h_ := h_.symm; subst h_; rw [Cat_.out]) | (go_at_call 108; (with_reducible refine (WC.out _ 268435455 _).mono ?_); rintro e w' ⟨rfl, h_⟩; have h_ := h_.symm; subst h_; rw [Cge.out]) | (go_at_call 108; (with_reducible refine (WC.out _ 256 _).mono ?_); rintro e w' ⟨rfl, h_⟩; have h_ := h_.symm; subst h_; rw [Csz.out]))
    go_loop [3] (fun v3 => ∃ m : Nat, v3 = .int .i64 m ∧ Aside0 (m ≤ 4) ∧ Aside0 (∀ j, j < m → rgB (pN p0 p1 p2 p3 j) 65535 = true ∧ ((4 : Int) = 4 → pN p0 p1 p2 p3 j = 0))) (fun i => 4 - (intOf i).toNat)
    case atStart => exact ⟨0, rfl, ⟨by omega⟩, ⟨fun j hj => absurd hj (by omega)⟩⟩
    case round =>
      obtain ⟨m, rfl, hm, hall⟩ := hrel
      have hm' := hm.out
      by_cases hlt : m < 4
      · have hc := HC.out m hlt
        obtain ⟨x, hx⟩ : ∃ x, x = pN p0 p1 p2 p3 m := ⟨_, rfl⟩
        rw [← hx] at hc
        cases hr : rgB x 65535 with
        | false =>
          have E0 : Aside0 (inoOk 4 im nl ge 0 p0 p1 p2 p3 at_ = false) := ⟨F0.out (.inr (.inr (.inr (.inr (.inr (.inr (.inr (.inr ⟨m, hlt, .inl (by rw [← hx]; exact hr)⟩))))))))⟩
          have CR := Aside0.mk hr
          clear hx hr
          go_wp2_with (go_at_call 108; (with_reducible refine (WC.out x 65535 _).mono ?_); rintro e w' ⟨rfl, h_⟩; have h_ := h_.symm; subst h_; rw [CR.out])
          go_ret
          exact ⟨by rw [E0.out]; rfl, (by repeat (first | exact Below.refl _ _ | apply Below.drew | apply below_alloc))⟩
        | true =>
          have CR := Aside0.mk hr
          by_cases hx0 : x = 0
          case neg =>
            have E0 : Aside0 (inoOk 4 im nl ge 0 p0 p1 p2 p3 at_ = false) := ⟨F0.out (.inr (.inr (.inr (.inr (.inr (.inr (.inr (.inr ⟨m, hlt, .inr ⟨(by first | exact rfl | trivial), by rw [← hx]; exact hx0⟩⟩))))))))⟩
            have hxb : (x != 0) = true := by simp [hx0]
            clear hx hr hx0
            go_wp2_with (go_at_call 108; (with_reducible refine (WC.out x 65535 _).mono ?_); rintro e w' ⟨rfl, h_⟩; have h_ := h_.symm; subst h_; rw [CR.out])
            go_ret
            exact ⟨by rw [E0.out]; rfl, (by repeat (first | exact Below.refl _ _ | apply Below.drew | apply below_alloc))⟩
          have hxb : (x != 0) = false := by simp [hx0]
          have HA : Aside0 (∀ j, j < m + 1 → rgB (pN p0 p1 p2 p3 j) 65535 = true ∧ ((4 : Int) = 4 → pN p0 p1 p2 p3 j = 0)) := ⟨fun j hj => by
            by_cases hjm : j = m
            · subst hjm; rw [← hx]; exact ⟨hr, fun h => hx0⟩
            · exact hall.out j (by omega)⟩
          clear hx hr hx0
          go_wp2_with (go_at_call 108; (with_reducible refine (WC.out x 65535 _).mono ?_); rintro e w' ⟨rfl, h_⟩; have h_ := h_.symm; subst h_; rw [CR.out])
          exact ⟨⟨m + 1, rfl, ⟨by omega⟩, HA⟩, by simp [intOf]; omega⟩
      · have hmn : 4 ≤ m := by omega
        have E0 : Aside0 (inoOk 4 im nl ge 0 p0 p1 p2 p3 at_ = true) := ⟨HY.out fun j hj => by have h := hall.out j (by omega); exact ⟨h.1, fun hq => h.2 (by first | exact hq | trivial | (simp at hq))⟩⟩
        go_wp2
        go_ret
        exact ⟨by rw [E0.out]; rfl, (by repeat (first | exact Below.refl _ _ | apply Below.drew | apply below_alloc))⟩
  · skip
    clear HS
    go_enter Try.func47, Try.ntmps47
    go_wp2_with (first | (go_at_call 108; (with_reducible refine (WC.out _ 255 _).mono ?_); rintro e w' ⟨rfl, h_⟩; have h_ := h_.symm; subst h_; rw [Cim.out]) | (go_at_call 108; (with_reducible refine (WC.out _ 65535 _).mono ?_); rintro e w' ⟨rfl, h_⟩; have h_ := h_.symm; subst h_; rw [Cnl.out]) | (go_at_call 108; (with_reducible refine (WC.out _ 65535 _).mono ?_); rintro e w' ⟨rfl, h_⟩; have h_ := h_.symm; subst h_; rw [Cat_.out]) | (go_at_call 108; (with_reducible refine (WC.out _ 268435455 _).mono ?_); rintro e w' ⟨rfl, h_⟩; have h_ := h_.symm; subst h_; rw [Cge.out]) | (go_at_call 108; (with_reducible refine (WC.out _ 256 _).mono ?_); rintro e w' ⟨rfl, h_⟩; have h_ := h_.symm; subst h_; rw [Csz.out]))
    go_loop [3] (fun v3 => ∃ m : Nat, v3 = .int .i64 m ∧ Aside0 (m ≤ 4) ∧ Aside0 (∀ j, j < m → rgB (pN p0 p1 p2 p3 j) 65535 = true ∧ ((2 : Int) = 4 → pN p0 p1 p2 p3 j = 0))) (fun i => 4 - (intOf i).toNat)
    case atStart => exact ⟨0, rfl, ⟨by omega⟩, ⟨fun j hj => absurd hj (by omega)⟩⟩
    case round =>
      obtain ⟨m, rfl, hm, hall⟩ := hrel
      have hm' := hm.out
      by_cases hlt : m < 4
      · have hc := HC.out m hlt
        obtain ⟨x, hx⟩ : ∃ x, x = pN p0 p1 p2 p3 m := ⟨_, rfl⟩
        rw [← hx] at hc
        cases hr : rgB x 65535 with
        | false =>
          have E0 : Aside0 (inoOk 2 im nl ge sz p0 p1 p2 p3 at_ = false) := ⟨F0.out (.inr (.inr (.inr (.inr (.inr (.inr (.inr (.inr ⟨m, hlt, .inl (by rw [← hx]; exact hr)⟩))))))))⟩
          have CR := Aside0.mk hr
          clear hx hr
          go_wp2_with (go_at_call 108; (with_reducible refine (WC.out x 65535 _).mono ?_); rintro e w' ⟨rfl, h_⟩; have h_ := h_.symm; subst h_; rw [CR.out])
          go_ret
          exact ⟨by rw [E0.out]; rfl, (by repeat (first | exact Below.refl _ _ | apply Below.drew | apply below_alloc))⟩
        | true =>
          have CR := Aside0.mk hr
          have HA : Aside0 (∀ j, j < m + 1 → rgB (pN p0 p1 p2 p3 j) 65535 = true ∧ ((2 : Int) = 4 → pN p0 p1 p2 p3 j = 0)) := ⟨fun j hj => by
            by_cases hjm : j = m
            · subst hjm; rw [← hx]; exact ⟨hr, fun h => absurd h (by decide)⟩
            · exact hall.out j (by omega)⟩
          clear hx hr
          go_wp2_with (go_at_call 108; (with_reducible refine (WC.out x 65535 _).mono ?_); rintro e w' ⟨rfl, h_⟩; have h_ := h_.symm; subst h_; rw [CR.out])
          exact ⟨⟨m + 1, rfl, ⟨by omega⟩, HA⟩, by simp [intOf]; omega⟩
      · have hmn : 4 ≤ m := by omega
        have E0 : Aside0 (inoOk 2 im nl ge sz p0 p1 p2 p3 at_ = true) := ⟨HY.out fun j hj => by have h := hall.out j (by omega); exact ⟨h.1, fun hq => h.2 (by first | exact hq | trivial | (simp at hq))⟩⟩
        go_wp2
        go_ret
        exact ⟨by rw [E0.out]; rfl, (by repeat (first | exact Below.refl _ _ | apply Below.drew | apply below_alloc))⟩
  · skip
    clear HS
    go_enter Try.func47, Try.ntmps47
    go_wp2_with (first | (go_at_call 108; (with_reducible refine (WC.out _ 255 _).mono ?_); rintro e w' ⟨rfl, h_⟩; have h_ := h_.symm; subst h_; rw [Cim.out]) | (go_at_call 108; (with_reducible refine (WC.out _ 65535 _).mono ?_); rintro e w' ⟨rfl, h_⟩; have h_ := h_.symm; subst h_; rw [Cnl.out]) | (go_at_call 108; (with_reducible refine (WC.out _ 65535 _).mono ?_); rintro e w' ⟨rfl, h_⟩; have h_ := h_.symm; subst h_; rw [Cat_.out]) | (go_at_call 108; (with_reducible refine (WC.out _ 268435455 _).mono ?_); rintro e w' ⟨rfl, h_⟩; have h_ := h_.symm; subst h_; rw [Cge.out]) | (go_at_call 108; (with_reducible refine (WC.out _ 256 _).mono ?_); rintro e w' ⟨rfl, h_⟩; have h_ := h_.symm; subst h_; rw [Csz.out]))
    go_loop [3] (fun v3 => ∃ m : Nat, v3 = .int .i64 m ∧ Aside0 (m ≤ 4) ∧ Aside0 (∀ j, j < m → rgB (pN p0 p1 p2 p3 j) 65535 = true ∧ ((3 : Int) = 4 → pN p0 p1 p2 p3 j = 0))) (fun i => 4 - (intOf i).toNat)
    case atStart => exact ⟨0, rfl, ⟨by omega⟩, ⟨fun j hj => absurd hj (by omega)⟩⟩
    case round =>
      obtain ⟨m, rfl, hm, hall⟩ := hrel
      have hm' := hm.out
      by_cases hlt : m < 4
      · have hc := HC.out m hlt
        obtain ⟨x, hx⟩ : ∃ x, x = pN p0 p1 p2 p3 m := ⟨_, rfl⟩
        rw [← hx] at hc
        cases hr : rgB x 65535 with
        | false =>
          have E0 : Aside0 (inoOk 3 im nl ge sz p0 p1 p2 p3 at_ = false) := ⟨F0.out (.inr (.inr (.inr (.inr (.inr (.inr (.inr (.inr ⟨m, hlt, .inl (by rw [← hx]; exact hr)⟩))))))))⟩
          have CR := Aside0.mk hr
          clear hx hr
          go_wp2_with (go_at_call 108; (with_reducible refine (WC.out x 65535 _).mono ?_); rintro e w' ⟨rfl, h_⟩; have h_ := h_.symm; subst h_; rw [CR.out])
          go_ret
          exact ⟨by rw [E0.out]; rfl, (by repeat (first | exact Below.refl _ _ | apply Below.drew | apply below_alloc))⟩
        | true =>
          have CR := Aside0.mk hr
          have HA : Aside0 (∀ j, j < m + 1 → rgB (pN p0 p1 p2 p3 j) 65535 = true ∧ ((3 : Int) = 4 → pN p0 p1 p2 p3 j = 0)) := ⟨fun j hj => by
            by_cases hjm : j = m
            · subst hjm; rw [← hx]; exact ⟨hr, fun h => absurd h (by decide)⟩
            · exact hall.out j (by omega)⟩
          clear hx hr
          go_wp2_with (go_at_call 108; (with_reducible refine (WC.out x 65535 _).mono ?_); rintro e w' ⟨rfl, h_⟩; have h_ := h_.symm; subst h_; rw [CR.out])
          exact ⟨⟨m + 1, rfl, ⟨by omega⟩, HA⟩, by simp [intOf]; omega⟩
      · have hmn : 4 ≤ m := by omega
        have E0 : Aside0 (inoOk 3 im nl ge sz p0 p1 p2 p3 at_ = true) := ⟨HY.out fun j hj => by have h := hall.out j (by omega); exact ⟨h.1, fun hq => h.2 (by first | exact hq | trivial | (simp at hq))⟩⟩
        go_wp2
        go_ret
        exact ⟨by rw [E0.out]; rfl, (by repeat (first | exact Below.refl _ _ | apply Below.drew | apply below_alloc))⟩
end Go.Proofs.Ytdknolnoimpgeaa.K
