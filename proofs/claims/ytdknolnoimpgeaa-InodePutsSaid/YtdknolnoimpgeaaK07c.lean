/- inode.Right. -/
import Derived.Test.YtdknolnoimpgeaaK07b
namespace Go.Proofs.Ytdknolnoimpgeaa.K
open Go.RowKit Go.Proofs.YtdknolnoimpgeaaW.PrintWords Go.Proofs.YtdknolnoimpgeaaW.PrintLast Go.Proofs.YtdknolnoimpgeaaW.PrintMore
set_option linter.unusedVariables false
set_option linter.unusedSimpArgs false
theorem inoR_rows {k im nl ge sz p0 p1 p2 p3 at_ : Int} (h : ∀ j, j < 10 → 0 ≤ (inoRow k im nl ge sz p0 p1 p2 p3 at_ j).1 ∧ (inoRow k im nl ge sz p0 p1 p2 p3 at_ j).1 ≤ (inoRow k im nl ge sz p0 p1 p2 p3 at_ j).2.2) : inoR k im nl ge sz p0 p1 p2 p3 at_ = true := by
  have h0 := h 0 (by omega)
  have h1 := h 1 (by omega)
  have h2 := h 2 (by omega)
  have h3 := h 3 (by omega)
  have h4 := h 4 (by omega)
  have h5 := h 5 (by omega)
  have h6 := h 6 (by omega)
  have h7 := h 7 (by omega)
  have h8 := h 8 (by omega)
  have h9 := h 9 (by omega)
  simp only [inoRow] at h0 h1 h2 h3 h4 h5 h6 h7 h8 h9
  simp only [inoR, rgB, Bool.and_eq_true, decide_eq_true_eq]
  omega
theorem inoR_not {k im nl ge sz p0 p1 p2 p3 at_ : Int} {j : Nat} (hj : j < 10) (h : (inoRow k im nl ge sz p0 p1 p2 p3 at_ j).1 < 0 ∨ (inoRow k im nl ge sz p0 p1 p2 p3 at_ j).2.2 < (inoRow k im nl ge sz p0 p1 p2 p3 at_ j).1) : inoR k im nl ge sz p0 p1 p2 p3 at_ = false := by
  cases hb : inoR k im nl ge sz p0 p1 p2 p3 at_ with
  | false => rfl
  | true =>
    obtain ⟨h0, h1, h2, h3, h4, h5, h6, h7, h8, h9⟩ := inoR_parts hb
    rcases lt10 hj with rfl | rfl | rfl | rfl | rfl | rfl | rfl | rfl | rfl | rfl <;> simp only [inoRow] at h <;> omega
set_option maxRecDepth 100000 in
theorem inoRight_walk (k im nl ge sz p0 p1 p2 p3 at_ : Int) (w : World) : Calls Try.prog 46 #[inoV k im nl ge sz p0 p1 p2 p3 at_] w fun e w' => e = .returned (.bool (inoOk k im nl ge sz p0 p1 p2 p3 at_)) ∧ Below w.heap.size w w' := by
  by_cases hz : inoZ k im nl ge sz p0 p1 p2 p3 at_ = true
  · have E0 : Aside0 (inoOk k im nl ge sz p0 p1 p2 p3 at_ = true) := ⟨by unfold inoOk; rw [hz]; rfl⟩
    have q : ∀ w, (Op.equalIn 10000 54 (.agg #[.int .i64 k, .int .i64 im, .int .i64 nl, .int .i64 ge, .int .i64 sz, .int .i64 p0, .int .i64 p1, .int .i64 p2, .int .i64 p3, .int .i64 at_]) (.agg #[.int .i64 0, .int .i64 0, .int .i64 0, .int .i64 0, .int .i64 0, .int .i64 0, .int .i64 0, .int .i64 0, .int .i64 0, .int .i64 0])).run Try.prog w = .ok true w := fun w => by
      rw [eqIno 9997 w]; unfold inoZ at hz; rw [hz]
    clear hz
    unfold inoV
    go_enter Try.func46, Try.ntmps46
    go_wp2
    go_ret
    exact ⟨by rw [E0.out]; rfl, (by repeat (first | exact Below.refl _ _ | apply Below.drew | apply below_alloc))⟩
  have hzf : inoZ k im nl ge sz p0 p1 p2 p3 at_ = false := by simpa using hz
  have q : ∀ w, (Op.equalIn 10000 54 (.agg #[.int .i64 k, .int .i64 im, .int .i64 nl, .int .i64 ge, .int .i64 sz, .int .i64 p0, .int .i64 p1, .int .i64 p2, .int .i64 p3, .int .i64 at_]) (.agg #[.int .i64 0, .int .i64 0, .int .i64 0, .int .i64 0, .int .i64 0, .int .i64 0, .int .i64 0, .int .i64 0, .int .i64 0, .int .i64 0])).run Try.prog w = .ok false w := fun w => by
    rw [eqIno 9997 w]; unfold inoZ at hzf; rw [hzf]
  have HZ := Aside0.mk hzf
  have WN := Aside0.mk (fun W => inoNumbers_walk k im nl ge sz p0 p1 p2 p3 at_ W)
  have WO := Aside0.mk (fun W => inoOdd_walk k im nl ge sz p0 p1 p2 p3 at_ W)
  have HX := Aside0.mk (Below.refl (w.alloc (.cells #[.int .i64 k, .int .i64 im, .int .i64 nl, .int .i64 ge, .int .i64 sz, .int .i64 p0, .int .i64 p1, .int .i64 p2, .int .i64 p3, .int .i64 at_] 54)).heap.size (w.alloc (.cells #[.int .i64 k, .int .i64 im, .int .i64 nl, .int .i64 ge, .int .i64 sz, .int .i64 p0, .int .i64 p1, .int .i64 p2, .int .i64 p3, .int .i64 at_] 54)))
  have IX := Aside0.mk (fun m (h : m < 10) W => inoN_at k im nl ge sz p0 p1 p2 p3 at_ h W)
  obtain ⟨nv, hnv⟩ : ∃ nv, nv = inoN k im nl ge sz p0 p1 p2 p3 at_ := ⟨_, rfl⟩
  rw [← hnv] at WN IX
  clear hz hzf hnv
  unfold inoV at WN WO ⊢
  go_enter Try.func46, Try.ntmps46
  go_wp2_with (first | (go_at_call 105; (with_reducible refine (WN.out _).mono ?_); rintro e w1 ⟨rfl, hb⟩; have n2_ := Aside0.mk (below_step (by repeat (first | (with_reducible first | exact HX.out | apply below_alloc | apply pw_below_drewN | apply below_drew1) | exact HX.out)) hb); clear HX; have HX := n2_; clear n2_; clear hb))
  go_loopw [10] (fun v10 w' => ∃ m : Nat, v10 = .int .i64 m ∧ Aside0 (m ≤ 10) ∧ Aside0 (∀ j, j < m → 0 ≤ (inoRow k im nl ge sz p0 p1 p2 p3 at_ j).1 ∧ (inoRow k im nl ge sz p0 p1 p2 p3 at_ j).1 ≤ (inoRow k im nl ge sz p0 p1 p2 p3 at_ j).2.2) ∧ Aside0 (Below (w.alloc (.cells #[.int .i64 k, .int .i64 im, .int .i64 nl, .int .i64 ge, .int .i64 sz, .int .i64 p0, .int .i64 p1, .int .i64 p2, .int .i64 p3, .int .i64 at_] 54)).heap.size (w.alloc (.cells #[.int .i64 k, .int .i64 im, .int .i64 nl, .int .i64 ge, .int .i64 sz, .int .i64 p0, .int .i64 p1, .int .i64 p2, .int .i64 p3, .int .i64 at_] 54)) w')) (fun i _ => 10 - (intOf i).toNat)
  case atStart => exact ⟨0, rfl, ⟨by omega⟩, ⟨fun j hj => absurd hj (by omega)⟩, HX⟩
  case round =>
    clear HX
    obtain ⟨m, rfl, hm, hall, HX⟩ := hrel
    have hm' := hm.out
    by_cases hlt : m < 10
    · have hx := IX.out m hlt
      obtain ⟨⟨v, s, t⟩, hr⟩ : ∃ r, r = inoRow k im nl ge sz p0 p1 p2 p3 at_ m := ⟨_, rfl⟩
      have HR := Aside0.mk hr
      rw [← hr] at hx
      clear hr
      simp only at hx
      by_cases h0 : v < 0
      · have E0 : Aside0 (inoOk k im nl ge sz p0 p1 p2 p3 at_ = false) := ⟨by unfold inoOk; rw [HZ.out, inoR_not hlt (by rw [← HR.out]; exact .inl h0)]; rfl⟩
        go_wp2
        go_ret
        exact ⟨by rw [E0.out]; rfl, (below_step (W := w.alloc (.cells #[.int .i64 k, .int .i64 im, .int .i64 nl, .int .i64 ge, .int .i64 sz, .int .i64 p0, .int .i64 p1, .int .i64 p2, .int .i64 p3, .int .i64 at_] 54)) (by repeat (first | exact Below.refl _ _ | apply Below.drew | apply below_alloc)) (by repeat (first | (with_reducible first | exact HX.out | apply below_alloc | apply pw_below_drewN | apply below_drew1) | exact HX.out)))⟩
      by_cases h1 : t < v
      · have E0 : Aside0 (inoOk k im nl ge sz p0 p1 p2 p3 at_ = false) := ⟨by unfold inoOk; rw [HZ.out, inoR_not hlt (by rw [← HR.out]; exact .inr h1)]; rfl⟩
        go_wp2
        go_ret
        exact ⟨by rw [E0.out]; rfl, (below_step (W := w.alloc (.cells #[.int .i64 k, .int .i64 im, .int .i64 nl, .int .i64 ge, .int .i64 sz, .int .i64 p0, .int .i64 p1, .int .i64 p2, .int .i64 p3, .int .i64 at_] 54)) (by repeat (first | exact Below.refl _ _ | apply Below.drew | apply below_alloc)) (by repeat (first | (with_reducible first | exact HX.out | apply below_alloc | apply pw_below_drewN | apply below_drew1) | exact HX.out)))⟩
      · have h0' : 0 ≤ v := by omega
        have h1' : v ≤ t := by omega
        have HS : Aside0 (∀ j, j < m + 1 → 0 ≤ (inoRow k im nl ge sz p0 p1 p2 p3 at_ j).1 ∧ (inoRow k im nl ge sz p0 p1 p2 p3 at_ j).1 ≤ (inoRow k im nl ge sz p0 p1 p2 p3 at_ j).2.2) := ⟨fun j hj => by
          by_cases hjm : j = m
          · subst hjm; rw [← HR.out]; exact ⟨h0', h1'⟩
          · exact hall.out j (by omega)⟩
        clear h0 h1
        go_wp2
        exact ⟨⟨m + 1, rfl, ⟨by omega⟩, HS, ⟨(by repeat (first | (with_reducible first | exact HX.out | apply below_alloc | apply pw_below_drewN | apply below_drew1) | exact HX.out))⟩⟩, by simp [intOf]; omega⟩
    · have hmn : 10 ≤ m := by omega
      have hR := inoR_rows (fun j hj => hall.out j (by omega))
      clear hlt
      obtain ⟨o, ho⟩ : ∃ o, o = inoOdd k sz p0 p1 p2 p3 := ⟨_, rfl⟩
      have E0 : Aside0 (inoOk k im nl ge sz p0 p1 p2 p3 at_ = !o) := ⟨by unfold inoOk; rw [HZ.out, hR, ho]; rfl⟩
      rw [← ho] at WO
      clear hR ho
      have k0 := pw_cell_below HX.out (show (w.alloc (.cells #[.int .i64 k, .int .i64 im, .int .i64 nl, .int .i64 ge, .int .i64 sz, .int .i64 p0, .int .i64 p1, .int .i64 p2, .int .i64 p3, .int .i64 at_] 54)).cell? ⟨w.heap.size, 0, none⟩ = some (.int .i64 k) by go_simp); have k1 := pw_cell_below HX.out (show (w.alloc (.cells #[.int .i64 k, .int .i64 im, .int .i64 nl, .int .i64 ge, .int .i64 sz, .int .i64 p0, .int .i64 p1, .int .i64 p2, .int .i64 p3, .int .i64 at_] 54)).cell? ⟨w.heap.size, 1, none⟩ = some (.int .i64 im) by go_simp); have k2 := pw_cell_below HX.out (show (w.alloc (.cells #[.int .i64 k, .int .i64 im, .int .i64 nl, .int .i64 ge, .int .i64 sz, .int .i64 p0, .int .i64 p1, .int .i64 p2, .int .i64 p3, .int .i64 at_] 54)).cell? ⟨w.heap.size, 2, none⟩ = some (.int .i64 nl) by go_simp); have k3 := pw_cell_below HX.out (show (w.alloc (.cells #[.int .i64 k, .int .i64 im, .int .i64 nl, .int .i64 ge, .int .i64 sz, .int .i64 p0, .int .i64 p1, .int .i64 p2, .int .i64 p3, .int .i64 at_] 54)).cell? ⟨w.heap.size, 3, none⟩ = some (.int .i64 ge) by go_simp); have k4 := pw_cell_below HX.out (show (w.alloc (.cells #[.int .i64 k, .int .i64 im, .int .i64 nl, .int .i64 ge, .int .i64 sz, .int .i64 p0, .int .i64 p1, .int .i64 p2, .int .i64 p3, .int .i64 at_] 54)).cell? ⟨w.heap.size, 4, none⟩ = some (.int .i64 sz) by go_simp); have k5 := pw_cell_below HX.out (show (w.alloc (.cells #[.int .i64 k, .int .i64 im, .int .i64 nl, .int .i64 ge, .int .i64 sz, .int .i64 p0, .int .i64 p1, .int .i64 p2, .int .i64 p3, .int .i64 at_] 54)).cell? ⟨w.heap.size, 5, none⟩ = some (.int .i64 p0) by go_simp); have k6 := pw_cell_below HX.out (show (w.alloc (.cells #[.int .i64 k, .int .i64 im, .int .i64 nl, .int .i64 ge, .int .i64 sz, .int .i64 p0, .int .i64 p1, .int .i64 p2, .int .i64 p3, .int .i64 at_] 54)).cell? ⟨w.heap.size, 6, none⟩ = some (.int .i64 p1) by go_simp); have k7 := pw_cell_below HX.out (show (w.alloc (.cells #[.int .i64 k, .int .i64 im, .int .i64 nl, .int .i64 ge, .int .i64 sz, .int .i64 p0, .int .i64 p1, .int .i64 p2, .int .i64 p3, .int .i64 at_] 54)).cell? ⟨w.heap.size, 7, none⟩ = some (.int .i64 p2) by go_simp); have k8 := pw_cell_below HX.out (show (w.alloc (.cells #[.int .i64 k, .int .i64 im, .int .i64 nl, .int .i64 ge, .int .i64 sz, .int .i64 p0, .int .i64 p1, .int .i64 p2, .int .i64 p3, .int .i64 at_] 54)).cell? ⟨w.heap.size, 8, none⟩ = some (.int .i64 p3) by go_simp); have k9 := pw_cell_below HX.out (show (w.alloc (.cells #[.int .i64 k, .int .i64 im, .int .i64 nl, .int .i64 ge, .int .i64 sz, .int .i64 p0, .int .i64 p1, .int .i64 p2, .int .i64 p3, .int .i64 at_] 54)).cell? ⟨w.heap.size, 9, none⟩ = some (.int .i64 at_) by go_simp)
      go_wp2_with (first | (go_at_call 107; (with_reducible refine (WO.out _).mono ?_); rintro e w2 ⟨rfl, hb⟩; have n2_ := Aside0.mk (below_step (by repeat (first | (with_reducible first | exact HX.out | apply below_alloc | apply pw_below_drewN | apply below_drew1) | exact HX.out)) hb); clear HX; have HX := n2_; clear n2_; clear hb))
      go_ret
      exact ⟨by rw [E0.out]; rfl, (below_step (W := w.alloc (.cells #[.int .i64 k, .int .i64 im, .int .i64 nl, .int .i64 ge, .int .i64 sz, .int .i64 p0, .int .i64 p1, .int .i64 p2, .int .i64 p3, .int .i64 at_] 54)) (by repeat (first | exact Below.refl _ _ | apply Below.drew | apply below_alloc)) (by repeat (first | (with_reducible first | exact HX.out | apply below_alloc | apply pw_below_drewN | apply below_drew1) | exact HX.out)))⟩
end Go.Proofs.Ytdknolnoimpgeaa.K
