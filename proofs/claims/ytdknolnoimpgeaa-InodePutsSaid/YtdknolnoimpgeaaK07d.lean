/- inode.Put. -/
import Derived.Test.YtdknolnoimpgeaaK07c
namespace Go.Proofs.Ytdknolnoimpgeaa.K
open Go.RowKit Go.Proofs.YtdknolnoimpgeaaW.PrintWords Go.Proofs.YtdknolnoimpgeaaW.PrintLast Go.Proofs.YtdknolnoimpgeaaW.PrintMore
set_option linter.unusedVariables false
set_option linter.unusedSimpArgs false
def inoPre (k im nl ge sz p0 p1 p2 p3 at_ : Int) : Nat → List Int
  | 0 => []
  | m + 1 => inoPre k im nl ge sz p0 p1 p2 p3 at_ m ++ leB (inoRow k im nl ge sz p0 p1 p2 p3 at_ m).1 (inoRow k im nl ge sz p0 p1 p2 p3 at_ m).2.1.toNat
theorem inoPre_all (k im nl ge sz p0 p1 p2 p3 at_ : Int) : inoPre k im nl ge sz p0 p1 p2 p3 at_ 10 = inoB k im nl ge sz p0 p1 p2 p3 at_ := by
  simp [inoPre, inoB, inoRow]
theorem inoPre_len (k im nl ge sz p0 p1 p2 p3 at_ : Int) : ∀ m, m ≤ 10 → (inoPre k im nl ge sz p0 p1 p2 p3 at_ m).length ≤ 4 * m := by
  intro m
  induction m with
  | zero => intro _; simp [inoPre]
  | succ m ih =>
    intro h
    have h1 := ih (by omega)
    have h2 : (inoRow k im nl ge sz p0 p1 p2 p3 at_ m).2.1.toNat ≤ 4 := by
      rcases lt10 (show m < 10 by omega) with rfl | rfl | rfl | rfl | rfl | rfl | rfl | rfl | rfl | rfl <;> simp [inoRow]
    rw [inoPre, List.length_append, leB_length]; omega
theorem inoRow_R {k im nl ge sz p0 p1 p2 p3 at_ : Int} (h : inoR k im nl ge sz p0 p1 p2 p3 at_ = true) {m : Nat} (hm : m < 10) : numR (inoRow k im nl ge sz p0 p1 p2 p3 at_ m).1 (inoRow k im nl ge sz p0 p1 p2 p3 at_ m).2.1 = true := by
  obtain ⟨h0, h1, h2, h3, h4, h5, h6, h7, h8, h9⟩ := inoR_parts h
  unfold numR
  rcases lt10 hm with rfl | rfl | rfl | rfl | rfl | rfl | rfl | rfl | rfl | rfl
  all_goals
    simp only [inoRow, numW, Bool.and_eq_true, decide_eq_true_eq]
    refine ⟨⟨by decide, by omega⟩, ?_⟩
    simp
    omega
theorem inoPre_succ {k im nl ge sz p0 p1 p2 p3 at_ : Int} (h : inoR k im nl ge sz p0 p1 p2 p3 at_ = true) {m : Nat} (hm : m < 10) : numP (inoPre k im nl ge sz p0 p1 p2 p3 at_ m) (inoRow k im nl ge sz p0 p1 p2 p3 at_ m).1 (inoRow k im nl ge sz p0 p1 p2 p3 at_ m).2.1 = inoPre k im nl ge sz p0 p1 p2 p3 at_ (m + 1) := by
  unfold numP
  rw [if_pos (inoRow_R h hm), inoPre]
set_option maxRecDepth 100000 in
theorem inoPut_walk (k im nl ge sz p0 p1 p2 p3 at_ : Int) (w : World) : Calls Try.prog 44 #[inoV k im nl ge sz p0 p1 p2 p3 at_] w fun e w' => ∃ v : Value, e = .returned (.tuple #[v, .int .i64 (inoE k im nl ge sz p0 p1 p2 p3 at_)]) ∧ Kd.R (Kd.int .u8) 5 w' w.heap.size (fun _ => True) v (inoP k im nl ge sz p0 p1 p2 p3 at_) ∧ Below w.heap.size w w' := by
  have WR := Aside0.mk (fun W => inoRight_walk k im nl ge sz p0 p1 p2 p3 at_ W)
  have WN := Aside0.mk (fun W => inoNumbers_walk k im nl ge sz p0 p1 p2 p3 at_ W)
  have IX := Aside0.mk (fun m (h : m < 10) W => inoN_at k im nl ge sz p0 p1 p2 p3 at_ h W)
  have HB := Aside0.mk (Below.refl w.heap.size w)
  by_cases hok : inoOk k im nl ge sz p0 p1 p2 p3 at_ = true
  case neg =>
    have hokf : inoOk k im nl ge sz p0 p1 p2 p3 at_ = false := by simpa using hok
    have E0 : Aside0 (inoE k im nl ge sz p0 p1 p2 p3 at_ = 1) := ⟨by unfold inoE; rw [if_neg hok]⟩
    have E1 : Aside0 (inoP k im nl ge sz p0 p1 p2 p3 at_ = []) := ⟨by unfold inoP; rw [if_neg hok]⟩
    rw [hokf] at WR
    clear hok hokf
    unfold inoV at WR ⊢
    go_enter Try.func44, Try.ntmps44
    go_wp2_with (first | (go_at_call 46; (with_reducible refine (WR.out _).mono ?_); rintro e w1 ⟨rfl, hb⟩; have n1_ : Aside0 (Below w.heap.size w w1) := ⟨below_step (by repeat (first | (with_reducible first | exact HB.out | apply below_alloc | apply pw_below_drewN | apply below_drew1) | exact HB.out)) hb⟩; clear HB; have HB := n1_; clear n1_; clear hb))
    go_ret2
    exact ⟨_, by rw [E0.out]; rfl, by rw [E1.out]; exact Kd.R_nil _ _ _ _ _, (by repeat (first | (with_reducible first | exact HB.out | apply below_alloc | apply pw_below_drewN | apply below_drew1) | exact HB.out))⟩
  have E0 : Aside0 (inoE k im nl ge sz p0 p1 p2 p3 at_ = 0) := ⟨by unfold inoE; rw [if_pos hok]⟩
  rw [hok] at WR
  by_cases hk0 : k = 0
  · have hz : inoZ k im nl ge sz p0 p1 p2 p3 at_ = true := by
      unfold inoOk at hok
      simp only [Bool.or_eq_true, Bool.and_eq_true] at hok
      rcases hok with h | ⟨_, h⟩
      · exact h
      · rw [hk0] at h; simp [inoOdd] at h
    have E1 : Aside0 (inoP k im nl ge sz p0 p1 p2 p3 at_ = List.replicate (64 : Int).toNat 0) := ⟨by unfold inoP; rw [if_pos hok, if_pos hz]; rfl⟩
    subst hk0
    clear hok hz
    unfold inoV at WR ⊢
    go_enter Try.func44, Try.ntmps44
    have HX := Aside0.mk (Below.refl (w.alloc (.cells #[.int .i64 0, .int .i64 im, .int .i64 nl, .int .i64 ge, .int .i64 sz, .int .i64 p0, .int .i64 p1, .int .i64 p2, .int .i64 p3, .int .i64 at_] 54)).heap.size (w.alloc (.cells #[.int .i64 0, .int .i64 im, .int .i64 nl, .int .i64 ge, .int .i64 sz, .int .i64 p0, .int .i64 p1, .int .i64 p2, .int .i64 p3, .int .i64 at_] 54)))
    go_wp2_with (first | (go_at_call 46; (with_reducible refine (WR.out _).mono ?_); rintro e w1 ⟨rfl, hb⟩; have n1_ : Aside0 (Below w.heap.size w w1) := ⟨below_step (by repeat (first | (with_reducible first | exact HB.out | apply below_alloc | apply pw_below_drewN | apply below_drew1) | exact HB.out)) hb⟩; clear HB; have HB := n1_; clear n1_; have n2_ := Aside0.mk (below_step (by repeat (first | (with_reducible first | exact HX.out | apply below_alloc | apply pw_below_drewN | apply below_drew1) | exact HX.out)) hb); clear HX; have HX := n2_; clear n2_; clear hb; have k0 := pw_cell_below HX.out (show (w.alloc (.cells #[.int .i64 0, .int .i64 im, .int .i64 nl, .int .i64 ge, .int .i64 sz, .int .i64 p0, .int .i64 p1, .int .i64 p2, .int .i64 p3, .int .i64 at_] 54)).cell? ⟨w.heap.size, 0, none⟩ = some (.int .i64 0) by go_simp); have k1 := pw_cell_below HX.out (show (w.alloc (.cells #[.int .i64 0, .int .i64 im, .int .i64 nl, .int .i64 ge, .int .i64 sz, .int .i64 p0, .int .i64 p1, .int .i64 p2, .int .i64 p3, .int .i64 at_] 54)).cell? ⟨w.heap.size, 1, none⟩ = some (.int .i64 im) by go_simp); have k2 := pw_cell_below HX.out (show (w.alloc (.cells #[.int .i64 0, .int .i64 im, .int .i64 nl, .int .i64 ge, .int .i64 sz, .int .i64 p0, .int .i64 p1, .int .i64 p2, .int .i64 p3, .int .i64 at_] 54)).cell? ⟨w.heap.size, 2, none⟩ = some (.int .i64 nl) by go_simp); have k3 := pw_cell_below HX.out (show (w.alloc (.cells #[.int .i64 0, .int .i64 im, .int .i64 nl, .int .i64 ge, .int .i64 sz, .int .i64 p0, .int .i64 p1, .int .i64 p2, .int .i64 p3, .int .i64 at_] 54)).cell? ⟨w.heap.size, 3, none⟩ = some (.int .i64 ge) by go_simp); have k4 := pw_cell_below HX.out (show (w.alloc (.cells #[.int .i64 0, .int .i64 im, .int .i64 nl, .int .i64 ge, .int .i64 sz, .int .i64 p0, .int .i64 p1, .int .i64 p2, .int .i64 p3, .int .i64 at_] 54)).cell? ⟨w.heap.size, 4, none⟩ = some (.int .i64 sz) by go_simp); have k5 := pw_cell_below HX.out (show (w.alloc (.cells #[.int .i64 0, .int .i64 im, .int .i64 nl, .int .i64 ge, .int .i64 sz, .int .i64 p0, .int .i64 p1, .int .i64 p2, .int .i64 p3, .int .i64 at_] 54)).cell? ⟨w.heap.size, 5, none⟩ = some (.int .i64 p0) by go_simp); have k6 := pw_cell_below HX.out (show (w.alloc (.cells #[.int .i64 0, .int .i64 im, .int .i64 nl, .int .i64 ge, .int .i64 sz, .int .i64 p0, .int .i64 p1, .int .i64 p2, .int .i64 p3, .int .i64 at_] 54)).cell? ⟨w.heap.size, 6, none⟩ = some (.int .i64 p1) by go_simp); have k7 := pw_cell_below HX.out (show (w.alloc (.cells #[.int .i64 0, .int .i64 im, .int .i64 nl, .int .i64 ge, .int .i64 sz, .int .i64 p0, .int .i64 p1, .int .i64 p2, .int .i64 p3, .int .i64 at_] 54)).cell? ⟨w.heap.size, 7, none⟩ = some (.int .i64 p2) by go_simp); have k8 := pw_cell_below HX.out (show (w.alloc (.cells #[.int .i64 0, .int .i64 im, .int .i64 nl, .int .i64 ge, .int .i64 sz, .int .i64 p0, .int .i64 p1, .int .i64 p2, .int .i64 p3, .int .i64 at_] 54)).cell? ⟨w.heap.size, 8, none⟩ = some (.int .i64 p3) by go_simp); have k9 := pw_cell_below HX.out (show (w.alloc (.cells #[.int .i64 0, .int .i64 im, .int .i64 nl, .int .i64 ge, .int .i64 sz, .int .i64 p0, .int .i64 p1, .int .i64 p2, .int .i64 p3, .int .i64 at_] 54)).cell? ⟨w.heap.size, 9, none⟩ = some (.int .i64 at_) by go_simp)) | ((with_reducible refine gate_dst (N := 15) rfl ?_); refine Kd.R_make (Kd.int .u8) _ 5 rfl (N := 15) rfl 24 _ _ rfl (64) rfl rfl Try.underlying24 (.int .u8 0) 1 u8info rfl (by decide) (by omega) 0 (ok := fun _ => True) (okp := fun _ => True) rfl (fun _ hk => hk) trivial (by omega) (by omega) (Below.refl _ _) (Nat.le_refl _) ?_; intro v1 w1 ho hb hg_ hnew_; clear hg_ hnew_; obtain ⟨g1, c1, rfl, hg1, hl1, _, _⟩ := Kd.R_form ho (by simp); have HG1 := Aside0.mk (Nat.le_trans (below_size (by repeat (first | (with_reducible first | exact HB.out | apply below_alloc | apply pw_below_drewN | apply below_drew1) | exact HB.out))) hg1); clear hg1 hl1; have HO1 := Aside0.mk (Kd.R_lower ho (below_size (by repeat (first | (with_reducible first | exact HB.out | apply below_alloc | apply pw_below_drewN | apply below_drew1) | exact HB.out)))); have n1_ : Aside0 (Below w.heap.size w w1) := ⟨below_step (by repeat (first | (with_reducible first | exact HB.out | apply below_alloc | apply pw_below_drewN | apply below_drew1) | exact HB.out)) hb⟩; clear HB; have HB := n1_; clear n1_; clear ho hb))
    go_ret2
    exact ⟨_, by rw [E0.out]; rfl, by rw [E1.out]; exact HO1.out, (by repeat (first | (with_reducible first | exact HB.out | apply below_alloc | apply pw_below_drewN | apply below_drew1) | exact HB.out))⟩
  · have hz : ¬ inoZ k im nl ge sz p0 p1 p2 p3 at_ = true := fun h => hk0 (inoZ_true h).1
    have hR : inoR k im nl ge sz p0 p1 p2 p3 at_ = true := by
      unfold inoOk at hok
      simp only [Bool.or_eq_true, Bool.and_eq_true] at hok
      exact (hok.resolve_left hz).1
    have E1 : Aside0 (inoP k im nl ge sz p0 p1 p2 p3 at_ = sealS (inoB k im nl ge sz p0 p1 p2 p3 at_)) := ⟨by unfold inoP; rw [if_pos hok, if_neg hz]⟩
    have HP := Aside0.mk (fun (m : Nat) (h : m < 10) => inoPre_succ (m := m) hR h)
    have hkb : (k == 0) = false := by simp [hk0]
    obtain ⟨nv, hnv⟩ : ∃ nv, nv = inoN k im nl ge sz p0 p1 p2 p3 at_ := ⟨_, rfl⟩
    rw [← hnv] at WN IX
    clear hok hz hR hk0 hnv
    unfold inoV at WR WN ⊢
    go_enter Try.func44, Try.ntmps44
    have HX := Aside0.mk (Below.refl (w.alloc (.cells #[.int .i64 k, .int .i64 im, .int .i64 nl, .int .i64 ge, .int .i64 sz, .int .i64 p0, .int .i64 p1, .int .i64 p2, .int .i64 p3, .int .i64 at_] 54)).heap.size (w.alloc (.cells #[.int .i64 k, .int .i64 im, .int .i64 nl, .int .i64 ge, .int .i64 sz, .int .i64 p0, .int .i64 p1, .int .i64 p2, .int .i64 p3, .int .i64 at_] 54)))
    go_wp2_with (first | (go_at_call 46; (with_reducible refine (WR.out _).mono ?_); rintro e w1 ⟨rfl, hb⟩; have n1_ : Aside0 (Below w.heap.size w w1) := ⟨below_step (by repeat (first | (with_reducible first | exact HB.out | apply below_alloc | apply pw_below_drewN | apply below_drew1) | exact HB.out)) hb⟩; clear HB; have HB := n1_; clear n1_; have n2_ := Aside0.mk (below_step (by repeat (first | (with_reducible first | exact HX.out | apply below_alloc | apply pw_below_drewN | apply below_drew1) | exact HX.out)) hb); clear HX; have HX := n2_; clear n2_; clear hb; have k0 := pw_cell_below HX.out (show (w.alloc (.cells #[.int .i64 k, .int .i64 im, .int .i64 nl, .int .i64 ge, .int .i64 sz, .int .i64 p0, .int .i64 p1, .int .i64 p2, .int .i64 p3, .int .i64 at_] 54)).cell? ⟨w.heap.size, 0, none⟩ = some (.int .i64 k) by go_simp); have k1 := pw_cell_below HX.out (show (w.alloc (.cells #[.int .i64 k, .int .i64 im, .int .i64 nl, .int .i64 ge, .int .i64 sz, .int .i64 p0, .int .i64 p1, .int .i64 p2, .int .i64 p3, .int .i64 at_] 54)).cell? ⟨w.heap.size, 1, none⟩ = some (.int .i64 im) by go_simp); have k2 := pw_cell_below HX.out (show (w.alloc (.cells #[.int .i64 k, .int .i64 im, .int .i64 nl, .int .i64 ge, .int .i64 sz, .int .i64 p0, .int .i64 p1, .int .i64 p2, .int .i64 p3, .int .i64 at_] 54)).cell? ⟨w.heap.size, 2, none⟩ = some (.int .i64 nl) by go_simp); have k3 := pw_cell_below HX.out (show (w.alloc (.cells #[.int .i64 k, .int .i64 im, .int .i64 nl, .int .i64 ge, .int .i64 sz, .int .i64 p0, .int .i64 p1, .int .i64 p2, .int .i64 p3, .int .i64 at_] 54)).cell? ⟨w.heap.size, 3, none⟩ = some (.int .i64 ge) by go_simp); have k4 := pw_cell_below HX.out (show (w.alloc (.cells #[.int .i64 k, .int .i64 im, .int .i64 nl, .int .i64 ge, .int .i64 sz, .int .i64 p0, .int .i64 p1, .int .i64 p2, .int .i64 p3, .int .i64 at_] 54)).cell? ⟨w.heap.size, 4, none⟩ = some (.int .i64 sz) by go_simp); have k5 := pw_cell_below HX.out (show (w.alloc (.cells #[.int .i64 k, .int .i64 im, .int .i64 nl, .int .i64 ge, .int .i64 sz, .int .i64 p0, .int .i64 p1, .int .i64 p2, .int .i64 p3, .int .i64 at_] 54)).cell? ⟨w.heap.size, 5, none⟩ = some (.int .i64 p0) by go_simp); have k6 := pw_cell_below HX.out (show (w.alloc (.cells #[.int .i64 k, .int .i64 im, .int .i64 nl, .int .i64 ge, .int .i64 sz, .int .i64 p0, .int .i64 p1, .int .i64 p2, .int .i64 p3, .int .i64 at_] 54)).cell? ⟨w.heap.size, 6, none⟩ = some (.int .i64 p1) by go_simp); have k7 := pw_cell_below HX.out (show (w.alloc (.cells #[.int .i64 k, .int .i64 im, .int .i64 nl, .int .i64 ge, .int .i64 sz, .int .i64 p0, .int .i64 p1, .int .i64 p2, .int .i64 p3, .int .i64 at_] 54)).cell? ⟨w.heap.size, 7, none⟩ = some (.int .i64 p2) by go_simp); have k8 := pw_cell_below HX.out (show (w.alloc (.cells #[.int .i64 k, .int .i64 im, .int .i64 nl, .int .i64 ge, .int .i64 sz, .int .i64 p0, .int .i64 p1, .int .i64 p2, .int .i64 p3, .int .i64 at_] 54)).cell? ⟨w.heap.size, 8, none⟩ = some (.int .i64 p3) by go_simp); have k9 := pw_cell_below HX.out (show (w.alloc (.cells #[.int .i64 k, .int .i64 im, .int .i64 nl, .int .i64 ge, .int .i64 sz, .int .i64 p0, .int .i64 p1, .int .i64 p2, .int .i64 p3, .int .i64 at_] 54)).cell? ⟨w.heap.size, 9, none⟩ = some (.int .i64 at_) by go_simp)) | (go_at_call 105; (with_reducible refine (WN.out _).mono ?_); rintro e w2 ⟨rfl, hb⟩; have n1_ : Aside0 (Below w.heap.size w w2) := ⟨below_step (by repeat (first | (with_reducible first | exact HB.out | apply below_alloc | apply pw_below_drewN | apply below_drew1) | exact HB.out)) hb⟩; clear HB; have HB := n1_; clear n1_; have n2_ := Aside0.mk (below_step (by repeat (first | (with_reducible first | exact HX.out | apply below_alloc | apply pw_below_drewN | apply below_drew1) | exact HX.out)) hb); clear HX; have HX := n2_; clear n2_; clear hb))
    clear k0 k1 k2 k3 k4 k5 k6 k7 k8 k9 HX
    go_loopw [4, 18] (fun v4 v18 w' => ∃ m : Nat, ∃ A c, v18 = .int .i64 m ∧ v4 = .slice A (inoPre k im nl ge sz p0 p1 p2 p3 at_ m).length c ∧ Aside0 (m ≤ 10) ∧ Aside0 ((inoPre k im nl ge sz p0 p1 p2 p3 at_ m).length ≤ c) ∧ Aside0 (Kd.C (Kd.int .u8) w' A (inoPre k im nl ge sz p0 p1 p2 p3 at_ m).length (inoPre k im nl ge sz p0 p1 p2 p3 at_ m)) ∧ Aside0 (Below w.heap.size w w')) (fun _ i _ => 10 - (intOf i).toNat)
    case atStart => exact ⟨0, none, 0, rfl, rfl, ⟨by omega⟩, ⟨by simp [inoPre]⟩, ⟨Kd.C_nil _ _⟩, HB⟩
    case round =>
      clear HB
      obtain ⟨m, A, c, rfl, rfl, hm, hc, HR, HB⟩ := hrel
      have hm' := hm.out
      by_cases hlt : m < 10
      · have hx := IX.out m hlt
        have hp := HP.out m hlt
        have hpl := inoPre_len k im nl ge sz p0 p1 p2 p3 at_ m (by omega)
        obtain ⟨⟨v, s, t⟩, hr⟩ : ∃ r, r = inoRow k im nl ge sz p0 p1 p2 p3 at_ m := ⟨_, rfl⟩
        rw [← hr] at hx hp
        simp only at hx hp
        obtain ⟨q, hq⟩ : ∃ q, q = inoPre k im nl ge sz p0 p1 p2 p3 at_ m := ⟨_, rfl⟩
        rw [← hq] at hp hpl HR hc ⊢
        have HPP := Aside0.mk hp
        clear hr hq hp
        go_wp2_with (first | (go_at_call 96; (with_reducible refine (numP_walk A c q v s _ (by first | exact HR.out | (refine Kd.C_drewN ?_ _; exact HR.out) | (refine Kd.C_alloc ?_ _; exact HR.out)) hc.out (by omega)).mono ?_); rintro e w5 ⟨v5, rfl, ho, hb⟩; rw [HPP.out] at ho; obtain ⟨A5, c5, rfl⟩ := Kd.R_slice ho; have HR5 := Aside0.mk (Kd.R_reads' ho).2.2; have HC5 := Aside0.mk (Kd.R_reads' ho).2.1; have n1_ : Aside0 (Below w.heap.size w w5) := ⟨below_step (by repeat (first | (with_reducible first | exact HB.out | apply below_alloc | apply pw_below_drewN | apply below_drew1) | exact HB.out)) hb⟩; clear HB; have HB := n1_; clear n1_; clear ho hb))
        exact ⟨⟨m + 1, _, _, rfl, rfl, ⟨by omega⟩, HC5, HR5, HB⟩, by simp [intOf]; omega⟩
      · have hmn : m = 10 := by omega
        subst hmn
        rw [inoPre_all] at HR hc ⊢
        have hY := Aside0.mk (inoB_byts k im nl ge sz p0 p1 p2 p3 at_)
        obtain ⟨q, hq⟩ : ∃ q, q = inoB k im nl ge sz p0 p1 p2 p3 at_ := ⟨_, rfl⟩
        rw [← hq] at HR hc hY E1 ⊢
        clear hq
        go_wp2_with (first | (go_at_call 90; (with_reducible refine (seal_walk A c q _ (by first | exact HR.out | (refine Kd.C_drewN ?_ _; exact HR.out) | (refine Kd.C_alloc ?_ _; exact HR.out)) hY.out).mono ?_); rintro e w5 ⟨v5, rfl, ho, hb⟩; replace ho := Kd.R_lower ho (below_size (by repeat (first | (with_reducible first | exact HB.out | apply below_alloc | apply pw_below_drewN | apply below_drew1) | exact HB.out))); obtain ⟨A5, c5, rfl⟩ := Kd.R_slice ho; have HR5 := Aside0.mk (Kd.R_reads' ho).2.2; have HC5 := Aside0.mk (Kd.R_reads' ho).2.1; have n1_ : Aside0 (Below w.heap.size w w5) := ⟨below_step (by repeat (first | (with_reducible first | exact HB.out | apply below_alloc | apply pw_below_drewN | apply below_drew1) | exact HB.out)) hb⟩; clear HB; have HB := n1_; clear n1_; have HO5 := Aside0.mk ho; clear ho hb))
        go_ret2
        exact ⟨_, by rw [E0.out]; rfl, by rw [E1.out]; exact HO5.out, (by repeat (first | (with_reducible first | exact HB.out | apply below_alloc | apply pw_below_drewN | apply below_drew1) | exact HB.out))⟩
end Go.Proofs.Ytdknolnoimpgeaa.K
