/- The laws of chapter 2, walked. -/
import Derived.Test.YtfbcnmjahpbbeaaK02b
import Derived.Test.YtfbcnmjahpbbeaaR02
import Derived.Test.YtfbcnmjahpbbeaaKXor
namespace Go.Proofs.Ytfbcnmjahpbbeaa.K
open Go.RowKit Go.Proofs.YtfbcnmjahpbbeaaW.PrintWords Go.Proofs.YtfbcnmjahpbbeaaW.PrintLast Go.Proofs.YtfbcnmjahpbbeaaW.PrintMore
set_option linter.unusedVariables false
set_option linter.unusedSimpArgs false
def wiki : List Int := [87, 105, 107, 105, 112, 101, 100, 105, 97]
set_option maxRecDepth 100000 in
theorem l02_awake (w : World) : Calls Try.prog 33 #[] w fun e w' => e = .returned (.bool true) ∧ Below w.heap.size w w' := by
  have HB := Aside0.mk (Below.refl w.heap.size w)
  have hwb : Byts wiki := by decide
  have W1 : Aside0 (∀ A c W, Kd.C (Kd.int .u8) W A 9 wiki → Calls Try.prog 35 #[.slice A 9 c] W fun e w' => e = .returned (.complex .f64 4651303621399412736 4661759976979562496) ∧ w' = W) := ⟨fun A c W h => by
    have h1 := sums_walk A c wiki W h hwb (by decide)
    rw [show fl (s02 wiki).1 = 4651303621399412736 by decide +kernel, show fl (s02 wiki).2 = 4661759976979562496 by decide +kernel] at h1
    exact h1⟩
  have W2 : Aside0 (∀ A c W, Kd.C (Kd.int .u8) W A 9 wiki → Calls Try.prog 36 #[.slice A 9 c] W fun e w' => e = .returned (.int .i64 300286872) ∧ w' = W) := ⟨fun A c W h => by
    have h1 := of_walk A c wiki W h hwb (by decide)
    rw [show of02 wiki = 300286872 by decide +kernel] at h1
    exact h1⟩
  have W3 : Aside0 (∀ A c W, Kd.C (Kd.int .u8) W A 64 (List.replicate 64 0) → 64 ≤ c → Calls Try.prog 40 #[.slice A 64 c] W fun e w' => e = .returned (.bool false) ∧ Below W.heap.size W w') := ⟨fun A c W h hc => by
    have h1 := sealed_walk A c (List.replicate 64 0) W (by rw [List.length_replicate]; exact h) (by rw [List.length_replicate]; exact hc) (Byts.zeros _)
    rw [show sealedS (List.replicate 64 0) = false by decide +kernel, List.length_replicate] at h1
    exact h1⟩
  have h7 : Aside0 (Byts [7]) := ⟨by decide⟩
  have e1 : (FloatKind.f64.format.order 4651303621399412736 4651303621399412736 == some .eq) = true := by decide +kernel
  have e2 : (FloatKind.f64.format.order 4661759976979562496 4661759976979562496 == some .eq) = true := by decide +kernel
  obtain ⟨s, hs⟩ : ∃ s, s = sealS [7] := ⟨_, rfl⟩
  have ES := Aside0.mk hs
  have W4 : Aside0 (∀ A c W, Kd.C (Kd.int .u8) W A s.length s → s.length ≤ c → Calls Try.prog 40 #[.slice A s.length c] W fun e w' => e = .returned (.bool true) ∧ Below W.heap.size W w') := ⟨fun A c W h hc => by
    have h1 := sealed_walk A c s W h hc (by rw [hs]; exact sealS_byts h7.out)
    rw [show sealedS s = true by rw [hs]; exact sealed_seal _] at h1
    exact h1⟩
  clear hs hwb
  go_enter Try.func33, Try.ntmps33
  go_wp2_with (first | ((with_reducible refine gate_dst (N := 2) rfl ?_); refine Kd.R_lit (Kd.int .u8) _ 5 ?hg (N := 2) ?hd (xs := ([(87 : Int), (105 : Int), (107 : Int), (105 : Int), (112 : Int), (101 : Int), (100 : Int), (105 : Int), (97 : Int)] : List (Int))) (inner := [.int .u8 87, .int .u8 105, .int .u8 107, .int .u8 105, .int .u8 112, .int .u8 101, .int .u8 100, .int .u8 105, .int .u8 97]) (ok := fun _ => True) (okp := fun _ => True) ?hr ?hp (fun _ hk => hk) trivial (Below.refl _ _) (Nat.le_refl _) (by simp) ?_; (case hd => rfl); (case hg => rfl); (case hr => first | (go_simp; done) | (go_simp; rfl)); (case hp => exact (Reps.one (show Kd.M (Kd.int .u8) _ _ _ (87 : Int) [.int .u8 87] from rfl) (Reps.one (show Kd.M (Kd.int .u8) _ _ _ (105 : Int) [.int .u8 105] from rfl) (Reps.one (show Kd.M (Kd.int .u8) _ _ _ (107 : Int) [.int .u8 107] from rfl) (Reps.one (show Kd.M (Kd.int .u8) _ _ _ (105 : Int) [.int .u8 105] from rfl) (Reps.one (show Kd.M (Kd.int .u8) _ _ _ (112 : Int) [.int .u8 112] from rfl) (Reps.one (show Kd.M (Kd.int .u8) _ _ _ (101 : Int) [.int .u8 101] from rfl) (Reps.one (show Kd.M (Kd.int .u8) _ _ _ (100 : Int) [.int .u8 100] from rfl) (Reps.one (show Kd.M (Kd.int .u8) _ _ _ (105 : Int) [.int .u8 105] from rfl) (Reps.one (show Kd.M (Kd.int .u8) _ _ _ (97 : Int) [.int .u8 97] from rfl) (Reps.none _ _))))))))))); intro v1 w1 ho hb hg_ hnew_; clear hg_ hnew_; obtain ⟨g1, c1, rfl, hg1, hl1, _, _⟩ := Kd.R_form ho (by simp); have HG1 := Aside0.mk hg1; have HGL1 := Aside0.mk hl1; clear hg1 hl1; have HR1 := Aside0.mk (Kd.R_reads' ho).2.2; have HC1 := Aside0.mk (Kd.R_reads' ho).2.1; have HGW1 := Aside0.mk (Nat.le_trans (Below.size (B := w.heap.size) (w := w) (by repeat (first | (with_reducible first | exact HB.out | apply below_alloc | apply pw_below_drewN | apply below_drew1) | exact HB.out))) HG1.out); have n1_ : Aside0 (Below w.heap.size w w1) := ⟨below_step (by repeat (first | (with_reducible first | exact HB.out | apply below_alloc | apply pw_below_drewN | apply below_drew1) | exact HB.out)) hb⟩; clear HB; have HB := n1_; clear n1_; clear ho hb) | ((with_reducible refine gate_dst (N := 3) rfl ?_); refine Kd.C_convOwn (w0 := w) w.heap.size rfl (N := 3) rfl 22 (.tmp 2) rfl 5 Try.underlying22 Try.underlying5 (some ⟨g1, 0, none⟩) 9 c1 g1 rfl rfl wiki (by first | exact HR1.out | (refine Kd.C_drewN ?_ _; exact HR1.out) | (refine Kd.C_alloc ?_ _; exact HR1.out)) (by repeat (first | (with_reducible first | exact HB.out | apply below_alloc | apply pw_below_drewN | apply below_drew1) | exact HB.out)) HGW1.out ?_; intro wc1 hC hB; clear HB HR1; have HB := Aside0.mk hB; have HR1 := Aside0.mk hC; clear hB hC) | (go_at_call 35; (with_reducible refine (W1.out (some ⟨g1, 0, none⟩) c1 _ (by first | exact HR1.out | (refine Kd.C_drewN ?_ _; exact HR1.out) | (refine Kd.C_alloc ?_ _; exact HR1.out))).mono ?_); rintro e w' ⟨rfl, h_⟩; have h_ := h_.symm; subst h_) | ((with_reducible refine gate_dst (N := 5) rfl ?_); refine Kd.R_lit (Kd.int .u8) _ 5 ?hg (N := 5) ?hd (xs := ([(87 : Int), (105 : Int), (107 : Int), (105 : Int), (112 : Int), (101 : Int), (100 : Int), (105 : Int), (97 : Int)] : List (Int))) (inner := [.int .u8 87, .int .u8 105, .int .u8 107, .int .u8 105, .int .u8 112, .int .u8 101, .int .u8 100, .int .u8 105, .int .u8 97]) (ok := fun _ => True) (okp := fun _ => True) ?hr ?hp (fun _ hk => hk) trivial (Below.refl _ _) (Nat.le_refl _) (by simp) ?_; (case hd => rfl); (case hg => rfl); (case hr => first | (go_simp; done) | (go_simp; rfl)); (case hp => exact (Reps.one (show Kd.M (Kd.int .u8) _ _ _ (87 : Int) [.int .u8 87] from rfl) (Reps.one (show Kd.M (Kd.int .u8) _ _ _ (105 : Int) [.int .u8 105] from rfl) (Reps.one (show Kd.M (Kd.int .u8) _ _ _ (107 : Int) [.int .u8 107] from rfl) (Reps.one (show Kd.M (Kd.int .u8) _ _ _ (105 : Int) [.int .u8 105] from rfl) (Reps.one (show Kd.M (Kd.int .u8) _ _ _ (112 : Int) [.int .u8 112] from rfl) (Reps.one (show Kd.M (Kd.int .u8) _ _ _ (101 : Int) [.int .u8 101] from rfl) (Reps.one (show Kd.M (Kd.int .u8) _ _ _ (100 : Int) [.int .u8 100] from rfl) (Reps.one (show Kd.M (Kd.int .u8) _ _ _ (105 : Int) [.int .u8 105] from rfl) (Reps.one (show Kd.M (Kd.int .u8) _ _ _ (97 : Int) [.int .u8 97] from rfl) (Reps.none _ _))))))))))); intro v2 w2 ho hb hg_ hnew_; clear hg_ hnew_; obtain ⟨g2, c2, rfl, hg2, hl2, _, _⟩ := Kd.R_form ho (by simp); have HG2 := Aside0.mk hg2; have HGL2 := Aside0.mk hl2; clear hg2 hl2; have HR2 := Aside0.mk (Kd.R_reads' ho).2.2; have HC2 := Aside0.mk (Kd.R_reads' ho).2.1; have HGW2 := Aside0.mk (Nat.le_trans (Below.size (B := w.heap.size) (w := w) (by repeat (first | (with_reducible first | exact HB.out | apply below_alloc | apply pw_below_drewN | apply below_drew1) | exact HB.out))) HG2.out); have n1_ : Aside0 (Below w.heap.size w w2) := ⟨below_step (by repeat (first | (with_reducible first | exact HB.out | apply below_alloc | apply pw_below_drewN | apply below_drew1) | exact HB.out)) hb⟩; clear HB; have HB := n1_; clear n1_; clear ho hb) | ((with_reducible refine gate_dst (N := 6) rfl ?_); refine Kd.C_convOwn (w0 := w) w.heap.size rfl (N := 6) rfl 22 (.tmp 5) rfl 5 Try.underlying22 Try.underlying5 (some ⟨g2, 0, none⟩) 9 c2 g2 rfl rfl wiki (by first | exact HR2.out | (refine Kd.C_drewN ?_ _; exact HR2.out) | (refine Kd.C_alloc ?_ _; exact HR2.out)) (by repeat (first | (with_reducible first | exact HB.out | apply below_alloc | apply pw_below_drewN | apply below_drew1) | exact HB.out)) HGW2.out ?_; intro wc2 hC hB; clear HB HR2; have HB := Aside0.mk hB; have HR2 := Aside0.mk hC; clear hB hC) | (go_at_call 36; (with_reducible refine (W2.out (some ⟨g2, 0, none⟩) c2 _ (by first | exact HR2.out | (refine Kd.C_drewN ?_ _; exact HR2.out) | (refine Kd.C_alloc ?_ _; exact HR2.out))).mono ?_); rintro e w' ⟨rfl, h_⟩; have h_ := h_.symm; subst h_) | ((with_reducible refine gate_dst (N := 20) rfl ?_); (try (refine gate_guard (by rfl) ?_; dsimp only)); refine Kd.R_lit (Kd.int .u8) _ 5 ?hg (N := 20) ?hd (xs := ([(7 : Int)] : List (Int))) (inner := [.int .u8 7]) (ok := fun _ => True) (okp := fun _ => True) ?hr ?hp (fun _ hk => hk) trivial (Below.refl _ _) (Nat.le_refl _) (by simp) ?_; (case hd => rfl); (case hg => rfl); (case hr => first | (go_simp; done) | (go_simp; rfl)); (case hp => exact (Reps.one (show Kd.M (Kd.int .u8) _ _ _ (7 : Int) [.int .u8 7] from rfl) (Reps.none _ _))); intro v3 w3 ho hb hg_ hnew_; clear hg_ hnew_; obtain ⟨A3, c3, rfl⟩ := Kd.R_slice ho; have HR3 := Aside0.mk (Kd.R_reads' ho).2.2; have HC3 := Aside0.mk (Kd.R_reads' ho).2.1; have n1_ : Aside0 (Below w.heap.size w w3) := ⟨below_step (by repeat (first | (with_reducible first | exact HB.out | apply below_alloc | apply pw_below_drewN | apply below_drew1) | exact HB.out)) hb⟩; clear HB; have HB := n1_; clear n1_; clear ho hb) | (go_at_call 38; refine (seal_walk A3 c3 [7] _ (by first | exact HR3.out | (refine Kd.C_drewN ?_ _; exact HR3.out) | (refine Kd.C_alloc ?_ _; exact HR3.out)) h7.out).mono ?_; rintro e w4 ⟨v4, rfl, ho, hb⟩; rw [← ES.out] at ho; obtain ⟨A4, c4, rfl⟩ := Kd.R_slice ho; have HR4 := Aside0.mk (Kd.R_reads' ho).2.2; have HC4 := Aside0.mk (Kd.R_reads' ho).2.1; have n1_ : Aside0 (Below w.heap.size w w4) := ⟨below_step (by repeat (first | (with_reducible first | exact HB.out | apply below_alloc | apply pw_below_drewN | apply below_drew1) | exact HB.out)) hb⟩; clear HB; have HB := n1_; clear n1_; clear ho hb) | (go_at_call 40; (with_reducible refine (W4.out A4 c4 _ (by first | exact HR4.out | (refine Kd.C_drewN ?_ _; exact HR4.out) | (refine Kd.C_alloc ?_ _; exact HR4.out)) HC4.out).mono ?_); rintro e w5 ⟨rfl, hb⟩; have n1_ : Aside0 (Below w.heap.size w w5) := ⟨below_step (by repeat (first | (with_reducible first | exact HB.out | apply below_alloc | apply pw_below_drewN | apply below_drew1) | exact HB.out)) hb⟩; clear HB; have HB := n1_; clear n1_; clear hb) | ((with_reducible refine gate_dst (N := 25) rfl ?_); (try (refine gate_guard (by rfl) ?_; dsimp only)); refine Kd.R_make (Kd.int .u8) _ 5 rfl (N := 25) rfl 22 _ _ rfl (64) rfl rfl Try.underlying22 (.int .u8 0) 1 u8info rfl (by decide) (by omega) 0 (ok := fun _ => True) (okp := fun _ => True) rfl (fun _ hk => hk) trivial (by omega) (by omega) (Below.refl _ _) (Nat.le_refl _) ?_; intro v6 w6 ho hb hg_ hnew_; clear hg_ hnew_; obtain ⟨g6, c6, rfl, hg6, hl6, _, _⟩ := Kd.R_form ho (by simp); have HG6 := Aside0.mk (Nat.le_trans (below_size (by repeat (first | (with_reducible first | exact HB.out | apply below_alloc | apply pw_below_drewN | apply below_drew1) | exact HB.out))) hg6); clear hg6 hl6; have HO6 := Aside0.mk (Kd.R_lower ho (below_size (by repeat (first | (with_reducible first | exact HB.out | apply below_alloc | apply pw_below_drewN | apply below_drew1) | exact HB.out)))); have n1_ : Aside0 (Below w.heap.size w w6) := ⟨below_step (by repeat (first | (with_reducible first | exact HB.out | apply below_alloc | apply pw_below_drewN | apply below_drew1) | exact HB.out)) hb⟩; clear HB; have HB := n1_; clear n1_; clear ho hb) | (go_at_call 40; go_loud ((with_reducible refine (W3.out _ c6 _ (by have h_ := (Kd.R_reads' HO6.out).2.2; simp only [List.length_replicate, Int.reduceToNat] at h_; exact h_) (by have h_ := (Kd.R_reads' HO6.out).2.1; simp only [List.length_replicate, Int.reduceToNat] at h_; exact h_)).mono ?_); rintro e w7 ⟨rfl, hb⟩; have n1_ : Aside0 (Below w.heap.size w w7) := ⟨below_step (by repeat (first | (with_reducible first | exact HB.out | apply below_alloc | apply pw_below_drewN | apply below_drew1) | exact HB.out)) hb⟩; clear HB; have HB := n1_; clear n1_; clear hb)))
  go_ret
  exact ⟨by simp, (by repeat (first | (with_reducible first | exact HB.out | apply below_alloc | apply pw_below_drewN | apply below_drew1) | exact HB.out))⟩
set_option maxRecDepth 100000 in
theorem l02_Tells (A : Option Addr) (c : Nat) (l : List Int) (w : World) (hr : Kd.C (Kd.int .u8) w A l.length l) (hc : l.length ≤ c) (hb : Byts l) :
    Calls Try.prog 8 #[.slice A l.length c] w fun e w' => e = .returned (.bool true) ∧ Below w.heap.size w w' := by
  have HR := Aside0.mk hr
  have HY := Aside0.mk hb
  have HB := Aside0.mk (Below.refl w.heap.size w)
  by_cases h0 : l.length ≤ 70000
  case neg =>
    clear hr
    go_enter Try.func8, Try.ntmps8
    go_wp2_with (go_at_call 33; refine (l02_awake _).mono ?_; rintro e w9 ⟨rfl, hb⟩; have n1_ : Aside0 (Below w.heap.size w w9) := ⟨below_step (by repeat (first | (with_reducible first | exact HB.out | apply below_alloc | apply pw_below_drewN | apply below_drew1) | exact HB.out)) hb⟩; clear HB; have HB := n1_; clear n1_; clear hb)
    go_ret
    exact ⟨rfl, HB.out⟩
  have W1 := Aside0.mk (sums_walk A c l w hr hb (by omega))
  have W2 := Aside0.mk (rSums_walk A c l w hr hb (by omega))
  have W3 := Aside0.mk (of_walk A c l w hr hb (by omega))
  have W4 := Aside0.mk (rOf_walk A c l w hr hb (by omega))
  have hlt := s02_lt l
  obtain ⟨x, hx⟩ : ∃ x, x = (s02 l).1 := ⟨_, rfl⟩
  obtain ⟨y, hy⟩ : ∃ y, y = (s02 l).2 := ⟨_, rfl⟩
  rw [← hx, ← hy] at hlt W1 W2
  obtain ⟨f1, hf1⟩ : ∃ f1, f1 = fl x := ⟨_, rfl⟩
  obtain ⟨f2, hf2⟩ : ∃ f2, f2 = fl y := ⟨_, rfl⟩
  rw [← hf1, ← hf2] at W1
  have hc1 : ∀ w, (convert 48 3 (.float .f64 f1)).run Try.prog w = .ok (.int .i64 (x : Int)) w := fun w => run_convert_float_int w _ _ .f64 .i64 _ _ (by rw [Try.underlying48]; rfl) Try.underlying3 (by rw [hf1]; exact fl_toInt (by omega))
  have hc2 : ∀ w, (convert 48 3 (.float .f64 f2)).run Try.prog w = .ok (.int .i64 (y : Int)) w := fun w => run_convert_float_int w _ _ .f64 .i64 _ _ (by rw [Try.underlying48]; rfl) Try.underlying3 (by rw [hf2]; exact fl_toInt (by omega))
  clear hx hy hf1 hf2 hr hb hlt
  go_enter Try.func8, Try.ntmps8
  go_wp2_with (first | (go_at_call 34; (with_reducible refine W2.out.mono ?_); rintro e w' ⟨rfl, h_⟩; have h_ := h_.symm; subst h_) | (go_at_call 35; (with_reducible refine W1.out.mono ?_); rintro e w' ⟨rfl, h_⟩; have h_ := h_.symm; subst h_) | (go_at_call 36; (with_reducible refine W3.out.mono ?_); rintro e w' ⟨rfl, h_⟩; have h_ := h_.symm; subst h_) | (go_at_call 37; (with_reducible refine W4.out.mono ?_); rintro e w' ⟨rfl, h_⟩; have h_ := h_.symm; subst h_) | (go_at_call 33; refine (l02_awake _).mono ?_; rintro e w9 ⟨rfl, hb⟩; have n1_ : Aside0 (Below w.heap.size w w9) := ⟨below_step (by repeat (first | (with_reducible first | exact HB.out | apply below_alloc | apply pw_below_drewN | apply below_drew1) | exact HB.out)) hb⟩; clear HB; have HB := n1_; clear n1_; clear hb))
  go_ret
  exact ⟨by simp, (by repeat (first | (with_reducible first | exact HB.out | apply below_alloc | apply pw_below_drewN | apply below_drew1) | exact HB.out))⟩
set_option maxRecDepth 100000 in
theorem l02_Seals (A : Option Addr) (c : Nat) (l : List Int) (w : World) (hr : Kd.C (Kd.int .u8) w A l.length l) (hc : l.length ≤ c) (hb : Byts l) :
    Calls Try.prog 9 #[.slice A l.length c] w fun e w' => e = .returned (.bool true) ∧ Below w.heap.size w w' := by
  have HR := Aside0.mk hr
  have HY := Aside0.mk hb
  have HC := Aside0.mk hc
  have HB := Aside0.mk (Below.refl w.heap.size w)
  by_cases h0 : l.length ≤ 2000
  case neg =>
    clear hr
    go_enter Try.func9, Try.ntmps9
    go_wp2_with (go_at_call 33; refine (l02_awake _).mono ?_; rintro e w9 ⟨rfl, hb⟩; have n1_ : Aside0 (Below w.heap.size w w9) := ⟨below_step (by repeat (first | (with_reducible first | exact HB.out | apply below_alloc | apply pw_below_drewN | apply below_drew1) | exact HB.out)) hb⟩; clear HB; have HB := n1_; clear n1_; clear hb)
    go_ret
    exact ⟨rfl, HB.out⟩
  obtain ⟨s, hs⟩ : ∃ s, s = sealS l := ⟨_, rfl⟩
  have ES := Aside0.mk hs
  have SB : Aside0 (Byts s) := ⟨by rw [hs]; exact sealS_byts hb⟩
  have S1 : Aside0 (sealedS s = true) := ⟨by rw [hs]; exact sealed_seal _⟩
  have hl8 : l.length < 140737488355328 := by omega
  clear hr hb hs
  go_enter Try.func9, Try.ntmps9
  go_wp2_with (first | (go_at_call 38; refine (seal_walk A c l _ (Kd.C_below HR.out (by repeat (first | (with_reducible first | exact HB.out | apply below_alloc | apply pw_below_drewN | apply below_drew1) | exact HB.out))) HY.out).mono ?_; rintro e w3 ⟨v3, rfl, ho, hb⟩; rw [← ES.out] at ho; obtain ⟨A3, c3, rfl⟩ := Kd.R_slice ho; have HR3 := Aside0.mk (Kd.R_reads' ho).2.2; have HC3 := Aside0.mk (Kd.R_reads' ho).2.1; have n1_ : Aside0 (Below w.heap.size w w3) := ⟨below_step (by repeat (first | (with_reducible first | exact HB.out | apply below_alloc | apply pw_below_drewN | apply below_drew1) | exact HB.out)) hb⟩; clear HB; have HB := n1_; clear n1_; clear ho hb) | (go_at_call 39; refine (rSeal_walk A c l _ (Kd.C_below HR.out (by repeat (first | (with_reducible first | exact HB.out | apply below_alloc | apply pw_below_drewN | apply below_drew1) | exact HB.out))) HY.out hl8).mono ?_; rintro e w4 ⟨v4, rfl, ho, hb⟩; rw [← ES.out] at ho; obtain ⟨A4, c4, rfl⟩ := Kd.R_slice ho; have HR4 := Aside0.mk (Kd.R_reads' ho).2.2; have HC4 := Aside0.mk (Kd.R_reads' ho).2.1; have n_ := Aside0.mk (Kd.C_below HR3.out (by first | exact hb | exact below_undrew hb)); clear HR3; have HR3 := n_; clear n_; have n1_ : Aside0 (Below w.heap.size w w4) := ⟨below_step (by repeat (first | (with_reducible first | exact HB.out | apply below_alloc | apply pw_below_drewN | apply below_drew1) | exact HB.out)) hb⟩; clear HB; have HB := n1_; clear n1_; clear ho hb) | (go_at_call 18; refine (bEq_walk A3 c3 s A4 c4 s _ (by first | exact HR3.out | (refine Kd.C_drewN ?_ _; exact HR3.out) | (refine Kd.C_alloc ?_ _; exact HR3.out)) (by first | exact HR4.out | (refine Kd.C_drewN ?_ _; exact HR4.out) | (refine Kd.C_alloc ?_ _; exact HR4.out)) SB.out SB.out).mono ?_; rintro e w' ⟨rfl, ⟨nd, rfl⟩⟩; simp only [decide_true]) | (go_at_call 40; (with_reducible refine (sealed_walk A3 c3 s _ (by first | exact HR3.out | (refine Kd.C_drewN ?_ _; exact HR3.out) | (refine Kd.C_alloc ?_ _; exact HR3.out)) HC3.out SB.out).mono ?_); rintro e w5 ⟨rfl, hb⟩; rw [S1.out]; have n1_ : Aside0 (Below w.heap.size w w5) := ⟨below_step (by repeat (first | (with_reducible first | exact HB.out | apply below_alloc | apply pw_below_drewN | apply below_drew1) | exact HB.out)) hb⟩; clear HB; have HB := n1_; clear n1_; clear hb) | (go_at_call 40; (with_reducible refine (sealed_walk A c l _ (Kd.C_below HR.out (by repeat (first | (with_reducible first | exact HB.out | apply below_alloc | apply pw_below_drewN | apply below_drew1) | exact HB.out))) HC.out HY.out).mono ?_); rintro e w6 ⟨rfl, hb⟩; have n1_ : Aside0 (Below w.heap.size w w6) := ⟨below_step (by repeat (first | (with_reducible first | exact HB.out | apply below_alloc | apply pw_below_drewN | apply below_drew1) | exact HB.out)) hb⟩; clear HB; have HB := n1_; clear n1_; clear hb) | (go_at_call 41; (with_reducible refine (rSealed_walk A c l _ (Kd.C_below HR.out (by repeat (first | (with_reducible first | exact HB.out | apply below_alloc | apply pw_below_drewN | apply below_drew1) | exact HB.out))) HC.out HY.out).mono ?_); rintro e w7 ⟨rfl, hb⟩; have n1_ : Aside0 (Below w.heap.size w w7) := ⟨below_step (by repeat (first | (with_reducible first | exact HB.out | apply below_alloc | apply pw_below_drewN | apply below_drew1) | exact HB.out)) hb⟩; clear HB; have HB := n1_; clear n1_; clear hb) | (go_at_call 33; refine (l02_awake _).mono ?_; rintro e w9 ⟨rfl, hb⟩; have n1_ : Aside0 (Below w.heap.size w w9) := ⟨below_step (by repeat (first | (with_reducible first | exact HB.out | apply below_alloc | apply pw_below_drewN | apply below_drew1) | exact HB.out)) hb⟩; clear HB; have HB := n1_; clear n1_; clear hb))
  go_ret
  exact ⟨by simp, (by repeat (first | (with_reducible first | exact HB.out | apply below_alloc | apply pw_below_drewN | apply below_drew1) | exact HB.out))⟩
theorem xor_ne {x t : Int} (hx : 0 ≤ x) (hx1 : x < 256) (ht : 0 ≤ t) (ht1 : t < 256) (h0 : t ≠ 0) : 0 ≤ bits .xor .u8 x t ∧ bits .xor .u8 x t < 256 ∧ bits .xor .u8 x t ≠ x := by
  have h := xor_u8 ⟨x.toNat, by omega⟩ ⟨t.toNat, by omega⟩ (by show t.toNat ≠ 0; omega)
  simp only [Int.toNat_of_nonneg hx, Int.toNat_of_nonneg ht] at h
  exact h
set_option maxRecDepth 100000 in
theorem l02_Changed (A : Option Addr) (c : Nat) (l : List Int) (at_ tu : Int) (w : World) (hr : Kd.C (Kd.int .u8) w A l.length l) (hc : l.length ≤ c) (hb : Byts l) (ha0 : 0 ≤ at_) (ha1 : at_ < 256) (ht0 : 0 ≤ tu) (ht1 : tu < 256) :
    Calls Try.prog 10 #[.slice A l.length c, .int .u8 at_, .int .u8 tu] w fun e w' => e = .returned (.bool true) ∧ Below w.heap.size w w' := by
  have HR := Aside0.mk hr
  have HY := Aside0.mk hb
  have HC := Aside0.mk hc
  have HB := Aside0.mk (Below.refl w.heap.size w)
  by_cases h0 : l.length ≤ 2000
  case neg =>
    clear hr
    go_enter Try.func10, Try.ntmps10
    go_wp2_with (go_at_call 33; refine (l02_awake _).mono ?_; rintro e w9 ⟨rfl, hb⟩; have n1_ : Aside0 (Below w.heap.size w w9) := ⟨below_step (by repeat (first | (with_reducible first | exact HB.out | apply below_alloc | apply pw_below_drewN | apply below_drew1) | exact HB.out)) hb⟩; clear HB; have HB := n1_; clear n1_; clear hb)
    go_ret
    exact ⟨rfl, HB.out⟩
  by_cases htu : tu = 0
  · subst htu
    clear hr
    go_enter Try.func10, Try.ntmps10
    go_wp2_with (go_at_call 33; refine (l02_awake _).mono ?_; rintro e w9 ⟨rfl, hb⟩; have n1_ : Aside0 (Below w.heap.size w w9) := ⟨below_step (by repeat (first | (with_reducible first | exact HB.out | apply below_alloc | apply pw_below_drewN | apply below_drew1) | exact HB.out)) hb⟩; clear HB; have HB := n1_; clear n1_; clear hb)
    go_ret
    exact ⟨rfl, HB.out⟩
  obtain ⟨s, hs⟩ : ∃ s, s = sealS l := ⟨_, rfl⟩
  have hsl : s.length = 64 := by rw [hs]; exact sealS_length l
  have hs0 : 0 < s.length := by omega
  obtain ⟨i, hi⟩ : ∃ i : Nat, at_.tmod 64 = (i : Int) := ⟨(at_ % 64).toNat, by rw [Int.tmod_eq_emod_of_nonneg ha0]; omega⟩
  have hi64 : i < 64 := by rw [Int.tmod_eq_emod_of_nonneg ha0] at hi; omega
  have his : i < s.length := by omega
  have hsb : Byts s := by rw [hs]; exact sealS_byts hb
  have hxb := hsb _ (List.getElem_mem his)
  obtain ⟨v1, v2, v3⟩ := xor_ne hxb.1 hxb.2 ht0 ht1 htu
  obtain ⟨x, hx⟩ : ∃ x, x = s[i] := ⟨_, rfl⟩
  rw [← hx] at v1 v2 v3 hxb
  obtain ⟨v, hv⟩ : ∃ v, v = bits .xor .u8 x tu := ⟨_, rfl⟩
  rw [← hv] at v1 v2 v3
  have S1 : Aside0 (sealedS (s.set i v) = false) := ⟨by subst hs; exact changed_not l hb hi64 v1 v2 (by rw [← hx]; exact v3)⟩
  have SB : Aside0 (Byts (s.set i v)) := ⟨fun y hy => by
    rcases List.mem_or_eq_of_mem_set hy with h | h
    · exact hsb y h
    · rw [h]; exact ⟨v1, v2⟩⟩
  have ES := Aside0.mk hs
  have EX := Aside0.mk hx
  have SL := Aside0.mk hsl
  have hl64 : ((s.length : Int) != 64) = false := by rw [hsl]; rfl
  have htb : (tu == 0) = false := by simp [htu]
  have HV := Aside0.mk hv
  clear hr hb hs hx hsl hsb hv v3
  go_enter Try.func10, Try.ntmps10
  go_wp2_with (first | (go_at_call 38; refine (seal_walk A c l _ (Kd.C_below HR.out (by repeat (first | (with_reducible first | exact HB.out | apply below_alloc | apply pw_below_drewN | apply below_drew1) | exact HB.out))) HY.out).mono ?_; rintro e w3 ⟨v3, rfl, ho, hb⟩; rw [← ES.out] at ho; obtain ⟨g3, c3, rfl, hg3, hl3, _, _⟩ := Kd.R_form ho (hs0); have HG3 := Aside0.mk hg3; have HGL3 := Aside0.mk hl3; clear hg3 hl3; have HR3 := Aside0.mk (Kd.R_reads' ho).2.2; have HC3 := Aside0.mk (Kd.R_reads' ho).2.1; have n1_ : Aside0 (Below w.heap.size w w3) := ⟨below_step (by repeat (first | (with_reducible first | exact HB.out | apply below_alloc | apply pw_below_drewN | apply below_drew1) | exact HB.out)) hb⟩; clear HB; have HB := n1_; clear n1_; have HO3 := Aside0.mk ho; obtain ⟨hc3, hf3⟩ := Kd.R_celln 0 ho (i : Int) (by omega) (by omega); rw [rdOf_get his, ← EX.out, Int.toNat_natCast] at hc3; rw [Int.toNat_natCast] at hf3; have HP := Aside0.mk (Kd.R_putg ho (i : Int) v).1; clear ho hb) | (go_at_call 40; go_loud (rw [← HV.out]; have hP := HP.out; rw [Int.toNat_natCast] at hP; have hR5 := (Kd.R_reads' hP).2.2; rw [List.length_set] at hR5; have W5 := sealed_walk (some ⟨g3, 0, none⟩) c3 (s.set i v) _ (by rw [List.length_set]; exact hR5) (by rw [List.length_set]; exact HC3.out) SB.out; rw [S1.out, List.length_set] at W5; refine W5.mono ?_; rintro e w5 ⟨rfl, hb⟩; have n1_ : Aside0 (Below w.heap.size w w5) := ⟨below_step (below_set HB.out HG3.out) hb⟩; clear HB; have HB := n1_; clear n1_ hb hP hR5 W5)) | (go_at_call 33; refine (l02_awake _).mono ?_; rintro e w9 ⟨rfl, hb⟩; have n1_ : Aside0 (Below w.heap.size w w9) := ⟨below_step (by repeat (first | (with_reducible first | exact HB.out | apply below_alloc | apply pw_below_drewN | apply below_drew1) | exact HB.out)) hb⟩; clear HB; have HB := n1_; clear n1_; clear hb))
  go_ret
  exact ⟨by simp, (by repeat (first | (with_reducible first | exact HB.out | apply below_alloc | apply pw_below_drewN | apply below_drew1) | exact HB.out))⟩
end Go.Proofs.Ytfbcnmjahpbbeaa.K
