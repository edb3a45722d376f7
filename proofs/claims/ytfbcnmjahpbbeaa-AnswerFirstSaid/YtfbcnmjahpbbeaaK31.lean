/- The walks of the package answer: Yes. -/
import Derived.Test.YtfbcnmjahpbbeaaKS31
namespace Go.Proofs.Ytfbcnmjahpbbeaa.K
open Go.RowKit Go.Proofs.YtfbcnmjahpbbeaaW.PrintWords Go.Proofs.YtfbcnmjahpbbeaaW.PrintLast Go.Proofs.YtfbcnmjahpbbeaaW.PrintMore
set_option linter.unusedVariables false
set_option linter.unusedSimpArgs false
theorem fnd_size (w : World) : (sizeOf 3).run Try.prog w = .ok 1 w := int_size w
theorem eq3 (w : World) (a b c a' b' c' : Int) : (Op.equalIn 10000 106 (.agg #[.int .i64 a, .int .i64 b, .int .i64 c]) (.agg #[.int .i64 a', .int .i64 b', .int .i64 c'])).run Try.prog w = .ok (a == a' && (b == b' && c == c')) w := by
  have h := run_equalIn_ints (P := Try.prog) w .i64 9998 106 3 3 Try.underlying106 Try.underlying3 int_size [a, b, c] [a', b', c'] rfl rfl
  rw [show (([a, b, c] : List Int) == [a', b', c']) = (a == a' && (b == b' && c == c')) by simp [List.cons_beq_cons]] at h
  exact h
theorem can_walk (x : Int) (w : World) : Calls Try.prog 79 #[.int .i64 x] w fun e w' => e = .returned (.bool (canB x)) ∧ w' = w := by
  by_cases h0 : 1 ≤ x
  · have E0 : Aside0 (canB x = decide (x ≤ 21)) := ⟨by simp [canB, h0]⟩
    go_enter Try.func79, Try.ntmps79
    go_wp2
    go_ret
    exact ⟨by rw [E0.out]; rfl, rfl⟩
  · have E0 : Aside0 (canB x = false) := ⟨by simp [canB]; omega⟩
    have h1 : x < 1 := by omega
    clear h0
    go_enter Try.func79, Try.ntmps79
    go_wp2
    go_ret
    exact ⟨by rw [E0.out]; rfl, rfl⟩
theorem rCan_walk (x : Int) (w : World) : Calls Try.prog 82 #[.int .i64 x] w fun e w' => e = .returned (.bool (canB x)) ∧ w' = w := by
  by_cases h0 : 1 ≤ x
  · have E0 : Aside0 (canB x = decide (x ≤ 21)) := ⟨by simp [canB, h0]⟩
    go_enter Try.func82, Try.ntmps82
    go_wp2
    go_ret
    exact ⟨by rw [E0.out]; rfl, rfl⟩
  · have E0 : Aside0 (canB x = false) := ⟨by simp [canB]; omega⟩
    have h1 : x < 1 := by omega
    clear h0
    go_enter Try.func82, Try.ntmps82
    go_wp2
    go_ret
    exact ⟨by rw [E0.out]; rfl, rfl⟩
set_option maxRecDepth 100000 in
theorem yes1_walk (a : Ans) (f : Fnd) (B : Nat) (W : World) (h0 : W.cell? ⟨B, 0, none⟩ = some (.int .i64 f.cl)) (h2 : W.cell? ⟨B, 2, none⟩ = some (.int .i64 f.ino)) (h3 : W.cell? ⟨B, 3, none⟩ = some (.int .i64 f.sl)) :
    Calls Try.prog 81 #[.agg #[.int .i64 a.cl, .int .i64 a.ino, .int .i64 a.sl, .bool a.yes], .pointer (some ⟨B, 0, none⟩)] W fun e w' => e = .returned (.bool (ansFor f a)) ∧ Below W.heap.size W w' := by
  obtain ⟨fc, fl, fi, fs⟩ := f
  obtain ⟨ac, ai, as_, ay⟩ := a
  simp only at h0 h2 h3 ⊢
  have E0 : Aside0 (ansFor ⟨fc, fl, fi, fs⟩ ⟨ac, ai, as_, ay⟩ = (ac == fc && (ai == fi && as_ == fs))) := ⟨rfl⟩
  have q := fun w => eq3 w ac ai as_ fc fi fs
  have hB : B < W.heap.size := World.block_lt_of_cell? _ _ h0
  go_enter Try.func81, Try.ntmps81
  go_wp2
  go_ret
  exact ⟨by rw [E0.out]; rfl, (by repeat (first | exact Below.refl _ _ | apply Below.drew | apply below_alloc))⟩
set_option maxHeartbeats 1000000 in
set_option maxRecDepth 100000 in
theorem yes_walk (mode : Int) (A : Option Addr) (c : Nat) (l : List Ans) (d : Bool) (f : Fnd) (w : World) (hr : Kd.C kAns w A l.length l) (hl : l.length ≤ 9223372036854775807) :
    Calls Try.prog 57 #[.agg #[.int .i64 mode, .slice A l.length c, .bool d], .agg #[.int .i64 f.cl, .int .i64 f.la, .int .i64 f.ino, .int .i64 f.sl]] w fun e w' => e = .returned (.bool (yesP mode l d f)) ∧ Below w.heap.size w w' := by
  obtain ⟨fc, fl, fi, fs⟩ := f
  have HR := Aside0.mk hr
  have HB := Aside0.mk (Below.refl w.heap.size w)
  have WC := Aside0.mk (fun W => can_walk fc W)
  obtain ⟨cb, hcb⟩ : ∃ b, b = canB fc := ⟨_, rfl⟩
  have HCB := Aside0.mk hcb
  rw [← hcb] at WC
  clear hr hcb
  simp only
  cases cb with
  | false =>
    have E0 : Aside0 (yesP mode l d ⟨fc, fl, fi, fs⟩ = false) := ⟨yesP_no (by rw [← HCB.out]; simp)⟩
    go_enter Try.func57, Try.ntmps57
    go_wp2_with (go_at_call 79; (with_reducible refine (WC.out _).mono ?_); rintro e w' ⟨rfl, h_⟩; have h_ := h_.symm; subst h_)
    go_ret
    exact ⟨by rw [E0.out]; rfl, (by repeat (first | (with_reducible first | exact HB.out | apply below_alloc | apply pw_below_drewN | apply below_drew1) | exact HB.out))⟩
  | true =>
  by_cases hfl : fl = 0
  case neg =>
    have E0 : Aside0 (yesP mode l d ⟨fc, fl, fi, fs⟩ = false) := ⟨yesP_no (fun h => hfl h.2)⟩
    have hb : (fl != 0) = true := by simp [hfl]
    clear hfl
    go_enter Try.func57, Try.ntmps57
    go_wp2_with (go_at_call 79; (with_reducible refine (WC.out _).mono ?_); rintro e w' ⟨rfl, h_⟩; have h_ := h_.symm; subst h_)
    go_ret
    exact ⟨by rw [E0.out]; rfl, (by repeat (first | (with_reducible first | exact HB.out | apply below_alloc | apply pw_below_drewN | apply below_drew1) | exact HB.out))⟩
  subst hfl
  have H0 : Aside0 (canB fc = true ∧ (0 : Int) = 0) := ⟨HCB.out.symm, rfl⟩
  by_cases hm1 : mode = 1
  · subst hm1
    have E0 : Aside0 (yesP 1 l d ⟨fc, 0, fi, fs⟩ = true) := ⟨yesP_auto H0.out⟩
    go_enter Try.func57, Try.ntmps57
    go_wp2_with (go_at_call 79; (with_reducible refine (WC.out _).mono ?_); rintro e w' ⟨rfl, h_⟩; have h_ := h_.symm; subst h_)
    go_ret
    exact ⟨by rw [E0.out]; rfl, (by repeat (first | (with_reducible first | exact HB.out | apply below_alloc | apply pw_below_drewN | apply below_drew1) | exact HB.out))⟩
  have hm1b : (mode == 1) = false := by simp [hm1]
  by_cases hm2 : mode = 2
  case neg =>
    have E0 : Aside0 (yesP mode l d ⟨fc, 0, fi, fs⟩ = false) := ⟨yesP_other hm1 hm2⟩
    have hm2b : (mode == 2) = false := by simp [hm2]
    clear hm1 hm2
    go_enter Try.func57, Try.ntmps57
    go_wp2_with (go_at_call 79; (with_reducible refine (WC.out _).mono ?_); rintro e w' ⟨rfl, h_⟩; have h_ := h_.symm; subst h_)
    go_ret
    exact ⟨by rw [E0.out]; rfl, (by repeat (first | (with_reducible first | exact HB.out | apply below_alloc | apply pw_below_drewN | apply below_drew1) | exact HB.out))⟩
  subst hm2
  clear hm1 hm1b
  have eg := Aside0.mk (enters_of Try.func81 (by kernel_rfl) rfl : ∀ args w, (callFunc 81 args).run Try.prog w = .ok (.enter 81 args) w)
  have WI : Aside0 (∀ W B, Kd.C kAns W A l.length l → W.cell? ⟨B, 0, none⟩ = some (.int .i64 fc) → W.cell? ⟨B, 2, none⟩ = some (.int .i64 fi) → W.cell? ⟨B, 3, none⟩ = some (.int .i64 fs) →
      Calls Try.prog 80 #[.slice A l.length c, .func (.func 81) #[] #[.pointer (some ⟨B, 0, none⟩)]] W fun e w' => e = .returned (.int .i64 (idxP (ansFor ⟨fc, 0, fi, fs⟩) l)) ∧ Below W.heap.size W w') :=
    ⟨fun W B h h0 h2 h3 => idxA_walk A c l (ansFor ⟨fc, 0, fi, fs⟩) _ _ W h hl eg.out (fun W' x hb => yes1_walk x ⟨fc, 0, fi, fs⟩ B W' (pw_cell_below hb h0) (pw_cell_below hb h2) (pw_cell_below hb h3))⟩
  rcases ans_cases ⟨fc, 0, fi, fs⟩ l with ⟨k, hk, hp, h0⟩ | h0
  · have E0 : Aside0 (yesP 2 l d ⟨fc, 0, fi, fs⟩ = l[k].yes) := ⟨yesP_hit H0.out hk hp h0⟩
    rw [idxP_hit hk hp h0] at WI
    obtain ⟨ad, rfl, hx, hxs⟩ := Kd.at_flatA HR.out hk
    have HY : Aside0 (w.cell? ⟨(ad.add (k * 4)).block, (ad.add (k * 4)).off + 3, none⟩ = some (.bool l[k].yes)) := ⟨hxs 2 _ rfl⟩
    obtain ⟨y, hy⟩ : ∃ y, y = l[k].yes := ⟨_, rfl⟩
    rw [← hy] at E0 HY
    clear hx hxs hp h0 hy
    go_enter Try.func57, Try.ntmps57
    have HX := Aside0.mk (Below.refl ((w.alloc (.cells #[.int .i64 2, .slice (some ad) l.length c, .bool d] 66)).alloc (.cells #[.int .i64 fc, .int .i64 0, .int .i64 fi, .int .i64 fs] 68)).heap.size ((w.alloc (.cells #[.int .i64 2, .slice (some ad) l.length c, .bool d] 66)).alloc (.cells #[.int .i64 fc, .int .i64 0, .int .i64 fi, .int .i64 fs] 68)))
    go_wp2_with (first | (go_at_call 79; (with_reducible refine (WC.out _).mono ?_); rintro e w' ⟨rfl, h_⟩; have h_ := h_.symm; subst h_) | (go_at_call 80; go_loud ((with_reducible refine (WI.out _ (w.heap.size + 1) (Kd.C_below HR.out (by repeat (first | (with_reducible first | exact HB.out | apply below_alloc | apply pw_below_drewN | apply below_drew1) | exact HB.out))) (by go_simp) (by go_simp) (by go_simp)).mono ?_); rintro e w5 ⟨rfl, hb⟩; have n1_ : Aside0 (Below w.heap.size w w5) := ⟨below_step (by repeat (first | (with_reducible first | exact HB.out | apply below_alloc | apply pw_below_drewN | apply below_drew1) | exact HB.out)) hb⟩; clear HB; have HB := n1_; clear n1_; have n2_ := Aside0.mk (below_step (by repeat (first | (with_reducible first | exact HX.out | apply below_alloc | apply pw_below_drewN | apply below_drew1) | exact HX.out)) hb); clear HX; have HX := n2_; clear n2_; clear hb; have s1 := pw_cell_below HX.out (show ((w.alloc (.cells #[.int .i64 2, .slice (some ad) l.length c, .bool d] 66)).alloc (.cells #[.int .i64 fc, .int .i64 0, .int .i64 fi, .int .i64 fs] 68)).cell? ⟨w.heap.size, 1, none⟩ = some (.slice (some ad) l.length c) by go_simp); have s2 := pw_cell_below HX.out (show ((w.alloc (.cells #[.int .i64 2, .slice (some ad) l.length c, .bool d] 66)).alloc (.cells #[.int .i64 fc, .int .i64 0, .int .i64 fi, .int .i64 fs] 68)).cell? ⟨w.heap.size, 2, none⟩ = some (.bool d) by go_simp); have s3 := pw_cell_below HB.out HY.out)))
    go_ret
    exact ⟨by rw [E0.out]; rfl, (by repeat (first | (with_reducible first | exact HB.out | apply below_alloc | apply pw_below_drewN | apply below_drew1) | exact HB.out))⟩
  · have E0 : Aside0 (yesP 2 l d ⟨fc, 0, fi, fs⟩ = d) := ⟨yesP_miss H0.out h0⟩
    rw [idxP_miss h0] at WI
    clear h0
    go_enter Try.func57, Try.ntmps57
    have HX := Aside0.mk (Below.refl ((w.alloc (.cells #[.int .i64 2, .slice A l.length c, .bool d] 66)).alloc (.cells #[.int .i64 fc, .int .i64 0, .int .i64 fi, .int .i64 fs] 68)).heap.size ((w.alloc (.cells #[.int .i64 2, .slice A l.length c, .bool d] 66)).alloc (.cells #[.int .i64 fc, .int .i64 0, .int .i64 fi, .int .i64 fs] 68)))
    go_wp2_with (first | (go_at_call 79; (with_reducible refine (WC.out _).mono ?_); rintro e w' ⟨rfl, h_⟩; have h_ := h_.symm; subst h_) | (go_at_call 80; go_loud ((with_reducible refine (WI.out _ (w.heap.size + 1) (Kd.C_below HR.out (by repeat (first | (with_reducible first | exact HB.out | apply below_alloc | apply pw_below_drewN | apply below_drew1) | exact HB.out))) (by go_simp) (by go_simp) (by go_simp)).mono ?_); rintro e w5 ⟨rfl, hb⟩; have n1_ : Aside0 (Below w.heap.size w w5) := ⟨below_step (by repeat (first | (with_reducible first | exact HB.out | apply below_alloc | apply pw_below_drewN | apply below_drew1) | exact HB.out)) hb⟩; clear HB; have HB := n1_; clear n1_; have n2_ := Aside0.mk (below_step (by repeat (first | (with_reducible first | exact HX.out | apply below_alloc | apply pw_below_drewN | apply below_drew1) | exact HX.out)) hb); clear HX; have HX := n2_; clear n2_; clear hb; have s1 := pw_cell_below HX.out (show ((w.alloc (.cells #[.int .i64 2, .slice A l.length c, .bool d] 66)).alloc (.cells #[.int .i64 fc, .int .i64 0, .int .i64 fi, .int .i64 fs] 68)).cell? ⟨w.heap.size, 1, none⟩ = some (.slice A l.length c) by go_simp); have s2 := pw_cell_below HX.out (show ((w.alloc (.cells #[.int .i64 2, .slice A l.length c, .bool d] 66)).alloc (.cells #[.int .i64 fc, .int .i64 0, .int .i64 fi, .int .i64 fs] 68)).cell? ⟨w.heap.size, 2, none⟩ = some (.bool d) by go_simp))))
    go_ret
    exact ⟨by rw [E0.out]; rfl, (by repeat (first | (with_reducible first | exact HB.out | apply below_alloc | apply pw_below_drewN | apply below_drew1) | exact HB.out))⟩
end Go.Proofs.Ytfbcnmjahpbbeaa.K
