/- The reference of chapter 31: Yes. -/
import Derived.Test.YtfbcnmjahpbbeaaK31
namespace Go.Proofs.Ytfbcnmjahpbbeaa.K
open Go.RowKit Go.Proofs.YtfbcnmjahpbbeaaW.PrintWords Go.Proofs.YtfbcnmjahpbbeaaW.PrintLast Go.Proofs.YtfbcnmjahpbbeaaW.PrintMore
set_option linter.unusedVariables false
set_option linter.unusedSimpArgs false
theorem ansFor_f1 {f : Fnd} {a : Ans} (h : (a.cl == f.cl) = false) : ansFor f a = false := by unfold ansFor; rw [h]; rfl
theorem ansFor_f2 {f : Fnd} {a : Ans} (h : (a.ino == f.ino) = false) : ansFor f a = false := by unfold ansFor; rw [h]; simp
theorem ansFor_f3 {f : Fnd} {a : Ans} (h : (a.sl == f.sl) = false) : ansFor f a = false := by unfold ansFor; rw [h]; simp
theorem ansFor_t {f : Fnd} {a : Ans} (h1 : (a.cl == f.cl) = true) (h2 : (a.ino == f.ino) = true) (h3 : (a.sl == f.sl) = true) : ansFor f a = true := by unfold ansFor; rw [h1, h2, h3]; rfl
set_option maxHeartbeats 2000000 in
set_option maxRecDepth 100000 in
theorem rYes_walk (mode : Int) (A : Option Addr) (c : Nat) (l : List Ans) (d : Bool) (f : Fnd) (w : World) (hr : Kd.C kAns w A l.length l) (hl : l.length ≤ 9223372036854775807) :
    Calls Try.prog 58 #[.agg #[.int .i64 mode, .slice A l.length c, .bool d], .agg #[.int .i64 f.cl, .int .i64 f.la, .int .i64 f.ino, .int .i64 f.sl]] w fun e w' => e = .returned (.bool (yesP mode l d f)) ∧ Below w.heap.size w w' := by
  obtain ⟨fc, fl, fi, fs⟩ := f
  have HR := Aside0.mk hr
  have HB := Aside0.mk (Below.refl w.heap.size w)
  have WC := Aside0.mk (fun W => rCan_walk fc W)
  obtain ⟨cb, hcb⟩ : ∃ b, b = canB fc := ⟨_, rfl⟩
  have HCB := Aside0.mk hcb
  rw [← hcb] at WC
  clear hr hcb
  simp only
  cases cb with
  | false =>
    have E0 : Aside0 (yesP mode l d ⟨fc, fl, fi, fs⟩ = false) := ⟨yesP_no (by rw [← HCB.out]; simp)⟩
    go_enter Try.func58, Try.ntmps58
    go_wp2_with (go_at_call 82; (with_reducible refine (WC.out _).mono ?_); rintro e w' ⟨rfl, h_⟩; have h_ := h_.symm; subst h_)
    go_ret
    exact ⟨by rw [E0.out]; rfl, (by repeat (first | (with_reducible first | exact HB.out | apply below_alloc | apply pw_below_drewN | apply below_drew1) | exact HB.out))⟩
  | true =>
  by_cases hfl : fl = 0
  case neg =>
    have E0 : Aside0 (yesP mode l d ⟨fc, fl, fi, fs⟩ = false) := ⟨yesP_no (fun h => hfl h.2)⟩
    have hb : (fl != 0) = true := by simp [hfl]
    clear hfl
    go_enter Try.func58, Try.ntmps58
    go_wp2_with (go_at_call 82; (with_reducible refine (WC.out _).mono ?_); rintro e w' ⟨rfl, h_⟩; have h_ := h_.symm; subst h_)
    go_ret
    exact ⟨by rw [E0.out]; rfl, (by repeat (first | (with_reducible first | exact HB.out | apply below_alloc | apply pw_below_drewN | apply below_drew1) | exact HB.out))⟩
  subst hfl
  have hc1 := HCB.out.symm
  have H0 : Aside0 (∀ h : canB fc = true, yesP 1 l d ⟨fc, 0, fi, fs⟩ = true) := ⟨fun h => yesP_auto ⟨h, rfl⟩⟩
  have HH := Aside0.mk (fun (k : Nat) (hk : k < l.length) (hp : ansFor ⟨fc, 0, fi, fs⟩ l[k] = true) (h0 : ∀ j (hj : j < k), ansFor ⟨fc, 0, fi, fs⟩ (l[j]'(by omega)) = false) => yesP_hit (l := l) (d := d) (f := ⟨fc, 0, fi, fs⟩) ⟨hc1, rfl⟩ hk hp h0)
  have HM := Aside0.mk (fun (h0 : ∀ j (hj : j < l.length), ansFor ⟨fc, 0, fi, fs⟩ l[j] = false) => yesP_miss (l := l) (d := d) (f := ⟨fc, 0, fi, fs⟩) ⟨hc1, rfl⟩ h0)
  clear hc1
  by_cases hm1 : mode = 1
  · subst hm1
    have E0 : Aside0 (yesP 1 l d ⟨fc, 0, fi, fs⟩ = true) := ⟨H0.out HCB.out.symm⟩
    go_enter Try.func58, Try.ntmps58
    go_wp2_with (go_at_call 82; (with_reducible refine (WC.out _).mono ?_); rintro e w' ⟨rfl, h_⟩; have h_ := h_.symm; subst h_)
    go_ret
    exact ⟨by rw [E0.out]; rfl, (by repeat (first | (with_reducible first | exact HB.out | apply below_alloc | apply pw_below_drewN | apply below_drew1) | exact HB.out))⟩
  have hm1b : (mode == 1) = false := by simp [hm1]
  by_cases hm2 : mode = 2
  case neg =>
    have E0 : Aside0 (yesP mode l d ⟨fc, 0, fi, fs⟩ = false) := ⟨yesP_other hm1 hm2⟩
    have hm2b : (mode != 2) = true := by simp [hm2]
    clear hm1 hm2
    go_enter Try.func58, Try.ntmps58
    go_wp2_with (go_at_call 82; (with_reducible refine (WC.out _).mono ?_); rintro e w' ⟨rfl, h_⟩; have h_ := h_.symm; subst h_)
    go_ret
    exact ⟨by rw [E0.out]; rfl, (by repeat (first | (with_reducible first | exact HB.out | apply below_alloc | apply pw_below_drewN | apply below_drew1) | exact HB.out))⟩
  subst hm2
  clear hm1 hm1b
  go_enter Try.func58, Try.ntmps58
  have HX := Aside0.mk (Below.refl ((w.alloc (.cells #[.int .i64 2, .slice A l.length c, .bool d] 66)).alloc (.cells #[.int .i64 fc, .int .i64 0, .int .i64 fi, .int .i64 fs] 68)).heap.size ((w.alloc (.cells #[.int .i64 2, .slice A l.length c, .bool d] 66)).alloc (.cells #[.int .i64 fc, .int .i64 0, .int .i64 fi, .int .i64 fs] 68)))
  go_wp2_with (go_at_call 82; (with_reducible refine (WC.out _).mono ?_); rintro e w' ⟨rfl, h_⟩; have h_ := h_.symm; subst h_)
  clear HB
  go_loopw [5] (fun v5 w' => ∃ m : Nat, v5 = .int .i64 m ∧ Aside0 (m ≤ l.length) ∧ Aside0 (∀ j (hj : j < l.length), j < m → ansFor ⟨fc, 0, fi, fs⟩ l[j] = false) ∧ Aside0 (Below ((w.alloc (.cells #[.int .i64 2, .slice A l.length c, .bool d] 66)).alloc (.cells #[.int .i64 fc, .int .i64 0, .int .i64 fi, .int .i64 fs] 68)).heap.size ((w.alloc (.cells #[.int .i64 2, .slice A l.length c, .bool d] 66)).alloc (.cells #[.int .i64 fc, .int .i64 0, .int .i64 fi, .int .i64 fs] 68)) w')) (fun i _ => l.length - (intOf i).toNat)
  case atStart => exact ⟨0, rfl, ⟨Nat.zero_le _⟩, ⟨fun j hj h => absurd h (by omega)⟩, HX⟩
  case round =>
    clear HX
    obtain ⟨m, rfl, hm, hall, HX⟩ := hrel
    have hm' := hm.out
    have ka1 := pw_cell_below HX.out (show ((w.alloc (.cells #[.int .i64 2, .slice A l.length c, .bool d] 66)).alloc (.cells #[.int .i64 fc, .int .i64 0, .int .i64 fi, .int .i64 fs] 68)).cell? ⟨w.heap.size, 1, none⟩ = some (.slice A l.length c) by go_simp); have ka2 := pw_cell_below HX.out (show ((w.alloc (.cells #[.int .i64 2, .slice A l.length c, .bool d] 66)).alloc (.cells #[.int .i64 fc, .int .i64 0, .int .i64 fi, .int .i64 fs] 68)).cell? ⟨w.heap.size, 2, none⟩ = some (.bool d) by go_simp); have kb0 := pw_cell_below HX.out (show ((w.alloc (.cells #[.int .i64 2, .slice A l.length c, .bool d] 66)).alloc (.cells #[.int .i64 fc, .int .i64 0, .int .i64 fi, .int .i64 fs] 68)).cell? ⟨w.heap.size + 1, 0, none⟩ = some (.int .i64 fc) by go_simp); have kb2 := pw_cell_below HX.out (show ((w.alloc (.cells #[.int .i64 2, .slice A l.length c, .bool d] 66)).alloc (.cells #[.int .i64 fc, .int .i64 0, .int .i64 fi, .int .i64 fs] 68)).cell? ⟨w.heap.size + 1, 2, none⟩ = some (.int .i64 fi) by go_simp); have kb3 := pw_cell_below HX.out (show ((w.alloc (.cells #[.int .i64 2, .slice A l.length c, .bool d] 66)).alloc (.cells #[.int .i64 fc, .int .i64 0, .int .i64 fi, .int .i64 fs] 68)).cell? ⟨w.heap.size + 1, 3, none⟩ = some (.int .i64 fs) by go_simp); have kz := World.block_lt_of_cell? _ _ kb0; simp only at kz
    by_cases hlt : m < l.length
    · obtain ⟨ad, rfl, hx, hxs⟩ := Kd.at_flatA (Kd.C_below HR.out (below_step (W := (w.alloc (.cells #[.int .i64 2, .slice A l.length c, .bool d] 66)).alloc (.cells #[.int .i64 fc, .int .i64 0, .int .i64 fi, .int .i64 fs] 68)) (by repeat (first | exact Below.refl _ _ | apply Below.drew | apply below_alloc)) HX.out)) hlt
      obtain ⟨x, hxx⟩ : ∃ x, x = l[m] := ⟨_, rfl⟩
      rw [← hxx] at hx hxs
      obtain ⟨ac, ai, as_, ay⟩ := x
      have x0 := hx _ rfl
      have x1 := hxs 0 _ rfl
      have x2 := hxs 1 _ rfl
      have x3 := hxs 2 _ rfl
      have HXX := Aside0.mk hxx
      simp only [Nat.reduceAdd] at x1 x2 x3
      have HN : Aside0 (ansFor ⟨fc, 0, fi, fs⟩ ⟨ac, ai, as_, ay⟩ = false → ∀ j (hj : j < l.length), j < m + 1 → ansFor ⟨fc, 0, fi, fs⟩ l[j] = false) := ⟨fun hf j hj h => by
        by_cases hjm : j = m
        · subst hjm; rw [← HXX.out]; exact hf
        · exact hall.out j hj (by omega)⟩
      have HT : Aside0 (ansFor ⟨fc, 0, fi, fs⟩ ⟨ac, ai, as_, ay⟩ = true → yesP 2 l d ⟨fc, 0, fi, fs⟩ = ay) := ⟨fun ht => by
        have := HH.out m hlt (by rw [← HXX.out]; exact ht) (fun j hj => hall.out j (by omega) hj)
        rw [this, ← HXX.out]⟩
      clear hx hxs hxx
      cases h1 : (ac == fc) with
      | false =>
        have HA := Aside0.mk (HN.out (ansFor_f1 h1))
        go_wp2
        exact ⟨⟨m + 1, rfl, ⟨by omega⟩, HA, ⟨(by repeat (first | (with_reducible first | exact HX.out | apply below_alloc | apply pw_below_drewN | apply below_drew1) | exact HX.out))⟩⟩, by simp [intOf]; omega⟩
      | true =>
        cases h2 : (ai == fi) with
        | false =>
          have HA := Aside0.mk (HN.out (ansFor_f2 h2))
          go_wp2
          exact ⟨⟨m + 1, rfl, ⟨by omega⟩, HA, ⟨(by repeat (first | (with_reducible first | exact HX.out | apply below_alloc | apply pw_below_drewN | apply below_drew1) | exact HX.out))⟩⟩, by simp [intOf]; omega⟩
        | true =>
          cases h3 : (as_ == fs) with
          | false =>
            have HA := Aside0.mk (HN.out (ansFor_f3 h3))
            go_wp2
            exact ⟨⟨m + 1, rfl, ⟨by omega⟩, HA, ⟨(by repeat (first | (with_reducible first | exact HX.out | apply below_alloc | apply pw_below_drewN | apply below_drew1) | exact HX.out))⟩⟩, by simp [intOf]; omega⟩
          | true =>
            have E0 := Aside0.mk (HT.out (ansFor_t h1 h2 h3))
            go_wp2
            go_ret
            exact ⟨by rw [E0.out]; rfl, (below_step (W := (w.alloc (.cells #[.int .i64 2, .slice (some ad) l.length c, .bool d] 66)).alloc (.cells #[.int .i64 fc, .int .i64 0, .int .i64 fi, .int .i64 fs] 68)) (by repeat (first | exact Below.refl _ _ | apply Below.drew | apply below_alloc)) (by repeat (first | (with_reducible first | exact HX.out | apply below_alloc | apply pw_below_drewN | apply below_drew1) | exact HX.out)))⟩
    · have E0 := Aside0.mk (HM.out fun j hj => hall.out j hj (by omega))
      have hge : l.length ≤ m := by omega
      clear hlt
      go_wp2
      go_ret
      exact ⟨by rw [E0.out]; rfl, (below_step (W := (w.alloc (.cells #[.int .i64 2, .slice A l.length c, .bool d] 66)).alloc (.cells #[.int .i64 fc, .int .i64 0, .int .i64 fi, .int .i64 fs] 68)) (by repeat (first | exact Below.refl _ _ | apply Below.drew | apply below_alloc)) (by repeat (first | (with_reducible first | exact HX.out | apply below_alloc | apply pw_below_drewN | apply below_drew1) | exact HX.out)))⟩
end Go.Proofs.Ytfbcnmjahpbbeaa.K
