/- The reference of chapter 11: Valid. -/
import Derived.Test.YtdkbhbolkieeiaaK11g
namespace Go.Proofs.Ytdkbhbolkieeiaa.K
open Go.RowKit Go.Proofs.YtdkbhbolkieeiaaW.PrintWords Go.Proofs.YtdkbhbolkieeiaaW.PrintLast Go.Proofs.YtdkbhbolkieeiaaW.PrintMore
set_option linter.unusedVariables false
set_option linter.unusedSimpArgs false
theorem ptr11_pt (x : InoC) {j : Nat} (hj : j < 5) : ptr11 x.p0 x.p1 x.p2 x.p3 x.at_ (j : Int) = some (x.pt j) := by
  match j, hj with
  | 0, _ => rfl
  | 1, _ => rfl
  | 2, _ => rfl
  | 3, _ => rfl
  | 4, _ => rfl
theorem lex_last {i j a b : Nat} (h : ¬ (a < i ∨ b < j)) (ha : a ≤ i) : ¬ lexlt (a, b) (i, j) := by
  rintro (h1 | ⟨h1, h2⟩)
  · exact h (.inl h1)
  · exact h (.inr h2)
theorem natlt_wrap {n i : Nat} (h : i < n) (hn : n ≤ 1000001) : n - (intOf (.int .i64 (RowKit.wrap64 ((i : Int) + 1)))).toNat < n - (intOf (.int .i64 (i : Int))).toNat := by
  have e : RowKit.wrap64 ((i : Int) + 1) = (i : Int) + 1 := by unfold RowKit.wrap64; omega
  exact meas_upw e h
set_option maxHeartbeats 4000000 in
set_option maxRecDepth 100000 in
theorem rvalid_walk (A : Option Addr) (c : Nat) (l : List InoC) (blocks ino k : Int) (w : World) (hr : Kd.C kInoC w A l.length l) (hl : l.length ≤ 1000000) :
    Calls Try.prog 15 #[.slice A l.length c, .int .i64 blocks, .int .i64 ino, .int .i64 k] w fun e w' => e = .returned (.bool (validB (ptL l) l.length blocks ino k)) ∧ Below w.heap.size w w' := by
  have HR := Aside0.mk hr
  have HB := Aside0.mk (Below.refl w.heap.size w)
  have EV : Aside0 (validB (ptL l) l.length blocks ino k = decide (1 ≤ ino ∧ 0 ≤ k ∧ validN (ptL l) l.length blocks ((ino - 1).toNat, k.toNat))) := ⟨rfl⟩
  obtain ⟨v, hv⟩ : ∃ v, v = validB (ptL l) l.length blocks ino k := ⟨_, rfl⟩
  rw [← hv] at EV
  rw [← hv]
  clear hr hv
  by_cases h1 : ino < 1
  · have E0 : Aside0 (v = false) := ⟨by rw [EV.out, decide_eq_false_iff_not]; rintro ⟨h, _⟩; omega⟩
    go_enter Try.func15, Try.ntmps15
    go_wp2
    go_ret
    exact ⟨by rw [E0.out]; rfl, HB.out⟩
  by_cases h2 : ino > (l.length : Int)
  · have E0 : Aside0 (v = false) := ⟨by rw [EV.out, decide_eq_false_iff_not]; rintro ⟨_, _, h, _⟩; simp only at h; omega⟩
    go_enter Try.func15, Try.ntmps15
    go_wp2
    go_ret
    exact ⟨by rw [E0.out]; rfl, HB.out⟩
  by_cases h3 : k < 0
  · have E0 : Aside0 (v = false) := ⟨by rw [EV.out, decide_eq_false_iff_not]; rintro ⟨_, h, _⟩; omega⟩
    go_enter Try.func15, Try.ntmps15
    go_wp2
    go_ret
    exact ⟨by rw [E0.out]; rfl, HB.out⟩
  by_cases h4 : k > 4
  · have E0 : Aside0 (v = false) := ⟨by rw [EV.out, decide_eq_false_iff_not]; rintro ⟨_, _, _, h, _⟩; simp only at h; omega⟩
    go_enter Try.func15, Try.ntmps15
    go_wp2
    go_ret
    exact ⟨by rw [E0.out]; rfl, HB.out⟩
  obtain ⟨i, hi⟩ : ∃ i : Nat, ino = (i : Int) + 1 := ⟨(ino - 1).toNat, by omega⟩
  obtain ⟨j, rfl⟩ : ∃ j : Nat, k = (j : Int) := ⟨k.toNat, by omega⟩
  have hj5 : j < 5 := by omega
  have hin : i < l.length := by omega
  have WP := Aside0.mk (fun (x : InoC) (m : Nat) (hm : m < 5) (W : World) => ptr11_walk x.k x.im x.nl x.ge x.sz x.p0 x.p1 x.p2 x.p3 x.at_ (m : Int) (x.pt m) W (ptr11_pt x hm))
  obtain ⟨p, hp⟩ : ∃ p, p = ptL l i j := ⟨_, rfl⟩
  have EV2 : Aside0 (v = true ↔ 1 ≤ p ∧ p ≤ blocks ∧ ∀ t : Nat × Nat, t.1 < l.length → t.2 < 5 → lexlt t (i, j) → ptL l t.1 t.2 ≠ p) := ⟨by
    rw [EV.out, decide_eq_true_eq, show (ino - 1).toNat = i by omega, Int.toNat_natCast, hp]
    exact ⟨fun h => ⟨h.2.2.2.2.1, h.2.2.2.2.2.1, h.2.2.2.2.2.2⟩, fun h => ⟨by omega, by omega, hin, hj5, h.1, h.2.1, h.2.2⟩⟩⟩
  obtain ⟨ad, hA, hx, hxs⟩ := Kd.at_flatA HR.out hin
  have HP : Aside0 ((l[i]).pt j = p) := ⟨by rw [hp, ptL_get hin]⟩
  obtain ⟨x, hxx⟩ : ∃ x, x = l[i] := ⟨_, rfl⟩
  rw [← hxx] at hx hxs HP
  have x0 := hx _ rfl
  have x1 := hxs 0 _ rfl
  have x2 := hxs 1 _ rfl
  have x3 := hxs 2 _ rfl
  have x4 := hxs 3 _ rfl
  have x5 := hxs 4 _ rfl
  have x6 := hxs 5 _ rfl
  have x7 := hxs 6 _ rfl
  have x8 := hxs 7 _ rfl
  have x9 := hxs 8 _ rfl
  simp only [Nat.reduceAdd] at x1 x2 x3 x4 x5 x6 x7 x8 x9
  have hii : i = ino.toNat - 1 := by omega
  rw [hii] at x0 x1 x2 x3 x4 x5 x6 x7 x8 x9
  clear hii
  have WX : Aside0 (∀ W, Calls Try.prog 52 #[.agg #[.int .i64 x.k, .int .i64 x.im, .int .i64 x.nl, .int .i64 x.ge, .int .i64 x.sz, .int .i64 x.p0, .int .i64 x.p1, .int .i64 x.p2, .int .i64 x.p3, .int .i64 x.at_], .int .i64 (j : Int)] W fun e w' => e = .returned (.int .i64 p) ∧ Below W.heap.size W w') := ⟨fun W => by have := WP.out x j hj5 W; rwa [HP.out] at this⟩
  subst hA
  have HI := Aside0.mk hi
  clear EV hx hxs hxx HP hi hp h3 h4
  by_cases h5 : p < 1
  · have E0 : Aside0 (v = false) := ⟨by cases v with | false => rfl | true => exact absurd (EV2.out.1 rfl).1 (by omega)⟩
    go_enter Try.func15, Try.ntmps15
    go_wp2_with (go_at_call 52; (with_reducible refine (WX.out _).mono ?_); rintro e w5 ⟨rfl, hb⟩; have n1_ : Aside0 (Below w.heap.size w w5) := ⟨below_step (by repeat (first | (with_reducible first | exact HB.out | apply below_alloc | apply pw_below_drewN | apply below_drew1) | exact HB.out)) hb⟩; clear HB; have HB := n1_; clear n1_; clear hb)
    go_ret
    exact ⟨by rw [E0.out]; rfl, HB.out⟩
  by_cases h6 : p > blocks
  · have E0 : Aside0 (v = false) := ⟨by cases v with | false => rfl | true => exact absurd (EV2.out.1 rfl).2.1 (by omega)⟩
    go_enter Try.func15, Try.ntmps15
    go_wp2_with (go_at_call 52; (with_reducible refine (WX.out _).mono ?_); rintro e w5 ⟨rfl, hb⟩; have n1_ : Aside0 (Below w.heap.size w w5) := ⟨below_step (by repeat (first | (with_reducible first | exact HB.out | apply below_alloc | apply pw_below_drewN | apply below_drew1) | exact HB.out)) hb⟩; clear HB; have HB := n1_; clear n1_; clear hb)
    go_ret
    exact ⟨by rw [E0.out]; rfl, HB.out⟩
  have EV3 : Aside0 (v = true ↔ ∀ t : Nat × Nat, t.1 < l.length → t.2 < 5 → lexlt t (i, j) → ptL l t.1 t.2 ≠ p) := ⟨by
    rw [EV2.out]
    exact ⟨fun h => h.2.2, fun h => ⟨by omega, by omega, h⟩⟩⟩
  clear EV2
  go_enter Try.func15, Try.ntmps15
  go_wp2_with (go_at_call 52; (with_reducible refine (WX.out _).mono ?_); rintro e w5 ⟨rfl, hb⟩; have n1_ : Aside0 (Below w.heap.size w w5) := ⟨below_step (by repeat (first | (with_reducible first | exact HB.out | apply below_alloc | apply pw_below_drewN | apply below_drew1) | exact HB.out)) hb⟩; clear HB; have HB := n1_; clear n1_; clear hb)
  clear x0 x1 x2 x3 x4 x5 x6 x7 x8 x9 WX
  go_loopw [10] (fun v10 wr => ∃ a : Nat, v10 = .int .i64 a ∧ Aside0 (a ≤ i + 1) ∧ Aside0 (∀ t : Nat × Nat, t.1 < a → t.2 < 5 → lexlt t (i, j) → ptL l t.1 t.2 ≠ p) ∧ Aside0 (Below w.heap.size w wr)) (fun v10 _ => i + 1 - (intOf v10).toNat)
  case atStart => exact ⟨0, rfl, ⟨by omega⟩, ⟨fun t h => absurd h (by omega)⟩, HB⟩
  case round =>
    clear HB
    obtain ⟨a, rfl, ha, hall, HB⟩ := hrel
    have ha' := ha.out
    by_cases hai : a < i + 1
    · have hlt : (a : Int) < ino := by have := HI.out; omega
      go_wp2
      clear hlt
      go_loopw [11] (fun v11 wq => ∃ b : Nat, v11 = .int .i64 b ∧ Aside0 (b ≤ 5) ∧ Aside0 (∀ t : Nat × Nat, t.1 < a ∨ t.1 = a ∧ t.2 < b → t.2 < 5 → lexlt t (i, j) → ptL l t.1 t.2 ≠ p) ∧ Aside0 (Below w.heap.size w wq)) (fun v11 _ => 5 - (intOf v11).toNat)
      case atStart => exact ⟨0, rfl, ⟨by omega⟩, ⟨fun t h => hall.out t (by omega)⟩, HB⟩
      case round =>
        clear HB
        obtain ⟨b, rfl, hb, hal2, HB⟩ := hrel
        have hb' := hb.out
        by_cases hb5 : b < 5
        · by_cases hc1 : a < i
          · have hc1f : (a : Int) < ino - 1 := by have := HI.out; omega
            have hba : a < l.length := by omega
            have HLX : Aside0 (lexlt (a, b) (i, j)) := ⟨Or.inl hc1⟩
            obtain ⟨ad2, hA2, hx, hxs⟩ := Kd.at_flatA (Kd.C_below HR.out HB.out) hba
            cases hA2
            have HPX : Aside0 (ptL l a b = (l[a]).pt b) := ⟨ptL_get hba b⟩
            obtain ⟨x, hxx⟩ : ∃ x, x = l[a] := ⟨_, rfl⟩
            rw [← hxx] at hx hxs HPX
            have x0 := hx _ rfl
            have x1 := hxs 0 _ rfl
            have x2 := hxs 1 _ rfl
            have x3 := hxs 2 _ rfl
            have x4 := hxs 3 _ rfl
            have x5 := hxs 4 _ rfl
            have x6 := hxs 5 _ rfl
            have x7 := hxs 6 _ rfl
            have x8 := hxs 7 _ rfl
            have x9 := hxs 8 _ rfl
            simp only [Nat.reduceAdd] at x1 x2 x3 x4 x5 x6 x7 x8 x9
            obtain ⟨q, hq⟩ : ∃ q, q = x.pt b := ⟨_, rfl⟩
            have WY : Aside0 (∀ W, Calls Try.prog 52 #[.agg #[.int .i64 x.k, .int .i64 x.im, .int .i64 x.nl, .int .i64 x.ge, .int .i64 x.sz, .int .i64 x.p0, .int .i64 x.p1, .int .i64 x.p2, .int .i64 x.p3, .int .i64 x.at_], .int .i64 (b : Int)] W fun e w' => e = .returned (.int .i64 q) ∧ Below W.heap.size W w') := ⟨fun W => by have := WP.out x b hb5 W; rwa [← hq] at this⟩
            rw [← hq] at HPX
            clear hx hxs hxx hq
            by_cases hqp : q = p
            · have E0 : Aside0 (v = false) := ⟨by cases v with | false => rfl | true => exact absurd (HPX.out.trans hqp) (EV3.out.1 rfl (a, b) hba hb5 HLX.out)⟩
              have hqb : (q == p) = true := by simpa using hqp
              clear hqp
              go_wp2_with (go_at_call 52; (with_reducible refine (WY.out _).mono ?_); rintro e w5 ⟨rfl, hb⟩; have n1_ : Aside0 (Below w.heap.size w w5) := ⟨below_step (by repeat (first | (with_reducible first | exact HB.out | apply below_alloc | apply pw_below_drewN | apply below_drew1) | exact HB.out)) hb⟩; clear HB; have HB := n1_; clear n1_; clear hb)
              go_ret
              exact ⟨by rw [E0.out]; rfl, HB.out⟩
            · have HA2 : Aside0 (∀ t : Nat × Nat, t.1 < a ∨ t.1 = a ∧ t.2 < b + 1 → t.2 < 5 → lexlt t (i, j) → ptL l t.1 t.2 ≠ p) := ⟨fun t h h5 hl => by
                by_cases e : t = (a, b)
                · subst e; rw [HPX.out]; exact hqp
                · exact hal2.out t (by
                    rcases h with h | ⟨h, h'⟩
                    · exact .inl h
                    · refine .inr ⟨h, ?_⟩
                      have : t.2 ≠ b := fun e2 => e (Prod.ext h e2)
                      omega) h5 hl⟩
              have hqb : (q == p) = false := by simpa using hqp
              clear hqp
              go_wp2_with (go_at_call 52; (with_reducible refine (WY.out _).mono ?_); rintro e w5 ⟨rfl, hb⟩; have n1_ : Aside0 (Below w.heap.size w w5) := ⟨below_step (by repeat (first | (with_reducible first | exact HB.out | apply below_alloc | apply pw_below_drewN | apply below_drew1) | exact HB.out)) hb⟩; clear HB; have HB := n1_; clear n1_; clear hb)
              go_roundw
              case rel => exact ⟨b + 1, by simp, ⟨by omega⟩, HA2, HB⟩
              case measure => first | exact natlt_wrap hb5 (by omega) | exact meas_upw rfl hb5
          by_cases hc2 : b < j
          · have hia : a = i := by omega
            have hc1' : ¬ ((a : Int) < ino - 1) := by have := HI.out; omega
            have hc2' : (b : Int) < (j : Int) := by omega
            have HIA := Aside0.mk hia
            clear hia
            have hba : a < l.length := by omega
            have HLX : Aside0 (lexlt (a, b) (i, j)) := ⟨Or.inr ⟨HIA.out, hc2⟩⟩
            obtain ⟨ad2, hA2, hx, hxs⟩ := Kd.at_flatA (Kd.C_below HR.out HB.out) hba
            cases hA2
            have HPX : Aside0 (ptL l a b = (l[a]).pt b) := ⟨ptL_get hba b⟩
            obtain ⟨x, hxx⟩ : ∃ x, x = l[a] := ⟨_, rfl⟩
            rw [← hxx] at hx hxs HPX
            have x0 := hx _ rfl
            have x1 := hxs 0 _ rfl
            have x2 := hxs 1 _ rfl
            have x3 := hxs 2 _ rfl
            have x4 := hxs 3 _ rfl
            have x5 := hxs 4 _ rfl
            have x6 := hxs 5 _ rfl
            have x7 := hxs 6 _ rfl
            have x8 := hxs 7 _ rfl
            have x9 := hxs 8 _ rfl
            simp only [Nat.reduceAdd] at x1 x2 x3 x4 x5 x6 x7 x8 x9
            obtain ⟨q, hq⟩ : ∃ q, q = x.pt b := ⟨_, rfl⟩
            have WY : Aside0 (∀ W, Calls Try.prog 52 #[.agg #[.int .i64 x.k, .int .i64 x.im, .int .i64 x.nl, .int .i64 x.ge, .int .i64 x.sz, .int .i64 x.p0, .int .i64 x.p1, .int .i64 x.p2, .int .i64 x.p3, .int .i64 x.at_], .int .i64 (b : Int)] W fun e w' => e = .returned (.int .i64 q) ∧ Below W.heap.size W w') := ⟨fun W => by have := WP.out x b hb5 W; rwa [← hq] at this⟩
            rw [← hq] at HPX
            clear hx hxs hxx hq
            by_cases hqp : q = p
            · have E0 : Aside0 (v = false) := ⟨by cases v with | false => rfl | true => exact absurd (HPX.out.trans hqp) (EV3.out.1 rfl (a, b) hba hb5 HLX.out)⟩
              have hqb : (q == p) = true := by simpa using hqp
              clear hqp
              go_wp2_with (go_at_call 52; (with_reducible refine (WY.out _).mono ?_); rintro e w5 ⟨rfl, hb⟩; have n1_ : Aside0 (Below w.heap.size w w5) := ⟨below_step (by repeat (first | (with_reducible first | exact HB.out | apply below_alloc | apply pw_below_drewN | apply below_drew1) | exact HB.out)) hb⟩; clear HB; have HB := n1_; clear n1_; clear hb)
              go_ret
              exact ⟨by rw [E0.out]; rfl, HB.out⟩
            · have HA2 : Aside0 (∀ t : Nat × Nat, t.1 < a ∨ t.1 = a ∧ t.2 < b + 1 → t.2 < 5 → lexlt t (i, j) → ptL l t.1 t.2 ≠ p) := ⟨fun t h h5 hl => by
                by_cases e : t = (a, b)
                · subst e; rw [HPX.out]; exact hqp
                · exact hal2.out t (by
                    rcases h with h | ⟨h, h'⟩
                    · exact .inl h
                    · refine .inr ⟨h, ?_⟩
                      have : t.2 ≠ b := fun e2 => e (Prod.ext h e2)
                      omega) h5 hl⟩
              have hqb : (q == p) = false := by simpa using hqp
              clear hqp
              go_wp2_with (go_at_call 52; (with_reducible refine (WY.out _).mono ?_); rintro e w5 ⟨rfl, hb⟩; have n1_ : Aside0 (Below w.heap.size w w5) := ⟨below_step (by repeat (first | (with_reducible first | exact HB.out | apply below_alloc | apply pw_below_drewN | apply below_drew1) | exact HB.out)) hb⟩; clear HB; have HB := n1_; clear n1_; clear hb)
              go_roundw
              case rel => exact ⟨b + 1, by simp, ⟨by omega⟩, HA2, HB⟩
              case measure => first | exact natlt_wrap hb5 (by omega) | exact meas_upw rfl hb5
          · have hc1' : ¬ ((a : Int) < ino - 1) := by have := HI.out; omega
            have hc2' : ¬ ((b : Int) < (j : Int)) := by omega
            have HA2 : Aside0 (∀ t : Nat × Nat, t.1 < a ∨ t.1 = a ∧ t.2 < b + 1 → t.2 < 5 → lexlt t (i, j) → ptL l t.1 t.2 ≠ p) := ⟨fun t h h5 hl => by
              by_cases e : t = (a, b)
              · subst e; exact absurd hl (lex_last (by omega) (by omega))
              · exact hal2.out t (by
                  rcases h with h | ⟨h, h'⟩
                  · exact .inl h
                  · refine .inr ⟨h, ?_⟩
                    have : t.2 ≠ b := fun e2 => e (Prod.ext h e2)
                    omega) h5 hl⟩
            go_wp2
            go_roundw
            case rel => exact ⟨b + 1, by simp, ⟨by omega⟩, HA2, HB⟩
            case measure => first | exact natlt_wrap hb5 (by omega) | exact meas_upw rfl hb5
        · have HA1 : Aside0 (∀ t : Nat × Nat, t.1 < a + 1 → t.2 < 5 → lexlt t (i, j) → ptL l t.1 t.2 ≠ p) := ⟨fun t h h5 hl => hal2.out t (by omega) h5 hl⟩
          have hw1 : RowKit.wrap64 ((a : Int) + 1) = (a : Int) + 1 := by unfold RowKit.wrap64; omega
          go_wp2
          go_roundw
          case rel => exact ⟨a + 1, by simp [hw1], ⟨by omega⟩, HA1, HB⟩
          case measure => first | exact meas_upw hw1 hai | exact meas_upw rfl hai
    · have hge : ¬ (a : Int) < ino := by have := HI.out; omega
      have E0 : Aside0 (v = true) := ⟨EV3.out.2 fun t h1 h2 h3 => hall.out t (by rcases h3 with h | ⟨h, _⟩ <;> simp only at h <;> omega) h2 h3⟩
      go_wp2
      go_ret
      exact ⟨by rw [E0.out]; rfl, HB.out⟩
end Go.Proofs.Ytdkbhbolkieeiaa.K
