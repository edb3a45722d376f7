/- Lists of findings: slices.Equal, IndexFunc; the closures of answer.First. -/
import Derived.Test.YtfbcnmjahpbbeaaR31b
import Derived.Test.YtfbcnmjahpbbeaaKBlk2
import Derived.Test.YtfbcnmjahpbbeaaKBytes
namespace Go.Proofs.Ytfbcnmjahpbbeaa.K
open Go.RowKit Go.Proofs.YtfbcnmjahpbbeaaW.PrintWords Go.Proofs.YtfbcnmjahpbbeaaW.PrintLast Go.Proofs.YtfbcnmjahpbbeaaW.PrintMore
set_option linter.unusedVariables false
set_option linter.unusedSimpArgs false
theorem eqFnd (w : World) (x0 x1 x2 x3 y0 y1 y2 y3 : Int) : (Op.equalIn 10000 68 (.agg #[.int .i64 x0, .int .i64 x1, .int .i64 x2, .int .i64 x3]) (.agg #[.int .i64 y0, .int .i64 y1, .int .i64 y2, .int .i64 y3])).run Try.prog w = .ok (x0 == y0 && (x1 == y1 && (x2 == y2 && x3 == y3))) w := by
  refine eqA_of (d := 9999) Try.underlying68 (by kernel_rfl) ?_
  refine eqf_cons (by rfl) (by go_simp; rfl) (by go_simp; rfl) (by go_simp) ?_
  refine eqf_cons (by rfl) (by go_simp; rfl) (by go_simp; rfl) (by go_simp) ?_
  refine eqf_cons (by rfl) (by go_simp; rfl) (by go_simp; rfl) (by go_simp) ?_
  exact eqf_last (by rfl) (by go_simp; rfl) (by go_simp; rfl) (by go_simp)
theorem eqFnd_t (w : World) (x : Fnd) : (Op.equalIn 10000 68 (.agg #[.int .i64 x.cl, .int .i64 x.la, .int .i64 x.ino, .int .i64 x.sl]) (.agg #[.int .i64 x.cl, .int .i64 x.la, .int .i64 x.ino, .int .i64 x.sl])).run Try.prog w = .ok true w := by
  rw [eqFnd]; simp
theorem eqFnd_f (w : World) {x y : Fnd} (h : ¬ x = y) : (Op.equalIn 10000 68 (.agg #[.int .i64 x.cl, .int .i64 x.la, .int .i64 x.ino, .int .i64 x.sl]) (.agg #[.int .i64 y.cl, .int .i64 y.la, .int .i64 y.ino, .int .i64 y.sl])).run Try.prog w = .ok false w := by
  rw [eqFnd]
  congr 1
  cases hb : (x.cl == y.cl && (x.la == y.la && (x.ino == y.ino && x.sl == y.sl))) with
  | false => rfl
  | true =>
    exfalso
    simp only [Bool.and_eq_true, beq_iff_eq] at hb
    obtain ⟨h0, h1, h2, h3⟩ := hb
    obtain ⟨a, b, c, d⟩ := x
    obtain ⟨a', b', c', d'⟩ := y
    simp only at h0 h1 h2 h3
    exact h (by rw [h0, h1, h2, h3])
set_option maxRecDepth 100000 in
theorem eqF_walk (A1 : Option Addr) (c1 : Nat) (a : List Fnd) (A2 : Option Addr) (c2 : Nat) (b : List Fnd) (w : World) (h1 : Kd.C kFnd w A1 a.length a) (h2 : Kd.C kFnd w A2 b.length b) (ha : a.length < 140737488355328) :
    Calls Try.prog 59 #[.slice A1 a.length c1, .slice A2 b.length c2] w fun e w' => e = .returned (.bool (decide (a = b))) ∧ Drawn0 w w' := by
  have HA := Aside0.mk h1
  have HB := Aside0.mk h2
  clear h1 h2
  by_cases hl : a.length = b.length
  case neg =>
    have E0 : Aside0 (decide (a = b) = false) := ⟨by simp; intro h; exact hl (by rw [h])⟩
    have hb : ((a.length : Int) != b.length) = true := by simp; omega
    clear hl
    go_enter Try.func59, Try.ntmps59
    go_wp2
    go_ret
    exact ⟨ret_b (by rw [E0.out]), Drawn0.refl _⟩
  obtain ⟨n, hn⟩ : ∃ n, a.length = n := ⟨_, rfl⟩
  have hnb : b.length = n := by omega
  rw [hn] at HA ha ⊢
  rw [hnb] at HB ⊢
  have HN := Aside0.mk hn
  have HNb := Aside0.mk hnb
  clear hl hn hnb
  go_enter Try.func59, Try.ntmps59
  go_wp2
  go_loopw [13] (fun v5 w' => ∃ m : Nat, v5 = .int .i64 m ∧ Aside0 (m ≤ n) ∧ Aside0 (a.take m = b.take m) ∧ Aside0 (∃ d, w' = w.drewN d)) (fun i _ => n - (intOf i).toNat)
  case atStart => exact ⟨0, rfl, ⟨Nat.zero_le _⟩, ⟨rfl⟩, ⟨0, rfl⟩⟩
  case round =>
    obtain ⟨m, rfl, hm, ht, ⟨d, rfl⟩⟩ := hrel
    have hm' := hm.out
    by_cases hlt : m < n
    · have la := HN.out
      have lb := HNb.out
      obtain ⟨ad1, rfl, hx, hxs⟩ := Kd.at_flatA HA.out (show m < a.length by omega)
      obtain ⟨ad2, rfl, hy, hys⟩ := Kd.at_flatA HB.out (show m < b.length by omega)
      have hta : a.take (m + 1) = a.take m ++ [a[m]] := List.take_succ_eq_append_getElem (by omega)
      have htb : b.take (m + 1) = b.take m ++ [b[m]] := List.take_succ_eq_append_getElem (by omega)
      obtain ⟨x, hxx⟩ : ∃ x, x = a[m] := ⟨_, rfl⟩
      obtain ⟨y, hyy⟩ : ∃ y, y = b[m] := ⟨_, rfl⟩
      rw [← hxx] at hx hxs hta
      rw [← hyy] at hy hys htb
      have x0 := hx _ rfl
      have x1 := hxs 0 _ rfl
      have x2 := hxs 1 _ rfl
      have x3 := hxs 2 _ rfl
      simp only [Nat.reduceAdd] at x1 x2 x3
      have y0 := hy _ rfl
      have y1 := hys 0 _ rfl
      have y2 := hys 1 _ rfl
      have y3 := hys 2 _ rfl
      simp only [Nat.reduceAdd] at y1 y2 y3
      by_cases hxy : x = y
      · have hT : Aside0 (a.take (m + 1) = b.take (m + 1)) := ⟨by rw [hta, htb, ht.out, hxy]⟩
        clear hta htb hxx hyy la lb hx hxs hy hys
        subst hxy
        have q := fun w => eqFnd_t w x
        go_wp2
        go_quiet (fail)
        go_wp2
        exact ⟨⟨m + 1, rfl, ⟨by omega⟩, hT, ⟨_, rfl⟩⟩, by simp [intOf]; omega⟩
      · have hT : Aside0 (decide (a = b) = false) := ⟨by simp; intro h; subst h; exact hxy (hxx.trans hyy.symm)⟩
        have q := fun w => eqFnd_f w hxy
        clear hta htb hxx hyy la lb hxy hx hxs hy hys
        go_wp2
        go_quiet (fail)
        go_wp2
        go_ret
        exact ⟨ret_b (by rw [hT.out]), (by repeat (first | exact Drawn0.refl _ | apply Drawn0.step))⟩
    · have hkm : m = n := by omega
      subst hkm
      have E1 : Aside0 (decide (a = b) = true) := ⟨by have := ht.out; rw [List.take_of_length_le (by have := HN.out; omega), List.take_of_length_le (by have := HNb.out; omega)] at this; simp [this]⟩
      go_wp2
      go_ret
      exact ⟨ret_b (by rw [E1.out]), ⟨⟨_, rfl⟩⟩⟩
set_option maxRecDepth 100000 in
theorem idxF_walk (A : Option Addr) (c : Nat) (l : List Fnd) (p : Fnd → Bool) (g : Nat) (lb : Array Value) (w : World) (hr : Kd.C kFnd w A l.length l) (hl : l.length ≤ 9223372036854775807)
    (eg : ∀ args w, (callFunc g args).run Try.prog w = .ok (.enter g args) w) (hp : ∀ W x, Below w.heap.size w W → Calls Try.prog g (#[.agg #[.int .i64 x.cl, .int .i64 x.la, .int .i64 x.ino, .int .i64 x.sl]] ++ lb) W fun e w' => e = .returned (.bool (p x)) ∧ Below W.heap.size W w') :
    Calls Try.prog 88 #[.slice A l.length c, .func (.func g) #[] lb] w fun e w' => e = .returned (.int .i64 (idxP p l)) ∧ Below w.heap.size w w' := by
  have HR := Aside0.mk hr
  have HP := Aside0.mk hp
  have HB := Aside0.mk (Below.refl w.heap.size w)
  clear hr hp
  go_enter Try.func88, Try.ntmps88
  go_wp2
  go_loopw [5, 8] (fun v5 v8 w' => ∃ m : Nat, v8 = .int .i64 m ∧ Aside0 (m ≤ l.length) ∧ Aside0 (∀ j (hj : j < l.length), j < m → p l[j] = false) ∧ Aside0 (Below w.heap.size w w')) (fun _ i _ => l.length - (intOf i).toNat)
  case atStart => exact ⟨0, rfl, ⟨Nat.zero_le _⟩, ⟨fun j hj h => absurd h (by omega)⟩, HB⟩
  case round =>
    clear HB
    obtain ⟨m, rfl, hm, hall, HB⟩ := hrel
    have hm' := hm.out
    by_cases hlt : m < l.length
    · obtain ⟨ad, rfl, hx, hxs⟩ := Kd.at_flatA (Kd.C_below HR.out HB.out) hlt
      obtain ⟨x, hxx⟩ : ∃ x, x = l[m] := ⟨_, rfl⟩
      rw [← hxx] at hx hxs
      have x0 := hx _ rfl
      have x1 := hxs 0 _ rfl
      have x2 := hxs 1 _ rfl
      have x3 := hxs 2 _ rfl
      simp only [Nat.reduceAdd] at x1 x2 x3
      have HC := Aside0.mk (HP.out wr x HB.out)
      have HXX := Aside0.mk hxx
      clear hx hxs hxx
      cases hq : p x with
      | true =>
        have E0 : Aside0 (idxP p l = m) := ⟨idxP_hit hlt (by rw [← HXX.out]; exact hq) fun j hj => hall.out j (by omega) hj⟩
        rw [hq] at HC
        clear hq
        go_wp2_with (go_at_fn g; (with_reducible refine HC.out.mono ?_); rintro e w5 ⟨rfl, hb⟩; have n1_ : Aside0 (Below w.heap.size w w5) := ⟨below_step (by repeat (first | (with_reducible first | exact HB.out | apply below_alloc | apply pw_below_drewN | apply below_drew1) | exact HB.out)) hb⟩; clear HB; have HB := n1_; clear n1_; clear hb)
        go_ret
        exact ⟨by rw [E0.out]; rfl, (by repeat (first | (with_reducible first | exact HB.out | apply below_alloc | apply pw_below_drewN | apply below_drew1) | exact HB.out))⟩
      | false =>
        have HA : Aside0 (∀ j (hj : j < l.length), j < m + 1 → p l[j] = false) := ⟨fun j hj h => by
          by_cases hjm : j = m
          · subst hjm; rw [← HXX.out]; exact hq
          · exact hall.out j hj (by omega)⟩
        rw [hq] at HC
        clear hq
        go_wp2_with (go_at_fn g; (with_reducible refine HC.out.mono ?_); rintro e w5 ⟨rfl, hb⟩; have n1_ : Aside0 (Below w.heap.size w w5) := ⟨below_step (by repeat (first | (with_reducible first | exact HB.out | apply below_alloc | apply pw_below_drewN | apply below_drew1) | exact HB.out)) hb⟩; clear HB; have HB := n1_; clear n1_; clear hb)
        exact ⟨⟨m + 1, rfl, ⟨by omega⟩, HA, ⟨(by repeat (first | (with_reducible first | exact HB.out | apply below_alloc | apply pw_below_drewN | apply below_drew1) | exact HB.out))⟩⟩, by simp [intOf]; omega⟩
    · have E0 : Aside0 (idxP p l = -1) := ⟨idxP_miss fun j hj => hall.out j hj (by omega)⟩
      have hge : l.length ≤ m := by omega
      clear hlt
      go_wp2
      go_ret
      exact ⟨by rw [E0.out]; rfl, (by repeat (first | (with_reducible first | exact HB.out | apply below_alloc | apply pw_below_drewN | apply below_drew1) | exact HB.out))⟩
set_option maxRecDepth 100000 in
theorem first1_walk (a b : Fnd) (W : World) (ha : 0 ≤ a.cl ∧ a.cl ≤ 1000) (hb : 0 ≤ b.cl ∧ b.cl ≤ 1000) :
    Calls Try.prog 84 #[.agg #[.int .i64 a.cl, .int .i64 a.la, .int .i64 a.ino, .int .i64 a.sl], .agg #[.int .i64 b.cl, .int .i64 b.la, .int .i64 b.ino, .int .i64 b.sl]] W fun e w' => e = .returned (.int .i64 (a.cl - b.cl)) ∧ Below W.heap.size W w' := by
  obtain ⟨ac, al, ai, as_⟩ := a
  obtain ⟨bc, bl, bi, bs⟩ := b
  obtain ⟨a0, a1⟩ := ha
  obtain ⟨b0, b1⟩ := hb
  simp only at a0 a1 b0 b1 ⊢
  go_enter Try.func84, Try.ntmps84
  go_wp2
  go_ret
  exact ⟨by rfl, (by repeat (first | exact Below.refl _ _ | apply Below.drew | apply below_alloc))⟩
set_option maxRecDepth 100000 in
theorem first2_walk (a : Fnd) (n : Int) (B : Nat) (W : World) (h0 : W.cell? ⟨B, 0, none⟩ = some (.int .i64 n)) :
    Calls Try.prog 86 #[.agg #[.int .i64 a.cl, .int .i64 a.la, .int .i64 a.ino, .int .i64 a.sl], .pointer (some ⟨B, 0, none⟩)] W fun e w' => e = .returned (.bool (a.cl != n)) ∧ Below W.heap.size W w' := by
  obtain ⟨ac, al, ai, as_⟩ := a
  have hB : B < W.heap.size := World.block_lt_of_cell? _ _ h0
  go_enter Try.func86, Try.ntmps86
  go_wp2
  go_ret
  exact ⟨by rfl, (by repeat (first | exact Below.refl _ _ | apply Below.drew | apply below_alloc))⟩
end Go.Proofs.Ytfbcnmjahpbbeaa.K
