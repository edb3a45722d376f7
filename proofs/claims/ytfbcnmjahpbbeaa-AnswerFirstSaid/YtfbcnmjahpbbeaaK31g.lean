/- slices.Index, Contains, ContainsFunc of findings; the closure of law31.AnswerFirst. -/
import Derived.Test.YtfbcnmjahpbbeaaK31f
namespace Go.Proofs.Ytfbcnmjahpbbeaa.K
open Go.RowKit Go.Proofs.YtfbcnmjahpbbeaaW.PrintWords Go.Proofs.YtfbcnmjahpbbeaaW.PrintLast Go.Proofs.YtfbcnmjahpbbeaaW.PrintMore
set_option linter.unusedVariables false
set_option linter.unusedSimpArgs false
theorem idxP_nn {α : Type} {p : α → Bool} {l : List α} {x : α} (hx : x ∈ l) (hp : p x = true) : 0 ≤ idxP p l := by
  unfold idxP
  cases h : l.findIdx? p with
  | some i => simp
  | none => rw [List.findIdx?_eq_none_iff] at h; have := h x hx; rw [hp] at this; cases this
theorem least_mem {ys : List Fnd} {f : Fnd} (h : f ∈ leastF ys) : f ∈ ys ∧ ∀ g ∈ ys, f.cl ≤ g.cl := by
  unfold leastF at h
  rw [List.mem_filter] at h
  exact ⟨h.1, fun g hg => by have := List.all_eq_true.1 h.2 g hg; simpa using this⟩
theorem least_some : ∀ (ys : List Fnd), ys ≠ [] → ∃ r ∈ ys, ∀ x ∈ ys, r.cl ≤ x.cl
  | [], h => absurd rfl h
  | [a], _ => ⟨a, by simp, by simp⟩
  | a :: b :: r, _ => by
    obtain ⟨m, hm, hle⟩ := least_some (b :: r) (by simp)
    by_cases h : a.cl ≤ m.cl
    · refine ⟨a, List.mem_cons_self, fun x hx => ?_⟩
      rcases List.mem_cons.1 hx with rfl | hx
      · omega
      · have := hle x hx; omega
    · refine ⟨m, List.mem_cons_of_mem _ hm, fun x hx => ?_⟩
      rcases List.mem_cons.1 hx with rfl | hx
      · omega
      · exact hle x hx
theorem least_nil {ys : List Fnd} : leastF ys = [] ↔ ys = [] := by
  constructor
  · intro h
    by_cases h0 : ys = []
    · exact h0
    · obtain ⟨r, hr, hle⟩ := least_some ys h0
      have : r ∈ leastF ys := by
        unfold leastF
        rw [List.mem_filter]
        exact ⟨hr, List.all_eq_true.2 fun g hg => by simpa using hle g hg⟩
      rw [h] at this; cases this
  · rintro rfl; rfl
set_option maxRecDepth 100000 in
theorem idxFm_walk (A : Option Addr) (c : Nat) (l : List Fnd) (p : Fnd → Bool) (g : Nat) (lb : Array Value) (w : World) (hr : Kd.C kFnd w A l.length l) (hl : l.length ≤ 9223372036854775807)
    (eg : ∀ args w, (callFunc g args).run Try.prog w = .ok (.enter g args) w) (hp : ∀ W x, x ∈ l → Below w.heap.size w W → Calls Try.prog g (#[.agg #[.int .i64 x.cl, .int .i64 x.la, .int .i64 x.ino, .int .i64 x.sl]] ++ lb) W fun e w' => e = .returned (.bool (p x)) ∧ Below W.heap.size W w') :
    Calls Try.prog 88 #[.slice A l.length c, .func (.func g) #[] lb] w fun e w' => e = .returned (.int .i64 (idxP p l)) ∧ Below w.heap.size w w' := by
  have HR := Aside0.mk hr
  have HP := Aside0.mk hp
  have HB := Aside0.mk (Below.refl w.heap.size w)
  clear hr hp
  go_enter Try.func88, Try.ntmps88
  go_wp2
  go_loopw [5, 8] (fun v5 v8 w' => ∃ m : Nat, v8 = .int .i64 m ∧ Aside0 (m ≤ l.length) ∧ Aside0 (∀ j (hj : j < l.length), j < m → p l[j] = false) ∧ Aside0 (Below w.heap.size w w')) (fun _ i _ => l.length - (intOf i).toNat)
  case atStart => exact ⟨0, rfl, ⟨Nat.zero_le _⟩, ⟨fun j hj h => absurd h (by omega)⟩, HB⟩
  case round =>
    clear HB
    obtain ⟨m, rfl, hm, hall, HB⟩ := hrel
    have hm' := hm.out
    by_cases hlt : m < l.length
    · obtain ⟨ad, rfl, hx, hxs⟩ := Kd.at_flatA (Kd.C_below HR.out HB.out) hlt
      obtain ⟨x, hxx⟩ : ∃ x, x = l[m] := ⟨_, rfl⟩
      have hxm : x ∈ l := by rw [hxx]; exact List.getElem_mem hlt
      rw [← hxx] at hx hxs
      have x0 := hx _ rfl
      have x1 := hxs 0 _ rfl
      have x2 := hxs 1 _ rfl
      have x3 := hxs 2 _ rfl
      simp only [Nat.reduceAdd] at x1 x2 x3
      have HC := Aside0.mk (HP.out wr x hxm HB.out)
      have HXX := Aside0.mk hxx
      clear hx hxs hxx hxm
      cases hq : p x with
      | true =>
        have E0 : Aside0 (idxP p l = m) := ⟨idxP_hit hlt (by rw [← HXX.out]; exact hq) fun j hj => hall.out j (by omega) hj⟩
        rw [hq] at HC
        clear hq
        go_wp2_with (go_at_fn g; (with_reducible refine HC.out.mono ?_); rintro e w5 ⟨rfl, hb⟩; have n1_ : Aside0 (Below w.heap.size w w5) := ⟨below_step (by repeat (first | (with_reducible first | exact HB.out | apply below_alloc | apply pw_below_drewN | apply below_drew1) | exact HB.out)) hb⟩; clear HB; have HB := n1_; clear n1_; clear hb)
        go_ret
        exact ⟨by rw [E0.out]; rfl, (by repeat (first | (with_reducible first | exact HB.out | apply below_alloc | apply pw_below_drewN | apply below_drew1) | exact HB.out))⟩
      | false =>
        have HA : Aside0 (∀ j (hj : j < l.length), j < m + 1 → p l[j] = false) := ⟨fun j hj h => by
          by_cases hjm : j = m
          · subst hjm; rw [← HXX.out]; exact hq
          · exact hall.out j hj (by omega)⟩
        rw [hq] at HC
        clear hq
        go_wp2_with (go_at_fn g; (with_reducible refine HC.out.mono ?_); rintro e w5 ⟨rfl, hb⟩; have n1_ : Aside0 (Below w.heap.size w w5) := ⟨below_step (by repeat (first | (with_reducible first | exact HB.out | apply below_alloc | apply pw_below_drewN | apply below_drew1) | exact HB.out)) hb⟩; clear HB; have HB := n1_; clear n1_; clear hb)
        exact ⟨⟨m + 1, rfl, ⟨by omega⟩, HA, ⟨(by repeat (first | (with_reducible first | exact HB.out | apply below_alloc | apply pw_below_drewN | apply below_drew1) | exact HB.out))⟩⟩, by simp [intOf]; omega⟩
    · have E0 : Aside0 (idxP p l = -1) := ⟨idxP_miss fun j hj => hall.out j hj (by omega)⟩
      have hge : l.length ≤ m := by omega
      clear hlt
      go_wp2
      go_ret
      exact ⟨by rw [E0.out]; rfl, (by repeat (first | (with_reducible first | exact HB.out | apply below_alloc | apply pw_below_drewN | apply below_drew1) | exact HB.out))⟩
set_option maxRecDepth 100000 in
theorem idxE_walk (A : Option Addr) (c : Nat) (l : List Fnd) (f : Fnd) (w0 : World) (hr : Kd.C kFnd w0 A l.length l) (hl : l.length ≤ 9223372036854775807) :
    Calls Try.prog 87 #[.slice A l.length c, .agg #[.int .i64 f.cl, .int .i64 f.la, .int .i64 f.ino, .int .i64 f.sl]] w0 fun e w' => e = .returned (.int .i64 (idxP (fun y => decide (f = y)) l)) ∧ Below w0.heap.size w0 w' := by
  have HR0 := Aside0.mk hr
  clear hr
  go_enter Try.func87, Try.ntmps87
  go_wp2
  obtain ⟨w, hw⟩ : ∃ w, w = w0.alloc (.cells #[.int .i64 f.cl, .int .i64 f.la, .int .i64 f.ino, .int .i64 f.sl] 68) := ⟨_, rfl⟩
  refine go_on2 ?_
  rw [← hw]
  have HW := Aside0.mk hw
  have HB := Aside0.mk (Below.refl w.heap.size w)
  have k0 : w.cell? ⟨w0.heap.size, 0, none⟩ = some (.int .i64 f.cl) := by rw [hw]; go_simp
  have k1 : w.cell? ⟨w0.heap.size, 1, none⟩ = some (.int .i64 f.la) := by rw [hw]; go_simp
  have k2 : w.cell? ⟨w0.heap.size, 2, none⟩ = some (.int .i64 f.ino) := by rw [hw]; go_simp
  have k3 : w.cell? ⟨w0.heap.size, 3, none⟩ = some (.int .i64 f.sl) := by rw [hw]; go_simp
  have hlt0 : w0.heap.size < w.heap.size := by rw [hw]; simp
  clear hw
  have HR : Aside0 (Kd.C kFnd w A l.length l) := ⟨by rw [HW.out]; exact Kd.C_alloc HR0.out _⟩
  have HE : Aside0 (∀ d, Below w0.heap.size w0 (w.drewN d)) := ⟨fun d => by rw [HW.out]; exact pw_below_drewN (below_alloc (Below.refl _ _) _) _⟩
  clear HR0 HB
  go_wp2
  go_loopw [5, 8] (fun v5 v8 w' => ∃ m : Nat, v8 = .int .i64 m ∧ Aside0 (m ≤ l.length) ∧ Aside0 (∀ j (hj : j < l.length), j < m → decide (f = l[j]) = false) ∧ Aside0 (∃ d, w' = w.drewN d)) (fun _ i _ => l.length - (intOf i).toNat)
  case atStart => exact ⟨0, rfl, ⟨Nat.zero_le _⟩, ⟨fun j hj h => absurd h (by omega)⟩, ⟨0, rfl⟩⟩
  case round =>
    obtain ⟨m, rfl, hm, hall, ⟨d, rfl⟩⟩ := hrel
    have hm' := hm.out
    by_cases hlt : m < l.length
    · obtain ⟨ad, rfl, hx, hxs⟩ := Kd.at_flatA HR.out hlt
      obtain ⟨x, hxx⟩ : ∃ x, x = l[m] := ⟨_, rfl⟩
      rw [← hxx] at hx hxs
      have x0 := hx _ rfl
      have x1 := hxs 0 _ rfl
      have x2 := hxs 1 _ rfl
      have x3 := hxs 2 _ rfl
      simp only [Nat.reduceAdd] at x1 x2 x3
      have HXX := Aside0.mk hxx
      clear hx hxs hxx
      by_cases hxy : f = x
      · have E0 : Aside0 (idxP (fun y => decide (f = y)) l = m) := ⟨idxP_hit hlt (by rw [← HXX.out]; simpa using hxy) fun j hj => hall.out j (by omega) hj⟩
        subst hxy
        have q := fun w => eqFnd_t w f
        go_wp2
        go_quiet (fail)
        go_wp2
        go_ret
        exact ⟨by rw [E0.out]; rfl, by first | exact HE.out _ | exact pw_below_drewN (HE.out _) _⟩
      · have HA : Aside0 (∀ j (hj : j < l.length), j < m + 1 → decide (f = l[j]) = false) := ⟨fun j hj h => by
          by_cases hjm : j = m
          · subst hjm; rw [← HXX.out]; simpa using hxy
          · exact hall.out j hj (by omega)⟩
        have q := fun w => eqFnd_f w hxy
        clear hxy
        go_wp2
        go_quiet (fail)
        go_wp2
        exact ⟨⟨m + 1, rfl, ⟨by omega⟩, HA, ⟨_, rfl⟩⟩, by simp [intOf]; omega⟩
    · have E0 : Aside0 (idxP (fun y => decide (f = y)) l = -1) := ⟨idxP_miss fun j hj => hall.out j hj (by omega)⟩
      have hge : l.length ≤ m := by omega
      clear hlt
      go_wp2
      go_ret
      exact ⟨by rw [E0.out]; rfl, by first | exact HE.out _ | exact pw_below_drewN (HE.out _) _⟩
set_option maxRecDepth 100000 in
theorem contains_walk (A : Option Addr) (c : Nat) (l : List Fnd) (f : Fnd) (w : World) (hr : Kd.C kFnd w A l.length l) (hl : l.length ≤ 9223372036854775807) (hm : f ∈ l) :
    Calls Try.prog 62 #[.slice A l.length c, .agg #[.int .i64 f.cl, .int .i64 f.la, .int .i64 f.ino, .int .i64 f.sl]] w fun e w' => e = .returned (.bool true) ∧ Below w.heap.size w w' := by
  have WI := Aside0.mk (fun W h => idxE_walk A c l f W h hl)
  have HR := Aside0.mk hr
  have HB := Aside0.mk (Below.refl w.heap.size w)
  have h0 : 0 ≤ idxP (fun y => decide (f = y)) l := idxP_nn hm (by simp)
  obtain ⟨i, hi⟩ : ∃ i, i = idxP (fun y => decide (f = y)) l := ⟨_, rfl⟩
  rw [← hi] at WI h0
  clear hr hm hi
  go_enter Try.func62, Try.ntmps62
  go_wp2_with ((go_at_call 87; (with_reducible refine (WI.out _ (Kd.C_below HR.out (by repeat (first | (with_reducible first | exact HB.out | apply below_alloc | apply pw_below_drewN | apply below_drew1) | exact HB.out)))).mono ?_); rintro e w1 ⟨rfl, hb⟩; have n1_ : Aside0 (Below w.heap.size w w1) := ⟨below_step (by repeat (first | (with_reducible first | exact HB.out | apply below_alloc | apply pw_below_drewN | apply below_drew1) | exact HB.out)) hb⟩; clear HB; have HB := n1_; clear n1_; clear hb))
  go_ret
  exact ⟨by simp [h0], (by repeat (first | (with_reducible first | exact HB.out | apply below_alloc | apply pw_below_drewN | apply below_drew1) | exact HB.out))⟩
set_option maxRecDepth 100000 in
theorem containsF_walk (A : Option Addr) (c : Nat) (l : List Fnd) (p : Fnd → Bool) (g : Nat) (lb : Array Value) (w : World) (hr : Kd.C kFnd w A l.length l) (hl : l.length ≤ 9223372036854775807) (hn : ∀ x ∈ l, p x = false)
    (eg : ∀ args w, (callFunc g args).run Try.prog w = .ok (.enter g args) w) (hp : ∀ W x, x ∈ l → Below w.heap.size w W → Calls Try.prog g (#[.agg #[.int .i64 x.cl, .int .i64 x.la, .int .i64 x.ino, .int .i64 x.sl]] ++ lb) W fun e w' => e = .returned (.bool (p x)) ∧ Below W.heap.size W w') :
    Calls Try.prog 63 #[.slice A l.length c, .func (.func g) #[] lb] w fun e w' => e = .returned (.bool false) ∧ Below w.heap.size w w' := by
  have WI := Aside0.mk (idxFm_walk A c l p g lb w hr hl eg hp)
  have HB := Aside0.mk (Below.refl w.heap.size w)
  rw [show idxP p l = -1 from idxP_miss fun j hj => hn _ (List.getElem_mem hj)] at WI
  clear hr hp hn
  go_enter Try.func63, Try.ntmps63
  go_wp2_with ((go_at_call 88; (with_reducible refine (WI.out).mono ?_); rintro e w1 ⟨rfl, hb⟩; have n1_ : Aside0 (Below w.heap.size w w1) := ⟨below_step (by repeat (first | (with_reducible first | exact HB.out | apply below_alloc | apply pw_below_drewN | apply below_drew1) | exact HB.out)) hb⟩; clear HB; have HB := n1_; clear n1_; clear hb))
  go_ret
  exact ⟨by rfl, (by repeat (first | (with_reducible first | exact HB.out | apply below_alloc | apply pw_below_drewN | apply below_drew1) | exact HB.out))⟩
set_option maxRecDepth 100000 in
theorem afirst1_walk (x f0 : Fnd) (r : List Fnd) (Af : Option Addr) (cf : Nat) (B : Nat) (W : World) (h0 : W.cell? ⟨B, 0, none⟩ = some (.slice Af (f0 :: r).length cf)) (hr : Kd.C kFnd W Af (f0 :: r).length (f0 :: r)) :
    Calls Try.prog 64 #[.agg #[.int .i64 x.cl, .int .i64 x.la, .int .i64 x.ino, .int .i64 x.sl], .pointer (some ⟨B, 0, none⟩)] W fun e w' => e = .returned (.bool (decide (x.cl < f0.cl))) ∧ Below W.heap.size W w' := by
  obtain ⟨xc, xl, xi, xs⟩ := x
  have hB : B < W.heap.size := World.block_lt_of_cell? _ _ h0
  obtain ⟨ad, rfl, hx, _⟩ := Kd.at_flatA hr (show 0 < (f0 :: r).length by simp)
  have x0 : W.cell? ad = some (.int .i64 f0.cl) := by have := hx _ rfl; rw [Nat.zero_mul] at this; exact this
  have hA : ad.block < W.heap.size := World.block_lt_of_cell? _ _ x0
  obtain ⟨n, hn⟩ : ∃ n, n = (f0 :: r).length := ⟨_, rfl⟩
  have hpos : 0 < n := by rw [hn]; simp
  rw [← hn] at h0
  clear hx hr hn
  go_enter Try.func64, Try.ntmps64
  go_wp2
  go_region
  go_wp2
  go_ret
  exact ⟨by rfl, by exact below_drew1 (below_alloc (Below.refl _ _) _)⟩
end Go.Proofs.Ytfbcnmjahpbbeaa.K
