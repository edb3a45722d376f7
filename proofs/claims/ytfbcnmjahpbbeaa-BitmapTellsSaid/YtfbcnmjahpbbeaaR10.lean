/- The walks of the reference of chapter 10. -/
import Derived.Test.YtfbcnmjahpbbeaaK10
namespace Go.Proofs.Ytfbcnmjahpbbeaa.K
open Go.RowKit Go.Proofs.YtfbcnmjahpbbeaaW.PrintWords Go.Proofs.YtfbcnmjahpbbeaaW.PrintLast Go.Proofs.YtfbcnmjahpbbeaaW.PrintMore
set_option linter.unusedVariables false
set_option linter.unusedSimpArgs false
theorem rBit_walk (A : Option Addr) (c : Nat) (l : List Int) (i : Nat) (w : World) (hr : Kd.C (Kd.int .u8) w A l.length l) (hb : Byts l) (hi : i / 8 < l.length) (hl : l.length < 140737488355328) :
    Calls Try.prog 72 #[.slice A l.length c, .int .i64 i] w fun e w' => e = .returned (.bool (bmBit l i)) ∧ w' = w := by
  obtain ⟨ad, rfl, hx⟩ := Kd.at_int hr ((i / 8 : Nat) : Int) (by omega) (by omega)
  rw [rd_get hi, Int.toNat_natCast] at hx
  obtain ⟨hx0, hx1⟩ := hb l[i / 8] (List.getElem_mem _)
  have hE : bmBit l i = (l[i / 8] / 2 ^ (i % 8) % 2 == 1) := by unfold bmBit bitB; simp [List.getElem?_eq_getElem hi]
  obtain ⟨x, hxx⟩ : ∃ x, x = l[i / 8] := ⟨_, rfl⟩
  rw [← hxx] at hx hx0 hx1 hE
  have HE := Aside0.mk hE
  clear hr hb hE hxx
  go_enter Try.func72, Try.ntmps72
  go_wp2
  go_loop [5, 6] (fun v5 v6 => ∃ (m : Nat) (q : Int), v5 = .int .i64 q ∧ v6 = .int .i64 m ∧ Aside0 (m ≤ i % 8) ∧ Aside0 (q = x / 2 ^ m)) (fun _ i_ => i % 8 - (intOf i_).toNat)
  case atStart => exact ⟨0, x, rfl, rfl, ⟨Nat.zero_le _⟩, ⟨by simp⟩⟩
  case round =>
    obtain ⟨m, q, rfl, rfl, hm, hq⟩ := hrel
    have hm' := hm.out
    have hp : (0 : Int) < 2 ^ m := Int.pow_pos (by decide)
    have hq0 : 0 ≤ q := by rw [hq.out]; exact Int.ediv_nonneg hx0 (Int.le_of_lt hp)
    have hq1 : q < 256 := by have := Int.ediv_le_self (2 ^ m) hx0; rw [← hq.out] at this; omega
    by_cases hlt : m < i % 8
    · have hs : q / 2 = x / 2 ^ (m + 1) := by rw [hq.out, Int.pow_succ, Int.ediv_mul_of_nonneg (Int.le_of_lt hp)]
      have HS := Aside0.mk hs
      clear hs hp
      go_wp2
      exact ⟨⟨m + 1, _, rfl, rfl, ⟨by omega⟩, HS⟩, by simp [intOf]; omega⟩
    · have hme : m = i % 8 := by omega
      have HM := Aside0.mk hme
      clear hme hp
      go_wp2
      go_ret
      exact ⟨ret_b (by rw [HE.out, hq.out, HM.out]), rfl⟩
theorem rMany_walk (A : Option Addr) (c : Nat) (l : List Int) (w : World) (hr : Kd.C (Kd.int .u8) w A l.length l) (hb : Byts l) (hl : l.length < 1407374883553) :
    Calls Try.prog 32 #[.slice A l.length c] w fun e w' => e = .returned (.int .i64 (bmMany l)) ∧ w' = w := by
  have HR := Aside0.mk hr
  have HY := Aside0.mk hb
  clear hr hb
  go_enter Try.func32, Try.ntmps32
  go_wp2
  go_loop [3, 4] (fun v3 v4 => ∃ m q : Nat, v3 = .int .i64 q ∧ v4 = .int .i64 m ∧ Aside0 (m ≤ 8 * l.length) ∧ Aside0 (q = bmCnt l m)) (fun _ i => 8 * l.length - (intOf i).toNat)
  case atStart => exact ⟨0, 0, rfl, rfl, ⟨Nat.zero_le _⟩, ⟨rfl⟩⟩
  case round =>
    obtain ⟨m, q, rfl, rfl, hm, hq⟩ := hrel
    have hm' := hm.out
    by_cases hlt : m < 8 * l.length
    · have hqs := bmCnt_succ l m
      have hq8 := bmCnt_le l m
      rw [← hq.out] at hq8 hqs
      cases hbm : bmBit l m with
      | true =>
        rw [hbm] at hqs
        have HS := Aside0.mk hqs
        have HBM := Aside0.mk hbm
        clear hqs hbm
        go_wp2_with (go_at_call 72; refine (rBit_walk A c l m _ HR.out HY.out (by omega) (by omega)).mono ?_; rintro e w' ⟨rfl, rfl⟩; rw [HBM.out])
        exact ⟨⟨m + 1, q + 1, rfl, rfl, ⟨by omega⟩, ⟨by rw [HS.out]; rfl⟩⟩, by simp [intOf]; omega⟩
      | false =>
        rw [hbm] at hqs
        have HS := Aside0.mk hqs
        have HBM := Aside0.mk hbm
        clear hqs hbm
        go_wp2_with (go_at_call 72; refine (rBit_walk A c l m _ HR.out HY.out (by omega) (by omega)).mono ?_; rintro e w' ⟨rfl, rfl⟩; rw [HBM.out])
        exact ⟨⟨m + 1, q, rfl, rfl, ⟨by omega⟩, ⟨by rw [HS.out]; rfl⟩⟩, by simp [intOf]; omega⟩
    · have hmn : m = 8 * l.length := by omega
      have HM := Aside0.mk hmn
      clear hmn
      go_wp2
      go_ret
      exact ⟨by rw [hq.out, HM.out]; rfl, rfl⟩
theorem rGet_no (A : Option Addr) (c : Nat) (l : List Int) (n : Int) (w : World) (h : n < 0 ∨ 512 < n ∨ (0 ≤ n ∧ n ≤ 512 ∧ l.length ≠ 64)) :
    Calls Try.prog 30 #[.slice A l.length c, .int .i64 n] w fun e w' => ∃ v : Value, e = .returned (.tuple #[v, .bool (bmOk l n)]) ∧ Kd.R Kd.bool 4 w' w.heap.size (fun _ => True) v (bmGet l n) ∧ Below w.heap.size w w' := by
  have e0 : bmOk l n = false := by unfold bmOk; simp; omega
  have E1 : Aside0 (bmGet l n = []) := ⟨by unfold bmGet; rw [e0]; rfl⟩
  have E0 := Aside0.mk e0
  have HB := Aside0.mk (Below.refl w.heap.size w)
  clear e0
  rcases h with h | h | ⟨h0, h1, h2⟩
  · go_enter Try.func30, Try.ntmps30
    go_wp2
    go_ret2
    exact ⟨_, by rw [E0.out]; rfl, by rw [E1.out]; exact Kd.R_nil _ _ _ _ _, HB.out⟩
  · go_enter Try.func30, Try.ntmps30
    go_wp2
    go_ret2
    exact ⟨_, by rw [E0.out]; rfl, by rw [E1.out]; exact Kd.R_nil _ _ _ _ _, HB.out⟩
  · have hb : ((l.length : Int) != 64) = true := by simp; omega
    clear h2
    go_enter Try.func30, Try.ntmps30
    go_wp2
    go_ret2
    exact ⟨_, by rw [E0.out]; rfl, by rw [E1.out]; exact Kd.R_nil _ _ _ _ _, HB.out⟩
set_option maxRecDepth 100000 in
theorem rGet_yes (A : Option Addr) (c : Nat) (l : List Int) (k : Nat) (w : World) (hr : Kd.C (Kd.int .u8) w A l.length l) (hb : Byts l) (hk : k ≤ 512) (h64 : l.length = 64) :
    Calls Try.prog 30 #[.slice A l.length c, .int .i64 k] w fun e w' => ∃ v : Value, e = .returned (.tuple #[v, .bool (bmOk l k)]) ∧ Kd.R Kd.bool 4 w' w.heap.size (fun _ => True) v (bmGet l k) ∧ Below w.heap.size w w' := by
  have HR := Aside0.mk hr
  have HY := Aside0.mk hb
  have HB := Aside0.mk (Below.refl w.heap.size w)
  have hbl : ((l.length : Int) != 64) = false := by simp; omega
  have hL : 64 ≤ l.length := by omega
  have hL2 : l.length ≤ 64 := by omega
  have hmany : bmMany l = bmCnt l 512 := by unfold bmMany; rw [h64]
  have E0 : Aside0 (bmOk l k = decide (bmCnt l k = bmCnt l 512)) := ⟨by unfold bmOk; rw [hmany]; simp [h64]; omega⟩
  have E1 : Aside0 (bmGet l k = if bmCnt l k = bmCnt l 512 then bmBits l k else []) := ⟨by unfold bmGet; rw [E0.out]; simp⟩
  clear hr hb h64 hmany
  go_enter Try.func30, Try.ntmps30
  go_wp2_with (first | ((with_reducible refine gate_dst (N := 19) rfl ?_); refine Kd.R_lit Kd.bool _ 4 ?hg (N := 19) ?hd (xs := ([] : List Bool)) (inner := []) (ok := fun _ => True) (okp := fun _ => True) ?hr ?hp (fun _ hk => hk) trivial (Below.refl _ _) (Nat.le_refl _) (by simp) ?_; (case hd => rfl); (case hg => rfl); (case hr => first | (go_simp; done) | (go_simp; rfl)); (case hp => exact (Reps.none _ _)); intro v114 w3 ho4 hb hg_ hnew_; clear hg_ hnew_; have n0_ := Aside0.mk (Kd.R_lower ho4 (below_size (by repeat (first | (with_reducible first | exact HB.out | apply below_alloc | apply pw_below_drewN | apply below_drew1) | exact HB.out)))); have n1_ := Aside0.mk (below_step (by repeat (first | (with_reducible first | exact HB.out | apply below_alloc | apply pw_below_drewN | apply below_drew1) | exact HB.out)) hb); clear HB; have HO1 := n0_; have HB := n1_; clear n0_ n1_; clear hb ho4))
  go_loopw [6, 7] (fun v6 v7 w' => ∃ m : Nat, v7 = .int .i64 m ∧ Aside0 (m ≤ 512) ∧ Aside0 (∀ i, k ≤ i → i < m → bmBit l i = false) ∧ Aside0 (Kd.R Kd.bool 4 w' w.heap.size (fun _ => True) v6 (bmBits l (min m k))) ∧ Aside0 (Below w.heap.size w w')) (fun _ i _ => 512 - (intOf i).toNat)
  case atStart => exact ⟨0, rfl, ⟨Nat.zero_le _⟩, ⟨fun i _ h => absurd h (Nat.not_lt_zero _)⟩, ⟨by rw [Nat.zero_min]; exact HO1.out⟩, HB⟩
  case round =>
    clear HO1 HB
    obtain ⟨m, rfl, hm, ha, HO1, HB⟩ := hrel
    have hm' := hm.out
    by_cases hlt : m < 512
    · by_cases hmk : m < k
      · have hle : Aside0 ((bmBits l (min m k)).length = m) := ⟨by rw [bmBits_length]; omega⟩
        obtain ⟨x, hx⟩ : ∃ x, x = bmBit l m := ⟨_, rfl⟩
        have HX := Aside0.mk hx
        clear hx
        go_wp2_with (first | (go_at_call 72; refine (rBit_walk A c l m _ (Kd.C_below HR.out HB.out) HY.out (by omega) (by omega)).mono ?_; rintro e w' ⟨rfl, rfl⟩; rw [← HX.out]) | ((with_reducible refine gate_builtin (b := .append) (xs := #[.tmp 27, .tmp 31]) rfl ?_); at_builtin; refine Kd.R_append Kd.bool (w0 := w) w.heap.size rfl (.tmp 27) (.tmp 31) 28 4 (.bool false) 1 rfl Try.underlying28 boolinfo rfl (by decide) (by omega) u6 (bmBits l (min m k)) x [.bool x] (fun _ => True) (fun _ => False) rfl rfl ?aP (fun _ hk => hk.elim) ?aF ?aO ?aB ?aS ?aL ?_; (case aP => exact rfl); (case aB => exact (by repeat (first | (with_reducible first | exact HB.out | apply below_alloc | apply pw_below_drewN | apply below_drew1) | exact HB.out))); (case aF => exact (fun _ _ => trivial)); (case aO => exact (by (with_reducible repeat (first | apply Kd.R_alloc | apply Kd.R_drewN | apply Kd.R_drew)); exact HO1.out)); (case aS => exact (below_size (by repeat (first | (with_reducible first | exact HB.out | apply below_alloc | apply pw_below_drewN | apply below_drew1) | exact HB.out)))); (case aL => have := hle.out; omega); intro v2 w11 ho hb hg hat; have n0_ := Aside0.mk (hb); have n1_ := Aside0.mk (ho); clear HB; clear HO1; have HB := n0_; have HO2 := n1_; clear n0_ n1_; clear ho hb hg hat))
        exact ⟨⟨m + 1, rfl, ⟨by omega⟩, ⟨fun i h1 h2 => by omega⟩, ⟨by rw [show min (m + 1) k = min m k + 1 by omega, bmBits_succ, show min m k = m by omega, ← HX.out]; have := HO2.out; rw [show min m k = m by omega] at this; exact this⟩, HB⟩, by simp [intOf]; omega⟩
      · cases hbm : bmBit l m with
        | true =>
          have HBM := Aside0.mk hbm
          have HF : Aside0 (¬ bmCnt l k = bmCnt l 512) := ⟨fun e => by have := (bmCnt_eq l (show k ≤ 512 by omega)).1 e m (by omega) hlt; rw [this] at hbm; cases hbm⟩
          clear hbm
          go_wp2_with (go_at_call 72; refine (rBit_walk A c l m _ (Kd.C_below HR.out HB.out) HY.out (by omega) (by omega)).mono ?_; rintro e w' ⟨rfl, rfl⟩; rw [HBM.out])
          go_ret2
          exact ⟨_, by rw [E0.out, decide_eq_false HF.out]; rfl, by rw [E1.out, if_neg HF.out]; exact Kd.R_nil _ _ _ _ _, HB.out⟩
        | false =>
          have HBM := Aside0.mk hbm
          clear hbm
          go_wp2_with (go_at_call 72; refine (rBit_walk A c l m _ (Kd.C_below HR.out HB.out) HY.out (by omega) (by omega)).mono ?_; rintro e w' ⟨rfl, rfl⟩; rw [HBM.out])
          exact ⟨⟨m + 1, rfl, ⟨by omega⟩, ⟨fun i h1 h2 => by rcases Nat.lt_or_ge i m with g | g; exact ha.out i h1 g; rw [show i = m by omega]; exact HBM.out⟩, ⟨by rw [show min (m + 1) k = min m k by omega]; exact HO1.out⟩, HB⟩, by simp [intOf]; omega⟩
    · have hme : m = 512 := by omega
      subst hme
      have HZ : Aside0 (bmCnt l k = bmCnt l 512) := ⟨(bmCnt_eq l (by omega)).2 ha.out⟩
      go_wp2
      go_ret2
      exact ⟨_, by rw [E0.out, decide_eq_true HZ.out]; rfl, by rw [E1.out, if_pos HZ.out]; have := HO1.out; rw [show min 512 k = k by omega] at this; exact this, HB.out⟩
theorem rGet10_walk (A : Option Addr) (c : Nat) (l : List Int) (n : Int) (w : World) (hr : Kd.C (Kd.int .u8) w A l.length l) (hb : Byts l) :
    Calls Try.prog 30 #[.slice A l.length c, .int .i64 n] w fun e w' => ∃ v : Value, e = .returned (.tuple #[v, .bool (bmOk l n)]) ∧ Kd.R Kd.bool 4 w' w.heap.size (fun _ => True) v (bmGet l n) ∧ Below w.heap.size w w' := by
  by_cases h : n < 0 ∨ 512 < n ∨ (0 ≤ n ∧ n ≤ 512 ∧ l.length ≠ 64)
  · exact rGet_no A c l n w h
  · obtain ⟨k, rfl⟩ := Int.eq_ofNat_of_zero_le (show 0 ≤ n by omega)
    exact rGet_yes A c l k w hr hb (by omega) (by omega)
set_option maxRecDepth 100000 in
theorem rPut10_walk (A : Option Addr) (c : Nat) (u : List Bool) (w : World) (hr : Kd.C Kd.bool w A u.length u) (hl : u.length < 140737488355328) :
    Calls Try.prog 31 #[.slice A u.length c] w fun e w' => ∃ v : Value, e = .returned v ∧ Kd.R (Kd.int .u8) 5 w' w.heap.size (fun _ => True) v (bmPut u) ∧ Below w.heap.size w w' := by
  have HR := Aside0.mk hr
  have HB := Aside0.mk (Below.refl w.heap.size w)
  obtain ⟨n, hn⟩ : ∃ n, n = min u.length 512 := ⟨_, rfl⟩
  have hn0 : n ≤ u.length := by omega
  have hn1 : n ≤ 512 := by omega
  have hn2 : n = 512 ∨ u.length = n := by omega
  have E0 : Aside0 (bmPut u = bmP u n) := ⟨by unfold bmPut; rw [← hn]⟩
  have HN := Aside0.mk hn2
  clear hr hn hn2
  go_enter Try.func31, Try.ntmps31
  go_wp2_with (first | ((with_reducible refine gate_dst (N := 7) rfl ?_); refine Kd.R_make (Kd.int .u8) _ 5 rfl (N := 7) rfl 22 _ _ rfl (64) rfl rfl Try.underlying22 (.int .u8 0) 1 u8info rfl (by decide) (by omega) 0 (ok := fun _ => True) (okp := fun _ => True) rfl (fun _ hk => hk) trivial (by omega) (by omega) (Below.refl _ _) (Nat.le_refl _) ?_; intro v1 w1 ho hb hg_ hnew_; clear hg_ hnew_; obtain ⟨g1, c1, rfl, hg1, hl1, _, _⟩ := Kd.R_form ho (by simp); have HG1 := Aside0.mk (Nat.le_trans (below_size (by repeat (first | (with_reducible first | exact HB.out | apply below_alloc | apply pw_below_drewN | apply below_drew1) | exact HB.out))) hg1); clear hg1 hl1; have HO1 := Aside0.mk (Kd.R_lower ho (below_size (by repeat (first | (with_reducible first | exact HB.out | apply below_alloc | apply pw_below_drewN | apply below_drew1) | exact HB.out)))); have n1_ : Aside0 (Below w.heap.size w w1) := ⟨below_step (by repeat (first | (with_reducible first | exact HB.out | apply below_alloc | apply pw_below_drewN | apply below_drew1) | exact HB.out)) hb⟩; clear HB; have HB := n1_; clear n1_; clear ho hb))
  go_loopw [4, 5, 6] (fun v4 v5 v6 w' => ∃ m : Nat, v4 = .int .i64 m ∧ Aside0 (m ≤ n) ∧ Aside0 (Kd.R (Kd.int .u8) 5 w' w.heap.size (fun _ => True) (.slice (some ⟨g1, 0, none⟩) 64 c1) (bmP u m)) ∧ Aside0 (Below w.heap.size w w')) (fun i _ _ _ => n - (intOf i).toNat)
  case atStart => exact ⟨0, rfl, ⟨Nat.zero_le _⟩, ⟨by rw [bmP_zero]; exact HO1.out⟩, HB⟩
  case round =>
    clear HO1 HB
    obtain ⟨m, rfl, hm, HO1, HB⟩ := hrel
    have hm' := hm.out
    by_cases hlt : m < n
    · obtain ⟨ad, rfl, hx⟩ := Kd.at_bool (Kd.C_below HR.out HB.out) (m : Int) (by omega) (by omega)
      rw [rdOf_get (by omega), Int.toNat_natCast] at hx
      have hug : u.getD m false = u[m] := by simp [List.getElem?_eq_getElem (show m < u.length by omega)]
      cases hu : u[m] with
      | false =>
        rw [hu] at hx
        have HE : Aside0 (bmP u (m + 1) = bmP u m) := ⟨bmP_no (by rw [hug, hu])⟩
        clear hug hu
        go_wp2
        exact ⟨⟨m + 1, rfl, ⟨by omega⟩, ⟨by rw [HE.out]; exact HO1.out⟩, HB⟩, by simp [intOf]; omega⟩
      | true =>
        rw [hu] at hx
        have hl64 := bmP_length u m
        have hE := bmP_yes (u := u) (m := m) (by omega) (by rw [hug, hu])
        obtain ⟨hc, hf⟩ := Kd.R_celln 0 HO1.out ((m / 8 : Nat) : Int) (by omega) (by omega)
        have hre : rdOf 0 (bmP u m) ((m / 8 : Nat) : Int) = (bmP u m)[m / 8]'(by omega) := rdOf_get (by omega)
        have hrg := bmP_byts u m ((bmP u m)[m / 8]'(by omega)) (List.getElem_mem _)
        rw [hre, Int.toNat_natCast] at hc
        rw [Int.toNat_natCast] at hf
        have HP := Kd.R_putg HO1.out ((m / 8 : Nat) : Int) ((bmP u m)[m / 8]'(by omega) + 2 ^ (m % 8))
        have hsum : (bmP u m)[m / 8]'(by omega) + 2 ^ (m % 8) < 256 := by
          have h1 := bmP_byts u (m + 1) ((bmP u (m + 1))[m / 8]'(by rw [bmP_length]; omega)) (List.getElem_mem _)
          have h2 : (bmP u (m + 1))[m / 8]'(by rw [bmP_length]; omega) = (bmP u m)[m / 8]'(by omega) + 2 ^ (m % 8) := by simp only [hE]; rw [List.getElem_set_self]
          rw [h2] at h1
          exact h1.2
        rw [Int.toNat_natCast, ← hE] at HP
        obtain ⟨x, hxx⟩ : ∃ x, x = (bmP u m)[m / 8]'(by omega) := ⟨_, rfl⟩
        rw [← hxx] at hc hrg HP hsum
        obtain ⟨hx0, hx1⟩ := hrg
        have HP' := Aside0.mk HP.1
        have HS := Aside0.mk hsum
        clear HP hE hre hug hu hxx hsum
        obtain ⟨wo, hwo⟩ : ∃ wo : World, wo = wr := ⟨_, rfl⟩
        subst hwo
        go_wp2
        go_loop [5, 6] (fun v5 v6 => ∃ (r : Nat) (b : Int), v5 = .int .i64 b ∧ v6 = .int .i64 r ∧ Aside0 (r ≤ m % 8) ∧ Aside0 (b = 2 ^ r)) (fun _ i => m % 8 - (intOf i).toNat)
        case atStart => exact ⟨0, 1, rfl, rfl, ⟨Nat.zero_le _⟩, ⟨rfl⟩⟩
        case round =>
          obtain ⟨r, b, rfl, rfl, hr8, hbv⟩ := hrel
          have hr' := hr8.out
          have hb1 : 0 ≤ b ∧ b ≤ 128 := by rw [hbv.out]; rcases (by omega : r = 0 ∨ r = 1 ∨ r = 2 ∨ r = 3 ∨ r = 4 ∨ r = 5 ∨ r = 6 ∨ r = 7) with h | h | h | h | h | h | h | h <;> subst h <;> decide
          obtain ⟨hb0, hb1⟩ := hb1
          by_cases hrt : r < m % 8
          · go_wp2
            exact ⟨⟨r + 1, _, rfl, rfl, ⟨by omega⟩, ⟨by rw [Int.pow_succ, hbv.out]⟩⟩, by simp [intOf]; omega⟩
          · have hre : r = m % 8 := by omega
            have hbe : b = 2 ^ (m % 8) := by rw [hbv.out, hre]
            have hsum : x + b < 256 := by rw [hbe]; exact HS.out
            rw [← hbe] at HP'
            clear hre hbe hbv
            go_wp2
            exact ⟨⟨m + 1, rfl, ⟨by omega⟩, HP', ⟨below_set HB.out HG1.out⟩⟩, by simp [intOf]; omega⟩
    · have hmn : m = n := by omega
      subst hmn
      have hg : m = 512 ∨ u.length = m := HN.out
      rcases hg with hg | hg
      · subst hg
        go_wp2
        all_goals
          go_ret
          exact ⟨_, rfl, by rw [E0.out]; exact HO1.out, HB.out⟩
      · have hg2 : u.length ≤ m := by omega
        clear hg
        go_wp2
        go_ret
        exact ⟨_, rfl, by rw [E0.out]; exact HO1.out, HB.out⟩
end Go.Proofs.Ytfbcnmjahpbbeaa.K
