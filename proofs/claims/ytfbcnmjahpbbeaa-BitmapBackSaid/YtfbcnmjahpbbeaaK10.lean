/- The walks of the package bitmap. -/
import Derived.Test.YtfbcnmjahpbbeaaKBytes
import Derived.Test.YtfbcnmjahpbbeaaKS10
import Derived.RegionTactic
import Derived.BigRegion
namespace Go.Proofs.Ytfbcnmjahpbbeaa.K
open Go.RowKit Go.Proofs.YtfbcnmjahpbbeaaW.PrintWords Go.Proofs.YtfbcnmjahpbbeaaW.PrintLast Go.Proofs.YtfbcnmjahpbbeaaW.PrintMore
set_option linter.unusedVariables false
set_option linter.unusedSimpArgs false
theorem boolinfo : (Try.prog.info? 4).map (fun i => (i.zero, i.size, i.bytes)) = some (some (.bool false), 1, 1) := by kernel_rfl
theorem or_bit0 : ∀ b0 b1 b2 b3 b4 b5 b6 b7 : Bool, b0 = false → bits .or .u8 (byte8 b0 b1 b2 b3 b4 b5 b6 b7) (2 ^ 0 % 256) = byte8 b0 b1 b2 b3 b4 b5 b6 b7 + 2 ^ 0 := by decide +kernel
theorem or_bit1 : ∀ b0 b1 b2 b3 b4 b5 b6 b7 : Bool, b1 = false → bits .or .u8 (byte8 b0 b1 b2 b3 b4 b5 b6 b7) (2 ^ 1 % 256) = byte8 b0 b1 b2 b3 b4 b5 b6 b7 + 2 ^ 1 := by decide +kernel
theorem or_bit2 : ∀ b0 b1 b2 b3 b4 b5 b6 b7 : Bool, b2 = false → bits .or .u8 (byte8 b0 b1 b2 b3 b4 b5 b6 b7) (2 ^ 2 % 256) = byte8 b0 b1 b2 b3 b4 b5 b6 b7 + 2 ^ 2 := by decide +kernel
theorem or_bit3 : ∀ b0 b1 b2 b3 b4 b5 b6 b7 : Bool, b3 = false → bits .or .u8 (byte8 b0 b1 b2 b3 b4 b5 b6 b7) (2 ^ 3 % 256) = byte8 b0 b1 b2 b3 b4 b5 b6 b7 + 2 ^ 3 := by decide +kernel
theorem or_bit4 : ∀ b0 b1 b2 b3 b4 b5 b6 b7 : Bool, b4 = false → bits .or .u8 (byte8 b0 b1 b2 b3 b4 b5 b6 b7) (2 ^ 4 % 256) = byte8 b0 b1 b2 b3 b4 b5 b6 b7 + 2 ^ 4 := by decide +kernel
theorem or_bit5 : ∀ b0 b1 b2 b3 b4 b5 b6 b7 : Bool, b5 = false → bits .or .u8 (byte8 b0 b1 b2 b3 b4 b5 b6 b7) (2 ^ 5 % 256) = byte8 b0 b1 b2 b3 b4 b5 b6 b7 + 2 ^ 5 := by decide +kernel
theorem or_bit6 : ∀ b0 b1 b2 b3 b4 b5 b6 b7 : Bool, b6 = false → bits .or .u8 (byte8 b0 b1 b2 b3 b4 b5 b6 b7) (2 ^ 6 % 256) = byte8 b0 b1 b2 b3 b4 b5 b6 b7 + 2 ^ 6 := by decide +kernel
theorem or_bit7 : ∀ b0 b1 b2 b3 b4 b5 b6 b7 : Bool, b7 = false → bits .or .u8 (byte8 b0 b1 b2 b3 b4 b5 b6 b7) (2 ^ 7 % 256) = byte8 b0 b1 b2 b3 b4 b5 b6 b7 + 2 ^ 7 := by decide +kernel
theorem or_bit (p : Nat → Bool) {k : Nat} (h : k < 8) (hp : p k = false) : bits .or .u8 (byteOf p) (2 ^ k % 256) = byteOf p + 2 ^ k := by
  rw [byteOf_8]
  rcases lt8 h with rfl | rfl | rfl | rfl | rfl | rfl | rfl | rfl
  · exact or_bit0 _ _ _ _ _ _ _ _ hp
  · exact or_bit1 _ _ _ _ _ _ _ _ hp
  · exact or_bit2 _ _ _ _ _ _ _ _ hp
  · exact or_bit3 _ _ _ _ _ _ _ _ hp
  · exact or_bit4 _ _ _ _ _ _ _ _ hp
  · exact or_bit5 _ _ _ _ _ _ _ _ hp
  · exact or_bit6 _ _ _ _ _ _ _ _ hp
  · exact or_bit7 _ _ _ _ _ _ _ _ hp
set_option maxRecDepth 100000 in
theorem bmPut_walk (A : Option Addr) (c : Nat) (u : List Bool) (w : World) (hr : Kd.C Kd.bool w A u.length u) (hc : u.length ≤ c) :
    Calls Try.prog 22 #[.slice A u.length c] w fun e w' => ∃ v : Value, e = .returned v ∧ Kd.R (Kd.int .u8) 5 w' w.heap.size (fun _ => True) v (bmPut u) ∧ Below w.heap.size w w' := by
  have HR := Aside0.mk hr
  have HC := Aside0.mk hc
  have HB := Aside0.mk (Below.refl w.heap.size w)
  obtain ⟨n, hn⟩ : ∃ n, n = min u.length 512 := ⟨_, rfl⟩
  obtain ⟨i4, hi4, hz4⟩ := Option.map_eq_some_iff.1 boolinfo
  obtain ⟨r1, C1, _⟩ := cutTo (P := Try.prog) Kd.bool 28 4 Try.underlying28 hi4 A c u n (by omega) HC.out
  have hn0 : n ≤ u.length := by omega
  have hn1 : n ≤ 512 := by omega
  have hif : (if (512 : Int) < (u.length : Int) then (512 : Int) else (u.length : Int)) = n := by split <;> omega
  have E0 : Aside0 (bmPut u = bmP u n) := ⟨by unfold bmPut; rw [← hn]⟩
  clear hr hc hn hi4 hz4
  go_enter Try.func22, Try.ntmps22
  go_wp2_with (first | ((with_reducible refine gate_dst (N := 6) rfl ?_); refine Kd.R_make (Kd.int .u8) _ 5 rfl (N := 6) rfl 22 _ _ rfl (64) rfl rfl Try.underlying22 (.int .u8 0) 1 u8info rfl (by decide) (by omega) 0 (ok := fun _ => True) (okp := fun _ => True) rfl (fun _ hk => hk) trivial (by omega) (by omega) (Below.refl _ _) (Nat.le_refl _) ?_; intro v1 w1 ho hb hg_ hnew_; clear hg_ hnew_; obtain ⟨g1, c1, rfl, hg1, hl1, _, _⟩ := Kd.R_form ho (by simp); have HG1 := Aside0.mk (Nat.le_trans (below_size (by repeat (first | (with_reducible first | exact HB.out | apply below_alloc | apply pw_below_drewN | apply below_drew1) | exact HB.out))) hg1); clear hg1 hl1; have HO1 := Aside0.mk (Kd.R_lower ho (below_size (by repeat (first | (with_reducible first | exact HB.out | apply below_alloc | apply pw_below_drewN | apply below_drew1) | exact HB.out)))); have n1_ : Aside0 (Below w.heap.size w w1) := ⟨below_step (by repeat (first | (with_reducible first | exact HB.out | apply below_alloc | apply pw_below_drewN | apply below_drew1) | exact HB.out)) hb⟩; clear HB; have HB := n1_; clear n1_; clear ho hb))
  clear r1 C1 hif
  go_loopw [13] (fun v13 w' => ∃ m : Nat, v13 = .int .i64 m ∧ Aside0 (m ≤ n) ∧ Aside0 (Kd.R (Kd.int .u8) 5 w' w.heap.size (fun _ => True) (.slice (some ⟨g1, 0, none⟩) 64 c1) (bmP u m)) ∧ Aside0 (Below w.heap.size w w')) (fun i _ => n - (intOf i).toNat)
  case atStart => exact ⟨0, rfl, ⟨Nat.zero_le _⟩, ⟨by rw [bmP_zero]; exact HO1.out⟩, HB⟩
  case round =>
    clear HO1 HB
    obtain ⟨m, rfl, hm, HO1, HB⟩ := hrel
    have hm' := hm.out
    by_cases hlt : m < n
    · obtain ⟨ad, rfl, hx⟩ := Kd.at_bool (Kd.C_below HR.out HB.out) (m : Int) (by omega) (by omega)
      rw [rdOf_get (by omega), Int.toNat_natCast] at hx
      have hug : u.getD m false = u[m] := by simp [List.getElem?_eq_getElem (show m < u.length by omega)]
      cases hu : u[m] with
      | false =>
        rw [hu] at hx
        have HE : Aside0 (bmP u (m + 1) = bmP u m) := ⟨bmP_no (by rw [hug, hu])⟩
        clear hug hu
        go_wp2
        exact ⟨⟨m + 1, rfl, ⟨by omega⟩, ⟨by rw [HE.out]; exact HO1.out⟩, HB⟩, by simp [intOf]; omega⟩
      | true =>
        rw [hu] at hx
        have hl := bmP_length u m
        have hE := bmP_yes (u := u) (m := m) (by omega) (by rw [hug, hu])
        obtain ⟨hc, hf⟩ := Kd.R_celln 0 HO1.out ((m / 8 : Nat) : Int) (by omega) (by omega)
        have hre : rdOf 0 (bmP u m) ((m / 8 : Nat) : Int) = (bmP u m)[m / 8]'(by omega) := rdOf_get (by omega)
        have hrg := bmP_byts u m ((bmP u m)[m / 8]'(by omega)) (List.getElem_mem _)
        rw [hre, Int.toNat_natCast] at hc
        rw [Int.toNat_natCast] at hf
        have HP := Kd.R_putg HO1.out ((m / 8 : Nat) : Int) ((bmP u m)[m / 8]'(by omega) + 2 ^ (m % 8))
        rw [Int.toNat_natCast, ← hE] at HP
        have hor : bits .or .u8 ((bmP u m)[m / 8]'(by omega)) (2 ^ (m % 8) % 256) = (bmP u m)[m / 8]'(by omega) + 2 ^ (m % 8) := by
          rw [bmP_get u m (by omega)]
          exact or_bit _ (by omega) (by simp [show ¬ 8 * (m / 8) + m % 8 < m by omega])
        obtain ⟨x, hxx⟩ : ∃ x, x = (bmP u m)[m / 8]'(by omega) := ⟨_, rfl⟩
        rw [← hxx] at hc hrg HP hor
        have HX := Aside0.mk hor
        have HP' := Aside0.mk HP.1
        clear HP hE hre hug hu hxx hor
        go_wp2
        go_region
        rw [HX.out]
        go_wp2
        exact ⟨⟨m + 1, rfl, ⟨by omega⟩, ⟨Kd.R_drew HP'.out⟩, ⟨(below_set HB.out HG1.out).drew⟩⟩, by simp [intOf]; omega⟩
    · have hmn : m = n := by omega
      subst hmn
      go_wp2
      go_ret
      exact ⟨_, rfl, by rw [E0.out]; exact HO1.out, HB.out⟩
set_option maxRecDepth 100000 in
theorem pop_walk (x : Int) (w : World) (h0 : 0 ≤ x) (h1 : x < 256) : Calls Try.prog 70 #[.int .u8 x] w fun e w' => e = .returned (.int .i64 (pop x)) ∧ w' = w := by
  obtain ⟨k, rfl⟩ := Int.eq_ofNat_of_zero_le h0
  have hk : k < 256 := by omega
  clear h0 h1
  go_enter Try.func70, Try.ntmps70
  go_wp2
  go_ret
  refine ⟨congrArg (fun z => Ending.returned (.int .i64 z)) ?_, rfl⟩
  clear w
  revert k
  decide +kernel
theorem bmMany_walk (A : Option Addr) (c : Nat) (l : List Int) (w : World) (hr : Kd.C (Kd.int .u8) w A l.length l) (hl : l.length < 140737488355328) (hb : Byts l) :
    Calls Try.prog 25 #[.slice A l.length c] w fun e w' => e = .returned (.int .i64 (bmMany l)) ∧ w' = w := by
  have HR := Aside0.mk hr
  have HY := Aside0.mk hb
  clear hr hb
  go_enter Try.func25, Try.ntmps25
  go_wp2
  go_loop [3, 8] (fun v3 v8 => ∃ m q : Nat, v3 = .int .i64 q ∧ v8 = .int .i64 m ∧ Aside0 (m ≤ l.length) ∧ Aside0 (q = bmCnt l (8 * m))) (fun _ i => l.length - (intOf i).toNat)
  case atStart => exact ⟨0, 0, rfl, rfl, ⟨Nat.zero_le _⟩, ⟨rfl⟩⟩
  case round =>
    obtain ⟨m, q, rfl, rfl, hm, hq⟩ := hrel
    have hm' := hm.out
    by_cases hlt : m < l.length
    · obtain ⟨ad, rfl, hx⟩ := Kd.at_int HR.out (m : Int) (by omega) (by omega)
      rw [rd_get hlt, Int.toNat_natCast] at hx
      have hs := bmCnt_byte l hlt
      obtain ⟨hx0, hx1⟩ := HY.out l[m] (List.getElem_mem _)
      obtain ⟨x, hxx⟩ : ∃ x, x = l[m] := ⟨_, rfl⟩
      rw [← hxx] at hx hs hx0 hx1
      have hp8 := pop_le x
      have hq8 := bmCnt_le l (8 * m)
      rw [← hq.out] at hq8 hs
      obtain ⟨p, hpp⟩ : ∃ p, p = pop x := ⟨_, rfl⟩
      rw [← hpp] at hs hp8
      have HPP := Aside0.mk hpp
      have HS := Aside0.mk hs
      clear hxx hpp hs
      go_wp2_with (go_at_call 70; refine (pop_walk x _ hx0 hx1).mono ?_; rintro e w' ⟨rfl, rfl⟩; rw [← HPP.out])
      exact ⟨⟨m + 1, q + p, rfl, rfl, ⟨by omega⟩, ⟨HS.out.symm⟩⟩, by simp [intOf]; omega⟩
    · have hmn : m = l.length := by omega
      subst hmn
      go_wp2
      go_ret
      exact ⟨by rw [hq.out]; rfl, rfl⟩
theorem eqB_walk (A1 : Option Addr) (c1 : Nat) (a : List Bool) (A2 : Option Addr) (c2 : Nat) (b : List Bool) (w : World) (h1 : Kd.C Kd.bool w A1 a.length a) (h2 : Kd.C Kd.bool w A2 b.length b) (ha : a.length < 140737488355328) :
    Calls Try.prog 24 #[.slice A1 a.length c1, .slice A2 b.length c2] w fun e w' => e = .returned (.bool (decide (a = b))) ∧ Drawn0 w w' := by
  have HA := Aside0.mk h1
  have HB := Aside0.mk h2
  clear h1 h2
  by_cases hl : a.length = b.length
  case neg =>
    have E0 : Aside0 (decide (a = b) = false) := ⟨by simp; intro h; exact hl (by rw [h])⟩
    have hb : ((a.length : Int) != b.length) = true := by simp; omega
    clear hl
    go_enter Try.func24, Try.ntmps24
    go_wp2
    go_ret
    exact ⟨ret_b (by rw [E0.out]), Drawn0.refl _⟩
  obtain ⟨n, hn⟩ : ∃ n, a.length = n := ⟨_, rfl⟩
  have hnb : b.length = n := by omega
  rw [hn] at HA ha ⊢
  rw [hnb] at HB ⊢
  have HN := Aside0.mk hn
  have HNb := Aside0.mk hnb
  clear hl hn hnb
  go_enter Try.func24, Try.ntmps24
  go_wp2
  go_loopw [13] (fun v5 w' => ∃ m : Nat, v5 = .int .i64 m ∧ Aside0 (m ≤ n) ∧ Aside0 (a.take m = b.take m) ∧ Aside0 (∃ d, w' = w.drewN d)) (fun i _ => n - (intOf i).toNat)
  case atStart => exact ⟨0, rfl, ⟨Nat.zero_le _⟩, ⟨rfl⟩, ⟨0, rfl⟩⟩
  case round =>
    obtain ⟨m, rfl, hm, ht, ⟨d, rfl⟩⟩ := hrel
    have hm' := hm.out
    by_cases hlt : m < n
    · obtain ⟨ad1, rfl, hx⟩ := Kd.at_bool HA.out (m : Int) (by omega) (by omega)
      obtain ⟨ad2, rfl, hy⟩ := Kd.at_bool HB.out (m : Int) (by omega) (by omega)
      have la := HN.out
      have lb := HNb.out
      have hta : a.take (m + 1) = a.take m ++ [a[m]] := List.take_succ_eq_append_getElem (by omega)
      have htb : b.take (m + 1) = b.take m ++ [b[m]] := List.take_succ_eq_append_getElem (by omega)
      rw [rdOf_get (by omega), Int.toNat_natCast] at hx hy
      obtain ⟨x, hxx⟩ : ∃ x, x = a[m] := ⟨_, rfl⟩
      obtain ⟨y, hyy⟩ : ∃ y, y = b[m] := ⟨_, rfl⟩
      rw [← hxx] at hx hta
      rw [← hyy] at hy htb
      by_cases hxy : x = y
      · have hT : Aside0 (a.take (m + 1) = b.take (m + 1)) := ⟨by rw [hta, htb, ht.out, hxy]⟩
        clear hta htb hxx hyy la lb
        subst hxy
        cases x
        all_goals
          go_wp2
          go_quiet (fail)
          go_wp2
          exact ⟨⟨m + 1, rfl, ⟨by omega⟩, hT, ⟨_, rfl⟩⟩, by simp [intOf]; omega⟩
      · have hT : Aside0 (decide (a = b) = false) := ⟨by simp; intro h; subst h; exact hxy (hxx.trans hyy.symm)⟩
        clear hta htb hxx hyy la lb
        cases x <;> cases y
        · exact absurd rfl hxy
        · clear hxy
          go_wp2
          go_quiet (fail)
          go_wp2
          go_ret
          exact ⟨ret_b (by rw [hT.out]), (by repeat (first | exact Drawn0.refl _ | apply Drawn0.step))⟩
        · clear hxy
          go_wp2
          go_quiet (fail)
          go_wp2
          go_ret
          exact ⟨ret_b (by rw [hT.out]), (by repeat (first | exact Drawn0.refl _ | apply Drawn0.step))⟩
        · exact absurd rfl hxy
    · have hkm : m = n := by omega
      subst hkm
      have E1 : Aside0 (decide (a = b) = true) := ⟨by have := ht.out; rw [List.take_of_length_le (by have := HN.out; omega), List.take_of_length_le (by have := HNb.out; omega)] at this; simp [this]⟩
      go_wp2
      go_ret
      exact ⟨ret_b (by rw [E1.out]), ⟨⟨_, rfl⟩⟩⟩
theorem and_one (y : Int) (h0 : 0 ≤ y) (h1 : y < 256) : bits .and .u8 y 1 = y % 2 := by
  have := bits_mask .u8 8 (by decide) wraps_u8 1 (by decide) y h0 h1
  simpa using this
theorem bit_get {l : List Int} (hb : Byts l) {m : Nat} (h : m / 8 < l.length) : (bits .and .u8 (l[m / 8] / 2 ^ (m % 8)) 1 == 1) = bmBit l m := by
  obtain ⟨h0, h1⟩ := hb l[m / 8] (List.getElem_mem _)
  have hp : (0 : Int) < 2 ^ (m % 8) := Int.pow_pos (by decide)
  have hle := Int.ediv_le_self (2 ^ (m % 8)) h0
  rw [and_one _ (Int.ediv_nonneg h0 (Int.le_of_lt hp)) (by omega)]
  unfold bmBit bitB
  simp [List.getElem?_eq_getElem h]
theorem bmGet_no (A : Option Addr) (c : Nat) (l : List Int) (n : Int) (w : World) (h : n < 0 ∨ 512 < n ∨ (0 ≤ n ∧ n ≤ 512 ∧ l.length ≠ 64)) :
    Calls Try.prog 23 #[.slice A l.length c, .int .i64 n] w fun e w' => ∃ v : Value, e = .returned (.tuple #[v, .bool (bmOk l n)]) ∧ Kd.R Kd.bool 4 w' w.heap.size (fun _ => True) v (bmGet l n) ∧ Below w.heap.size w w' := by
  have e0 : bmOk l n = false := by unfold bmOk; simp; omega
  have E1 : Aside0 (bmGet l n = []) := ⟨by unfold bmGet; rw [e0]; rfl⟩
  have E0 := Aside0.mk e0
  have HB := Aside0.mk (Below.refl w.heap.size w)
  clear e0
  rcases h with h | h | ⟨h0, h1, h2⟩
  · go_enter Try.func23, Try.ntmps23
    go_wp2
    go_ret2
    exact ⟨_, by rw [E0.out]; rfl, by rw [E1.out]; exact Kd.R_nil _ _ _ _ _, HB.out⟩
  · go_enter Try.func23, Try.ntmps23
    go_wp2
    go_ret2
    exact ⟨_, by rw [E0.out]; rfl, by rw [E1.out]; exact Kd.R_nil _ _ _ _ _, HB.out⟩
  · have hb : ((l.length : Int) != 64) = true := by simp; omega
    clear h2
    go_enter Try.func23, Try.ntmps23
    go_wp2
    go_ret2
    exact ⟨_, by rw [E0.out]; rfl, by rw [E1.out]; exact Kd.R_nil _ _ _ _ _, HB.out⟩
set_option maxRecDepth 100000 in
theorem bmGet_yes (A : Option Addr) (c : Nat) (l : List Int) (k : Nat) (w : World) (hr : Kd.C (Kd.int .u8) w A l.length l) (hb : Byts l) (hk : k ≤ 512) (h64 : l.length = 64) :
    Calls Try.prog 23 #[.slice A l.length c, .int .i64 k] w fun e w' => ∃ v : Value, e = .returned (.tuple #[v, .bool (bmOk l k)]) ∧ Kd.R Kd.bool 4 w' w.heap.size (fun _ => True) v (bmGet l k) ∧ Below w.heap.size w w' := by
  have HR := Aside0.mk hr
  have HY := Aside0.mk hb
  have HB := Aside0.mk (Below.refl w.heap.size w)
  have hbl : ((l.length : Int) != 64) = false := by simp; omega
  have hL : 64 ≤ l.length := by omega
  have hL2 : l.length ≤ 64 := by omega
  have E0 : Aside0 (bmOk l k = decide (bmCnt l k = bmMany l)) := ⟨by unfold bmOk; simp [h64]; omega⟩
  have E1 : Aside0 (bmGet l k = if bmCnt l k = bmMany l then bmBits l k else []) := ⟨by unfold bmGet; rw [E0.out]; simp⟩
  clear hr hb h64
  go_enter Try.func23, Try.ntmps23
  go_wp2_with (first | ((with_reducible refine gate_dst (N := 21) rfl ?_); refine Kd.R_make Kd.bool _ 4 rfl (N := 21) rfl 28 _ _ rfl (k) rfl rfl Try.underlying28 (.bool false) 1 boolinfo rfl (by decide) (by omega) false (ok := fun _ => True) (okp := fun _ => True) rfl (fun _ hk => hk) trivial (by omega) (by omega) (Below.refl _ _) (Nat.le_refl _) ?_; intro v1 w1 ho hb hg_ hnew_; clear hg_ hnew_; have HO1 := Aside0.mk (Kd.R_lower ho (below_size (by repeat (first | (with_reducible first | exact HB.out | apply below_alloc | apply pw_below_drewN | apply below_drew1) | exact HB.out)))); have n1_ : Aside0 (Below w.heap.size w w1) := ⟨below_step (by repeat (first | (with_reducible first | exact HB.out | apply below_alloc | apply pw_below_drewN | apply below_drew1) | exact HB.out)) hb⟩; clear HB; have HB := n1_; clear n1_; clear ho hb; go_must (obtain ⟨A1, c1, rfl⟩ := Kd.R_slice HO1.out; have hl1 : (List.replicate (k : Int).toNat false).length = k := by simp); go_must (rw [hl1] at HO1 ⊢); go_must (rw [Int.toNat_natCast] at HO1; clear hl1)))
  go_loopw [7, 24] (fun v7 v24 w' => ∃ m q : Nat, v7 = .int .i64 q ∧ v24 = .int .i64 m ∧ Aside0 (m ≤ k) ∧ Aside0 (q = bmCnt l m) ∧ Aside0 (Kd.R Kd.bool 4 w' w.heap.size (fun _ => True) (.slice A1 k c1) (bmBits l m ++ List.replicate (k - m) false)) ∧ Aside0 (Below w.heap.size w w')) (fun _ i _ => k - (intOf i).toNat)
  case atStart => exact ⟨0, 0, rfl, rfl, ⟨Nat.zero_le _⟩, ⟨rfl⟩, HO1, HB⟩
  case round =>
    clear HO1 HB
    obtain ⟨m, q, rfl, rfl, hm, hq, HO1, HB⟩ := hrel
    have hm' := hm.out
    by_cases hlt : m < k
    · obtain ⟨g, cap, he, hg, _, _, _⟩ := Kd.R_form HO1.out (by simp [bmBits_length]; omega)
      injection he with ha hn hc
      subst ha hc
      have HG := Aside0.mk hg
      have hle : (bmBits l m ++ List.replicate (k - m) false).length = k := by simp [bmBits_length]; omega
      obtain ⟨hy, hf⟩ := Kd.R_celln false HO1.out (m : Int) (by omega) (by omega)
      rw [Int.toNat_natCast] at hy hf
      obtain ⟨ad, rfl, hx⟩ := Kd.at_int (Kd.C_below HR.out HB.out) ((m / 8 : Nat) : Int) (by omega) (by omega)
      rw [rd_get (by omega), Int.toNat_natCast] at hx
      have hbg := bit_get HY.out (m := m) (by omega)
      obtain ⟨hx0, hx1⟩ := HY.out (l[m / 8]'(by omega)) (List.getElem_mem _)
      have HP := Kd.R_putg HO1.out (m : Int) (bmBit l m)
      rw [Int.toNat_natCast, bmBits_set l hlt] at HP
      have hqs := bmCnt_succ l m
      obtain ⟨x, hxx⟩ : ∃ x, x = l[m / 8]'(by omega) := ⟨_, rfl⟩
      rw [← hxx] at hx hbg hx0 hx1
      have hq8 := bmCnt_le l m
      rw [← hq.out] at hq8 hqs
      have HPa := Aside0.mk HP.1
      clear hn hg hle hxx HP
      cases hb : bmBit l m with
      | true =>
        rw [hb] at hbg hqs HPa
        have HS := Aside0.mk hqs
        clear hqs hb
        go_wp2
        exact ⟨⟨m + 1, q + 1, rfl, rfl, ⟨by omega⟩, ⟨by rw [HS.out]; rfl⟩, HPa, ⟨below_set HB.out HG.out⟩⟩, by simp [intOf]; omega⟩
      | false =>
        rw [hb] at hbg hqs HPa
        have HS := Aside0.mk hqs
        clear hqs hb
        go_wp2
        exact ⟨⟨m + 1, q, rfl, rfl, ⟨by omega⟩, ⟨by rw [HS.out]; rfl⟩, HPa, ⟨below_set HB.out HG.out⟩⟩, by simp [intOf]; omega⟩
    · have hmk : m = k := by omega
      subst hmk
      by_cases hz : bmCnt l m = bmMany l
      · have HZ := Aside0.mk hz
        have hqe : ((q : Int) != (bmMany l : Int)) = false := by rw [hq.out, hz]; simp
        clear hz
        go_wp2_with (go_at_call 25; refine (bmMany_walk A c l _ (Kd.C_below HR.out HB.out) (by omega) HY.out).mono ?_; rintro e w' ⟨rfl, rfl⟩)
        go_ret2
        exact ⟨_, by rw [E0.out, HZ.out, decide_eq_true rfl]; rfl, by rw [E1.out, if_pos HZ.out]; simpa using HO1.out, HB.out⟩
      · have HZ := Aside0.mk hz
        have hqe : ((q : Int) != (bmMany l : Int)) = true := by rw [hq.out]; simp; omega
        clear hz
        go_wp2_with (go_at_call 25; refine (bmMany_walk A c l _ (Kd.C_below HR.out HB.out) (by omega) HY.out).mono ?_; rintro e w' ⟨rfl, rfl⟩)
        go_ret2
        exact ⟨_, by rw [E0.out, decide_eq_false HZ.out]; rfl, by rw [E1.out, if_neg HZ.out]; exact Kd.R_nil _ _ _ _ _, HB.out⟩
theorem bmGet_walk (A : Option Addr) (c : Nat) (l : List Int) (n : Int) (w : World) (hr : Kd.C (Kd.int .u8) w A l.length l) (hb : Byts l) :
    Calls Try.prog 23 #[.slice A l.length c, .int .i64 n] w fun e w' => ∃ v : Value, e = .returned (.tuple #[v, .bool (bmOk l n)]) ∧ Kd.R Kd.bool 4 w' w.heap.size (fun _ => True) v (bmGet l n) ∧ Below w.heap.size w w' := by
  by_cases h : n < 0 ∨ 512 < n ∨ (0 ≤ n ∧ n ≤ 512 ∧ l.length ≠ 64)
  · exact bmGet_no A c l n w h
  · obtain ⟨k, rfl⟩ := Int.eq_ofNat_of_zero_le (show 0 ≤ n by omega)
    exact bmGet_yes A c l k w hr hb (by omega) (by omega)
end Go.Proofs.Ytfbcnmjahpbbeaa.K
