/- The walks of the reference of chapter 1: each function comes to what the plain law's does. -/
import Derived.Test.YtdknolnoimpgeaaK01
namespace Go.Proofs.Ytdknolnoimpgeaa.K
open Go.RowKit Go.Proofs.YtdknolnoimpgeaaW.PrintWords Go.Proofs.YtdknolnoimpgeaaW.PrintLast Go.Proofs.YtdknolnoimpgeaaW.PrintMore
set_option linter.unusedVariables false
set_option linter.unusedSimpArgs false
theorem rW_walk (s : Int) (w : World) : Calls Try.prog 139 #[.int .i64 s] w fun e w' => e = .returned (.bool (numW s)) ∧ Drawn0 w w' := by
  unfold numW
  by_cases h1 : s = 1
  · subst h1; go_enter Try.func139, Try.ntmps139
    go_wp2; go_ret; exact ⟨rfl, Drawn0.refl _⟩
  by_cases h2 : s = 2
  · subst h2; go_enter Try.func139, Try.ntmps139
    go_wp2; go_ret; exact ⟨rfl, Drawn0.refl _⟩
  have b1 : (s == 1) = false := by simpa using h1
  have b2 : (s == 2) = false := by simpa using h2
  clear h1 h2
  go_enter Try.func139, Try.ntmps139
  go_wp2; go_ret; exact ⟨ret_b (by simp [b1, b2]), Drawn0.refl _⟩
theorem rR_walk (n s : Int) (w : World) : Calls Try.prog 157 #[.int .i64 n, .int .i64 s] w fun e w' => e = .returned (.bool (numR n s)) ∧ Drawn0 w w' := by
  by_cases hw : numW s = true
  case neg =>
    have hw' := Bool.eq_false_iff.2 hw
    have e0 : numR n s = false := by unfold numR; rw [hw']; rfl
    have E0 := Aside0.mk e0; have HW := Aside0.mk hw'; clear e0 hw hw'
    go_enter Try.func157, Try.ntmps157
    go_wp2_with (go_at_call 139; refine (rW_walk _ _).mono ?_; rintro e w2 ⟨rfl, ⟨nd, rfl⟩⟩; rw [HW.out])
    go_ret; exact ⟨ret_b E0.out.symm, ⟨⟨nd, rfl⟩⟩⟩
  obtain ⟨k, rfl, hk1, hk4⟩ := numW_nat hw
  have HW := Aside0.mk hw
  by_cases h0 : 0 ≤ n
  case neg =>
    have e0 : numR n k = false := by unfold numR; simp [h0]
    have E0 := Aside0.mk e0
    clear e0 hw
    go_enter Try.func157, Try.ntmps157
    go_wp2_with (go_at_call 139; refine (rW_walk _ _).mono ?_; rintro e w2 ⟨rfl, ⟨nd, rfl⟩⟩; rw [HW.out])
    go_ret; exact ⟨ret_b E0.out.symm, ⟨⟨nd, rfl⟩⟩⟩
  have e0 : numR n k = decide (n < 2 ^ (8 * k)) := by unfold numR; simp [hw, h0]
  have E0 := Aside0.mk e0
  clear e0 hw
  go_enter Try.func157, Try.ntmps157
  go_wp2_with (go_at_call 139; refine (rW_walk _ _).mono ?_; rintro e w2 ⟨rfl, ⟨nd, rfl⟩⟩; rw [HW.out])
  go_loop [5, 6] (fun v5 v6 => ∃ (m : Nat) (t : Int), v5 = .int .i64 t ∧ v6 = .int .i64 m ∧ Aside0 (m ≤ k) ∧ Aside0 (t = 2 ^ (8 * m))) (fun _ i => k - (intOf i).toNat)
  case atStart => exact ⟨0, 1, rfl, rfl, ⟨Nat.zero_le _⟩, ⟨rfl⟩⟩
  case round =>
    obtain ⟨m, t, rfl, rfl, hm, ht⟩ := hrel
    have hm' := hm.out
    by_cases hlt : m < k
    · have hb : 0 ≤ t ∧ t ≤ 16777216 := by rw [ht.out]; rcases (by omega : m = 0 ∨ m = 1 ∨ m = 2 ∨ m = 3) with rfl | rfl | rfl | rfl <;> decide
      obtain ⟨hb0, hb1⟩ := hb
      go_wp2
      exact ⟨⟨m + 1, t * 256, rfl, rfl, ⟨by omega⟩, ⟨by rw [pow_split, ← ht.out, Int.mul_comm]⟩⟩, by simp [intOf]; omega⟩
    · have hkm : m = k := by omega
      subst hkm
      go_wp2
      go_ret
      exact ⟨ret_b (by rw [E0.out, ← ht.out]), ⟨⟨_, rfl⟩⟩⟩
theorem rB_walk (a : Int) (k : Nat) (w : World) (h0 : 0 ≤ a) (h1 : a < 4294967296) (hk : k ≤ 8) : Calls Try.prog 137 #[.int .i64 a, .int .i64 k] w fun e w' => ∃ v : Value, e = .returned v ∧ Kd.R (Kd.int .u8) 5 w' w.heap.size (fun _ => True) v (leB a k) ∧ Below w.heap.size w w' := by
  have HB := Aside0.mk (Below.refl w.heap.size w)
  go_enter Try.func137, Try.ntmps137
  go_wp2_with (((with_reducible refine gate_dst (N := 7) rfl ?_); refine Kd.R_lit (Kd.int .u8) _ 5 ?hg (N := 7) ?hd (xs := ([] : List Int)) (inner := []) (ok := fun _ => True) (okp := fun _ => True) ?hr ?hp (fun _ hk => hk) trivial (Below.refl _ _) (Nat.le_refl _) (by simp) ?_; (case hd => rfl); (case hg => rfl); (case hr => first | (go_simp; done) | (go_simp; rfl)); (case hp => exact (Reps.none _ _)); intro v114 w3 ho4 hb hg_ hnew_; clear hg_ hnew_; have n0_ := Aside0.mk (Kd.R_lower ho4 (below_size (by repeat (first | (with_reducible first | exact HB.out | apply below_alloc | apply pw_below_drewN | apply below_drew1) | exact HB.out)))); have n1_ := Aside0.mk (below_step (by repeat (first | (with_reducible first | exact HB.out | apply below_alloc | apply pw_below_drewN | apply below_drew1) | exact HB.out)) hb); clear HB; have HO1 := n0_; have HB := n1_; clear n0_ n1_; clear hb ho4))
  go_loopw [0, 5, 6] (fun v0 v5 v6 w' => ∃ (m : Nat) (q : Int), v0 = .int .i64 q ∧ v6 = .int .i64 m ∧ Aside0 (m ≤ k) ∧ Aside0 (q = a / 2 ^ (8 * m)) ∧ Aside0 (Kd.R (Kd.int .u8) 5 w' w.heap.size (fun _ => True) v5 (leB a m)) ∧ Aside0 (Below w.heap.size w w')) (fun _ _ i _ => k - (intOf i).toNat)
  case atStart => exact ⟨0, a, rfl, rfl, ⟨Nat.zero_le _⟩, ⟨by simp⟩, HO1, HB⟩
  case round =>
    clear HO1 HB
    obtain ⟨m, q, rfl, rfl, hm, hq, HO1, HB⟩ := hrel
    have hm' := hm.out
    by_cases hlt : m < k
    · have hq0 : 0 ≤ q := by rw [hq.out]; exact Int.ediv_nonneg h0 (Int.le_of_lt (pow_pos2 _))
      have hq1 : q < 4294967296 := by have := Int.ediv_le_self (2 ^ (8 * m)) h0; rw [← hq.out] at this; omega
      have hlen : Aside0 ((leB a m).length = m) := ⟨leB_length a m⟩
      go_wp2_with (((with_reducible refine gate_builtin (b := .append) (xs := #[.tmp 13, .tmp 17]) rfl ?_); at_builtin; refine Kd.R_append (Kd.int .u8) (w0 := w) w.heap.size rfl (.tmp 13) (.tmp 17) 24 5 (.int .u8 0) 1 rfl Try.underlying24 u8info rfl (by decide) (by omega) u5 (leB a m) (q % 256) [.int .u8 (q % 256)] (fun _ => True) (fun _ => False) rfl rfl ?aP (fun _ hk => hk.elim) ?aF ?aO ?aB ?aS ?aL ?_; (case aP => exact rfl); (case aB => exact (by repeat (first | (with_reducible first | exact HB.out | apply below_alloc | apply pw_below_drewN | apply below_drew1) | exact HB.out))); (case aF => exact (fun _ _ => trivial)); (case aO => exact (by (with_reducible repeat (first | apply Kd.R_alloc | apply Kd.R_drewN | apply Kd.R_drew)); exact HO1.out)); (case aS => exact (below_size (by repeat (first | (with_reducible first | exact HB.out | apply below_alloc | apply pw_below_drewN | apply below_drew1) | exact HB.out)))); (case aL => have := hlen.out; omega); intro v2 w11 ho hb hg hat; have n0_ := Aside0.mk (hb); have n1_ := Aside0.mk (ho); clear HB; clear HO1; have HB := n0_; have HO2 := n1_; clear n0_ n1_; clear ho hb hg hat))
      exact ⟨⟨m + 1, q / 256, rfl, rfl, ⟨by omega⟩, ⟨by rw [hq.out, div_step]⟩, ⟨by rw [leB_succ, ← hq.out]; exact HO2.out⟩, HB⟩, by simp [intOf]; omega⟩
    · have hkm : m = k := by omega
      subst hkm
      go_wp2
      go_ret
      exact ⟨_, rfl, HO1.out, HB.out⟩
set_option maxRecDepth 100000 in
theorem rP_walk (A : Option Addr) (c : Nat) (l : List Int) (n s : Int) (w : World) (hr : Kd.C (Kd.int .u8) w A l.length l) (hc : l.length ≤ c) (hl : l.length < 140737488355320) :
    Calls Try.prog 150 #[.slice A l.length c, .int .i64 n, .int .i64 s] w fun e w' => ∃ v : Value, e = .returned v ∧ Kd.R (Kd.int .u8) 5 w' w.heap.size (fun _ => True) v (numP l n s) ∧ Below w.heap.size w w' := by
  have HR := Aside0.mk hr
  have HC := Aside0.mk hc
  have HL := Aside0.mk hl
  have HB := Aside0.mk (Below.refl w.heap.size w)
  clear hr hc hl
  by_cases hi : numR n s = true
  case neg =>
    have HRi := Aside0.mk (Bool.eq_false_iff.2 hi)
    have E0 : Aside0 (numP l n s = l) := ⟨by unfold numP; rw [if_neg hi]⟩
    clear hi
    go_enter Try.func150, Try.ntmps150
    go_wp2_with (first | ((with_reducible refine gate_dst (N := 8) rfl ?_); refine Kd.R_lit (Kd.int .u8) _ 5 ?hg (N := 8) ?hd (xs := ([] : List Int)) (inner := []) (ok := fun _ => True) (okp := fun _ => True) ?hr ?hp (fun _ hk => hk) trivial (Below.refl _ _) (Nat.le_refl _) (by simp) ?_; (case hd => rfl); (case hg => rfl); (case hr => first | (go_simp; done) | (go_simp; rfl)); (case hp => exact (Reps.none _ _)); intro v114 w3 ho4 hb hg_ hnew_; clear hg_ hnew_; have n0_ := Aside0.mk (Kd.R_lower ho4 (below_size (by repeat (first | (with_reducible first | exact HB.out | apply below_alloc | apply pw_below_drewN | apply below_drew1) | exact HB.out)))); have n1_ := Aside0.mk (below_step (by repeat (first | (with_reducible first | exact HB.out | apply below_alloc | apply pw_below_drewN | apply below_drew1) | exact HB.out)) hb); clear HB; have HO1 := n0_; have HB := n1_; clear n0_ n1_; clear hb ho4) | ((with_reducible refine gate_builtin (b := .append) (xs := #[.tmp 8, .tmp 9]) rfl ?_); at_builtin; refine Kd.R_append_rows (Kd.int .u8) (w0 := w) w.heap.size rfl (.tmp 8) (.tmp 9) 24 5 (.int .u8 0) 1 rfl Try.underlying24 u8info rfl (by decide) (by omega) v114 [] l _ _ _ (fun _ => True) (fun _ => False) rfl rfl ?aO ?aR (fun _ _ h => h) (fun _ h => h.elim) ?aF ?aB ?aS ?aL ?_; (case aR => exact (Kd.C_below HR.out (by repeat (first | (with_reducible first | exact HB.out | apply below_alloc | apply pw_below_drewN | apply below_drew1) | exact HB.out)))); (case aB => exact (by repeat (first | (with_reducible first | exact HB.out | apply below_alloc | apply pw_below_drewN | apply below_drew1) | exact HB.out))); (case aF => exact (fun _ _ => trivial)); (case aO => exact (by (with_reducible repeat (first | apply Kd.R_alloc | apply Kd.R_drewN | apply Kd.R_drew)); exact HO1.out)); (case aS => exact (below_size (by repeat (first | (with_reducible first | exact HB.out | apply below_alloc | apply pw_below_drewN | apply below_drew1) | exact HB.out)))); (case aL => have := HL.out; simp; omega); intro v1 w11 ho hb hg hat; have n0_ := Aside0.mk (hb); have n1_ := Aside0.mk (ho); clear HB; clear HO1; have HB := n0_; have HO2 := n1_; clear n0_ n1_; clear ho hb hg hat) | (go_at_call 157; refine (rR_walk _ _ _).mono ?_; rintro e w2 ⟨rfl, ⟨nd, rfl⟩⟩; rw [HRi.out]))
    go_ret
    exact ⟨_, rfl, by rw [E0.out]; exact (by (with_reducible repeat (first | apply Kd.R_alloc | apply Kd.R_drewN | apply Kd.R_drew)); exact HO2.out), (by repeat (first | (with_reducible first | exact HB.out | apply below_alloc | apply pw_below_drewN | apply below_drew1) | exact HB.out))⟩
  have HRi := Aside0.mk hi
  obtain ⟨hw, hn0, hn1⟩ := numR_parts hi
  obtain ⟨k, rfl, hk1, hk4⟩ := numW_nat hw
  have E0 : Aside0 (numP l n k = l ++ leB n k) := ⟨by unfold numP; rw [if_pos hi, Int.toNat_natCast]⟩
  rw [Int.toNat_natCast] at hn1
  replace hn1 : n < 4294967296 := by rcases (by omega : k = 1 ∨ k = 2 ∨ k = 3 ∨ k = 4) with rfl | rfl | rfl | rfl <;> simp at hn1 <;> omega
  clear hi hw
  go_enter Try.func150, Try.ntmps150
  go_wp2_with (first | ((with_reducible refine gate_dst (N := 8) rfl ?_); refine Kd.R_lit (Kd.int .u8) _ 5 ?hg (N := 8) ?hd (xs := ([] : List Int)) (inner := []) (ok := fun _ => True) (okp := fun _ => True) ?hr ?hp (fun _ hk => hk) trivial (Below.refl _ _) (Nat.le_refl _) (by simp) ?_; (case hd => rfl); (case hg => rfl); (case hr => first | (go_simp; done) | (go_simp; rfl)); (case hp => exact (Reps.none _ _)); intro v114 w3 ho4 hb hg_ hnew_; clear hg_ hnew_; have n0_ := Aside0.mk (Kd.R_lower ho4 (below_size (by repeat (first | (with_reducible first | exact HB.out | apply below_alloc | apply pw_below_drewN | apply below_drew1) | exact HB.out)))); have n1_ := Aside0.mk (below_step (by repeat (first | (with_reducible first | exact HB.out | apply below_alloc | apply pw_below_drewN | apply below_drew1) | exact HB.out)) hb); clear HB; have HO1 := n0_; have HB := n1_; clear n0_ n1_; clear hb ho4) | ((with_reducible refine gate_builtin (b := .append) (xs := #[.tmp 8, .tmp 9]) rfl ?_); at_builtin; refine Kd.R_append_rows (Kd.int .u8) (w0 := w) w.heap.size rfl (.tmp 8) (.tmp 9) 24 5 (.int .u8 0) 1 rfl Try.underlying24 u8info rfl (by decide) (by omega) v114 [] l _ _ _ (fun _ => True) (fun _ => False) rfl rfl ?aO ?aR (fun _ _ h => h) (fun _ h => h.elim) ?aF ?aB ?aS ?aL ?_; (case aR => exact (Kd.C_below HR.out (by repeat (first | (with_reducible first | exact HB.out | apply below_alloc | apply pw_below_drewN | apply below_drew1) | exact HB.out)))); (case aB => exact (by repeat (first | (with_reducible first | exact HB.out | apply below_alloc | apply pw_below_drewN | apply below_drew1) | exact HB.out))); (case aF => exact (fun _ _ => trivial)); (case aO => exact (by (with_reducible repeat (first | apply Kd.R_alloc | apply Kd.R_drewN | apply Kd.R_drew)); exact HO1.out)); (case aS => exact (below_size (by repeat (first | (with_reducible first | exact HB.out | apply below_alloc | apply pw_below_drewN | apply below_drew1) | exact HB.out)))); (case aL => have := HL.out; simp; omega); intro v1 w11 ho hb hg hat; have n0_ := Aside0.mk (hb); have n1_ := Aside0.mk (ho); clear HB; clear HO1; have HB := n0_; have HO2 := n1_; clear n0_ n1_; clear ho hb hg hat) | (go_at_call 157; refine (rR_walk _ _ _).mono ?_; rintro e w2 ⟨rfl, ⟨nd, rfl⟩⟩; rw [HRi.out]) | (go_at_call 137; refine (rB_walk n k _ hn0 hn1 (by omega)).mono ?_; rintro e w3 ⟨v3, rfl, ho, hb⟩; obtain ⟨A3, c3, rfl⟩ := Kd.R_slice ho; have hr3 := (Kd.R_reads' ho).2.2; have hc3 := (Kd.R_reads' ho).2.1; have HR3 := Aside0.mk hr3; have n0_ : Aside0 (Kd.R (Kd.int .u8) 5 w3 w.heap.size (fun _ => True) v1 l) := ⟨Kd.R_below (by (with_reducible repeat (first | apply Kd.R_alloc | apply Kd.R_drewN | apply Kd.R_drew)); exact HO2.out) hb⟩; clear HO2; have HO2 := n0_; clear n0_; have n1_ : Aside0 (Below w.heap.size w w3) := ⟨below_step (by repeat (first | (with_reducible first | exact HB.out | apply below_alloc | apply pw_below_drewN | apply below_drew1) | exact HB.out)) hb⟩; clear HB; have HB := n1_; clear n1_; clear ho hb hr3) | ((with_reducible refine gate_builtin (b := .append) (xs := #[.tmp 14, .tmp 17]) rfl ?_); at_builtin; refine Kd.R_append_rows (Kd.int .u8) (w0 := w) w.heap.size rfl (.tmp 14) (.tmp 17) 24 5 (.int .u8 0) 1 rfl Try.underlying24 u8info rfl (by decide) (by omega) v1 l (leB n k) _ _ _ (fun _ => True) (fun _ => False) rfl rfl ?aO ?aR (fun _ _ h => h) (fun _ h => h.elim) ?aF ?aB ?aS ?aL ?_; (case aR => exact (by first | exact HR3.out | (refine Kd.C_drewN ?_ _; exact HR3.out) | (refine Kd.C_alloc ?_ _; exact HR3.out))); (case aB => exact (by repeat (first | (with_reducible first | exact HB.out | apply below_alloc | apply pw_below_drewN | apply below_drew1) | exact HB.out))); (case aF => exact (fun _ _ => trivial)); (case aO => exact (by (with_reducible repeat (first | apply Kd.R_alloc | apply Kd.R_drewN | apply Kd.R_drew)); exact HO2.out)); (case aS => exact (below_size (by repeat (first | (with_reducible first | exact HB.out | apply below_alloc | apply pw_below_drewN | apply below_drew1) | exact HB.out)))); (case aL => have := HL.out; rw [leB_length]; omega); intro v4 w11 ho hb hg hat; have n0_ := Aside0.mk (hb); have n1_ := Aside0.mk (ho); clear HB; clear HO2; have HB := n0_; have HO4 := n1_; clear n0_ n1_; clear ho hb hg hat))
  go_ret
  exact ⟨_, rfl, by rw [E0.out]; exact HO4.out, HB.out⟩
theorem rSame_walk (A1 : Option Addr) (c1 : Nat) (a : List Int) (A2 : Option Addr) (c2 : Nat) (b : List Int) (w : World) (h1 : Kd.C (Kd.int .u8) w A1 a.length a) (h2 : Kd.C (Kd.int .u8) w A2 b.length b) (ha : a.length < 140737488355328) :
    Calls Try.prog 92 #[.slice A1 a.length c1, .slice A2 b.length c2] w fun e w' => e = .returned (.bool (decide (a = b))) ∧ Drawn0 w w' := by
  have HA := Aside0.mk h1
  have HB := Aside0.mk h2
  clear h1 h2
  by_cases hl : a.length = b.length
  case neg =>
    have E0 : Aside0 (decide (a = b) = false) := ⟨by simp; intro h; exact hl (by rw [h])⟩
    have hb : ((a.length : Int) != b.length) = true := by simp; omega
    clear hl
    go_enter Try.func92, Try.ntmps92
    go_wp2
    go_ret
    exact ⟨ret_b (by rw [E0.out]), Drawn0.refl _⟩
  obtain ⟨n, hn⟩ : ∃ n, a.length = n := ⟨_, rfl⟩
  have hnb : b.length = n := by omega
  rw [hn] at HA ha ⊢
  rw [hnb] at HB ⊢
  have HN := Aside0.mk hn
  have HNb := Aside0.mk hnb
  clear hl hn hnb
  go_enter Try.func92, Try.ntmps92
  go_wp2
  go_loopw [5] (fun v5 w' => ∃ m : Nat, v5 = .int .i64 m ∧ Aside0 (m ≤ n) ∧ Aside0 (a.take m = b.take m) ∧ Aside0 (∃ d, w' = w.drewN d)) (fun i _ => n - (intOf i).toNat)
  case atStart => exact ⟨0, rfl, ⟨Nat.zero_le _⟩, ⟨rfl⟩, ⟨0, rfl⟩⟩
  case round =>
    obtain ⟨m, rfl, hm, ht, ⟨d, rfl⟩⟩ := hrel
    have hm' := hm.out
    by_cases hlt : m < n
    · obtain ⟨ad1, rfl, hx⟩ := Kd.at_int HA.out (m : Int) (by omega) (by omega)
      obtain ⟨ad2, rfl, hy⟩ := Kd.at_int HB.out (m : Int) (by omega) (by omega)
      have la := HN.out
      have lb := HNb.out
      have hxe : rd a (m : Int) = a[m] := by simp [rd, List.getElem?_eq_getElem (show m < a.length by omega)]
      have hye : rd b (m : Int) = b[m] := by simp [rd, List.getElem?_eq_getElem (show m < b.length by omega)]
      have hta : a.take (m + 1) = a.take m ++ [a[m]] := List.take_succ_eq_append_getElem (by omega)
      have htb : b.take (m + 1) = b.take m ++ [b[m]] := List.take_succ_eq_append_getElem (by omega)
      rw [hxe, Int.toNat_natCast] at hx
      rw [hye, Int.toNat_natCast] at hy
      obtain ⟨x, hxx⟩ : ∃ x, x = a[m] := ⟨_, rfl⟩
      obtain ⟨y, hyy⟩ : ∃ y, y = b[m] := ⟨_, rfl⟩
      rw [← hxx] at hx hta
      rw [← hyy] at hy htb
      by_cases hxy : x = y
      · have hT : Aside0 (a.take (m + 1) = b.take (m + 1)) := ⟨by rw [hta, htb, ht.out, hxy]⟩
        have hB : (x != y) = false := by simp [hxy]
        clear hxe hye hta htb hxx hyy hxy la lb
        go_wp2
        go_quiet (fail)
        go_wp2
        exact ⟨⟨m + 1, rfl, ⟨by omega⟩, hT, ⟨_, rfl⟩⟩, by simp [intOf]; omega⟩
      · have hT : Aside0 (decide (a = b) = false) := ⟨by simp; intro h; subst h; exact hxy (hxx.trans hyy.symm)⟩
        have hB : (x != y) = true := by simp [hxy]
        clear hxe hye hta htb hxx hyy hxy la lb
        go_wp2
        go_quiet (fail)
        go_wp2
        go_ret
        exact ⟨ret_b (by rw [hT.out]), (by repeat (first | exact Drawn0.refl _ | apply Drawn0.step))⟩
    · have hkm : m = n := by omega
      subst hkm
      have E1 : Aside0 (decide (a = b) = true) := ⟨by have := ht.out; rw [List.take_of_length_le (by have := HN.out; omega), List.take_of_length_le (by have := HNb.out; omega)] at this; simp [this]⟩
      go_wp2
      go_ret
      exact ⟨ret_b (by rw [E1.out]), ⟨⟨_, rfl⟩⟩⟩
theorem rG_walk (A : Option Addr) (c : Nat) (l : List Int) (i s : Int) (w : World) (hr : Kd.C (Kd.int .u8) w A l.length l) (hl : l.length < 140737488355320) (hb : Byts l) :
    Calls Try.prog 99 #[.slice A l.length c, .int .i64 i, .int .i64 s] w fun e w' => e = .returned (.tuple #[.int .i64 (numG l i s).1, .bool (numG l i s).2]) ∧ Drawn0 w w' := by
  have HR := Aside0.mk hr
  clear hr
  rcases numT_cases l i s with ⟨hw, ht⟩ | ⟨k, rfl, hk1, hk4, hw, ⟨h0, ht⟩ | ⟨j, rfl, ⟨h1, ht⟩ | ⟨h1, h2, ht⟩ | ⟨h1, ht⟩⟩⟩
  · have HW := Aside0.mk hw
    have E0 : Aside0 (numG l i s = (0, false)) := ⟨by unfold numG; rw [ht]; rfl⟩
    clear hw ht
    go_enter Try.func99, Try.ntmps99
    go_wp2_with (go_at_call 139; refine (rW_walk _ _).mono ?_; rintro e w2 ⟨rfl, ⟨nd, rfl⟩⟩; rw [HW.out])
    go_ret2; exact ⟨by rw [E0.out]; rfl, (by repeat (first | exact Drawn0.refl _ | apply Drawn0.step))⟩
  · have HW := Aside0.mk hw
    have E0 : Aside0 (numG l i k = (0, false)) := ⟨by unfold numG; rw [ht]; rfl⟩
    clear hw ht
    go_enter Try.func99, Try.ntmps99
    go_wp2_with (go_at_call 139; refine (rW_walk _ _).mono ?_; rintro e w2 ⟨rfl, ⟨nd, rfl⟩⟩; rw [HW.out])
    go_ret2; exact ⟨by rw [E0.out]; rfl, (by repeat (first | exact Drawn0.refl _ | apply Drawn0.step))⟩
  · have HW := Aside0.mk hw
    have E0 : Aside0 (numG l j k = (0, false)) := ⟨by unfold numG; rw [ht]; rfl⟩
    clear hw ht
    go_enter Try.func99, Try.ntmps99
    go_wp2_with (go_at_call 139; refine (rW_walk _ _).mono ?_; rintro e w2 ⟨rfl, ⟨nd, rfl⟩⟩; rw [HW.out])
    go_ret2; exact ⟨by rw [E0.out]; rfl, (by repeat (first | exact Drawn0.refl _ | apply Drawn0.step))⟩
  · have HW := Aside0.mk hw
    have E0 : Aside0 (numG l j k = (0, false)) := ⟨by unfold numG; rw [ht]; rfl⟩
    clear hw ht
    go_enter Try.func99, Try.ntmps99
    go_wp2_with (go_at_call 139; refine (rW_walk _ _).mono ?_; rintro e w2 ⟨rfl, ⟨nd, rfl⟩⟩; rw [HW.out])
    go_ret2; exact ⟨by rw [E0.out]; rfl, (by repeat (first | exact Drawn0.refl _ | apply Drawn0.step))⟩
  · have HW := Aside0.mk hw
    obtain ⟨ys, hys⟩ : ∃ ys, ys = (l.drop j).take k := ⟨_, rfl⟩
    have HY : Aside0 (ys.length = k) := ⟨by rw [hys]; simp; omega⟩
    have HBy : Aside0 (Byts ys) := ⟨by rw [hys]; exact (hb.drop _).take _⟩
    have HG : Aside0 (∀ m (h : m < k), l[j + m]'(by omega) = ys[m]'(by have := HY.out; omega)) := ⟨fun m h => by simp [hys]⟩
    have E0 : Aside0 (numG l j k = (leN ys, true)) := ⟨by unfold numG; rw [if_pos ht, hys]; simp⟩
    clear hw ht hys hb
    go_enter Try.func99, Try.ntmps99
    go_wp2_with (go_at_call 139; refine (rW_walk _ _).mono ?_; rintro e w2 ⟨rfl, ⟨nd, rfl⟩⟩; rw [HW.out])
    go_loop [8, 9] (fun v8 v9 => ∃ (m : Nat) (n : Int), v8 = .int .i64 n ∧ v9 = .int .i64 ((m : Int) - 1) ∧ Aside0 (m ≤ k) ∧ Aside0 (n = leN (ys.drop m))) (fun _ i => (intOf i + 1).toNat)
    case atStart => exact ⟨k, 0, rfl, rfl, ⟨Nat.le_refl _⟩, ⟨by rw [List.drop_eq_nil_of_le (by have := HY.out; omega)]; rfl⟩⟩
    case round =>
      obtain ⟨m, n, rfl, rfl, hm, hn⟩ := hrel
      have hm' := hm.out
      rcases m with _ | m
      · go_wp2
        go_ret2
        exact ⟨by rw [E0.out, hn.out]; rfl, (by repeat (first | exact Drawn0.refl _ | apply Drawn0.step))⟩
      · obtain ⟨ad, rfl, hx⟩ := Kd.at_int HR.out ((j + m : Nat) : Int) (by omega) (by omega)
        have hy := HY.out
        have hxe : rd l ((j + m : Nat) : Int) = l[j + m] := rd_get (by omega)
        have hg := HG.out m (by omega)
        have hbd := leN_bound (ys.drop (m + 1)) (HBy.out.drop _)
        rw [← hn.out] at hbd
        have hxb := HBy.out ys[m] (List.getElem_mem _)
        have hsn : leN (ys.drop m) = ys[m] + 256 * n := by rw [List.drop_eq_getElem_cons (by omega), leN, hn.out]
        rw [hxe, Int.toNat_natCast, hg] at hx
        obtain ⟨x, hxx⟩ : ∃ x, x = ys[m] := ⟨_, rfl⟩
        rw [← hxx] at hx hsn hxb
        have hn0 := hbd.1
        have hn1 : n < 16777216 := by
          have h2 := hbd.2
          rw [List.length_drop, hy] at h2
          rcases (by omega : k - (m + 1) = 0 ∨ k - (m + 1) = 1 ∨ k - (m + 1) = 2 ∨ k - (m + 1) = 3) with h | h | h | h <;> rw [h] at h2 <;> simp at h2 <;> omega
        obtain ⟨hx0, hx1⟩ := hxb
        have HS : Aside0 (n * 256 + x = leN (ys.drop m)) := ⟨by rw [hsn]; omega⟩
        clear hbd hxe hg hsn hxx hy
        go_wp2
        exact ⟨⟨m, _, rfl, rfl, ⟨by omega⟩, HS⟩, by simp [intOf]⟩
end Go.Proofs.Ytdknolnoimpgeaa.K
