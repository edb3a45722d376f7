/- Walks and plain laws of this claim, merged: R01, R02, K07d, R07b, KS03, K03, R03, KCopy, K03b, R03b, R08x, R06, K10, R10. -/
import Derived.Test.YtdkbhbolkieeiaaK01
import Derived.Test.YtdkbhbolkieeiaaCA
import Derived.Test.YtdkbhbolkieeiaaCB
import Derived.Test.YtdkbhbolkieeiaaKC
import Derived.Lib.TrimUEq
import Derived.Shelf.Lay
import Derived.Test.YtdkbhbolkieeiaaKArr
import Derived.Lib.LazyBuf
import Derived.Test.YtdkbhbolkieeiaaKBlk2
import Derived.Test.YtdkbhbolkieeiaaKBytes
import Derived.RegionTactic
import Derived.BigRegion
namespace Go.Proofs.Ytdkbhbolkieeiaa.K
open Go.RowKit Go.Proofs.YtdkbhbolkieeiaaW.PrintWords Go.Proofs.YtdkbhbolkieeiaaW.PrintLast Go.Proofs.YtdkbhbolkieeiaaW.PrintMore
set_option linter.unusedVariables false
set_option linter.unusedSimpArgs false
theorem rW_walk (s : Int) (w : World) : Calls Try.prog 110 #[.int .i64 s] w fun e w' => e = .returned (.bool (numW s)) ∧ Drawn0 w w' := by
  unfold numW
  by_cases h1 : s = 1
  · subst h1; go_enter Try.func110, Try.ntmps110
    go_wp2; go_ret; exact ⟨rfl, Drawn0.refl _⟩
  by_cases h2 : s = 2
  · subst h2; go_enter Try.func110, Try.ntmps110
    go_wp2; go_ret; exact ⟨rfl, Drawn0.refl _⟩
  have b1 : (s == 1) = false := by simpa using h1
  have b2 : (s == 2) = false := by simpa using h2
  clear h1 h2
  go_enter Try.func110, Try.ntmps110
  go_wp2; go_ret; exact ⟨ret_b (by simp [b1, b2]), Drawn0.refl _⟩
theorem rR_walk (n s : Int) (w : World) : Calls Try.prog 103 #[.int .i64 n, .int .i64 s] w fun e w' => e = .returned (.bool (numR n s)) ∧ Drawn0 w w' := by
  by_cases hw : numW s = true
  case neg =>
    have hw' := Bool.eq_false_iff.2 hw
    have e0 : numR n s = false := by unfold numR; rw [hw']; rfl
    have E0 := Aside0.mk e0; have HW := Aside0.mk hw'; clear e0 hw hw'
    go_enter Try.func103, Try.ntmps103
    go_wp2_with (go_at_call 110; refine (rW_walk _ _).mono ?_; rintro e w2 ⟨rfl, ⟨nd, rfl⟩⟩; rw [HW.out])
    go_ret; exact ⟨ret_b E0.out.symm, ⟨⟨nd, rfl⟩⟩⟩
  obtain ⟨k, rfl, hk1, hk4⟩ := numW_nat hw
  have HW := Aside0.mk hw
  by_cases h0 : 0 ≤ n
  case neg =>
    have e0 : numR n k = false := by unfold numR; simp [h0]
    have E0 := Aside0.mk e0
    clear e0 hw
    go_enter Try.func103, Try.ntmps103
    go_wp2_with (go_at_call 110; refine (rW_walk _ _).mono ?_; rintro e w2 ⟨rfl, ⟨nd, rfl⟩⟩; rw [HW.out])
    go_ret; exact ⟨ret_b E0.out.symm, ⟨⟨nd, rfl⟩⟩⟩
  have e0 : numR n k = decide (n < 2 ^ (8 * k)) := by unfold numR; simp [hw, h0]
  have E0 := Aside0.mk e0
  clear e0 hw
  go_enter Try.func103, Try.ntmps103
  go_wp2_with (go_at_call 110; refine (rW_walk _ _).mono ?_; rintro e w2 ⟨rfl, ⟨nd, rfl⟩⟩; rw [HW.out])
  go_loop [5, 6] (fun v5 v6 => ∃ (m : Nat) (t : Int), v5 = .int .i64 t ∧ v6 = .int .i64 m ∧ Aside0 (m ≤ k) ∧ Aside0 (t = 2 ^ (8 * m))) (fun _ i => k - (intOf i).toNat)
  case atStart => exact ⟨0, 1, rfl, rfl, ⟨Nat.zero_le _⟩, ⟨rfl⟩⟩
  case round =>
    obtain ⟨m, t, rfl, rfl, hm, ht⟩ := hrel
    have hm' := hm.out
    by_cases hlt : m < k
    · have hb : 0 ≤ t ∧ t ≤ 16777216 := by rw [ht.out]; rcases (by omega : m = 0 ∨ m = 1 ∨ m = 2 ∨ m = 3) with rfl | rfl | rfl | rfl <;> decide
      obtain ⟨hb0, hb1⟩ := hb
      go_wp2
      exact ⟨⟨m + 1, t * 256, rfl, rfl, ⟨by omega⟩, ⟨by rw [pow_split, ← ht.out, Int.mul_comm]⟩⟩, by simp [intOf]; omega⟩
    · have hkm : m = k := by omega
      subst hkm
      go_wp2
      go_ret
      exact ⟨ret_b (by rw [E0.out, ← ht.out]), ⟨⟨_, rfl⟩⟩⟩
theorem rB_walk (a : Int) (k : Nat) (w : World) (h0 : 0 ≤ a) (h1 : a < 4294967296) (hk : k ≤ 8) : Calls Try.prog 104 #[.int .i64 a, .int .i64 k] w fun e w' => ∃ v : Value, e = .returned v ∧ Kd.R (Kd.int .u8) 5 w' w.heap.size (fun _ => True) v (leB a k) ∧ Below w.heap.size w w' := by
  have HB := Aside0.mk (Below.refl w.heap.size w)
  go_enter Try.func104, Try.ntmps104
  go_wp2_with (((with_reducible refine gate_dst (N := 7) rfl ?_); refine Kd.R_lit (Kd.int .u8) _ 5 ?hg (N := 7) ?hd (xs := ([] : List Int)) (inner := []) (ok := fun _ => True) (okp := fun _ => True) ?hr ?hp (fun _ hk => hk) trivial (Below.refl _ _) (Nat.le_refl _) (by simp) ?_; (case hd => rfl); (case hg => rfl); (case hr => first | (go_simp; done) | (go_simp; rfl)); (case hp => exact (Reps.none _ _)); intro v114 w3 ho4 hb hg_ hnew_; clear hg_ hnew_; have n0_ := Aside0.mk (Kd.R_lower ho4 (below_size (by repeat (first | (with_reducible first | exact HB.out | apply below_alloc | apply pw_below_drewN | apply below_drew1) | exact HB.out)))); have n1_ := Aside0.mk (below_step (by repeat (first | (with_reducible first | exact HB.out | apply below_alloc | apply pw_below_drewN | apply below_drew1) | exact HB.out)) hb); clear HB; have HO1 := n0_; have HB := n1_; clear n0_ n1_; clear hb ho4))
  go_loopw [0, 5, 6] (fun v0 v5 v6 w' => ∃ (m : Nat) (q : Int), v0 = .int .i64 q ∧ v6 = .int .i64 m ∧ Aside0 (m ≤ k) ∧ Aside0 (q = a / 2 ^ (8 * m)) ∧ Aside0 (Kd.R (Kd.int .u8) 5 w' w.heap.size (fun _ => True) v5 (leB a m)) ∧ Aside0 (Below w.heap.size w w')) (fun _ _ i _ => k - (intOf i).toNat)
  case atStart => exact ⟨0, a, rfl, rfl, ⟨Nat.zero_le _⟩, ⟨by simp⟩, HO1, HB⟩
  case round =>
    clear HO1 HB
    obtain ⟨m, q, rfl, rfl, hm, hq, HO1, HB⟩ := hrel
    have hm' := hm.out
    by_cases hlt : m < k
    · have hq0 : 0 ≤ q := by rw [hq.out]; exact Int.ediv_nonneg h0 (Int.le_of_lt (pow_pos2 _))
      have hq1 : q < 4294967296 := by have := Int.ediv_le_self (2 ^ (8 * m)) h0; rw [← hq.out] at this; omega
      have hlen : Aside0 ((leB a m).length = m) := ⟨leB_length a m⟩
      go_wp2_with (((with_reducible refine gate_builtin (b := .append) (xs := #[.tmp 13, .tmp 17]) rfl ?_); at_builtin; refine Kd.R_append (Kd.int .u8) (w0 := w) w.heap.size rfl (.tmp 13) (.tmp 17) 44 5 (.int .u8 0) 1 rfl Try.underlying44 u8info rfl (by decide) (by omega) u5 (leB a m) (q % 256) [.int .u8 (q % 256)] (fun _ => True) (fun _ => False) rfl rfl ?aP (fun _ hk => hk.elim) ?aF ?aO ?aB ?aS ?aL ?_; (case aP => exact rfl); (case aB => exact (by repeat (first | (with_reducible first | exact HB.out | apply below_alloc | apply pw_below_drewN | apply below_drew1) | exact HB.out))); (case aF => exact (fun _ _ => trivial)); (case aO => exact (by (with_reducible repeat (first | apply Kd.R_alloc | apply Kd.R_drewN | apply Kd.R_drew)); exact HO1.out)); (case aS => exact (below_size (by repeat (first | (with_reducible first | exact HB.out | apply below_alloc | apply pw_below_drewN | apply below_drew1) | exact HB.out)))); (case aL => have := hlen.out; omega); intro v2 w11 ho hb hg hat; have n0_ := Aside0.mk (hb); have n1_ := Aside0.mk (ho); clear HB; clear HO1; have HB := n0_; have HO2 := n1_; clear n0_ n1_; clear ho hb hg hat))
      exact ⟨⟨m + 1, q / 256, rfl, rfl, ⟨by omega⟩, ⟨by rw [hq.out, div_step]⟩, ⟨by rw [leB_succ, ← hq.out]; exact HO2.out⟩, HB⟩, by simp [intOf]; omega⟩
    · have hkm : m = k := by omega
      subst hkm
      go_wp2
      go_ret
      exact ⟨_, rfl, HO1.out, HB.out⟩
set_option maxRecDepth 100000 in
theorem rP_walk (A : Option Addr) (c : Nat) (l : List Int) (n s : Int) (w : World) (hr : Kd.C (Kd.int .u8) w A l.length l) (hc : l.length ≤ c) (hl : l.length < 140737488355320) :
    Calls Try.prog 67 #[.slice A l.length c, .int .i64 n, .int .i64 s] w fun e w' => ∃ v : Value, e = .returned v ∧ Kd.R (Kd.int .u8) 5 w' w.heap.size (fun _ => True) v (numP l n s) ∧ Below w.heap.size w w' := by
  have HR := Aside0.mk hr
  have HC := Aside0.mk hc
  have HL := Aside0.mk hl
  have HB := Aside0.mk (Below.refl w.heap.size w)
  clear hr hc hl
  by_cases hi : numR n s = true
  case neg =>
    have HRi := Aside0.mk (Bool.eq_false_iff.2 hi)
    have E0 : Aside0 (numP l n s = l) := ⟨by unfold numP; rw [if_neg hi]⟩
    clear hi
    go_enter Try.func67, Try.ntmps67
    go_wp2_with (first | ((with_reducible refine gate_dst (N := 8) rfl ?_); refine Kd.R_lit (Kd.int .u8) _ 5 ?hg (N := 8) ?hd (xs := ([] : List Int)) (inner := []) (ok := fun _ => True) (okp := fun _ => True) ?hr ?hp (fun _ hk => hk) trivial (Below.refl _ _) (Nat.le_refl _) (by simp) ?_; (case hd => rfl); (case hg => rfl); (case hr => first | (go_simp; done) | (go_simp; rfl)); (case hp => exact (Reps.none _ _)); intro v114 w3 ho4 hb hg_ hnew_; clear hg_ hnew_; have n0_ := Aside0.mk (Kd.R_lower ho4 (below_size (by repeat (first | (with_reducible first | exact HB.out | apply below_alloc | apply pw_below_drewN | apply below_drew1) | exact HB.out)))); have n1_ := Aside0.mk (below_step (by repeat (first | (with_reducible first | exact HB.out | apply below_alloc | apply pw_below_drewN | apply below_drew1) | exact HB.out)) hb); clear HB; have HO1 := n0_; have HB := n1_; clear n0_ n1_; clear hb ho4) | ((with_reducible refine gate_builtin (b := .append) (xs := #[.tmp 8, .tmp 9]) rfl ?_); at_builtin; refine Kd.R_append_rows (Kd.int .u8) (w0 := w) w.heap.size rfl (.tmp 8) (.tmp 9) 44 5 (.int .u8 0) 1 rfl Try.underlying44 u8info rfl (by decide) (by omega) v114 [] l _ _ _ (fun _ => True) (fun _ => False) rfl rfl ?aO ?aR (fun _ _ h => h) (fun _ h => h.elim) ?aF ?aB ?aS ?aL ?_; (case aR => exact (Kd.C_below HR.out (by repeat (first | (with_reducible first | exact HB.out | apply below_alloc | apply pw_below_drewN | apply below_drew1) | exact HB.out)))); (case aB => exact (by repeat (first | (with_reducible first | exact HB.out | apply below_alloc | apply pw_below_drewN | apply below_drew1) | exact HB.out))); (case aF => exact (fun _ _ => trivial)); (case aO => exact (by (with_reducible repeat (first | apply Kd.R_alloc | apply Kd.R_drewN | apply Kd.R_drew)); exact HO1.out)); (case aS => exact (below_size (by repeat (first | (with_reducible first | exact HB.out | apply below_alloc | apply pw_below_drewN | apply below_drew1) | exact HB.out)))); (case aL => have := HL.out; simp; omega); intro v1 w11 ho hb hg hat; have n0_ := Aside0.mk (hb); have n1_ := Aside0.mk (ho); clear HB; clear HO1; have HB := n0_; have HO2 := n1_; clear n0_ n1_; clear ho hb hg hat) | (go_at_call 103; refine (rR_walk _ _ _).mono ?_; rintro e w2 ⟨rfl, ⟨nd, rfl⟩⟩; rw [HRi.out]))
    go_ret
    exact ⟨_, rfl, by rw [E0.out]; exact (by (with_reducible repeat (first | apply Kd.R_alloc | apply Kd.R_drewN | apply Kd.R_drew)); exact HO2.out), (by repeat (first | (with_reducible first | exact HB.out | apply below_alloc | apply pw_below_drewN | apply below_drew1) | exact HB.out))⟩
  have HRi := Aside0.mk hi
  obtain ⟨hw, hn0, hn1⟩ := numR_parts hi
  obtain ⟨k, rfl, hk1, hk4⟩ := numW_nat hw
  have E0 : Aside0 (numP l n k = l ++ leB n k) := ⟨by unfold numP; rw [if_pos hi, Int.toNat_natCast]⟩
  rw [Int.toNat_natCast] at hn1
  replace hn1 : n < 4294967296 := by rcases (by omega : k = 1 ∨ k = 2 ∨ k = 3 ∨ k = 4) with rfl | rfl | rfl | rfl <;> simp at hn1 <;> omega
  clear hi hw
  go_enter Try.func67, Try.ntmps67
  go_wp2_with (first | ((with_reducible refine gate_dst (N := 8) rfl ?_); refine Kd.R_lit (Kd.int .u8) _ 5 ?hg (N := 8) ?hd (xs := ([] : List Int)) (inner := []) (ok := fun _ => True) (okp := fun _ => True) ?hr ?hp (fun _ hk => hk) trivial (Below.refl _ _) (Nat.le_refl _) (by simp) ?_; (case hd => rfl); (case hg => rfl); (case hr => first | (go_simp; done) | (go_simp; rfl)); (case hp => exact (Reps.none _ _)); intro v114 w3 ho4 hb hg_ hnew_; clear hg_ hnew_; have n0_ := Aside0.mk (Kd.R_lower ho4 (below_size (by repeat (first | (with_reducible first | exact HB.out | apply below_alloc | apply pw_below_drewN | apply below_drew1) | exact HB.out)))); have n1_ := Aside0.mk (below_step (by repeat (first | (with_reducible first | exact HB.out | apply below_alloc | apply pw_below_drewN | apply below_drew1) | exact HB.out)) hb); clear HB; have HO1 := n0_; have HB := n1_; clear n0_ n1_; clear hb ho4) | ((with_reducible refine gate_builtin (b := .append) (xs := #[.tmp 8, .tmp 9]) rfl ?_); at_builtin; refine Kd.R_append_rows (Kd.int .u8) (w0 := w) w.heap.size rfl (.tmp 8) (.tmp 9) 44 5 (.int .u8 0) 1 rfl Try.underlying44 u8info rfl (by decide) (by omega) v114 [] l _ _ _ (fun _ => True) (fun _ => False) rfl rfl ?aO ?aR (fun _ _ h => h) (fun _ h => h.elim) ?aF ?aB ?aS ?aL ?_; (case aR => exact (Kd.C_below HR.out (by repeat (first | (with_reducible first | exact HB.out | apply below_alloc | apply pw_below_drewN | apply below_drew1) | exact HB.out)))); (case aB => exact (by repeat (first | (with_reducible first | exact HB.out | apply below_alloc | apply pw_below_drewN | apply below_drew1) | exact HB.out))); (case aF => exact (fun _ _ => trivial)); (case aO => exact (by (with_reducible repeat (first | apply Kd.R_alloc | apply Kd.R_drewN | apply Kd.R_drew)); exact HO1.out)); (case aS => exact (below_size (by repeat (first | (with_reducible first | exact HB.out | apply below_alloc | apply pw_below_drewN | apply below_drew1) | exact HB.out)))); (case aL => have := HL.out; simp; omega); intro v1 w11 ho hb hg hat; have n0_ := Aside0.mk (hb); have n1_ := Aside0.mk (ho); clear HB; clear HO1; have HB := n0_; have HO2 := n1_; clear n0_ n1_; clear ho hb hg hat) | (go_at_call 103; refine (rR_walk _ _ _).mono ?_; rintro e w2 ⟨rfl, ⟨nd, rfl⟩⟩; rw [HRi.out]) | (go_at_call 104; refine (rB_walk n k _ hn0 hn1 (by omega)).mono ?_; rintro e w3 ⟨v3, rfl, ho, hb⟩; obtain ⟨A3, c3, rfl⟩ := Kd.R_slice ho; have hr3 := (Kd.R_reads' ho).2.2; have hc3 := (Kd.R_reads' ho).2.1; have HR3 := Aside0.mk hr3; have n0_ : Aside0 (Kd.R (Kd.int .u8) 5 w3 w.heap.size (fun _ => True) v1 l) := ⟨Kd.R_below (by (with_reducible repeat (first | apply Kd.R_alloc | apply Kd.R_drewN | apply Kd.R_drew)); exact HO2.out) hb⟩; clear HO2; have HO2 := n0_; clear n0_; have n1_ : Aside0 (Below w.heap.size w w3) := ⟨below_step (by repeat (first | (with_reducible first | exact HB.out | apply below_alloc | apply pw_below_drewN | apply below_drew1) | exact HB.out)) hb⟩; clear HB; have HB := n1_; clear n1_; clear ho hb hr3) | ((with_reducible refine gate_builtin (b := .append) (xs := #[.tmp 14, .tmp 17]) rfl ?_); at_builtin; refine Kd.R_append_rows (Kd.int .u8) (w0 := w) w.heap.size rfl (.tmp 14) (.tmp 17) 44 5 (.int .u8 0) 1 rfl Try.underlying44 u8info rfl (by decide) (by omega) v1 l (leB n k) _ _ _ (fun _ => True) (fun _ => False) rfl rfl ?aO ?aR (fun _ _ h => h) (fun _ h => h.elim) ?aF ?aB ?aS ?aL ?_; (case aR => exact (by first | exact HR3.out | (refine Kd.C_drewN ?_ _; exact HR3.out) | (refine Kd.C_alloc ?_ _; exact HR3.out))); (case aB => exact (by repeat (first | (with_reducible first | exact HB.out | apply below_alloc | apply pw_below_drewN | apply below_drew1) | exact HB.out))); (case aF => exact (fun _ _ => trivial)); (case aO => exact (by (with_reducible repeat (first | apply Kd.R_alloc | apply Kd.R_drewN | apply Kd.R_drew)); exact HO2.out)); (case aS => exact (below_size (by repeat (first | (with_reducible first | exact HB.out | apply below_alloc | apply pw_below_drewN | apply below_drew1) | exact HB.out)))); (case aL => have := HL.out; rw [leB_length]; omega); intro v4 w11 ho hb hg hat; have n0_ := Aside0.mk (hb); have n1_ := Aside0.mk (ho); clear HB; clear HO2; have HB := n0_; have HO4 := n1_; clear n0_ n1_; clear ho hb hg hat))
  go_ret
  exact ⟨_, rfl, by rw [E0.out]; exact HO4.out, HB.out⟩
theorem rSame_walk (A1 : Option Addr) (c1 : Nat) (a : List Int) (A2 : Option Addr) (c2 : Nat) (b : List Int) (w : World) (h1 : Kd.C (Kd.int .u8) w A1 a.length a) (h2 : Kd.C (Kd.int .u8) w A2 b.length b) (ha : a.length < 140737488355328) :
    Calls Try.prog 76 #[.slice A1 a.length c1, .slice A2 b.length c2] w fun e w' => e = .returned (.bool (decide (a = b))) ∧ Drawn0 w w' := by
  have HA := Aside0.mk h1
  have HB := Aside0.mk h2
  clear h1 h2
  by_cases hl : a.length = b.length
  case neg =>
    have E0 : Aside0 (decide (a = b) = false) := ⟨by simp; intro h; exact hl (by rw [h])⟩
    have hb : ((a.length : Int) != b.length) = true := by simp; omega
    clear hl
    go_enter Try.func76, Try.ntmps76
    go_wp2
    go_ret
    exact ⟨ret_b (by rw [E0.out]), Drawn0.refl _⟩
  obtain ⟨n, hn⟩ : ∃ n, a.length = n := ⟨_, rfl⟩
  have hnb : b.length = n := by omega
  rw [hn] at HA ha ⊢
  rw [hnb] at HB ⊢
  have HN := Aside0.mk hn
  have HNb := Aside0.mk hnb
  clear hl hn hnb
  go_enter Try.func76, Try.ntmps76
  go_wp2
  go_loopw [5] (fun v5 w' => ∃ m : Nat, v5 = .int .i64 m ∧ Aside0 (m ≤ n) ∧ Aside0 (a.take m = b.take m) ∧ Aside0 (∃ d, w' = w.drewN d)) (fun i _ => n - (intOf i).toNat)
  case atStart => exact ⟨0, rfl, ⟨Nat.zero_le _⟩, ⟨rfl⟩, ⟨0, rfl⟩⟩
  case round =>
    obtain ⟨m, rfl, hm, ht, ⟨d, rfl⟩⟩ := hrel
    have hm' := hm.out
    by_cases hlt : m < n
    · obtain ⟨ad1, rfl, hx⟩ := Kd.at_int HA.out (m : Int) (by omega) (by omega)
      obtain ⟨ad2, rfl, hy⟩ := Kd.at_int HB.out (m : Int) (by omega) (by omega)
      have la := HN.out
      have lb := HNb.out
      have hxe : rd a (m : Int) = a[m] := by simp [rd, List.getElem?_eq_getElem (show m < a.length by omega)]
      have hye : rd b (m : Int) = b[m] := by simp [rd, List.getElem?_eq_getElem (show m < b.length by omega)]
      have hta : a.take (m + 1) = a.take m ++ [a[m]] := List.take_succ_eq_append_getElem (by omega)
      have htb : b.take (m + 1) = b.take m ++ [b[m]] := List.take_succ_eq_append_getElem (by omega)
      rw [hxe, Int.toNat_natCast] at hx
      rw [hye, Int.toNat_natCast] at hy
      obtain ⟨x, hxx⟩ : ∃ x, x = a[m] := ⟨_, rfl⟩
      obtain ⟨y, hyy⟩ : ∃ y, y = b[m] := ⟨_, rfl⟩
      rw [← hxx] at hx hta
      rw [← hyy] at hy htb
      by_cases hxy : x = y
      · have hT : Aside0 (a.take (m + 1) = b.take (m + 1)) := ⟨by rw [hta, htb, ht.out, hxy]⟩
        have hB : (x != y) = false := by simp [hxy]
        clear hxe hye hta htb hxx hyy hxy la lb
        go_wp2
        go_quiet (fail)
        go_wp2
        exact ⟨⟨m + 1, rfl, ⟨by omega⟩, hT, ⟨_, rfl⟩⟩, by simp [intOf]; omega⟩
      · have hT : Aside0 (decide (a = b) = false) := ⟨by simp; intro h; subst h; exact hxy (hxx.trans hyy.symm)⟩
        have hB : (x != y) = true := by simp [hxy]
        clear hxe hye hta htb hxx hyy hxy la lb
        go_wp2
        go_quiet (fail)
        go_wp2
        go_ret
        exact ⟨ret_b (by rw [hT.out]), (by repeat (first | exact Drawn0.refl _ | apply Drawn0.step))⟩
    · have hkm : m = n := by omega
      subst hkm
      have E1 : Aside0 (decide (a = b) = true) := ⟨by have := ht.out; rw [List.take_of_length_le (by have := HN.out; omega), List.take_of_length_le (by have := HNb.out; omega)] at this; simp [this]⟩
      go_wp2
      go_ret
      exact ⟨ret_b (by rw [E1.out]), ⟨⟨_, rfl⟩⟩⟩
theorem rG_walk (A : Option Addr) (c : Nat) (l : List Int) (i s : Int) (w : World) (hr : Kd.C (Kd.int .u8) w A l.length l) (hl : l.length < 140737488355320) (hb : Byts l) :
    Calls Try.prog 75 #[.slice A l.length c, .int .i64 i, .int .i64 s] w fun e w' => e = .returned (.tuple #[.int .i64 (numG l i s).1, .bool (numG l i s).2]) ∧ Drawn0 w w' := by
  have HR := Aside0.mk hr
  clear hr
  rcases numT_cases l i s with ⟨hw, ht⟩ | ⟨k, rfl, hk1, hk4, hw, ⟨h0, ht⟩ | ⟨j, rfl, ⟨h1, ht⟩ | ⟨h1, h2, ht⟩ | ⟨h1, ht⟩⟩⟩
  · have HW := Aside0.mk hw
    have E0 : Aside0 (numG l i s = (0, false)) := ⟨by unfold numG; rw [ht]; rfl⟩
    clear hw ht
    go_enter Try.func75, Try.ntmps75
    go_wp2_with (go_at_call 110; refine (rW_walk _ _).mono ?_; rintro e w2 ⟨rfl, ⟨nd, rfl⟩⟩; rw [HW.out])
    go_ret2; exact ⟨by rw [E0.out]; rfl, (by repeat (first | exact Drawn0.refl _ | apply Drawn0.step))⟩
  · have HW := Aside0.mk hw
    have E0 : Aside0 (numG l i k = (0, false)) := ⟨by unfold numG; rw [ht]; rfl⟩
    clear hw ht
    go_enter Try.func75, Try.ntmps75
    go_wp2_with (go_at_call 110; refine (rW_walk _ _).mono ?_; rintro e w2 ⟨rfl, ⟨nd, rfl⟩⟩; rw [HW.out])
    go_ret2; exact ⟨by rw [E0.out]; rfl, (by repeat (first | exact Drawn0.refl _ | apply Drawn0.step))⟩
  · have HW := Aside0.mk hw
    have E0 : Aside0 (numG l j k = (0, false)) := ⟨by unfold numG; rw [ht]; rfl⟩
    clear hw ht
    go_enter Try.func75, Try.ntmps75
    go_wp2_with (go_at_call 110; refine (rW_walk _ _).mono ?_; rintro e w2 ⟨rfl, ⟨nd, rfl⟩⟩; rw [HW.out])
    go_ret2; exact ⟨by rw [E0.out]; rfl, (by repeat (first | exact Drawn0.refl _ | apply Drawn0.step))⟩
  · have HW := Aside0.mk hw
    have E0 : Aside0 (numG l j k = (0, false)) := ⟨by unfold numG; rw [ht]; rfl⟩
    clear hw ht
    go_enter Try.func75, Try.ntmps75
    go_wp2_with (go_at_call 110; refine (rW_walk _ _).mono ?_; rintro e w2 ⟨rfl, ⟨nd, rfl⟩⟩; rw [HW.out])
    go_ret2; exact ⟨by rw [E0.out]; rfl, (by repeat (first | exact Drawn0.refl _ | apply Drawn0.step))⟩
  · have HW := Aside0.mk hw
    obtain ⟨ys, hys⟩ : ∃ ys, ys = (l.drop j).take k := ⟨_, rfl⟩
    have HY : Aside0 (ys.length = k) := ⟨by rw [hys]; simp; omega⟩
    have HBy : Aside0 (Byts ys) := ⟨by rw [hys]; exact (hb.drop _).take _⟩
    have HG : Aside0 (∀ m (h : m < k), l[j + m]'(by omega) = ys[m]'(by have := HY.out; omega)) := ⟨fun m h => by simp [hys]⟩
    have E0 : Aside0 (numG l j k = (leN ys, true)) := ⟨by unfold numG; rw [if_pos ht, hys]; simp⟩
    clear hw ht hys hb
    go_enter Try.func75, Try.ntmps75
    go_wp2_with (go_at_call 110; refine (rW_walk _ _).mono ?_; rintro e w2 ⟨rfl, ⟨nd, rfl⟩⟩; rw [HW.out])
    go_loop [8, 9] (fun v8 v9 => ∃ (m : Nat) (n : Int), v8 = .int .i64 n ∧ v9 = .int .i64 ((m : Int) - 1) ∧ Aside0 (m ≤ k) ∧ Aside0 (n = leN (ys.drop m))) (fun _ i => (intOf i + 1).toNat)
    case atStart => exact ⟨k, 0, rfl, rfl, ⟨Nat.le_refl _⟩, ⟨by rw [List.drop_eq_nil_of_le (by have := HY.out; omega)]; rfl⟩⟩
    case round =>
      obtain ⟨m, n, rfl, rfl, hm, hn⟩ := hrel
      have hm' := hm.out
      rcases m with _ | m
      · go_wp2
        go_ret2
        exact ⟨by rw [E0.out, hn.out]; rfl, (by repeat (first | exact Drawn0.refl _ | apply Drawn0.step))⟩
      · obtain ⟨ad, rfl, hx⟩ := Kd.at_int HR.out ((j + m : Nat) : Int) (by omega) (by omega)
        have hy := HY.out
        have hxe : rd l ((j + m : Nat) : Int) = l[j + m] := rd_get (by omega)
        have hg := HG.out m (by omega)
        have hbd := leN_bound (ys.drop (m + 1)) (HBy.out.drop _)
        rw [← hn.out] at hbd
        have hxb := HBy.out ys[m] (List.getElem_mem _)
        have hsn : leN (ys.drop m) = ys[m] + 256 * n := by rw [List.drop_eq_getElem_cons (by omega), leN, hn.out]
        rw [hxe, Int.toNat_natCast, hg] at hx
        obtain ⟨x, hxx⟩ : ∃ x, x = ys[m] := ⟨_, rfl⟩
        rw [← hxx] at hx hsn hxb
        have hn0 := hbd.1
        have hn1 : n < 16777216 := by
          have h2 := hbd.2
          rw [List.length_drop, hy] at h2
          rcases (by omega : k - (m + 1) = 0 ∨ k - (m + 1) = 1 ∨ k - (m + 1) = 2 ∨ k - (m + 1) = 3) with h | h | h | h <;> rw [h] at h2 <;> simp at h2 <;> omega
        obtain ⟨hx0, hx1⟩ := hxb
        have HS : Aside0 (n * 256 + x = leN (ys.drop m)) := ⟨by rw [hsn]; omega⟩
        clear hbd hxe hg hsn hxx hy
        go_wp2
        exact ⟨⟨m, _, rfl, rfl, ⟨by omega⟩, HS⟩, by simp [intOf]⟩
end Go.Proofs.Ytdkbhbolkieeiaa.K
namespace Go.Proofs.Ytdkbhbolkieeiaa.K
open Go.RowKit Go.Proofs.YtdkbhbolkieeiaaW.PrintWords Go.Proofs.YtdkbhbolkieeiaaW.PrintLast Go.Proofs.YtdkbhbolkieeiaaW.PrintMore
set_option linter.unusedVariables false
set_option linter.unusedSimpArgs false
set_option maxRecDepth 100000 in
theorem rSums_walk (A : Option Addr) (c : Nat) (l : List Int) (w : World) (hr : Kd.C (Kd.int .u8) w A l.length l) (hb : Byts l) (hl : l.length < 140737488355328) :
    Calls Try.prog 106 #[.slice A l.length c] w fun e w' => e = .returned (.tuple #[.int .i64 (s02 l).1, .int .i64 (s02 l).2]) ∧ w' = w := by
  have HR := Aside0.mk hr
  have HY := Aside0.mk hb
  have HL := Aside0.mk hl
  clear hr hb
  go_enter Try.func106, Try.ntmps106
  go_wp2
  go_loop [4, 5, 6] (fun v4 v5 v6 => ∃ m x y : Nat, v4 = .int .i64 x ∧ v5 = .int .i64 y ∧ v6 = .int .i64 m ∧ Aside0 (m ≤ l.length) ∧ Aside0 (x = (s02 (l.take m)).1) ∧ Aside0 (y = (s02 (l.take m)).2)) (fun _ _ i => l.length - (intOf i).toNat)
  case atStart => exact ⟨0, 1, 0, rfl, rfl, rfl, ⟨Nat.zero_le _⟩, ⟨rfl⟩, ⟨rfl⟩⟩
  case round =>
    obtain ⟨m, x, y, rfl, rfl, rfl, hm, hf1, hf2⟩ := hrel
    have hm' := hm.out
    by_cases hlt : m < l.length
    · obtain ⟨ad, rfl, hx⟩ := Kd.at_int HR.out (m : Int) (by omega) (by omega)
      rw [rd_get hlt, Int.toNat_natCast] at hx
      have hbm := HY.out _ (List.getElem_mem hlt)
      have hst := s02_take l hlt
      have hlt1 := s02_lt (l.take m)
      have hlt2 := s02_lt (l.take (m + 1))
      obtain ⟨q, hq⟩ : ∃ q, q = s02 (l.take (m + 1)) := ⟨_, rfl⟩
      have Q1 : Aside0 (s02 (l.take (m + 1)) = q) := ⟨hq.symm⟩
      obtain ⟨k, hk⟩ : ∃ k : Nat, l[m] = (k : Int) := ⟨l[m].toNat, by omega⟩
      rw [hk] at hx hst hbm
      have h1 := hf1.out
      have h2 := hf2.out
      rw [← hq] at hst hlt2
      have hs1 : ((x : Int) + (k : Int)).tmod 65521 = (q.1 : Int) := by rw [Int.tmod_eq_emod_of_nonneg (by omega), hst, h1]; simp [s02step]
      have hs2 : ((y : Int) + (q.1 : Int)).tmod 65521 = (q.2 : Int) := by
        rw [Int.tmod_eq_emod_of_nonneg (by omega), ← hs1, Int.tmod_eq_emod_of_nonneg (by omega), hst, h1, h2]; simp [s02step]
      have hx6 : x < 65521 := by rw [h1]; exact hlt1.1
      have hy6 : y < 65521 := by rw [h2]; exact hlt1.2
      obtain ⟨a, ha⟩ : ∃ a, a = q.1 := ⟨_, rfl⟩
      obtain ⟨b, hb⟩ : ∃ b, b = q.2 := ⟨_, rfl⟩
      rw [← ha, ← hb] at hs2
      rw [← ha] at hs1
      rw [← ha, ← hb] at hlt2
      have G1 := Aside0.mk ha
      have G2 := Aside0.mk hb
      clear h1 h2 hst hlt1 hq hk hf1 hf2 ha hb
      go_wp2
      exact ⟨⟨m + 1, a, b, rfl, rfl, rfl, ⟨by omega⟩, ⟨by rw [Q1.out]; exact G1.out⟩, ⟨by rw [Q1.out]; exact G2.out⟩⟩, by simp [intOf]; omega⟩
    · have hmn : m = l.length := by omega
      have E1 : x = (s02 l).1 := by rw [hf1.out, hmn, List.take_length]
      have E2 : y = (s02 l).2 := by rw [hf2.out, hmn, List.take_length]
      subst E1 E2 hmn
      clear hf1 hf2
      go_wp2
      go_ret2
      exact ⟨rfl, rfl⟩
theorem rOf_walk (A : Option Addr) (c : Nat) (l : List Int) (w : World) (hr : Kd.C (Kd.int .u8) w A l.length l) (hb : Byts l) (hl : l.length < 140737488355328) :
    Calls Try.prog 70 #[.slice A l.length c] w fun e w' => e = .returned (.int .i64 (of02 l)) ∧ w' = w := by
  have W1 := Aside0.mk (rSums_walk A c l w hr hb hl)
  have hlt := s02_lt l
  obtain ⟨x, hx⟩ : ∃ x, x = (s02 l).1 := ⟨_, rfl⟩
  obtain ⟨y, hy⟩ : ∃ y, y = (s02 l).2 := ⟨_, rfl⟩
  have hof : of02 l = x + 65536 * y := by rw [hx, hy]; rfl
  rw [hof]
  rw [← hx, ← hy] at hlt W1
  clear hx hy hof hr hb
  go_enter Try.func70, Try.ntmps70
  go_wp2_with (go_at_call 106; (with_reducible refine W1.out.mono ?_); rintro e w' ⟨rfl, rfl⟩)
  go_ret
  exact ⟨by simp, rfl⟩
theorem seal60_end (l : List Int) : (l ++ List.replicate (60 - l.length) 0).take 60 = seal60 l := by
  unfold seal60
  rw [List.take_append, List.take_replicate]
  congr 1
  congr 1; omega
theorem pad_lt (l : List Int) {m : Nat} (h : m < l.length) : (l ++ List.replicate (60 - l.length) 0).take (m + 1) = (l ++ List.replicate (60 - l.length) 0).take m ++ [l[m]] := by
  rw [List.take_succ_eq_append_getElem (by simp; omega), List.getElem_append_left h]
theorem pad_ge (l : List Int) {m : Nat} (h : l.length ≤ m) (h6 : m < 60) : (l ++ List.replicate (60 - l.length) 0).take (m + 1) = (l ++ List.replicate (60 - l.length) 0).take m ++ [0] := by
  rw [List.take_succ_eq_append_getElem (by simp; omega), List.getElem_append_right h]; simp
set_option maxRecDepth 100000 in
theorem rSeal_walk (A : Option Addr) (c : Nat) (l : List Int) (w : World) (hr : Kd.C (Kd.int .u8) w A l.length l) (hb : Byts l) (hl : l.length < 140737488355328) :
    Calls Try.prog 65 #[.slice A l.length c] w fun e w' => ∃ v : Value, e = .returned v ∧ Kd.R (Kd.int .u8) 5 w' w.heap.size (fun _ => True) v (sealS l) ∧ Below w.heap.size w w' := by
  have HR := Aside0.mk hr
  have HB := Aside0.mk (Below.refl w.heap.size w)
  have HY := Aside0.mk hb
  clear hr hb
  go_enter Try.func65, Try.ntmps65
  go_wp2_with (first | ((with_reducible refine gate_dst (N := 5) rfl ?_); refine Kd.R_lit (Kd.int .u8) _ 5 ?hg (N := 5) ?hd (xs := ([] : List Int)) (inner := []) (ok := fun _ => True) (okp := fun _ => True) ?hr ?hp (fun _ hk => hk) trivial (Below.refl _ _) (Nat.le_refl _) (by simp) ?_; (case hd => rfl); (case hg => rfl); (case hr => first | (go_simp; done) | (go_simp; rfl)); (case hp => exact (Reps.none _ _)); intro v114 w3 ho4 hb hg_ hnew_; clear hg_ hnew_; have n0_ := Aside0.mk (Kd.R_lower ho4 (below_size (by repeat (first | (with_reducible first | exact HB.out | apply below_alloc | apply pw_below_drewN | apply below_drew1) | exact HB.out)))); have n1_ := Aside0.mk (below_step (by repeat (first | (with_reducible first | exact HB.out | apply below_alloc | apply pw_below_drewN | apply below_drew1) | exact HB.out)) hb); clear HB; have HO1 := n0_; have HB := n1_; clear n0_ n1_; clear hb ho4))
  go_loopw [3, 4] (fun v3 v4 w' => ∃ m : Nat, ∃ s : List Int, v4 = .int .i64 m ∧ Aside0 (m ≤ 60) ∧ Aside0 (s = (l ++ List.replicate (60 - l.length) 0).take m) ∧ Aside0 (Kd.R (Kd.int .u8) 5 w' w.heap.size (fun _ => True) v3 s) ∧ Aside0 (Below w.heap.size w w')) (fun _ i _ => 60 - (intOf i).toNat)
  case atStart => exact ⟨0, [], rfl, ⟨Nat.zero_le _⟩, ⟨rfl⟩, HO1, HB⟩
  case round =>
    clear HO1 HB
    obtain ⟨m, s, rfl, hm, hs, HO1, HB⟩ := hrel
    have hm' := hm.out
    have hsl : s.length ≤ 60 := by rw [hs.out, List.length_take]; omega
    by_cases h60 : m < 60
    · by_cases hlt : m < l.length
      · obtain ⟨ad, rfl, hx⟩ := Kd.at_int (Kd.C_below HR.out HB.out) (m : Int) (by omega) (by omega)
        rw [rd_get hlt, Int.toNat_natCast] at hx
        have hpd := pad_lt l hlt
        rw [← hs.out] at hpd
        obtain ⟨x, hxx⟩ : ∃ x, x = l[m] := ⟨_, rfl⟩
        rw [← hxx] at hx hpd
        have HP := Aside0.mk hpd
        clear hpd hxx hs
        go_wp2_with (first | ((with_reducible refine gate_builtin (b := .append) (xs := #[.tmp 14, .tmp 19]) rfl ?_); at_builtin; refine Kd.R_append (Kd.int .u8) (w0 := w) w.heap.size rfl (.tmp 14) (.tmp 19) 44 5 (.int .u8 0) 1 rfl Try.underlying44 u8info rfl (by decide) (by omega) _ s x [.int .u8 x] (fun _ => True) (fun _ => False) rfl rfl ?aP (fun _ hk => hk.elim) ?aF ?aO ?aB ?aS ?aL ?_; (case aP => exact rfl); (case aB => exact (by repeat (first | (with_reducible first | exact HB.out | apply below_alloc | apply pw_below_drewN | apply below_drew1) | exact HB.out))); (case aF => exact (fun _ _ => trivial)); (case aO => exact (by (with_reducible repeat (first | apply Kd.R_alloc | apply Kd.R_drewN | apply Kd.R_drew)); exact HO1.out)); (case aS => exact (below_size (by repeat (first | (with_reducible first | exact HB.out | apply below_alloc | apply pw_below_drewN | apply below_drew1) | exact HB.out)))); (case aL => simp; omega); intro v9 w11 ho hb hg hat; have n0_ := Aside0.mk (hb); have n1_ := Aside0.mk (ho); clear HB; clear HO1; have HB := n0_; have HO2 := n1_; clear n0_ n1_; clear ho hb hg hat))
        exact ⟨⟨m + 1, _, rfl, ⟨by omega⟩, ⟨HP.out.symm⟩, HO2, HB⟩, by simp [intOf]; omega⟩
      · have hpd := pad_ge l (show l.length ≤ m by omega) h60
        rw [← hs.out] at hpd
        have HP := Aside0.mk hpd
        clear hpd hs
        go_wp2_with (first | ((with_reducible refine gate_builtin (b := .append) (xs := #[.tmp 21, .tmp 22]) rfl ?_); at_builtin; refine Kd.R_append (Kd.int .u8) (w0 := w) w.heap.size rfl (.tmp 21) (.tmp 22) 44 5 (.int .u8 0) 1 rfl Try.underlying44 u8info rfl (by decide) (by omega) _ s 0 [.int .u8 0] (fun _ => True) (fun _ => False) rfl rfl ?aP (fun _ hk => hk.elim) ?aF ?aO ?aB ?aS ?aL ?_; (case aP => exact rfl); (case aB => exact (by repeat (first | (with_reducible first | exact HB.out | apply below_alloc | apply pw_below_drewN | apply below_drew1) | exact HB.out))); (case aF => exact (fun _ _ => trivial)); (case aO => exact (by (with_reducible repeat (first | apply Kd.R_alloc | apply Kd.R_drewN | apply Kd.R_drew)); exact HO1.out)); (case aS => exact (below_size (by repeat (first | (with_reducible first | exact HB.out | apply below_alloc | apply pw_below_drewN | apply below_drew1) | exact HB.out)))); (case aL => simp; omega); intro v9 w11 ho hb hg hat; have n0_ := Aside0.mk (hb); have n1_ := Aside0.mk (ho); clear HB; clear HO1; have HB := n0_; have HO2 := n1_; clear n0_ n1_; clear ho hb hg hat))
        exact ⟨⟨m + 1, _, rfl, ⟨by omega⟩, ⟨HP.out.symm⟩, HO2, HB⟩, by simp [intOf]; omega⟩
    · have hm60 : m = 60 := by omega
      subst hm60
      have hse := hs.out
      rw [seal60_end] at hse
      have EP : Aside0 (numP s (of02 s) 4 = sealS l) := ⟨by rw [hse]; exact numP_seal l⟩
      have hs60 : s.length = 60 := by rw [hse]; exact seal60_length l
      have SB : Aside0 (Byts s) := ⟨by rw [hse]; exact seal60_byts HY.out⟩
      obtain ⟨A3, c3, rfl⟩ := Kd.R_slice HO1.out
      have HR3 := Aside0.mk (Kd.R_reads' HO1.out).2.2
      have HC3 := Aside0.mk (Kd.R_reads' HO1.out).2.1
      clear hs hse hs60
      go_wp2_with (first | (go_at_call 70; go_loud ((with_reducible refine (rOf_walk A3 c3 s _ (by first | exact HR3.out | (refine Kd.C_drewN ?_ _; exact HR3.out) | (refine Kd.C_alloc ?_ _; exact HR3.out)) SB.out (by omega)).mono ?_); rintro e w' ⟨rfl, rfl⟩)) | (go_at_call 67; (with_reducible refine (rP_walk A3 c3 s (of02 s) 4 _ (by first | exact HR3.out | (refine Kd.C_drewN ?_ _; exact HR3.out) | (refine Kd.C_alloc ?_ _; exact HR3.out)) HC3.out (by omega)).mono ?_); rintro e w5 ⟨v5, rfl, ho, hb⟩; rw [EP.out] at ho; replace ho := Kd.R_lower ho HB.out.size; obtain ⟨A5, c5, rfl⟩ := Kd.R_slice ho; have HR5 := Aside0.mk (Kd.R_reads' ho).2.2; have HC5 := Aside0.mk (Kd.R_reads' ho).2.1; have n1_ : Aside0 (Below w.heap.size w w5) := ⟨below_step (by repeat (first | (with_reducible first | exact HB.out | apply below_alloc | apply pw_below_drewN | apply below_drew1) | exact HB.out)) hb⟩; clear HB; have HB := n1_; clear n1_; have HO5 := Aside0.mk ho; clear ho hb))
      go_ret
      exact ⟨_, rfl, HO5.out, HB.out⟩
end Go.Proofs.Ytdkbhbolkieeiaa.K
namespace Go.Proofs.Ytdkbhbolkieeiaa.K
open Go.RowKit Go.Proofs.YtdkbhbolkieeiaaW.PrintWords Go.Proofs.YtdkbhbolkieeiaaW.PrintLast Go.Proofs.YtdkbhbolkieeiaaW.PrintMore
set_option linter.unusedVariables false
set_option linter.unusedSimpArgs false
def inoPre (k im nl ge sz p0 p1 p2 p3 at_ : Int) : Nat → List Int
  | 0 => []
  | m + 1 => inoPre k im nl ge sz p0 p1 p2 p3 at_ m ++ leB (inoRow k im nl ge sz p0 p1 p2 p3 at_ m).1 (inoRow k im nl ge sz p0 p1 p2 p3 at_ m).2.1.toNat
theorem inoPre_all (k im nl ge sz p0 p1 p2 p3 at_ : Int) : inoPre k im nl ge sz p0 p1 p2 p3 at_ 10 = inoB k im nl ge sz p0 p1 p2 p3 at_ := by
  simp [inoPre, inoB, inoRow]
theorem inoPre_len (k im nl ge sz p0 p1 p2 p3 at_ : Int) : ∀ m, m ≤ 10 → (inoPre k im nl ge sz p0 p1 p2 p3 at_ m).length ≤ 4 * m := by
  intro m
  induction m with
  | zero => intro _; simp [inoPre]
  | succ m ih =>
    intro h
    have h1 := ih (by omega)
    have h2 : (inoRow k im nl ge sz p0 p1 p2 p3 at_ m).2.1.toNat ≤ 4 := by
      rcases lt10 (show m < 10 by omega) with rfl | rfl | rfl | rfl | rfl | rfl | rfl | rfl | rfl | rfl <;> simp [inoRow]
    rw [inoPre, List.length_append, leB_length]; omega
theorem inoRow_R {k im nl ge sz p0 p1 p2 p3 at_ : Int} (h : inoR k im nl ge sz p0 p1 p2 p3 at_ = true) {m : Nat} (hm : m < 10) : numR (inoRow k im nl ge sz p0 p1 p2 p3 at_ m).1 (inoRow k im nl ge sz p0 p1 p2 p3 at_ m).2.1 = true := by
  obtain ⟨h0, h1, h2, h3, h4, h5, h6, h7, h8, h9⟩ := inoR_parts h
  unfold numR
  rcases lt10 hm with rfl | rfl | rfl | rfl | rfl | rfl | rfl | rfl | rfl | rfl
  all_goals
    simp only [inoRow, numW, Bool.and_eq_true, decide_eq_true_eq]
    refine ⟨⟨by decide, by omega⟩, ?_⟩
    simp
    omega
theorem inoPre_succ {k im nl ge sz p0 p1 p2 p3 at_ : Int} (h : inoR k im nl ge sz p0 p1 p2 p3 at_ = true) {m : Nat} (hm : m < 10) : numP (inoPre k im nl ge sz p0 p1 p2 p3 at_ m) (inoRow k im nl ge sz p0 p1 p2 p3 at_ m).1 (inoRow k im nl ge sz p0 p1 p2 p3 at_ m).2.1 = inoPre k im nl ge sz p0 p1 p2 p3 at_ (m + 1) := by
  unfold numP
  rw [if_pos (inoRow_R h hm), inoPre]
end Go.Proofs.Ytdkbhbolkieeiaa.K
namespace Go.Proofs.Ytdkbhbolkieeiaa.K
open Go.RowKit Go.Proofs.YtdkbhbolkieeiaaW.PrintWords Go.Proofs.YtdkbhbolkieeiaaW.PrintLast Go.Proofs.YtdkbhbolkieeiaaW.PrintMore
set_option linter.unusedVariables false
set_option linter.unusedSimpArgs false
theorem go_on {p : Prop} (h : p) : p := h
theorem R_new {α : Type} (d : Kd α) (W : World) (base : Nat) (e : TypeId) (hbase : base ≤ W.heap.size) {xs : List α} {inner : List Value} {ok okp : Nat → Prop} (hrep : Reps (d.M W base okp) d.sz xs inner) (hok : ∀ k, okp k → ok k) (hfresh : ok W.heap.size) (hm : xs.length ≤ 9223372036854775807) :
    d.R e (W.alloc (.cells inner.toArray e)) base ok (.slice (some ⟨W.heap.size, 0, none⟩) xs.length xs.length) xs := by
  refine ⟨fun k hk => ?_, inner, ?_, ?_⟩
  · have : W.heap.size = k := by simpa [Value.ownBlock] using hk
    subst this
    exact hfresh
  · have h2 := World.ownsRow_lit (base := base) (e := e) (size := d.sz) W inner.toArray xs.length hbase (by simpa [maxLen] using hm) (by simpa using hrep.1)
    simpa using h2
  · refine hrep.imp_ (fun p c hp => d.M_mono (fun k hk => ⟨hok k hk.1, fun he => ?_⟩) (Kd.M_below (d.M_bound hp) (below_alloc (Below.refl _ _) _)))
    have h3 : k = W.heap.size := by simpa [Value.ownBlock] using he
    have := hk.2.2.1
    omega
theorem R_two (a b : Int) (W : World) (base : Nat) (hbase : base ≤ W.heap.size) : (Kd.int .u8).R 5 (W.alloc (.cells #[.int .u8 a, .int .u8 b] 5)) base (fun _ => True) (.slice (some ⟨W.heap.size, 0, none⟩) 2 2) [a, b] :=
  R_new (Kd.int .u8) W base 5 hbase (xs := [a, b]) (inner := [.int .u8 a, .int .u8 b]) (ok := fun _ => True) (okp := fun _ => True) (Reps.one (show Kd.M (Kd.int .u8) _ _ _ a [.int .u8 a] from rfl) (Reps.one (show Kd.M (Kd.int .u8) _ _ _ b [.int .u8 b] from rfl) (Reps.none _ _))) (fun _ h => h) trivial (by simp)
set_option maxHeartbeats 4000000 in
set_option maxRecDepth 100000 in
theorem rBytes07_walk (k im nl ge sz p0 p1 p2 p3 at_ : Int) (w0 : World) (hok : inoOk k im nl ge sz p0 p1 p2 p3 at_ = true) : Calls Try.prog 112 #[inoV k im nl ge sz p0 p1 p2 p3 at_] w0 fun e w' => ∃ v : Value, e = .returned v ∧ Kd.R (Kd.int .u8) 5 w' w0.heap.size (fun _ => True) v (inoP k im nl ge sz p0 p1 p2 p3 at_) ∧ Below w0.heap.size w0 w' := by
  unfold inoV
  by_cases hz : inoZ k im nl ge sz p0 p1 p2 p3 at_ = true
  · have E1 : Aside0 (inoP k im nl ge sz p0 p1 p2 p3 at_ = List.replicate (64 : Int).toNat 0) := ⟨by unfold inoP; rw [if_pos hok, if_pos hz]; rfl⟩
    have q : ∀ w, (Op.equalIn 10000 70 (.agg #[.int .i64 k, .int .i64 im, .int .i64 nl, .int .i64 ge, .int .i64 sz, .int .i64 p0, .int .i64 p1, .int .i64 p2, .int .i64 p3, .int .i64 at_]) (.agg #[.int .i64 0, .int .i64 0, .int .i64 0, .int .i64 0, .int .i64 0, .int .i64 0, .int .i64 0, .int .i64 0, .int .i64 0, .int .i64 0])).run Try.prog w = .ok true w := fun w => by
      rw [eqIno 9997 w]; unfold inoZ at hz; rw [hz]
    clear hok hz
    obtain ⟨w, rfl⟩ : ∃ w, w = w0 := ⟨_, rfl⟩
    have HB := Aside0.mk (Below.refl w.heap.size w)
    go_enter Try.func112, Try.ntmps112
    go_wp2_with (first | ((with_reducible refine gate_dst (N := 8) rfl ?_); refine Kd.R_make (Kd.int .u8) _ 5 rfl (N := 8) rfl 44 _ _ rfl (64) rfl rfl Try.underlying44 (.int .u8 0) 1 u8info rfl (by decide) (by omega) 0 (ok := fun _ => True) (okp := fun _ => True) rfl (fun _ hk => hk) trivial (by omega) (by omega) (Below.refl _ _) (Nat.le_refl _) ?_; intro v1 w1 ho hb hg_ hnew_; clear hg_ hnew_; obtain ⟨g1, c1, rfl, hg1, hl1, _, _⟩ := Kd.R_form ho (by simp); have HG1 := Aside0.mk (Nat.le_trans (below_size (by repeat (first | (with_reducible first | exact HB.out | apply below_alloc | apply pw_below_drewN | apply below_drew1) | exact HB.out))) hg1); clear hg1 hl1; have HO1 := Aside0.mk (Kd.R_lower ho (below_size (by repeat (first | (with_reducible first | exact HB.out | apply below_alloc | apply pw_below_drewN | apply below_drew1) | exact HB.out)))); have n1_ : Aside0 (Below w.heap.size w w1) := ⟨below_step (by repeat (first | (with_reducible first | exact HB.out | apply below_alloc | apply pw_below_drewN | apply below_drew1) | exact HB.out)) hb⟩; clear HB; have HB := n1_; clear n1_; clear ho hb))
    go_ret
    exact ⟨_, by rfl, by rw [E1.out]; exact HO1.out, (by repeat (first | (with_reducible first | exact HB.out | apply below_alloc | apply pw_below_drewN | apply below_drew1) | exact HB.out))⟩
  have hzf : inoZ k im nl ge sz p0 p1 p2 p3 at_ = false := by simpa using hz
  have q : ∀ w, (Op.equalIn 10000 70 (.agg #[.int .i64 k, .int .i64 im, .int .i64 nl, .int .i64 ge, .int .i64 sz, .int .i64 p0, .int .i64 p1, .int .i64 p2, .int .i64 p3, .int .i64 at_]) (.agg #[.int .i64 0, .int .i64 0, .int .i64 0, .int .i64 0, .int .i64 0, .int .i64 0, .int .i64 0, .int .i64 0, .int .i64 0, .int .i64 0])).run Try.prog w = .ok false w := fun w => by
    rw [eqIno 9997 w]; unfold inoZ at hzf; rw [hzf]
  have E1 : Aside0 (inoP k im nl ge sz p0 p1 p2 p3 at_ = sealS (inoB k im nl ge sz p0 p1 p2 p3 at_)) := ⟨by unfold inoP; rw [if_pos hok, if_neg hz]⟩
  have hR : inoR k im nl ge sz p0 p1 p2 p3 at_ = true := by
    unfold inoOk at hok
    simp only [Bool.or_eq_true, Bool.and_eq_true] at hok
    exact (hok.resolve_left hz).1
  obtain ⟨⟨a0, b0⟩, ⟨a1, b1⟩, ⟨a2, b2⟩, ⟨a3, b3⟩, ⟨a4, b4⟩, ⟨a5, b5⟩, ⟨a6, b6⟩, ⟨a7, b7⟩, ⟨a8, b8⟩, a9, b9⟩ := inoR_parts hR
  have m0 : k % 256 = k := by omega
  have m1 : im % 256 = im := by omega
  clear hok hz hzf hR
  have WB2 : Aside0 (∀ (a : Int) (W : World), 0 ≤ a → a < 4294967296 → Calls Try.prog 104 #[.int .i64 a, .int .i64 2] W fun e w' => ∃ v : Value, e = .returned v ∧ Kd.R (Kd.int .u8) 5 w' W.heap.size (fun _ => True) v (leB a 2) ∧ Below W.heap.size W w') := ⟨fun a W h0 h1 => rB_walk a 2 W h0 h1 (by omega)⟩
  have WB4 : Aside0 (∀ (a : Int) (W : World), 0 ≤ a → a < 4294967296 → Calls Try.prog 104 #[.int .i64 a, .int .i64 4] W fun e w' => ∃ v : Value, e = .returned v ∧ Kd.R (Kd.int .u8) 5 w' W.heap.size (fun _ => True) v (leB a 4) ∧ Below W.heap.size W w') := ⟨fun a W h0 h1 => rB_walk a 4 W h0 h1 (by omega)⟩
  have E2 : Aside0 ([k, im] ++ leB nl 2 = inoPre k im nl ge sz p0 p1 p2 p3 at_ 3) := ⟨by simp [inoPre, inoRow, leB, m0, m1]⟩
  have hw8 : IntKind.u8.wrap k = k := by rw [IntKind.wrap_u8]; omega
  have hw9 : IntKind.u8.wrap im = im := by rw [IntKind.wrap_u8]; omega
  clear m0 m1
  go_enter Try.func112, Try.ntmps112
  go_wp2
  obtain ⟨w, hw⟩ : ∃ w, w = w0.alloc (.cells #[.int .i64 k, .int .i64 im, .int .i64 nl, .int .i64 ge, .int .i64 sz, .int .i64 p0, .int .i64 p1, .int .i64 p2, .int .i64 p3, .int .i64 at_] 70) := ⟨_, rfl⟩
  rw [← hw]
  have HW := Aside0.mk hw
  have HB := Aside0.mk (Below.refl w.heap.size w)
  have k0 : w.cell? ⟨w0.heap.size, 0, none⟩ = some (.int .i64 k) := by rw [hw]; go_simp
  have k1 : w.cell? ⟨w0.heap.size, 1, none⟩ = some (.int .i64 im) := by rw [hw]; go_simp
  have k2 : w.cell? ⟨w0.heap.size, 2, none⟩ = some (.int .i64 nl) := by rw [hw]; go_simp
  have k3 : w.cell? ⟨w0.heap.size, 3, none⟩ = some (.int .i64 ge) := by rw [hw]; go_simp
  have k4 : w.cell? ⟨w0.heap.size, 4, none⟩ = some (.int .i64 sz) := by rw [hw]; go_simp
  have k5 : w.cell? ⟨w0.heap.size, 5, none⟩ = some (.int .i64 p0) := by rw [hw]; go_simp
  have k6 : w.cell? ⟨w0.heap.size, 6, none⟩ = some (.int .i64 p1) := by rw [hw]; go_simp
  have k7 : w.cell? ⟨w0.heap.size, 7, none⟩ = some (.int .i64 p2) := by rw [hw]; go_simp
  have k8 : w.cell? ⟨w0.heap.size, 8, none⟩ = some (.int .i64 p3) := by rw [hw]; go_simp
  have k9 : w.cell? ⟨w0.heap.size, 9, none⟩ = some (.int .i64 at_) := by rw [hw]; go_simp
  have hlt : w0.heap.size < w.heap.size := by rw [hw]; simp
  clear hw
  go_region_held3 (fun W => W.cell? ⟨w0.heap.size, 0, none⟩ = some (.int .i64 k) ∧ W.cell? ⟨w0.heap.size, 1, none⟩ = some (.int .i64 im) ∧ W.cell? ⟨w0.heap.size, 2, none⟩ = some (.int .i64 nl)) (first | go_keep | (refine ⟨pw_cell_below hb5 ?_, pw_cell_below hb5 ?_, pw_cell_below hb5 ?_⟩ <;> go_keep) | (refine ⟨pw_cell_below hb19 ?_, pw_cell_below hb19 ?_, pw_cell_below hb19 ?_⟩ <;> go_keep)) (first | (go_at_call 104; (with_reducible refine (WB2.out nl _ a2 (by omega)).mono ?_); rintro e w5 ⟨v5, rfl, ho5, hb5⟩; obtain ⟨A5, c5, rfl⟩ := Kd.R_slice ho5) | ((refine Kd.R_append_rows_step (Kd.int .u8) (w0 := w) w.heap.size (by rfl) (.tmp 15) (.tmp 18) 44 5 (.int .u8 0) 1 (by rfl) Try.underlying44 u8info rfl (by decide) (by omega) _ [k, im] (leB nl 2) A5 (leB nl 2).length c5 (fun _ => True) (fun _ => False) (by rfl) (by rfl) (by first | exact Kd.R_below (Kd.R_drew (R_two k im w w.heap.size (Nat.le_refl _))) hb5 | exact R_two k im w5 w.heap.size hb5.size) (by first | exact (Kd.R_reads' ho5).2.2 | exact Kd.C_alloc (Kd.R_reads' ho5).2.2 _) (fun _ _ h => h) (fun _ h => h.elim) (fun _ _ => trivial) (by first | exact below_step (by repeat (first | exact HB.out | apply below_alloc | apply below_drew1)) hb5 | exact below_alloc (below_step (by repeat (first | exact HB.out | apply below_alloc | apply below_drew1)) hb5) _) (below_size (by first | exact below_step (by repeat (first | exact HB.out | apply below_alloc | apply below_drew1)) hb5 | exact below_alloc (below_step (by repeat (first | exact HB.out | apply below_alloc | apply below_drew1)) hb5) _)) (by simp [leB_length]) ?_; intro v19 w19 ho19 hb19 hg_ hat_)) | fail)
  all_goals
    have HX2 := Aside0.mk hb5
    clear hb5 ho5 hg_ hat_
    obtain ⟨L3, hL3⟩ : ∃ L, L = inoPre k im nl ge sz p0 p1 p2 p3 at_ 3 := ⟨_, rfl⟩
    rw [E2.out, ← hL3] at ho19
    have hl3 : L3.length ≤ 12 := by rw [hL3]; exact inoPre_len k im nl ge sz p0 p1 p2 p3 at_ 3 (by omega)
    have E3 : Aside0 (L3 ++ leB ge 4 ++ leB sz 2 = inoPre k im nl ge sz p0 p1 p2 p3 at_ 5) := ⟨by rw [hL3]; simp [inoPre, inoRow]⟩
    have HO := Aside0.mk ho19
    clear HB hL3 ho19
    have HB := Aside0.mk hb19
    clear hb19
    have HK : Aside0 (∀ m, m < 4 → w.cell? ⟨w0.heap.size, 5 + m, none⟩ = some (.int .i64 (pN p0 p1 p2 p3 m))) := ⟨fun m hm => by rcases lt4 hm with rfl | rfl | rfl | rfl <;> simp only [pN] <;> assumption⟩
    have HM : Aside0 (∀ m, m < 4 → 0 ≤ pN p0 p1 p2 p3 m ∧ pN p0 p1 p2 p3 m ≤ 65535) := ⟨fun m hm => by rcases lt4 hm with rfl | rfl | rfl | rfl <;> simp only [pN] <;> omega⟩
    have c3 := pw_cell_below HB.out k3
    have K4 := Aside0.mk k4
    have K9 := Aside0.mk k9
    clear k0 k1 k2 k3 k4 k5 k6 k7 k8 k9
    refine go_on ?_
    go_wp2_with (first | (go_at_call 104; (with_reducible refine (WB4.out ge _ a3 (by omega)).mono ?_); rintro e w6 ⟨v6, rfl, ho, hb⟩; have n0_ : Aside0 (Kd.R (Kd.int .u8) 5 w6 w.heap.size (fun _ => True) v19 L3) := ⟨Kd.R_below (by (with_reducible repeat (first | apply Kd.R_alloc | apply Kd.R_drewN | apply Kd.R_drew)); exact HO.out) hb⟩; clear HO; have HO := n0_; clear n0_; obtain ⟨A6, c6, rfl⟩ := Kd.R_slice ho; have HR6 := Aside0.mk (Kd.R_reads' ho).2.2; have HC6 := Aside0.mk (Kd.R_reads' ho).2.1; have n1_ : Aside0 (Below w.heap.size w w6) := ⟨below_step (by repeat (first | (with_reducible first | exact HB.out | apply below_alloc | apply pw_below_drewN | apply below_drew1) | exact HB.out)) hb⟩; clear HB; have HB := n1_; clear n1_; clear ho hb) | ((with_reducible refine gate_builtin (b := .append) (xs := #[.tmp 20, .tmp 23]) rfl ?_); at_builtin; refine Kd.R_append_rows (Kd.int .u8) (w0 := w) w.heap.size rfl (.tmp 20) (.tmp 23) 44 5 (.int .u8 0) 1 rfl Try.underlying44 u8info rfl (by decide) (by omega) v19 L3 (leB ge 4) _ _ _ (fun _ => True) (fun _ => False) rfl rfl ?aO ?aR (fun _ _ h => h) (fun _ h => h.elim) ?aF ?aB ?aS ?aL ?_; (case aR => exact (by first | exact HR6.out | (refine Kd.C_drewN ?_ _; exact HR6.out) | (refine Kd.C_alloc ?_ _; exact HR6.out))); (case aB => exact (by repeat (first | (with_reducible first | exact HB.out | apply below_alloc | apply pw_below_drewN | apply below_drew1) | exact HB.out))); (case aF => exact (fun _ _ => trivial)); (case aO => exact (by (with_reducible repeat (first | apply Kd.R_alloc | apply Kd.R_drewN | apply Kd.R_drew)); exact HO.out)); (case aS => exact (below_size (by repeat (first | (with_reducible first | exact HB.out | apply below_alloc | apply pw_below_drewN | apply below_drew1) | exact HB.out)))); (case aL => simp only [leB_length, List.length_append]; omega); intro v7 w7 ho hb hg hat; have n0_ := Aside0.mk (hb); have n1_ := Aside0.mk (ho); clear HB; clear HO; have HB := n0_; have HO := n1_; clear n0_ n1_; clear ho hb hg hat; have c4 := pw_cell_below HB.out K4.out) | (go_at_call 104; (with_reducible refine (WB2.out sz _ a4 (by omega)).mono ?_); rintro e w8 ⟨v8, rfl, ho, hb⟩; have n0_ : Aside0 (Kd.R (Kd.int .u8) 5 w8 w.heap.size (fun _ => True) v7 (L3 ++ leB ge 4)) := ⟨Kd.R_below (by (with_reducible repeat (first | apply Kd.R_alloc | apply Kd.R_drewN | apply Kd.R_drew)); exact HO.out) hb⟩; clear HO; have HO := n0_; clear n0_; obtain ⟨A8, c8, rfl⟩ := Kd.R_slice ho; have HR8 := Aside0.mk (Kd.R_reads' ho).2.2; have HC8 := Aside0.mk (Kd.R_reads' ho).2.1; have n1_ : Aside0 (Below w.heap.size w w8) := ⟨below_step (by repeat (first | (with_reducible first | exact HB.out | apply below_alloc | apply pw_below_drewN | apply below_drew1) | exact HB.out)) hb⟩; clear HB; have HB := n1_; clear n1_; clear ho hb) | ((with_reducible refine gate_builtin (b := .append) (xs := #[.tmp 25, .tmp 28]) rfl ?_); at_builtin; refine Kd.R_append_rows (Kd.int .u8) (w0 := w) w.heap.size rfl (.tmp 25) (.tmp 28) 44 5 (.int .u8 0) 1 rfl Try.underlying44 u8info rfl (by decide) (by omega) v7 (L3 ++ leB ge 4) (leB sz 2) _ _ _ (fun _ => True) (fun _ => False) rfl rfl ?aO ?aR (fun _ _ h => h) (fun _ h => h.elim) ?aF ?aB ?aS ?aL ?_; (case aR => exact (by first | exact HR8.out | (refine Kd.C_drewN ?_ _; exact HR8.out) | (refine Kd.C_alloc ?_ _; exact HR8.out))); (case aB => exact (by repeat (first | (with_reducible first | exact HB.out | apply below_alloc | apply pw_below_drewN | apply below_drew1) | exact HB.out))); (case aF => exact (fun _ _ => trivial)); (case aO => exact (by (with_reducible repeat (first | apply Kd.R_alloc | apply Kd.R_drewN | apply Kd.R_drew)); exact HO.out)); (case aS => exact (below_size (by repeat (first | (with_reducible first | exact HB.out | apply below_alloc | apply pw_below_drewN | apply below_drew1) | exact HB.out)))); (case aL => simp only [leB_length, List.length_append]; omega); intro v9 w9 ho hb hg hat; have n0_ := Aside0.mk (hb); have n1_ := Aside0.mk (ho); clear HB; clear HO; have HB := n0_; have HO := n1_; clear n0_ n1_; clear ho hb hg hat))
    clear c3 c4
    go_loopw [3, 4] (fun v3 v4 w' => ∃ m : Nat, ∃ L : List Int, v4 = .int .i64 m ∧ Aside0 (m ≤ 4) ∧ Aside0 (L = inoPre k im nl ge sz p0 p1 p2 p3 at_ (5 + m)) ∧ Aside0 (Kd.R (Kd.int .u8) 5 w' w.heap.size (fun _ => True) v3 L) ∧ Aside0 (Below w.heap.size w w')) (fun _ i _ => 4 - (intOf i).toNat)
    case atStart => exact ⟨0, _, rfl, ⟨by omega⟩, E3, HO, HB⟩
    case round =>
      clear HO HB
      obtain ⟨m, L, rfl, hm, hL, HO, HB⟩ := hrel
      have hm' := hm.out
      have hlL : L.length ≤ 40 := by rw [hL.out]; have := inoPre_len k im nl ge sz p0 p1 p2 p3 at_ (5 + m) (by omega); omega
      by_cases hlt4 : m < 4
      · have hc := pw_cell_below HB.out (HK.out m hlt4)
        obtain ⟨x0, x1⟩ := HM.out m hlt4
        have HS : Aside0 (L ++ leB (pN p0 p1 p2 p3 m) 2 = inoPre k im nl ge sz p0 p1 p2 p3 at_ (5 + (m + 1))) := ⟨by rw [hL.out]; rcases lt4 hlt4 with rfl | rfl | rfl | rfl <;> simp [inoPre, inoRow, pN]⟩
        obtain ⟨x, hx⟩ : ∃ x, x = pN p0 p1 p2 p3 m := ⟨_, rfl⟩
        rw [← hx] at hc x0 x1 HS
        clear hx hL
        go_wp2_with (first | (go_at_call 104; (with_reducible refine (WB2.out x _ x0 (by omega)).mono ?_); rintro e w10 ⟨v10, rfl, ho, hb⟩; have n0_ : Aside0 (Kd.R (Kd.int .u8) 5 w10 w.heap.size (fun _ => True) _ L) := ⟨Kd.R_below (by (with_reducible repeat (first | apply Kd.R_alloc | apply Kd.R_drewN | apply Kd.R_drew)); exact HO.out) hb⟩; clear HO; have HO := n0_; clear n0_; obtain ⟨A10, c10, rfl⟩ := Kd.R_slice ho; have HR10 := Aside0.mk (Kd.R_reads' ho).2.2; have HC10 := Aside0.mk (Kd.R_reads' ho).2.1; have n1_ : Aside0 (Below w.heap.size w w10) := ⟨below_step (by repeat (first | (with_reducible first | exact HB.out | apply below_alloc | apply pw_below_drewN | apply below_drew1) | exact HB.out)) hb⟩; clear HB; have HB := n1_; clear n1_; clear ho hb) | ((with_reducible refine gate_builtin (b := .append) (xs := #[.tmp 34, .tmp 39]) rfl ?_); at_builtin; refine Kd.R_append_rows (Kd.int .u8) (w0 := w) w.heap.size rfl (.tmp 34) (.tmp 39) 44 5 (.int .u8 0) 1 rfl Try.underlying44 u8info rfl (by decide) (by omega) _ L (leB x 2) _ _ _ (fun _ => True) (fun _ => False) rfl rfl ?aO ?aR (fun _ _ h => h) (fun _ h => h.elim) ?aF ?aB ?aS ?aL ?_; (case aR => exact (by first | exact HR10.out | (refine Kd.C_drewN ?_ _; exact HR10.out) | (refine Kd.C_alloc ?_ _; exact HR10.out))); (case aB => exact (by repeat (first | (with_reducible first | exact HB.out | apply below_alloc | apply pw_below_drewN | apply below_drew1) | exact HB.out))); (case aF => exact (fun _ _ => trivial)); (case aO => exact (by (with_reducible repeat (first | apply Kd.R_alloc | apply Kd.R_drewN | apply Kd.R_drew)); exact HO.out)); (case aS => exact (below_size (by repeat (first | (with_reducible first | exact HB.out | apply below_alloc | apply pw_below_drewN | apply below_drew1) | exact HB.out)))); (case aL => simp only [leB_length]; omega); intro v11 w11_ ho hb hg hat; have n0_ := Aside0.mk (hb); have n1_ := Aside0.mk (ho); clear HB; clear HO; have HB := n0_; have HO := n1_; clear n0_ n1_; clear ho hb hg hat))
        exact ⟨⟨m + 1, _, rfl, ⟨by omega⟩, HS, HO, HB⟩, by simp [intOf]; omega⟩
      · have hm4 : m = 4 := by omega
        subst hm4
        have hc := pw_cell_below HB.out K9.out
        have HS : Aside0 (L ++ leB at_ 2 = inoB k im nl ge sz p0 p1 p2 p3 at_) := ⟨by rw [hL.out, ← inoPre_all]; simp [inoPre, inoRow]⟩
        obtain ⟨LL, hLL⟩ : ∃ q, q = L ++ leB at_ 2 := ⟨_, rfl⟩
        have HLL := Aside0.mk hLL
        rw [← hLL] at HS
        have HYB : Aside0 (Byts LL) := ⟨by rw [HS.out]; exact inoB_byts _ _ _ _ _ _ _ _ _ _⟩
        have hlLL : LL.length ≤ 64 := by rw [hLL, List.length_append, leB_length]; omega
        clear hLL
        clear hL
        go_wp2_with (first | (go_at_call 104; (with_reducible refine (WB2.out at_ _ a9 (by omega)).mono ?_); rintro e w12 ⟨v12, rfl, ho, hb⟩; have n0_ : Aside0 (Kd.R (Kd.int .u8) 5 w12 w.heap.size (fun _ => True) _ L) := ⟨Kd.R_below (by (with_reducible repeat (first | apply Kd.R_alloc | apply Kd.R_drewN | apply Kd.R_drew)); exact HO.out) hb⟩; clear HO; have HO := n0_; clear n0_; obtain ⟨A12, c12, rfl⟩ := Kd.R_slice ho; have HR12 := Aside0.mk (Kd.R_reads' ho).2.2; have HC12 := Aside0.mk (Kd.R_reads' ho).2.1; have n1_ : Aside0 (Below w.heap.size w w12) := ⟨below_step (by repeat (first | (with_reducible first | exact HB.out | apply below_alloc | apply pw_below_drewN | apply below_drew1) | exact HB.out)) hb⟩; clear HB; have HB := n1_; clear n1_; clear ho hb) | ((with_reducible refine gate_builtin (b := .append) (xs := #[.tmp 41, .tmp 44]) rfl ?_); at_builtin; refine Kd.R_append_rows (Kd.int .u8) (w0 := w) w.heap.size rfl (.tmp 41) (.tmp 44) 44 5 (.int .u8 0) 1 rfl Try.underlying44 u8info rfl (by decide) (by omega) _ L (leB at_ 2) _ _ _ (fun _ => True) (fun _ => False) rfl rfl ?aO ?aR (fun _ _ h => h) (fun _ h => h.elim) ?aF ?aB ?aS ?aL ?_; (case aR => exact (by first | exact HR12.out | (refine Kd.C_drewN ?_ _; exact HR12.out) | (refine Kd.C_alloc ?_ _; exact HR12.out))); (case aB => exact (by repeat (first | (with_reducible first | exact HB.out | apply below_alloc | apply pw_below_drewN | apply below_drew1) | exact HB.out))); (case aF => exact (fun _ _ => trivial)); (case aO => exact (by (with_reducible repeat (first | apply Kd.R_alloc | apply Kd.R_drewN | apply Kd.R_drew)); exact HO.out)); (case aS => exact (below_size (by repeat (first | (with_reducible first | exact HB.out | apply below_alloc | apply pw_below_drewN | apply below_drew1) | exact HB.out)))); (case aL => simp only [leB_length]; omega); intro v13 w13 ho hb hg hat; have n0_ := Aside0.mk (hb); have n1_ := Aside0.mk (ho); clear HB; clear HO; have HB := n0_; have HO := n1_; clear n0_ n1_; clear ho hb hg hat; rw [← HLL.out] at HO; obtain ⟨A13, c13, rfl⟩ := Kd.R_slice HO.out; have HR13 := Aside0.mk (Kd.R_reads' HO.out).2.2) | (go_at_call 65; (with_reducible refine (rSeal_walk A13 c13 LL _ (by first | exact HR13.out | (refine Kd.C_drewN ?_ _; exact HR13.out) | (refine Kd.C_alloc ?_ _; exact HR13.out)) HYB.out (by omega)).mono ?_); rintro e w14 ⟨v14, rfl, ho, hb⟩; replace ho := Kd.R_lower ho (below_size (by repeat (first | (with_reducible first | exact HB.out | apply below_alloc | apply pw_below_drewN | apply below_drew1) | exact HB.out))); obtain ⟨A14, c14, rfl⟩ := Kd.R_slice ho; have HR14 := Aside0.mk (Kd.R_reads' ho).2.2; have HC14 := Aside0.mk (Kd.R_reads' ho).2.1; have n1_ : Aside0 (Below w.heap.size w w14) := ⟨below_step (by repeat (first | (with_reducible first | exact HB.out | apply below_alloc | apply pw_below_drewN | apply below_drew1) | exact HB.out)) hb⟩; clear HB; have HB := n1_; clear n1_; have HO14 := Aside0.mk ho; clear ho hb))
        go_ret
        refine ⟨_, rfl, ?_, ?_⟩
        · rw [E1.out, ← HS.out]; exact Kd.R_lower HO14.out (by omega)
        · exact below_step (by rw [HW.out]; exact below_alloc (Below.refl _ _) _) HB.out
end Go.Proofs.Ytdkbhbolkieeiaa.K
namespace Go.Proofs.Ytdkbhbolkieeiaa.K
open Go.Lib
set_option linter.unusedVariables false
set_option linter.unusedSimpArgs false
/-- A byte (a rune) that may stand in a name. -/
def letterN (c : Nat) : Bool := (decide (97 ≤ c) && decide (c ≤ 122)) || (decide (48 ≤ c) && decide (c ≤ 57)) || c == 46 || c == 95 || c == 45
theorem letter_ascii {c : Nat} (h : letterN c = true) : c < 128 := by
  simp only [letterN, Bool.or_eq_true, Bool.and_eq_true, decide_eq_true_eq, beq_iff_eq] at h
  omega
/-- A name that may be. -/
def rightN (s : ByteArray) : Bool := decide (1 ≤ s.size) && decide (s.size ≤ 12) && !(decide (s = ⟨#[46]⟩)) && !(decide (s = ⟨#[46, 46]⟩)) && s.data.toList.all (fun b => letterN b.toNat)
end Go.Proofs.Ytdkbhbolkieeiaa.K
namespace Go.Proofs.Ytdkbhbolkieeiaa.K
open Go.RowKit Go.Shelf Go.Lib Go.Proofs.YtdkbhbolkieeiaaW.PrintWords Go.Proofs.YtdkbhbolkieeiaaW.PrintLast Go.Proofs.YtdkbhbolkieeiaaW.PrintMore
set_option linter.unusedVariables false
set_option linter.unusedSimpArgs false
theorem rightN_of {s : ByteArray} (h1 : 1 ≤ s.size) (h2 : s.size ≤ 12) (h3 : ¬ s = ⟨#[46]⟩) (h4 : ¬ s = ⟨#[46, 46]⟩) : rightN s = s.data.toList.all (fun b => letterN b.toNat) := by
  simp [rightN, h1, h2, h3, h4]
theorem str_ne {s : ByteArray} {l : Array UInt8} (h : ¬ s = ⟨l⟩) : (s.toList == l.toList) = false := by
  rw [ByteArray.toList_eq, beq_eq_false_iff_ne]
  intro e
  exact h (by cases s with | mk d => simp only at e; rw [Array.toList_inj.1 e])
end Go.Proofs.Ytdkbhbolkieeiaa.K
namespace Go.Proofs.Ytdkbhbolkieeiaa.K
open Go.RowKit Go.Shelf Go.Lib Go.Proofs.YtdkbhbolkieeiaaW.PrintWords Go.Proofs.YtdkbhbolkieeiaaW.PrintLast Go.Proofs.YtdkbhbolkieeiaaW.PrintMore
set_option linter.unusedVariables false
set_option linter.unusedSimpArgs false
set_option maxRecDepth 100000 in
theorem rletter_walk (c : Nat) (w : World) :
    Calls Try.prog 145 #[.int .u8 c] w fun e w' => e = .returned (.bool (letterN c)) ∧ w' = w := by
  by_cases h1 : (97 : Int) ≤ c <;> by_cases h2 : (c : Int) ≤ 122 <;> by_cases h3 : (48 : Int) ≤ c <;> by_cases h4 : (c : Int) ≤ 57 <;> first | (exfalso; omega) | skip
  all_goals by_cases h5 : (c : Int) = 46
  all_goals by_cases h6 : (c : Int) = 95
  all_goals by_cases h7 : (c : Int) = 45
  all_goals first | (exfalso; omega) | skip
  all_goals first | (have e : letterN c = true := by (simp only [letterN, Bool.or_eq_true, Bool.and_eq_true, decide_eq_true_eq, beq_iff_eq]; omega)) | (have e : letterN c = false := by (rw [← Bool.not_eq_true]; simp only [letterN, Bool.or_eq_true, Bool.and_eq_true, decide_eq_true_eq, beq_iff_eq]; omega))
  all_goals rw [e]
  all_goals clear e
  all_goals
    go_enter Try.func145, Try.ntmps145
    go_wp2
    go_ret
    exact ⟨by first | rfl | simp [h5, h6, h7], rfl⟩
set_option maxRecDepth 100000 in
theorem r03Right_walk (s : ByteArray) (w : World) :
    Calls Try.prog 143 #[.string s] w fun e w' => e = .returned (.bool (rightN s)) ∧ Below w.heap.size w w' := by
  by_cases h1 : 1 ≤ s.size
  case neg =>
    have E0 : Aside0 (rightN s = false) := ⟨by simp [rightN, h1]⟩
    have h0 : (s.size : Int) < 1 := by omega
    clear h1
    go_enter Try.func143, Try.ntmps143
    go_wp2
    go_ret
    exact ⟨by rw [E0.out]; rfl, Below.refl _ _⟩
  by_cases h2 : s.size ≤ 12
  case neg =>
    have E0 : Aside0 (rightN s = false) := ⟨by simp [rightN, h2]⟩
    have h0 : 1 ≤ s.size := by omega
    have h12 : 12 < s.size := by omega
    clear h1 h2
    go_enter Try.func143, Try.ntmps143
    go_wp2
    go_ret
    exact ⟨by rw [E0.out]; rfl, Below.refl _ _⟩
  by_cases h3 : s = ⟨#[46]⟩
  · subst h3
    go_enter Try.func143, Try.ntmps143
    go_wp2
    go_ret
    exact ⟨by rw [show rightN ⟨#[46]⟩ = false by rfl]; rfl, Below.refl _ _⟩
  by_cases h4 : s = ⟨#[46, 46]⟩
  · subst h4
    go_enter Try.func143, Try.ntmps143
    go_wp2
    go_ret
    exact ⟨by rw [show rightN ⟨#[46, 46]⟩ = false by rfl]; rfl, Below.refl _ _⟩
  have E0 := Aside0.mk (rightN_of h1 h2 h3 h4)
  have q3 : (s.toList == [46]) = false := str_ne h3
  have q4 : (s.toList == [46, 46]) = false := str_ne h4
  have hsl : Aside0 (s.data.toList.length = s.size) := ⟨by rw [Array.length_toList]; rfl⟩
  clear h3 h4
  go_enter Try.func143, Try.ntmps143
  go_wp2
  go_loop [3] (fun v3 => ∃ m : Nat, v3 = .int .i64 m ∧ Aside0 (m ≤ s.size) ∧ Aside0 ((s.data.toList.take m).all (fun b => letterN b.toNat) = true)) (fun i => s.size - (intOf i).toNat)
  case atStart => exact ⟨0, rfl, ⟨Nat.zero_le _⟩, ⟨rfl⟩⟩
  case round =>
    obtain ⟨m, rfl, hm, hall⟩ := hrel
    have hm' := hm.out
    by_cases hlt : m < s.size
    · have hl : m < s.data.toList.length := by rw [hsl.out]; exact hlt
      have e1 : s.data.toList[m] = s[m]'hlt := by simp; rfl
      obtain ⟨q, hq⟩ : ∃ q, letterN (s[m]'hlt).toNat = q := ⟨_, rfl⟩
      have WL := Aside0.mk (fun W => rletter_walk (s[m]'hlt).toNat W)
      rw [hq] at WL
      cases q with
      | true =>
        have HT : Aside0 ((s.data.toList.take (m + 1)).all (fun b => letterN b.toNat) = true) := ⟨by
          rw [List.take_succ_eq_append_getElem hl, List.all_append, hall.out, e1]
          simp [hq]⟩
        clear e1 hl hq
        go_wp2_with (go_at_call 145; (with_reducible refine (WL.out _).mono ?_); rintro e w' ⟨rfl, h_⟩; have h_ := h_.symm; subst h_)
        all_goals exact ⟨⟨m + 1, rfl, ⟨by omega⟩, HT⟩, by simp [intOf]; omega⟩
      | false =>
        have E1 : Aside0 (rightN s = false) := ⟨by
          rw [E0.out, ← Bool.not_eq_true, List.all_eq_true]
          intro h
          have := h (s[m]'hlt) (by rw [← e1]; exact List.getElem_mem hl)
          rw [hq] at this; cases this⟩
        clear e1 hl hq
        go_wp2_with (go_at_call 145; (with_reducible refine (WL.out _).mono ?_); rintro e w' ⟨rfl, h_⟩; have h_ := h_.symm; subst h_)
        all_goals go_ret
        all_goals exact ⟨by rw [E1.out]; rfl, Below.refl _ _⟩
    · have E1 : Aside0 (rightN s = true) := ⟨by
        rw [E0.out]
        have := hall.out
        rwa [List.take_of_length_le (by rw [hsl.out]; omega)] at this⟩
      have hge : s.size ≤ m := by omega
      clear hlt
      go_wp2
      all_goals go_ret
      all_goals exact ⟨by rw [E1.out]; rfl, Below.refl _ _⟩
end Go.Proofs.Ytdkbhbolkieeiaa.K
namespace Go.Proofs.Ytdkbhbolkieeiaa.K
/-- A string's bytes as numbers. -/
def sB (s : ByteArray) : List Int := s.data.toList.map fun x => (x.toNat : Int)
theorem sB_length (s : ByteArray) : (sB s).length = s.size := by unfold sB; rw [List.length_map]; exact Array.length_toList
def pad24 (s : ByteArray) : List Int := sB s ++ (List.replicate 24 (0 : Int)).drop s.size
theorem pad24_length {s : ByteArray} (h : s.size ≤ 24) : (pad24 s).length = 24 := by
  unfold pad24; rw [List.length_append, sB_length, List.length_drop, List.length_replicate]; omega
end Go.Proofs.Ytdkbhbolkieeiaa.K
namespace Go.Proofs.YtdkbhbolkieeiaaW.PrintWords
open Go.RowKit Go.Proofs.Ytdkbhbolkieeiaa.K
namespace Kd
section
variable {P : Program} {ops : Array Oper} {o : Oper} {a : Act} {Q : Exit → Act → World → Prop} {Kc : Act → World → Prop} {E : Prop}
theorem R_copyStr_step {w0 W : World} (base : Nat) (hgd : o.guard = none) (s x : Operand) (t t' e b : TypeId)
    (ho : o.op = .call { callee := .builtin .copy, args := #[s, x], argTypes := #[t, t'] }) (ht : P.underlying t = some (.slice e)) (hinfo : (P.info? e).map (·.size) = some 1)
    (g cap : Nat) (xs : List Int) (y : ByteArray) (ok : Nat → Prop) (hs : a.eval s = .slice (some ⟨g, 0, none⟩) xs.length cap) (hx : a.eval x = .string y) (hle : y.size ≤ xs.length)
    (HO : (Kd.int .u8).R b W base ok (.slice (some ⟨g, 0, none⟩) xs.length cap) xs) (HB : Below base w0 W) (hbase : base ≤ W.heap.size)
    (h : ∀ w1, (Kd.int .u8).R b w1 base ok (.slice (some ⟨g, 0, none⟩) xs.length cap) (sB y ++ xs.drop y.size) → Below base w0 w1 → W.grownBy w1 (some g) → Kc (a.put o.dst (goInt y.size)) w1) :
    if Region.wanted o (yielded ops a.tmps) = true then Oper.wp P o a W Kc Q else E := by
  obtain ⟨i0, hi, hz⟩ := Option.map_eq_some_iff.1 hinfo
  have hown := own_of_R HO
  have hg0 := own_base hown g (by simp [Value.ownBlock])
  rcases hown.2 with ⟨e0, _⟩ | ⟨g1, cap1, cur, hv, hb, hh, hnc, hcm, hcs, htake⟩
  · cases e0
  obtain ⟨rfl, rfl⟩ : g1 = g ∧ cap1 = cap := by injection hv with h1 h2 h3; injection h1 with h1; injection h1 with h1; exact ⟨h1.symm, h3.symm⟩
  have hcs1 : cur.size = cap1 := by omega
  refine Go.step_copy_string (P := P) hgd s x t t' ho e ht (fun w => by simp [Go.sizeOf, typeInfo, hi, hz]) g1 0 xs.length cap1 hs y hx hle
    (fun j hj => by rw [cell_of_row W g1 _ cur b (0, 0) hh]; simp; omega) (fun j _ => blk_frozen hh _) ?_
  have hnl : (y.data.toList.map fun x => Value.int .u8 (x.toNat : Int)).length = y.size := by rw [List.length_map]; exact Array.length_toList
  obtain ⟨cur', h3, h4, h5⟩ := setCells_row (y.data.toList.map fun x => Value.int .u8 (x.toNat : Int)) 0 W cur hh (by rw [hnl]; omega)
  obtain ⟨s1, s2, s3, s4⟩ := setCells_same g1 (y.data.toList.map fun x => Value.int .u8 (x.toNat : Int)) 0 W
  have hgr : W.grownBy (W.setCells g1 0 (y.data.toList.map fun x => Value.int .u8 (x.toNat : Int))) (some g1) := ⟨s1, s2, s3, by rw [s4]; exact Nat.le_refl _, fun k _ hk => setCells_far _ _ k (fun he => hk (by rw [he]))⟩
  have hln : (sB y ++ xs.drop y.size).length = xs.length := by rw [List.length_append, sB_length, List.length_drop]; omega
  refine h _ ?_ (HB.grown hgr hbase (fun k hk => by injection hk with hk; subst hk; exact hg0)) hgr
  have key : (Kd.int .u8).R b (W.setCells g1 0 (y.data.toList.map fun x => Value.int .u8 (x.toNat : Int))) base ok (.slice (some ⟨g1, 0, none⟩) (sB y ++ xs.drop y.size).length cap1) (sB y ++ xs.drop y.size) := by
    refine R_of_own ?_ (fun k hk => HO.1 k (by simpa [Value.ownBlock] using hk))
    refine ⟨by rw [encs_length, Nat.mul_one], .inr ⟨g1, cap1, cur', rfl, hb, h3, by rw [hln]; exact hnc, hcm, by rw [h4, hcs], ?_⟩⟩
    rw [h5, List.take_zero, List.nil_append, hnl, Nat.zero_add, encs_append, hln, Nat.mul_one]
    have e1 : (y.data.toList.map fun x => Value.int .u8 (x.toNat : Int)) = encs (Value.int .u8) (sB y) := by simp [encs, sB]
    rw [e1]
    have htk : cur.toList.take xs.length = encs (Value.int .u8) xs := by rw [← htake, Nat.mul_one]
    have hd : encs (Value.int .u8) (xs.drop y.size) = (encs (Value.int .u8) xs).drop y.size := by simp [encs, List.map_drop]
    rw [List.take_append, encs_length, sB_length, List.take_of_length_le (by rw [encs_length, sB_length]; omega), hd, ← htk, List.drop_take]
  rw [hln] at key
  exact key
end
end Kd
end Go.Proofs.YtdkbhbolkieeiaaW.PrintWords
namespace Go.Proofs.YtdkbhbolkieeiaaW.PrintWords
open Go.RowKit Go.Proofs.Ytdkbhbolkieeiaa.K
theorem upon_copyStr {P : Program} {o : Oper} {a : Act} {W : World} {next : Act → World → Prop} {Q : Exit → Act → World → Prop} (t t' ty e : TypeId) (ht : P.underlying t = some (.slice e)) (hinfo : (P.info? e).map (·.size) = some 1)
    (g off n c : Nat) (y : ByteArray) (hle : y.size ≤ n) {cs : Array Value} {te : TypeId} (BK : W.heap[g]? = some (.cells cs te (0, 0))) (hlt : off + n ≤ cs.size)
    (h : ∀ w1 cs', w1.heap[g]? = some (.cells cs' te (0, 0)) → cs'.size = cs.size → cs'.toList = cs.toList.take off ++ (sB y).map (fun v => Value.int .u8 v) ++ cs.toList.drop (off + y.size) → W.grownBy w1 (some g) → next (a.put o.dst (goInt y.size)) w1) :
    Oper.upon P o a next Q (((Builtin.copy_ #[t, t'] ty #[.slice (some ⟨g, off, none⟩) n c, .string y]).run P W).andThen fun a w' => Result.ok (Next.value a) w') := by
  obtain ⟨i0, hi, hz⟩ := Option.map_eq_some_iff.1 hinfo
  have hl : (y.data.toList.map fun x => Value.int .u8 (x.toNat : Int)).length = y.size := by rw [List.length_map]; exact Array.length_toList
  have he : (sB y).map (fun v => Value.int .u8 v) = y.data.toList.map fun x => Value.int .u8 (x.toNat : Int) := by simp [sB]
  obtain ⟨cs', h2, h3, h4⟩ := setCells_row (y.data.toList.map fun x => Value.int .u8 (x.toNat : Int)) off W cs BK (by rw [hl]; omega)
  have hT := there_of_blk (o := off) (n := y.size) BK (by omega)
  have hrun := Go.run_copy_string (P := P) W t t' ty e g off n c y ht (fun w => by simp [Go.sizeOf, typeInfo, hi, hz]) hle (fun j hj => (hT j hj).1) (fun j hj => (hT j hj).2)
  rw [hrun]
  refine h _ cs' h2 h3 ?_ (grown_setCells _ _ _ _)
  rw [h4, he, hl]
namespace Kd
theorem C_blkInt {k : IntKind} {W : World} {g : Nat} {cs : Array Value} {t : TypeId} {xs : List Int} (BK : W.heap[g]? = some (.cells cs t (0, 0))) (h : cs.toList.take xs.length = xs.map (fun v => Value.int k v)) (hm : xs.length ≤ 9223372036854775807) : (Kd.int k).C W (some ⟨g, 0, none⟩) xs.length xs := by
  refine ⟨rfl, hm, fun _ => ⟨⟨g, 0, none⟩, rfl, fun j p hp => ⟨[.int k p], rfl, rfl, fun i u hu => ?_⟩⟩⟩
  obtain ⟨hj, rfl⟩ := List.getElem?_eq_some_iff.1 hp
  have hi : i = 0 := by have := (List.getElem?_eq_some_iff.1 hu).1; simp at this; exact this
  subst hi
  show W.cell? ((⟨g, 0, none⟩ : Addr).add (j * 1 + 0)) = some u
  rw [add_plain, blk_cell BK, ← hu, Nat.mul_one, Nat.add_zero]
  have h2 : (cs.toList.take xs.length)[j]? = (xs.map (fun v => Value.int k v))[j]? := by rw [h]
  rw [List.getElem?_take_of_lt hj, Array.getElem?_toList] at h2
  rw [h2, List.getElem?_map, List.getElem?_eq_getElem hj]
  rfl
end Kd
end Go.Proofs.YtdkbhbolkieeiaaW.PrintWords
namespace Go.Proofs.Ytdkbhbolkieeiaa.K
open Go.RowKit Go.Shelf Go.Lib Go.Proofs.YtdkbhbolkieeiaaW.PrintWords Go.Proofs.YtdkbhbolkieeiaaW.PrintLast Go.Proofs.YtdkbhbolkieeiaaW.PrintMore
set_option linter.unusedVariables false
set_option linter.unusedSimpArgs false
def packN (s : ByteArray) : List Int := (s.size : Int) :: (sB s ++ List.replicate (13 - s.size) 0)
theorem packN_length {s : ByteArray} (h : s.size ≤ 13) : (packN s).length = 14 := by
  unfold packN; rw [List.length_cons, List.length_append, sB_length, List.length_replicate]; omega
theorem rightN_size {s : ByteArray} (h : rightN s = true) : 1 ≤ s.size ∧ s.size ≤ 12 := by
  simp only [rightN, Bool.and_eq_true, decide_eq_true_eq] at h
  exact ⟨h.1.1.1.1, h.1.1.1.2⟩
end Go.Proofs.Ytdkbhbolkieeiaa.K
namespace Go.Proofs.Ytdkbhbolkieeiaa.K
open Go.RowKit Go.Shelf Go.Lib Go.Proofs.YtdkbhbolkieeiaaW.PrintWords Go.Proofs.YtdkbhbolkieeiaaW.PrintLast Go.Proofs.YtdkbhbolkieeiaaW.PrintMore
set_option linter.unusedVariables false
set_option linter.unusedSimpArgs false
theorem rPack_nil (s : ByteArray) (w : World) (hs : rightN s = false) :
    Calls Try.prog 144 #[.string s] w fun e w' => e = .returned (.slice none 0 0) ∧ Below w.heap.size w w' := by
  have HB := Aside0.mk (Below.refl w.heap.size w)
  have WR := Aside0.mk (fun W => r03Right_walk s W)
  rw [hs] at WR
  clear hs
  go_enter Try.func144, Try.ntmps144
  go_wp2_with (go_at_call 143; (with_reducible refine (WR.out _).mono ?_); rintro e w1 ⟨rfl, hb⟩; have n1_ : Aside0 (Below w.heap.size w w1) := ⟨below_step (by repeat (first | (with_reducible first | exact HB.out | apply below_alloc | apply pw_below_drewN | apply below_drew1) | exact HB.out)) hb⟩; clear HB; have HB := n1_; clear n1_; clear hb)
  go_ret
  exact ⟨rfl, HB.out⟩
set_option maxRecDepth 100000 in
theorem rPack_walk (s : ByteArray) (w : World) (hs : rightN s = true) :
    Calls Try.prog 144 #[.string s] w fun e w' => ∃ v : Value, e = .returned v ∧ Kd.R (Kd.int .u8) 5 w' w.heap.size (fun _ => True) v (packN s) ∧ Below w.heap.size w w' := by
  have hsz := (rightN_size hs).2
  have HB := Aside0.mk (Below.refl w.heap.size w)
  have WR := Aside0.mk (fun W => r03Right_walk s W)
  rw [hs] at WR
  obtain ⟨T, hT⟩ : ∃ T, T = sB s ++ List.replicate (13 - s.size) (0 : Int) := ⟨_, rfl⟩
  have hTl : Aside0 (T.length = 13) := ⟨by rw [hT, List.length_append, sB_length, List.length_replicate]; omega⟩
  have hTP : Aside0 (packN s = (s.size : Int) :: T) := ⟨by rw [hT]; rfl⟩
  have hTs : Aside0 (∀ m (h : m < s.size), T[m]? = some ((s[m]'h).toNat : Int)) := ⟨fun m h => by
    rw [hT, List.getElem?_append_left (by rw [sB_length]; exact h)]
    unfold sB
    rw [List.getElem?_map, Array.getElem?_toList, Array.getElem?_eq_getElem (show m < s.data.size from h)]
    rfl⟩
  have hTz : Aside0 (∀ m, s.size ≤ m → m < 13 → T[m]? = some 0) := ⟨fun m h h2 => by
    rw [hT, List.getElem?_append_right (by rw [sB_length]; exact h), sB_length, List.getElem?_replicate, if_pos (by omega)]⟩
  clear hs hT
  go_enter Try.func144, Try.ntmps144
  go_wp2_with (first | (go_at_call 143; (with_reducible refine (WR.out _).mono ?_); rintro e w1 ⟨rfl, hb⟩; have n1_ : Aside0 (Below w.heap.size w w1) := ⟨below_step (by repeat (first | (with_reducible first | exact HB.out | apply below_alloc | apply pw_below_drewN | apply below_drew1) | exact HB.out)) hb⟩; clear HB; have HB := n1_; clear n1_; clear hb) | ((with_reducible refine gate_dst (N := 11) rfl ?_); refine Kd.R_lit (Kd.int .u8) _ 5 ?hg (N := 11) ?hd (xs := ([(s.size : Int)] : List (Int))) (inner := [.int .u8 (s.size : Int)]) (ok := fun _ => True) (okp := fun _ => True) ?hr ?hp (fun _ hk => hk) trivial (Below.refl _ _) (Nat.le_refl _) (by simp) ?_; (case hd => rfl); (case hg => rfl); (case hr => first | (go_simp; done) | (go_simp; rfl)); (case hp => exact (Reps.one (show Kd.M (Kd.int .u8) _ _ _ (s.size : Int) [.int .u8 (s.size : Int)] from rfl) (Reps.none _ _))); intro v114 w3 ho4 hb hg_ hnew_; clear hg_ hnew_; have n0_ := Aside0.mk (Kd.R_lower ho4 (below_size (by repeat (first | (with_reducible first | exact HB.out | apply below_alloc | apply pw_below_drewN | apply below_drew1) | exact HB.out)))); have n1_ := Aside0.mk (below_step (by repeat (first | (with_reducible first | exact HB.out | apply below_alloc | apply pw_below_drewN | apply below_drew1) | exact HB.out)) hb); clear HB; have HO1 := n0_; have HB := n1_; clear n0_ n1_; clear hb ho4))
  have HO0 : Aside0 (Kd.R (Kd.int .u8) 5 w3 w.heap.size (fun _ => True) v114 ((s.size : Int) :: T.take 0)) := ⟨HO1.out⟩
  clear HO1
  go_loopw [3, 4] (fun v3 v4 w' => ∃ m : Nat, v4 = .int .i64 m ∧ Aside0 (m ≤ 13) ∧ Aside0 (Kd.R (Kd.int .u8) 5 w' w.heap.size (fun _ => True) v3 ((s.size : Int) :: T.take m)) ∧ Aside0 (Below w.heap.size w w')) (fun _ i _ => 13 - (intOf i).toNat)
  case atStart => exact ⟨0, rfl, ⟨by omega⟩, HO0, HB⟩
  case round =>
    clear HO0 HB
    obtain ⟨m, rfl, hm, HO1, HB⟩ := hrel
    have hm' := hm.out
    by_cases hlt : m < 13
    · have hlen : Aside0 (((s.size : Int) :: T.take m).length ≤ 14) := ⟨by have := hTl.out; simp; omega⟩
      by_cases hms : m < s.size
      · have hx := hTs.out m hms
        obtain ⟨x, hxx⟩ : ∃ x : Int, x = ((s[m]'hms).toNat : Int) := ⟨_, rfl⟩
        have hsnoc : Aside0 ((s.size : Int) :: T.take (m + 1) = ((s.size : Int) :: T.take m) ++ [x]) := ⟨by
          have hml : m < T.length := by rw [hTl.out]; exact hlt
          rw [List.take_succ_eq_append_getElem hml, List.cons_append]
          rw [List.getElem?_eq_getElem hml] at hx
          rw [Option.some.inj hx, hxx]⟩
        have HXX := Aside0.mk hxx
        clear hx
        go_wp2_with (((with_reducible refine gate_builtin (b := .append) (xs := #[.tmp 20, .tmp 24]) rfl ?_); at_builtin; refine Kd.R_append (Kd.int .u8) (w0 := w) w.heap.size rfl (.tmp 20) (.tmp 24) 44 5 (.int .u8 0) 1 rfl Try.underlying44 u8info rfl (by decide) (by omega) _ ((s.size : Int) :: T.take m) ((s[m]'hms).toNat : Int) [.int .u8 ((s[m]'hms).toNat : Int)] (fun _ => True) (fun _ => False) rfl rfl ?aP (fun _ hk => hk.elim) ?aF ?aO ?aB ?aS ?aL ?_; (case aP => exact rfl); (case aB => exact (by repeat (first | (with_reducible first | exact HB.out | apply below_alloc | apply pw_below_drewN | apply below_drew1) | exact HB.out))); (case aF => exact (fun _ _ => trivial)); (case aO => exact (by (with_reducible repeat (first | apply Kd.R_alloc | apply Kd.R_drewN | apply Kd.R_drew)); exact HO1.out)); (case aS => exact (below_size (by repeat (first | (with_reducible first | exact HB.out | apply below_alloc | apply pw_below_drewN | apply below_drew1) | exact HB.out)))); (case aL => have := hlen.out; omega); intro v9 w11 ho hb hg hat; have n0_ := Aside0.mk (hb); have n1_ := Aside0.mk (ho); clear HB; clear HO1; have HB := n0_; have HO2 := n1_; clear n0_ n1_; clear ho hb hg hat))
        exact ⟨⟨m + 1, rfl, ⟨by omega⟩, ⟨by rw [hsnoc.out, HXX.out]; exact HO2.out⟩, HB⟩, by simp [intOf]; omega⟩
      · have hx := hTz.out m (by omega) hlt
        have hsnoc : Aside0 ((s.size : Int) :: T.take (m + 1) = ((s.size : Int) :: T.take m) ++ [0]) := ⟨by
          have hml : m < T.length := by rw [hTl.out]; exact hlt
          rw [List.take_succ_eq_append_getElem hml, List.cons_append]
          rw [List.getElem?_eq_getElem hml] at hx
          rw [Option.some.inj hx]⟩
        have hge : s.size ≤ m := by omega
        clear hx hms
        go_wp2_with (((with_reducible refine gate_builtin (b := .append) (xs := #[.tmp 26, .tmp 27]) rfl ?_); at_builtin; refine Kd.R_append (Kd.int .u8) (w0 := w) w.heap.size rfl (.tmp 26) (.tmp 27) 44 5 (.int .u8 0) 1 rfl Try.underlying44 u8info rfl (by decide) (by omega) _ ((s.size : Int) :: T.take m) 0 [.int .u8 0] (fun _ => True) (fun _ => False) rfl rfl ?aP (fun _ hk => hk.elim) ?aF ?aO ?aB ?aS ?aL ?_; (case aP => exact rfl); (case aB => exact (by repeat (first | (with_reducible first | exact HB.out | apply below_alloc | apply pw_below_drewN | apply below_drew1) | exact HB.out))); (case aF => exact (fun _ _ => trivial)); (case aO => exact (by (with_reducible repeat (first | apply Kd.R_alloc | apply Kd.R_drewN | apply Kd.R_drew)); exact HO1.out)); (case aS => exact (below_size (by repeat (first | (with_reducible first | exact HB.out | apply below_alloc | apply pw_below_drewN | apply below_drew1) | exact HB.out)))); (case aL => have := hlen.out; omega); intro v9 w11 ho hb hg hat; have n0_ := Aside0.mk (hb); have n1_ := Aside0.mk (ho); clear HB; clear HO1; have HB := n0_; have HO2 := n1_; clear n0_ n1_; clear ho hb hg hat))
        exact ⟨⟨m + 1, rfl, ⟨by omega⟩, ⟨by rw [hsnoc.out]; exact HO2.out⟩, HB⟩, by simp [intOf]; omega⟩
    · have hkm : m = 13 := by omega
      subst hkm
      go_wp2
      go_ret
      refine ⟨_, rfl, ?_, HB.out⟩
      have := HO1.out
      rw [List.take_of_length_le (by rw [hTl.out]; exact Nat.le_refl _)] at this
      rw [hTP.out]
      exact this
end Go.Proofs.Ytdkbhbolkieeiaa.K
namespace Go.Proofs.Ytdkbhbolkieeiaa.K
open Go.RowKit Go.Shelf Go.Lib Go.Proofs.YtdkbhbolkieeiaaW.PrintWords Go.Proofs.YtdkbhbolkieeiaaW.PrintLast Go.Proofs.YtdkbhbolkieeiaaW.PrintMore
set_option linter.unusedVariables false
set_option linter.unusedSimpArgs false
/-- An entry that may be. -/
def rightE (sl ino : Int) (nm : ByteArray) : Bool := decide (0 ≤ sl) && decide (sl < 16) && decide (0 < ino) && decide (ino ≤ 65535) && rightN nm
set_option maxRecDepth 100000 in
theorem rERight_walk (sl ino : Int) (nm : ByteArray) (w : World) :
    Calls Try.prog 138 #[.agg #[.int .i64 sl, .int .i64 ino, .string nm]] w fun e w' => e = .returned (.bool (rightE sl ino nm)) ∧ Below w.heap.size w w' := by
  have HB := Aside0.mk (Below.refl w.heap.size w)
  by_cases h1 : 0 ≤ sl
  case neg =>
    have E0 : Aside0 (rightE sl ino nm = false) := ⟨by simp [rightE, h1]⟩
    have hn : sl < 0 := by omega
    clear h1
    go_enter Try.func138, Try.ntmps138
    go_wp2
    go_ret
    exact ⟨by rw [E0.out]; rfl, (by repeat (first | exact Below.refl _ _ | apply Below.drew | apply below_alloc))⟩
  by_cases h2 : sl < 16
  case neg =>
    have E0 : Aside0 (rightE sl ino nm = false) := ⟨by simp [rightE, h2]⟩
    have hn : 16 ≤ sl := by omega
    clear h2
    go_enter Try.func138, Try.ntmps138
    go_wp2
    go_ret
    exact ⟨by rw [E0.out]; rfl, (by repeat (first | exact Below.refl _ _ | apply Below.drew | apply below_alloc))⟩
  by_cases h3 : 0 < ino
  case neg =>
    have E0 : Aside0 (rightE sl ino nm = false) := ⟨by simp [rightE, h3]⟩
    have hn : ino ≤ 0 := by omega
    clear h3
    go_enter Try.func138, Try.ntmps138
    go_wp2
    go_ret
    exact ⟨by rw [E0.out]; rfl, (by repeat (first | exact Below.refl _ _ | apply Below.drew | apply below_alloc))⟩
  by_cases h4 : ino ≤ 65535
  case neg =>
    have E0 : Aside0 (rightE sl ino nm = false) := ⟨by simp [rightE, h4]⟩
    have hn : 65535 < ino := by omega
    clear h4
    go_enter Try.func138, Try.ntmps138
    go_wp2
    go_ret
    exact ⟨by rw [E0.out]; rfl, (by repeat (first | exact Below.refl _ _ | apply Below.drew | apply below_alloc))⟩
  have E0 : Aside0 (rightE sl ino nm = rightN nm) := ⟨by simp [rightE, h1, h2, h3, h4]⟩
  have WR := Aside0.mk (fun W => r03Right_walk nm W)
  have h3' : 1 ≤ ino := by omega
  go_enter Try.func138, Try.ntmps138
  go_wp2_with (go_at_call 143; (with_reducible refine (WR.out _).mono ?_); rintro e w1 ⟨rfl, hb⟩; have HB1 := Aside0.mk (below_step (W := w.alloc (.cells #[.int .i64 sl, .int .i64 ino, .string nm] 132)) (below_alloc HB.out _) hb))
  go_ret
  exact ⟨by rw [E0.out]; rfl, HB1.out⟩
def bytesE (ino : Int) (nm : ByteArray) : List Int := leB ino 2 ++ packN nm
theorem rightE_parts {sl ino : Int} {nm : ByteArray} (h : rightE sl ino nm = true) : 0 ≤ sl ∧ sl < 16 ∧ 0 < ino ∧ ino ≤ 65535 ∧ rightN nm = true := by
  simp only [rightE, Bool.and_eq_true, decide_eq_true_eq] at h
  exact ⟨h.1.1.1.1, h.1.1.1.2, h.1.1.2, h.1.2, h.2⟩
theorem bytesE_length {ino : Int} {nm : ByteArray} (h : rightN nm = true) : (bytesE ino nm).length = 16 := by
  unfold bytesE
  rw [List.length_append, leB_length, packN_length (by have := (rightN_size h).2; omega)]
set_option maxHeartbeats 4000000 in
set_option maxRecDepth 100000 in
theorem rEBytes_walk (sl ino : Int) (nm : ByteArray) (w0 : World) (h : rightE sl ino nm = true) :
    Calls Try.prog 139 #[.agg #[.int .i64 sl, .int .i64 ino, .string nm]] w0 fun e w' => ∃ A c, e = .returned (.slice A 16 c) ∧ Kd.C (Kd.int .u8) w' A 16 (bytesE ino nm) ∧ Below w0.heap.size w0 w' := by
  obtain ⟨h1, h2, h3, h4, h5⟩ := rightE_parts h
  have hpl := packN_length (s := nm) (by have := (rightN_size h5).2; omega)
  have h16 := Aside0.mk (bytesE_length (ino := ino) h5)
  have WN : Aside0 (∀ W, Calls Try.prog 104 #[.int .i64 ino, .int .i64 2] W fun e w' => ∃ v : Value, e = .returned v ∧ Kd.R (Kd.int .u8) 5 w' W.heap.size (fun _ => True) v (leB ino 2) ∧ Below W.heap.size W w') := ⟨fun W => rB_walk ino 2 W (by omega) (by omega) (by omega)⟩
  have WP : Aside0 (∀ W, Calls Try.prog 144 #[.string nm] W fun e w' => ∃ A c, e = .returned (.slice A (packN nm).length c) ∧ Kd.C (Kd.int .u8) w' A (packN nm).length (packN nm) ∧ Below W.heap.size W w') := ⟨fun W => (rPack_walk nm W h5).mono fun e w' ⟨v, he, ho, hb⟩ => by
    obtain ⟨Ap, cp, rfl⟩ := Kd.R_slice ho
    exact ⟨Ap, cp, he, (Kd.R_reads' ho).2.2, hb⟩⟩
  have hp14 := Aside0.mk hpl
  clear hpl h h1 h2 h3 h4 h5
  go_enter Try.func139, Try.ntmps139
  go_wp2
  obtain ⟨w, hw⟩ : ∃ w, w = w0.alloc (.cells #[.int .i64 sl, .int .i64 ino, .string nm] 132) := ⟨_, rfl⟩
  skip
  rw [← hw]
  have HW := Aside0.mk hw
  have HB := Aside0.mk (Below.refl w.heap.size w)
  have k0 : w.cell? ⟨w0.heap.size, 0, none⟩ = some (.int .i64 sl) := by rw [hw]; go_simp
  have k1 : w.cell? ⟨w0.heap.size, 1, none⟩ = some (.int .i64 ino) := by rw [hw]; go_simp
  have k2 : w.cell? ⟨w0.heap.size, 2, none⟩ = some (.string nm) := by rw [hw]; go_simp
  have hlt0 : w0.heap.size < w.heap.size := by rw [hw]; simp
  clear hw
  have m1 := k1
  have m2 := k2
  have hb1 := HB.out
  go_region_held3 (fun W => W.cell? ⟨w0.heap.size, 1, none⟩ = some (.int .i64 ino) ∧ W.cell? ⟨w0.heap.size, 2, none⟩ = some (.string nm) ∧ Below w.heap.size w W) (first | (exact ⟨pw_cell_below hb19 k1, pw_cell_below hb19 k2, hb19⟩) | (go_split_ands; refine ⟨pw_cell_below hb5 (by assumption), pw_cell_below hb5 (by assumption), below_step (by assumption) hb5⟩) | (go_split_ands; refine ⟨(by assumption), (by assumption), pw_below_drewN (by assumption) _⟩) | (go_split_ands; refine ⟨pw_cell_below (below_alloc (Below.refl _ _) _) (by assumption), pw_cell_below (below_alloc (Below.refl _ _) _) (by assumption), below_alloc (by assumption) _⟩)) (first | (go_at_call 104; go_split_ands; (with_reducible refine (WN.out _).mono ?_); rintro e w5 ⟨v5, rfl, ho5_, hb5⟩; have ho5 := Kd.R_lower ho5_ (below_size (by assumption)); clear ho5_; obtain ⟨A5, c5, rfl⟩ := Kd.R_slice ho5) | (go_at_call 144; go_split_ands; (with_reducible refine (WP.out _).mono ?_); rintro e w6 ⟨A6, c6, rfl, hc6, hb5⟩; have hb6 := hb5) | (go_split_ands; (refine Kd.R_append_rows_step (Kd.int .u8) (w0 := w) w.heap.size (by rfl) (.tmp 5) (.tmp 8) 44 5 (.int .u8 0) 1 (by rfl) Try.underlying44 u8info rfl (by decide) (by omega) _ (leB ino 2) (packN nm) A6 (packN nm).length c6 (fun _ => True) (fun _ => False) (by rfl) (by rfl) ?aO ?aR (fun _ _ h => h) (fun _ h => h.elim) (fun _ _ => trivial) ?aB ?aS ?aL ?_); (case aO => first | exact Kd.R_below ho5 (by first | exact hb6 | exact below_undrew hb6) | exact Kd.R_drew (Kd.R_below ho5 hb6)); (case aR => first | exact hc6 | exact Kd.C_drew hc6); (case aB => assumption); (case aS => exact below_size (by assumption)); (case aL => rw [leB_length, hp14.out]; decide); intro v19 w19 ho19 hb19 hg_ hat_; clear hg_ hat_) | fail)
  obtain ⟨A, c, rfl⟩ := Kd.R_slice ho19
  have HC := Aside0.mk (Kd.R_reads' ho19).2.2
  have HX : Aside0 (Below w0.heap.size w0 w19) := ⟨by have := hb19; rw [HW.out] at this; exact below_step (W := w0.alloc _) (below_alloc (Below.refl _ _) _) this⟩
  clear ho19
  rw [show (leB ino 2 ++ packN nm).length = 16 from h16.out] at HC ⊢
  go_wp2
  go_ret
  exact ⟨A, _, rfl, by first | exact HC.out | exact Kd.C_drew HC.out | exact Kd.C_drewN HC.out _, by first | exact HX.out | exact below_drew1 HX.out | exact pw_below_drewN HX.out _⟩
end Go.Proofs.Ytdkbhbolkieeiaa.K
namespace Go.Proofs.Ytdkbhbolkieeiaa.K
open Go.RowKit Go.Proofs.YtdkbhbolkieeiaaW.PrintWords Go.Proofs.YtdkbhbolkieeiaaW.PrintLast Go.Proofs.YtdkbhbolkieeiaaW.PrintMore
set_option linter.unusedVariables false
set_option linter.unusedSimpArgs false
set_option maxRecDepth 100000 in
set_option maxHeartbeats 4000000 in
theorem rCheck_walk (a b c d : Int) (w : World) : Calls Try.prog 60 #[geoV a b c d] w fun e w' => e = .returned (.int .i64 (geoE a b c d)) ∧ w' = w.alloc (.cells #[.int .i64 a, .int .i64 b, .int .i64 c, .int .i64 d] 38) := by
  unfold geoV
  by_cases h1 : 1 ≤ a
  case neg =>
    have E0 : Aside0 (geoE a b c d = 1) := ⟨geoE_bad (fun h => by have := geoOk_parts h; omega)⟩
    go_enter Try.func60, Try.ntmps60
    go_wp2
    go_ret
    exact ⟨by rw [E0.out]; rfl, rfl⟩
  by_cases h2 : a ≤ 3
  case neg =>
    have E0 : Aside0 (geoE a b c d = 1) := ⟨geoE_bad (fun h => by have := geoOk_parts h; omega)⟩
    go_enter Try.func60, Try.ntmps60
    go_wp2
    go_ret
    exact ⟨by rw [E0.out]; rfl, rfl⟩
  by_cases h3 : 4 ≤ b
  case neg =>
    have E0 : Aside0 (geoE a b c d = 1) := ⟨geoE_bad (fun h => by have := geoOk_parts h; omega)⟩
    go_enter Try.func60, Try.ntmps60
    go_wp2
    go_ret
    exact ⟨by rw [E0.out]; rfl, rfl⟩
  by_cases h4 : b ≤ 24
  case neg =>
    have E0 : Aside0 (geoE a b c d = 1) := ⟨geoE_bad (fun h => by have := geoOk_parts h; omega)⟩
    go_enter Try.func60, Try.ntmps60
    go_wp2
    go_ret
    exact ⟨by rw [E0.out]; rfl, rfl⟩
  by_cases h5 : 1 ≤ c
  case neg =>
    have E0 : Aside0 (geoE a b c d = 1) := ⟨geoE_bad (fun h => by have := geoOk_parts h; omega)⟩
    go_enter Try.func60, Try.ntmps60
    go_wp2
    go_ret
    exact ⟨by rw [E0.out]; rfl, rfl⟩
  by_cases h6 : c ≤ 60
  case neg =>
    have E0 : Aside0 (geoE a b c d = 1) := ⟨geoE_bad (fun h => by have := geoOk_parts h; omega)⟩
    go_enter Try.func60, Try.ntmps60
    go_wp2
    go_ret
    exact ⟨by rw [E0.out]; rfl, rfl⟩
  by_cases h7 : 1 ≤ d
  case neg =>
    have E0 : Aside0 (geoE a b c d = 1) := ⟨geoE_bad (fun h => by have := geoOk_parts h; omega)⟩
    go_enter Try.func60, Try.ntmps60
    go_wp2
    go_ret
    exact ⟨by rw [E0.out]; rfl, rfl⟩
  by_cases h8 : d ≤ 64
  case neg =>
    have E0 : Aside0 (geoE a b c d = 1) := ⟨geoE_bad (fun h => by have := geoOk_parts h; omega)⟩
    go_enter Try.func60, Try.ntmps60
    go_wp2
    go_ret
    exact ⟨by rw [E0.out]; rfl, rfl⟩
  have E0 : Aside0 (geoE a b c d = 0) := ⟨geoE_ok (by simp [geoOk, win, *])⟩
  go_enter Try.func60, Try.ntmps60
  go_wp2
  go_ret
  exact ⟨by rw [E0.out]; rfl, rfl⟩
theorem rLayer_walk (a b c d : Int) (w : World) (hb0 : -1000000 ≤ b) (hb1 : b ≤ 1000000) (hc0 : -1000000 ≤ c) (hc1 : c ≤ 1000000) :
    Calls Try.prog 111 #[.agg #[.int .i64 a, .int .i64 b, .int .i64 c, .int .i64 d]] w fun e w' => e = .returned (.int .i64 (1 + b + c)) ∧ w' = w.alloc (.cells #[.int .i64 a, .int .i64 b, .int .i64 c, .int .i64 d] 38) := by
  go_enter Try.func111, Try.ntmps111
  go_wp2
  go_ret
  exact ⟨rfl, rfl⟩
set_option maxRecDepth 100000 in
theorem rTotal_walk (a b c d : Int) (w : World) :
    Calls Try.prog 80 #[geoV a b c d] w fun e w' => e = .returned (.int .i64 (geoT a b c d)) ∧ Below w.heap.size w w' := by
  have W1 : Aside0 (∀ W, Calls Try.prog 60 #[.agg #[.int .i64 a, .int .i64 b, .int .i64 c, .int .i64 d]] W fun e w' => e = .returned (.int .i64 (geoE a b c d)) ∧ w' = W.alloc (.cells #[.int .i64 a, .int .i64 b, .int .i64 c, .int .i64 d] 38)) := ⟨fun W => rCheck_walk a b c d W⟩
  unfold geoV
  by_cases hok : geoOk a b c d = true
  case neg =>
    have E1 : Aside0 (geoE a b c d = 1) := ⟨geoE_bad hok⟩
    have E0 : Aside0 (geoT a b c d = 0) := ⟨by unfold geoT; rw [if_neg hok]⟩
    clear hok
    go_enter Try.func80, Try.ntmps80
    go_wp2_with (go_at_call 60; (with_reducible refine (W1.out _).mono ?_); rintro e w' ⟨rfl, h_⟩; have h_ := h_.symm; subst h_; rw [E1.out])
    go_ret
    exact ⟨by rw [E0.out]; rfl, (by repeat (first | exact Below.refl _ _ | apply Below.drew | apply below_alloc))⟩
  have E1 : Aside0 (geoE a b c d = 0) := ⟨geoE_ok hok⟩
  have E0 : Aside0 (geoT a b c d = 1 + (a + 1) * (1 + b + c) + d) := ⟨by unfold geoT; rw [if_pos hok]⟩
  obtain ⟨⟨ha0, ha1⟩, ⟨hb0, hb1⟩, ⟨hc0, hc1⟩, hd⟩ := geoOk_parts hok
  have W2 := Aside0.mk (fun W => rLayer_walk a b c d W (by omega) (by omega) (by omega) (by omega))
  obtain ⟨m0, m1⟩ := small_log ha0 ha1 hb0 hb1 hc0 hc1
  have H1 : Aside0 (IntKind.i64.wrap (IntKind.i64.wrap (1 + IntKind.i64.wrap (IntKind.i64.wrap (a + 1) * (1 + b + c))) + d) = 1 + (a + 1) * (1 + b + c) + d) := ⟨by
    rw [show IntKind.i64.wrap (a + 1) = a + 1 by rw [IntKind.wrap_i64]; omega]
    generalize (a + 1) * (1 + b + c) = m at m0 m1 ⊢
    rw [IntKind.wrap_i64, IntKind.wrap_i64, IntKind.wrap_i64]; omega⟩
  clear hok m0 m1
  go_enter Try.func80, Try.ntmps80
  go_wp2_with (go_at_call 60; (with_reducible refine (W1.out _).mono ?_); rintro e w' ⟨rfl, h_⟩; have h_ := h_.symm; subst h_; rw [E1.out])
  go_region_held3 (fun W => W.cell? ⟨w.heap.size, 0, none⟩ = some (.int .i64 a) ∧ W.cell? ⟨w.heap.size, 1, none⟩ = some (.int .i64 b) ∧ W.cell? ⟨w.heap.size, 2, none⟩ = some (.int .i64 c) ∧ W.cell? ⟨w.heap.size, 3, none⟩ = some (.int .i64 d)) (first | go_keep | (refine ⟨pw_cell_below hb ?_, pw_cell_below hb ?_, pw_cell_below hb ?_, pw_cell_below hb ?_⟩ <;> go_keep)) (first | (go_at_call 111; (with_reducible refine (W2.out _).mono ?_); rintro e w' ⟨rfl, h_⟩; have h_ := h_.symm; subst h_))
  go_wp2
  go_ret
  exact ⟨by go_simp; rw [E0.out, ← H1.out], (by repeat (first | exact Below.refl _ _ | apply Below.drew | apply below_alloc))⟩
set_option maxRecDepth 100000 in
theorem rStart_walk (a b c d l : Int) (w : World) :
    Calls Try.prog 100 #[geoV a b c d, .int .i64 l] w fun e w' => e = .returned (.int .i64 (geoB a b c d l)) ∧ Below w.heap.size w w' := by
  have W1 : Aside0 (∀ W, Calls Try.prog 60 #[.agg #[.int .i64 a, .int .i64 b, .int .i64 c, .int .i64 d]] W fun e w' => e = .returned (.int .i64 (geoE a b c d)) ∧ w' = W.alloc (.cells #[.int .i64 a, .int .i64 b, .int .i64 c, .int .i64 d] 38)) := ⟨fun W => rCheck_walk a b c d W⟩
  unfold geoV
  by_cases hok : geoOk a b c d = true
  case neg =>
    have E1 : Aside0 (geoE a b c d = 1) := ⟨geoE_bad hok⟩
    have E0 : Aside0 (geoB a b c d l = -1) := ⟨geoB_bad (fun h => hok h.1)⟩
    clear hok
    go_enter Try.func100, Try.ntmps100
    go_wp2_with (go_at_call 60; (with_reducible refine (W1.out _).mono ?_); rintro e w' ⟨rfl, h_⟩; have h_ := h_.symm; subst h_; rw [E1.out])
    go_ret
    exact ⟨by rw [E0.out]; rfl, (by repeat (first | exact Below.refl _ _ | apply Below.drew | apply below_alloc))⟩
  have E1 : Aside0 (geoE a b c d = 0) := ⟨geoE_ok hok⟩
  by_cases hl : 0 ≤ l ∧ l ≤ a
  case neg =>
    have E0 : Aside0 (geoB a b c d l = -1) := ⟨geoB_bad (fun h => hl h.2)⟩
    clear hok
    by_cases hl1 : 0 ≤ l
    · have hl2 : a < l := by omega
      clear hl
      go_enter Try.func100, Try.ntmps100
      go_wp2_with (go_at_call 60; (with_reducible refine (W1.out _).mono ?_); rintro e w' ⟨rfl, h_⟩; have h_ := h_.symm; subst h_; rw [E1.out])
      go_ret
      exact ⟨by rw [E0.out]; rfl, (by repeat (first | exact Below.refl _ _ | apply Below.drew | apply below_alloc))⟩
    · clear hl
      go_enter Try.func100, Try.ntmps100
      go_wp2_with (go_at_call 60; (with_reducible refine (W1.out _).mono ?_); rintro e w' ⟨rfl, h_⟩; have h_ := h_.symm; subst h_; rw [E1.out])
      go_ret
      exact ⟨by rw [E0.out]; rfl, (by repeat (first | exact Below.refl _ _ | apply Below.drew | apply below_alloc))⟩
  obtain ⟨hl1, hl2⟩ := hl
  obtain ⟨⟨ha0, ha1⟩, ⟨hb0, hb1⟩, ⟨hc0, hc1⟩, hd⟩ := geoOk_parts hok
  have W2 := Aside0.mk (fun W => rLayer_walk a b c d W (by omega) (by omega) (by omega) (by omega))
  by_cases hl0 : l = 0
  · subst hl0
    have E0 : Aside0 (geoB a b c d 0 = IntKind.i64.wrap (1 + IntKind.i64.wrap (a * (1 + b + c)))) := ⟨by
      rw [geoB_zero hok]
      have : 0 ≤ a * (1 + b + c) ∧ a * (1 + b + c) ≤ 300 := by rcases (by omega : a = 1 ∨ a = 2 ∨ a = 3) with rfl | rfl | rfl <;> omega
      rw [IntKind.wrap_i64, IntKind.wrap_i64]; omega⟩
    clear hok
    go_enter Try.func100, Try.ntmps100
    go_wp2_with (go_at_call 60; (with_reducible refine (W1.out _).mono ?_); rintro e w' ⟨rfl, h_⟩; have h_ := h_.symm; subst h_; rw [E1.out])
    go_region_held3 (fun W => W.cell? ⟨w.heap.size, 0, none⟩ = some (.int .i64 a) ∧ W.cell? ⟨w.heap.size, 1, none⟩ = some (.int .i64 b) ∧ W.cell? ⟨w.heap.size, 2, none⟩ = some (.int .i64 c) ∧ W.cell? ⟨w.heap.size, 3, none⟩ = some (.int .i64 d)) (first | go_keep | (refine ⟨pw_cell_below hb ?_, pw_cell_below hb ?_, pw_cell_below hb ?_, pw_cell_below hb ?_⟩ <;> go_keep)) (first | (go_at_call 111; (with_reducible refine (W2.out _).mono ?_); rintro e w' ⟨rfl, h_⟩; have h_ := h_.symm; subst h_))
    go_wp2
    go_ret
    exact ⟨by go_simp; rw [E0.out], (by repeat (first | exact Below.refl _ _ | apply Below.drew | apply below_alloc))⟩
  · have hs : 0 ≤ (l - 1) * (1 + b + c) ∧ (l - 1) * (1 + b + c) ≤ 300 := by
      rcases (by omega : l = 1 ∨ l = 2 ∨ l = 3) with rfl | rfl | rfl <;> omega
    have E0 : Aside0 (geoB a b c d l = 1 + (l - 1) * (1 + b + c)) := ⟨geoB_pos hok (by omega) hl2⟩
    have hw1 : Aside0 (wrap64 ((l - 1) * (1 + b + c)) = (l - 1) * (1 + b + c)) := ⟨by unfold wrap64; omega⟩
    have hw2 : Aside0 (wrap64 (1 + (l - 1) * (1 + b + c)) = 1 + (l - 1) * (1 + b + c)) := ⟨by unfold wrap64; omega⟩
    have hlz : (l == 0) = false := by simp [hl0]
    clear hok hs
    go_enter Try.func100, Try.ntmps100
    go_wp2_with (first | (go_at_call 60; (with_reducible refine (W1.out _).mono ?_); rintro e w' ⟨rfl, h_⟩; have h_ := h_.symm; subst h_; rw [E1.out]) | (go_at_call 111; (with_reducible refine (W2.out _).mono ?_); rintro e w' ⟨rfl, h_⟩; have h_ := h_.symm; subst h_))
    go_ret
    exact ⟨by go_simp; rw [hw1.out, hw2.out, E0.out], (by repeat (first | exact Below.refl _ _ | apply Below.drew | apply below_alloc))⟩
set_option maxRecDepth 100000 in
theorem rLog_walk (a b c d : Int) (w : World) :
    Calls Try.prog 41 #[geoV a b c d] w fun e w' => e = .returned (.int .i64 (geoL a b c d)) ∧ Below w.heap.size w w' := by
  have W1 : Aside0 (∀ W, Calls Try.prog 60 #[.agg #[.int .i64 a, .int .i64 b, .int .i64 c, .int .i64 d]] W fun e w' => e = .returned (.int .i64 (geoE a b c d)) ∧ w' = W.alloc (.cells #[.int .i64 a, .int .i64 b, .int .i64 c, .int .i64 d] 38)) := ⟨fun W => rCheck_walk a b c d W⟩
  have W2 : Aside0 (∀ W, Calls Try.prog 80 #[.agg #[.int .i64 a, .int .i64 b, .int .i64 c, .int .i64 d]] W fun e w' => e = .returned (.int .i64 (geoT a b c d)) ∧ Below W.heap.size W w') := ⟨fun W => rTotal_walk a b c d W⟩
  unfold geoV
  by_cases hok : geoOk a b c d = true
  case neg =>
    have E1 : Aside0 (geoE a b c d = 1) := ⟨geoE_bad hok⟩
    have E0 : Aside0 (geoL a b c d = -1) := ⟨by unfold geoL; rw [if_neg hok]⟩
    clear hok
    go_enter Try.func41, Try.ntmps41
    go_wp2_with (go_at_call 60; (with_reducible refine (W1.out _).mono ?_); rintro e w' ⟨rfl, h_⟩; have h_ := h_.symm; subst h_; rw [E1.out])
    go_ret
    exact ⟨by rw [E0.out]; rfl, (by repeat (first | exact Below.refl _ _ | apply Below.drew | apply below_alloc))⟩
  have E1 : Aside0 (geoE a b c d = 0) := ⟨geoE_ok hok⟩
  have E0 : Aside0 (geoL a b c d = IntKind.i64.wrap (geoT a b c d - d)) := ⟨by
    obtain ⟨⟨ha0, ha1⟩, ⟨hb0, hb1⟩, ⟨hc0, hc1⟩, hd⟩ := geoOk_parts hok
    obtain ⟨m0, m1⟩ := small_log ha0 ha1 hb0 hb1 hc0 hc1
    unfold geoL geoT
    rw [if_pos hok, if_pos hok]
    generalize (a + 1) * (1 + b + c) = m at m0 m1 ⊢
    rw [IntKind.wrap_i64]; omega⟩
  clear hok
  go_enter Try.func41, Try.ntmps41
  go_wp2_with (go_at_call 60; (with_reducible refine (W1.out _).mono ?_); rintro e w' ⟨rfl, h_⟩; have h_ := h_.symm; subst h_; rw [E1.out])
  go_region_held3 (fun W => W.cell? ⟨w.heap.size, 0, none⟩ = some (.int .i64 a) ∧ W.cell? ⟨w.heap.size, 1, none⟩ = some (.int .i64 b) ∧ W.cell? ⟨w.heap.size, 2, none⟩ = some (.int .i64 c) ∧ W.cell? ⟨w.heap.size, 3, none⟩ = some (.int .i64 d)) (first | go_keep | (refine ⟨pw_cell_below hb ?_, pw_cell_below hb ?_, pw_cell_below hb ?_, pw_cell_below hb ?_⟩ <;> go_keep)) (first | (go_at_call 80; (with_reducible refine (W2.out _).mono ?_); rintro e w4 ⟨rfl, hb⟩))
  go_wp2
  go_ret
  exact ⟨by go_simp; rw [E0.out], below_step (by repeat (first | exact Below.refl _ _ | apply Below.drew | apply below_alloc)) hb⟩
end Go.Proofs.Ytdkbhbolkieeiaa.K
namespace Go.Proofs.Ytdkbhbolkieeiaa.K
open Go.RowKit Go.Proofs.YtdkbhbolkieeiaaW.PrintWords Go.Proofs.YtdkbhbolkieeiaaW.PrintLast Go.Proofs.YtdkbhbolkieeiaaW.PrintMore
set_option linter.unusedVariables false
set_option linter.unusedSimpArgs false
theorem boolinfo : (Try.prog.info? 4).map (fun i => (i.zero, i.size, i.bytes)) = some (some (.bool false), 1, 1) := by kernel_rfl
theorem or_bit0 : ∀ b0 b1 b2 b3 b4 b5 b6 b7 : Bool, b0 = false → bits .or .u8 (byte8 b0 b1 b2 b3 b4 b5 b6 b7) (2 ^ 0 % 256) = byte8 b0 b1 b2 b3 b4 b5 b6 b7 + 2 ^ 0 := by decide +kernel
theorem or_bit1 : ∀ b0 b1 b2 b3 b4 b5 b6 b7 : Bool, b1 = false → bits .or .u8 (byte8 b0 b1 b2 b3 b4 b5 b6 b7) (2 ^ 1 % 256) = byte8 b0 b1 b2 b3 b4 b5 b6 b7 + 2 ^ 1 := by decide +kernel
theorem or_bit2 : ∀ b0 b1 b2 b3 b4 b5 b6 b7 : Bool, b2 = false → bits .or .u8 (byte8 b0 b1 b2 b3 b4 b5 b6 b7) (2 ^ 2 % 256) = byte8 b0 b1 b2 b3 b4 b5 b6 b7 + 2 ^ 2 := by decide +kernel
theorem or_bit3 : ∀ b0 b1 b2 b3 b4 b5 b6 b7 : Bool, b3 = false → bits .or .u8 (byte8 b0 b1 b2 b3 b4 b5 b6 b7) (2 ^ 3 % 256) = byte8 b0 b1 b2 b3 b4 b5 b6 b7 + 2 ^ 3 := by decide +kernel
theorem or_bit4 : ∀ b0 b1 b2 b3 b4 b5 b6 b7 : Bool, b4 = false → bits .or .u8 (byte8 b0 b1 b2 b3 b4 b5 b6 b7) (2 ^ 4 % 256) = byte8 b0 b1 b2 b3 b4 b5 b6 b7 + 2 ^ 4 := by decide +kernel
theorem or_bit5 : ∀ b0 b1 b2 b3 b4 b5 b6 b7 : Bool, b5 = false → bits .or .u8 (byte8 b0 b1 b2 b3 b4 b5 b6 b7) (2 ^ 5 % 256) = byte8 b0 b1 b2 b3 b4 b5 b6 b7 + 2 ^ 5 := by decide +kernel
theorem or_bit6 : ∀ b0 b1 b2 b3 b4 b5 b6 b7 : Bool, b6 = false → bits .or .u8 (byte8 b0 b1 b2 b3 b4 b5 b6 b7) (2 ^ 6 % 256) = byte8 b0 b1 b2 b3 b4 b5 b6 b7 + 2 ^ 6 := by decide +kernel
theorem or_bit7 : ∀ b0 b1 b2 b3 b4 b5 b6 b7 : Bool, b7 = false → bits .or .u8 (byte8 b0 b1 b2 b3 b4 b5 b6 b7) (2 ^ 7 % 256) = byte8 b0 b1 b2 b3 b4 b5 b6 b7 + 2 ^ 7 := by decide +kernel
theorem or_bit (p : Nat → Bool) {k : Nat} (h : k < 8) (hp : p k = false) : bits .or .u8 (byteOf p) (2 ^ k % 256) = byteOf p + 2 ^ k := by
  rw [byteOf_8]
  rcases lt8 h with rfl | rfl | rfl | rfl | rfl | rfl | rfl | rfl
  · exact or_bit0 _ _ _ _ _ _ _ _ hp
  · exact or_bit1 _ _ _ _ _ _ _ _ hp
  · exact or_bit2 _ _ _ _ _ _ _ _ hp
  · exact or_bit3 _ _ _ _ _ _ _ _ hp
  · exact or_bit4 _ _ _ _ _ _ _ _ hp
  · exact or_bit5 _ _ _ _ _ _ _ _ hp
  · exact or_bit6 _ _ _ _ _ _ _ _ hp
  · exact or_bit7 _ _ _ _ _ _ _ _ hp
theorem eqB_walk (A1 : Option Addr) (c1 : Nat) (a : List Bool) (A2 : Option Addr) (c2 : Nat) (b : List Bool) (w : World) (h1 : Kd.C Kd.bool w A1 a.length a) (h2 : Kd.C Kd.bool w A2 b.length b) (ha : a.length < 140737488355328) :
    Calls Try.prog 19 #[.slice A1 a.length c1, .slice A2 b.length c2] w fun e w' => e = .returned (.bool (decide (a = b))) ∧ Drawn0 w w' := by
  have HA := Aside0.mk h1
  have HB := Aside0.mk h2
  clear h1 h2
  by_cases hl : a.length = b.length
  case neg =>
    have E0 : Aside0 (decide (a = b) = false) := ⟨by simp; intro h; exact hl (by rw [h])⟩
    have hb : ((a.length : Int) != b.length) = true := by simp; omega
    clear hl
    go_enter Try.func19, Try.ntmps19
    go_wp2
    go_ret
    exact ⟨ret_b (by rw [E0.out]), Drawn0.refl _⟩
  obtain ⟨n, hn⟩ : ∃ n, a.length = n := ⟨_, rfl⟩
  have hnb : b.length = n := by omega
  rw [hn] at HA ha ⊢
  rw [hnb] at HB ⊢
  have HN := Aside0.mk hn
  have HNb := Aside0.mk hnb
  clear hl hn hnb
  go_enter Try.func19, Try.ntmps19
  go_wp2
  go_loopw [13] (fun v5 w' => ∃ m : Nat, v5 = .int .i64 m ∧ Aside0 (m ≤ n) ∧ Aside0 (a.take m = b.take m) ∧ Aside0 (∃ d, w' = w.drewN d)) (fun i _ => n - (intOf i).toNat)
  case atStart => exact ⟨0, rfl, ⟨Nat.zero_le _⟩, ⟨rfl⟩, ⟨0, rfl⟩⟩
  case round =>
    obtain ⟨m, rfl, hm, ht, ⟨d, rfl⟩⟩ := hrel
    have hm' := hm.out
    by_cases hlt : m < n
    · obtain ⟨ad1, rfl, hx⟩ := Kd.at_bool HA.out (m : Int) (by omega) (by omega)
      obtain ⟨ad2, rfl, hy⟩ := Kd.at_bool HB.out (m : Int) (by omega) (by omega)
      have la := HN.out
      have lb := HNb.out
      have hta : a.take (m + 1) = a.take m ++ [a[m]] := List.take_succ_eq_append_getElem (by omega)
      have htb : b.take (m + 1) = b.take m ++ [b[m]] := List.take_succ_eq_append_getElem (by omega)
      rw [rdOf_get (by omega), Int.toNat_natCast] at hx hy
      obtain ⟨x, hxx⟩ : ∃ x, x = a[m] := ⟨_, rfl⟩
      obtain ⟨y, hyy⟩ : ∃ y, y = b[m] := ⟨_, rfl⟩
      rw [← hxx] at hx hta
      rw [← hyy] at hy htb
      by_cases hxy : x = y
      · have hT : Aside0 (a.take (m + 1) = b.take (m + 1)) := ⟨by rw [hta, htb, ht.out, hxy]⟩
        clear hta htb hxx hyy la lb
        subst hxy
        cases x
        all_goals
          go_wp2
          go_quiet (fail)
          go_wp2
          exact ⟨⟨m + 1, rfl, ⟨by omega⟩, hT, ⟨_, rfl⟩⟩, by simp [intOf]; omega⟩
      · have hT : Aside0 (decide (a = b) = false) := ⟨by simp; intro h; subst h; exact hxy (hxx.trans hyy.symm)⟩
        clear hta htb hxx hyy la lb
        cases x <;> cases y
        · exact absurd rfl hxy
        · clear hxy
          go_wp2
          go_quiet (fail)
          go_wp2
          go_ret
          exact ⟨ret_b (by rw [hT.out]), (by repeat (first | exact Drawn0.refl _ | apply Drawn0.step))⟩
        · clear hxy
          go_wp2
          go_quiet (fail)
          go_wp2
          go_ret
          exact ⟨ret_b (by rw [hT.out]), (by repeat (first | exact Drawn0.refl _ | apply Drawn0.step))⟩
        · exact absurd rfl hxy
    · have hkm : m = n := by omega
      subst hkm
      have E1 : Aside0 (decide (a = b) = true) := ⟨by have := ht.out; rw [List.take_of_length_le (by have := HN.out; omega), List.take_of_length_le (by have := HNb.out; omega)] at this; simp [this]⟩
      go_wp2
      go_ret
      exact ⟨ret_b (by rw [E1.out]), ⟨⟨_, rfl⟩⟩⟩
theorem and_one (y : Int) (h0 : 0 ≤ y) (h1 : y < 256) : bits .and .u8 y 1 = y % 2 := by
  have := bits_mask .u8 8 (by decide) wraps_u8 1 (by decide) y h0 h1
  simpa using this
theorem bit_get {l : List Int} (hb : Byts l) {m : Nat} (h : m / 8 < l.length) : (bits .and .u8 (l[m / 8] / 2 ^ (m % 8)) 1 == 1) = bmBit l m := by
  obtain ⟨h0, h1⟩ := hb l[m / 8] (List.getElem_mem _)
  have hp : (0 : Int) < 2 ^ (m % 8) := Int.pow_pos (by decide)
  have hle := Int.ediv_le_self (2 ^ (m % 8)) h0
  rw [and_one _ (Int.ediv_nonneg h0 (Int.le_of_lt hp)) (by omega)]
  unfold bmBit bitB
  simp [List.getElem?_eq_getElem h]
end Go.Proofs.Ytdkbhbolkieeiaa.K
namespace Go.Proofs.Ytdkbhbolkieeiaa.K
open Go.RowKit Go.Proofs.YtdkbhbolkieeiaaW.PrintWords Go.Proofs.YtdkbhbolkieeiaaW.PrintLast Go.Proofs.YtdkbhbolkieeiaaW.PrintMore
set_option linter.unusedVariables false
set_option linter.unusedSimpArgs false
set_option maxRecDepth 100000 in
theorem rPut10_walk (A : Option Addr) (c : Nat) (u : List Bool) (w : World) (hr : Kd.C Kd.bool w A u.length u) (hl : u.length < 140737488355328) :
    Calls Try.prog 132 #[.slice A u.length c] w fun e w' => ∃ v : Value, e = .returned v ∧ Kd.R (Kd.int .u8) 5 w' w.heap.size (fun _ => True) v (bmPut u) ∧ Below w.heap.size w w' := by
  have HR := Aside0.mk hr
  have HB := Aside0.mk (Below.refl w.heap.size w)
  obtain ⟨n, hn⟩ : ∃ n, n = min u.length 512 := ⟨_, rfl⟩
  have hn0 : n ≤ u.length := by omega
  have hn1 : n ≤ 512 := by omega
  have hn2 : n = 512 ∨ u.length = n := by omega
  have E0 : Aside0 (bmPut u = bmP u n) := ⟨by unfold bmPut; rw [← hn]⟩
  have HN := Aside0.mk hn2
  clear hr hn hn2
  go_enter Try.func132, Try.ntmps132
  go_wp2_with (first | ((with_reducible refine gate_dst (N := 7) rfl ?_); refine Kd.R_make (Kd.int .u8) _ 5 rfl (N := 7) rfl 44 _ _ rfl (64) rfl rfl Try.underlying44 (.int .u8 0) 1 u8info rfl (by decide) (by omega) 0 (ok := fun _ => True) (okp := fun _ => True) rfl (fun _ hk => hk) trivial (by omega) (by omega) (Below.refl _ _) (Nat.le_refl _) ?_; intro v1 w1 ho hb hg_ hnew_; clear hg_ hnew_; obtain ⟨g1, c1, rfl, hg1, hl1, _, _⟩ := Kd.R_form ho (by simp); have HG1 := Aside0.mk (Nat.le_trans (below_size (by repeat (first | (with_reducible first | exact HB.out | apply below_alloc | apply pw_below_drewN | apply below_drew1) | exact HB.out))) hg1); clear hg1 hl1; have HO1 := Aside0.mk (Kd.R_lower ho (below_size (by repeat (first | (with_reducible first | exact HB.out | apply below_alloc | apply pw_below_drewN | apply below_drew1) | exact HB.out)))); have n1_ : Aside0 (Below w.heap.size w w1) := ⟨below_step (by repeat (first | (with_reducible first | exact HB.out | apply below_alloc | apply pw_below_drewN | apply below_drew1) | exact HB.out)) hb⟩; clear HB; have HB := n1_; clear n1_; clear ho hb))
  go_loopw [4, 5, 6] (fun v4 v5 v6 w' => ∃ m : Nat, v4 = .int .i64 m ∧ Aside0 (m ≤ n) ∧ Aside0 (Kd.R (Kd.int .u8) 5 w' w.heap.size (fun _ => True) (.slice (some ⟨g1, 0, none⟩) 64 c1) (bmP u m)) ∧ Aside0 (Below w.heap.size w w')) (fun i _ _ _ => n - (intOf i).toNat)
  case atStart => exact ⟨0, rfl, ⟨Nat.zero_le _⟩, ⟨by rw [bmP_zero]; exact HO1.out⟩, HB⟩
  case round =>
    clear HO1 HB
    obtain ⟨m, rfl, hm, HO1, HB⟩ := hrel
    have hm' := hm.out
    by_cases hlt : m < n
    · obtain ⟨ad, rfl, hx⟩ := Kd.at_bool (Kd.C_below HR.out HB.out) (m : Int) (by omega) (by omega)
      rw [rdOf_get (by omega), Int.toNat_natCast] at hx
      have hug : u.getD m false = u[m] := by simp [List.getElem?_eq_getElem (show m < u.length by omega)]
      cases hu : u[m] with
      | false =>
        rw [hu] at hx
        have HE : Aside0 (bmP u (m + 1) = bmP u m) := ⟨bmP_no (by rw [hug, hu])⟩
        clear hug hu
        go_wp2
        exact ⟨⟨m + 1, rfl, ⟨by omega⟩, ⟨by rw [HE.out]; exact HO1.out⟩, HB⟩, by simp [intOf]; omega⟩
      | true =>
        rw [hu] at hx
        have hl64 := bmP_length u m
        have hE := bmP_yes (u := u) (m := m) (by omega) (by rw [hug, hu])
        obtain ⟨hc, hf⟩ := Kd.R_celln 0 HO1.out ((m / 8 : Nat) : Int) (by omega) (by omega)
        have hre : rdOf 0 (bmP u m) ((m / 8 : Nat) : Int) = (bmP u m)[m / 8]'(by omega) := rdOf_get (by omega)
        have hrg := bmP_byts u m ((bmP u m)[m / 8]'(by omega)) (List.getElem_mem _)
        rw [hre, Int.toNat_natCast] at hc
        rw [Int.toNat_natCast] at hf
        have HP := Kd.R_putg HO1.out ((m / 8 : Nat) : Int) ((bmP u m)[m / 8]'(by omega) + 2 ^ (m % 8))
        have hsum : (bmP u m)[m / 8]'(by omega) + 2 ^ (m % 8) < 256 := by
          have h1 := bmP_byts u (m + 1) ((bmP u (m + 1))[m / 8]'(by rw [bmP_length]; omega)) (List.getElem_mem _)
          have h2 : (bmP u (m + 1))[m / 8]'(by rw [bmP_length]; omega) = (bmP u m)[m / 8]'(by omega) + 2 ^ (m % 8) := by simp only [hE]; rw [List.getElem_set_self]
          rw [h2] at h1
          exact h1.2
        rw [Int.toNat_natCast, ← hE] at HP
        obtain ⟨x, hxx⟩ : ∃ x, x = (bmP u m)[m / 8]'(by omega) := ⟨_, rfl⟩
        rw [← hxx] at hc hrg HP hsum
        obtain ⟨hx0, hx1⟩ := hrg
        have HP' := Aside0.mk HP.1
        have HS := Aside0.mk hsum
        clear HP hE hre hug hu hxx hsum
        obtain ⟨wo, hwo⟩ : ∃ wo : World, wo = wr := ⟨_, rfl⟩
        subst hwo
        go_wp2
        go_loop [5, 6] (fun v5 v6 => ∃ (r : Nat) (b : Int), v5 = .int .i64 b ∧ v6 = .int .i64 r ∧ Aside0 (r ≤ m % 8) ∧ Aside0 (b = 2 ^ r)) (fun _ i => m % 8 - (intOf i).toNat)
        case atStart => exact ⟨0, 1, rfl, rfl, ⟨Nat.zero_le _⟩, ⟨rfl⟩⟩
        case round =>
          obtain ⟨r, b, rfl, rfl, hr8, hbv⟩ := hrel
          have hr' := hr8.out
          have hb1 : 0 ≤ b ∧ b ≤ 128 := by rw [hbv.out]; rcases (by omega : r = 0 ∨ r = 1 ∨ r = 2 ∨ r = 3 ∨ r = 4 ∨ r = 5 ∨ r = 6 ∨ r = 7) with h | h | h | h | h | h | h | h <;> subst h <;> decide
          obtain ⟨hb0, hb1⟩ := hb1
          by_cases hrt : r < m % 8
          · go_wp2
            exact ⟨⟨r + 1, _, rfl, rfl, ⟨by omega⟩, ⟨by rw [Int.pow_succ, hbv.out]⟩⟩, by simp [intOf]; omega⟩
          · have hre : r = m % 8 := by omega
            have hbe : b = 2 ^ (m % 8) := by rw [hbv.out, hre]
            have hsum : x + b < 256 := by rw [hbe]; exact HS.out
            rw [← hbe] at HP'
            clear hre hbe hbv
            go_wp2
            exact ⟨⟨m + 1, rfl, ⟨by omega⟩, HP', ⟨below_set HB.out HG1.out⟩⟩, by simp [intOf]; omega⟩
    · have hmn : m = n := by omega
      subst hmn
      have hg : m = 512 ∨ u.length = m := HN.out
      rcases hg with hg | hg
      · subst hg
        go_wp2
        all_goals
          go_ret
          exact ⟨_, rfl, by rw [E0.out]; exact HO1.out, HB.out⟩
      · have hg2 : u.length ≤ m := by omega
        clear hg
        go_wp2
        go_ret
        exact ⟨_, rfl, by rw [E0.out]; exact HO1.out, HB.out⟩
end Go.Proofs.Ytdkbhbolkieeiaa.K
