/- Walks and plain laws of this claim, merged: R01, R03b, K03c, R03c, K08, K08b, KS07, KS08, KEqArr, K07, K07b, K07c, K07d. -/
import Derived.Test.YtdknolnoimpgeaaFA
import Derived.Test.YtdknolnoimpgeaaKC
import Derived.Laws.StructEq
import Derived.Deep.RegionHeld3
import Derived.Great.BuildSlice
import Derived.Deep.WholeRow
namespace Go.Proofs.Ytdknolnoimpgeaa.K
open Go.RowKit Go.Proofs.YtdknolnoimpgeaaW.PrintWords Go.Proofs.YtdknolnoimpgeaaW.PrintLast Go.Proofs.YtdknolnoimpgeaaW.PrintMore
set_option linter.unusedVariables false
set_option linter.unusedSimpArgs false
theorem rW_walk (s : Int) (w : World) : Calls Try.prog 139 #[.int .i64 s] w fun e w' => e = .returned (.bool (numW s)) ∧ Drawn0 w w' := by
  unfold numW
  by_cases h1 : s = 1
  · subst h1; go_enter Try.func139, Try.ntmps139
    go_wp2; go_ret; exact ⟨rfl, Drawn0.refl _⟩
  by_cases h2 : s = 2
  · subst h2; go_enter Try.func139, Try.ntmps139
    go_wp2; go_ret; exact ⟨rfl, Drawn0.refl _⟩
  have b1 : (s == 1) = false := by simpa using h1
  have b2 : (s == 2) = false := by simpa using h2
  clear h1 h2
  go_enter Try.func139, Try.ntmps139
  go_wp2; go_ret; exact ⟨ret_b (by simp [b1, b2]), Drawn0.refl _⟩
theorem rR_walk (n s : Int) (w : World) : Calls Try.prog 157 #[.int .i64 n, .int .i64 s] w fun e w' => e = .returned (.bool (numR n s)) ∧ Drawn0 w w' := by
  by_cases hw : numW s = true
  case neg =>
    have hw' := Bool.eq_false_iff.2 hw
    have e0 : numR n s = false := by unfold numR; rw [hw']; rfl
    have E0 := Aside0.mk e0; have HW := Aside0.mk hw'; clear e0 hw hw'
    go_enter Try.func157, Try.ntmps157
    go_wp2_with (go_at_call 139; refine (rW_walk _ _).mono ?_; rintro e w2 ⟨rfl, ⟨nd, rfl⟩⟩; rw [HW.out])
    go_ret; exact ⟨ret_b E0.out.symm, ⟨⟨nd, rfl⟩⟩⟩
  obtain ⟨k, rfl, hk1, hk4⟩ := numW_nat hw
  have HW := Aside0.mk hw
  by_cases h0 : 0 ≤ n
  case neg =>
    have e0 : numR n k = false := by unfold numR; simp [h0]
    have E0 := Aside0.mk e0
    clear e0 hw
    go_enter Try.func157, Try.ntmps157
    go_wp2_with (go_at_call 139; refine (rW_walk _ _).mono ?_; rintro e w2 ⟨rfl, ⟨nd, rfl⟩⟩; rw [HW.out])
    go_ret; exact ⟨ret_b E0.out.symm, ⟨⟨nd, rfl⟩⟩⟩
  have e0 : numR n k = decide (n < 2 ^ (8 * k)) := by unfold numR; simp [hw, h0]
  have E0 := Aside0.mk e0
  clear e0 hw
  go_enter Try.func157, Try.ntmps157
  go_wp2_with (go_at_call 139; refine (rW_walk _ _).mono ?_; rintro e w2 ⟨rfl, ⟨nd, rfl⟩⟩; rw [HW.out])
  go_loop [5, 6] (fun v5 v6 => ∃ (m : Nat) (t : Int), v5 = .int .i64 t ∧ v6 = .int .i64 m ∧ Aside0 (m ≤ k) ∧ Aside0 (t = 2 ^ (8 * m))) (fun _ i => k - (intOf i).toNat)
  case atStart => exact ⟨0, 1, rfl, rfl, ⟨Nat.zero_le _⟩, ⟨rfl⟩⟩
  case round =>
    obtain ⟨m, t, rfl, rfl, hm, ht⟩ := hrel
    have hm' := hm.out
    by_cases hlt : m < k
    · have hb : 0 ≤ t ∧ t ≤ 16777216 := by rw [ht.out]; rcases (by omega : m = 0 ∨ m = 1 ∨ m = 2 ∨ m = 3) with rfl | rfl | rfl | rfl <;> decide
      obtain ⟨hb0, hb1⟩ := hb
      go_wp2
      exact ⟨⟨m + 1, t * 256, rfl, rfl, ⟨by omega⟩, ⟨by rw [pow_split, ← ht.out, Int.mul_comm]⟩⟩, by simp [intOf]; omega⟩
    · have hkm : m = k := by omega
      subst hkm
      go_wp2
      go_ret
      exact ⟨ret_b (by rw [E0.out, ← ht.out]), ⟨⟨_, rfl⟩⟩⟩
theorem rB_walk (a : Int) (k : Nat) (w : World) (h0 : 0 ≤ a) (h1 : a < 4294967296) (hk : k ≤ 8) : Calls Try.prog 137 #[.int .i64 a, .int .i64 k] w fun e w' => ∃ v : Value, e = .returned v ∧ Kd.R (Kd.int .u8) 5 w' w.heap.size (fun _ => True) v (leB a k) ∧ Below w.heap.size w w' := by
  have HB := Aside0.mk (Below.refl w.heap.size w)
  go_enter Try.func137, Try.ntmps137
  go_wp2_with (((with_reducible refine gate_dst (N := 7) rfl ?_); refine Kd.R_lit (Kd.int .u8) _ 5 ?hg (N := 7) ?hd (xs := ([] : List Int)) (inner := []) (ok := fun _ => True) (okp := fun _ => True) ?hr ?hp (fun _ hk => hk) trivial (Below.refl _ _) (Nat.le_refl _) (by simp) ?_; (case hd => rfl); (case hg => rfl); (case hr => first | (go_simp; done) | (go_simp; rfl)); (case hp => exact (Reps.none _ _)); intro v114 w3 ho4 hb hg_ hnew_; clear hg_ hnew_; have n0_ := Aside0.mk (Kd.R_lower ho4 (below_size (by repeat (first | (with_reducible first | exact HB.out | apply below_alloc | apply pw_below_drewN | apply below_drew1) | exact HB.out)))); have n1_ := Aside0.mk (below_step (by repeat (first | (with_reducible first | exact HB.out | apply below_alloc | apply pw_below_drewN | apply below_drew1) | exact HB.out)) hb); clear HB; have HO1 := n0_; have HB := n1_; clear n0_ n1_; clear hb ho4))
  go_loopw [0, 5, 6] (fun v0 v5 v6 w' => ∃ (m : Nat) (q : Int), v0 = .int .i64 q ∧ v6 = .int .i64 m ∧ Aside0 (m ≤ k) ∧ Aside0 (q = a / 2 ^ (8 * m)) ∧ Aside0 (Kd.R (Kd.int .u8) 5 w' w.heap.size (fun _ => True) v5 (leB a m)) ∧ Aside0 (Below w.heap.size w w')) (fun _ _ i _ => k - (intOf i).toNat)
  case atStart => exact ⟨0, a, rfl, rfl, ⟨Nat.zero_le _⟩, ⟨by simp⟩, HO1, HB⟩
  case round =>
    clear HO1 HB
    obtain ⟨m, q, rfl, rfl, hm, hq, HO1, HB⟩ := hrel
    have hm' := hm.out
    by_cases hlt : m < k
    · have hq0 : 0 ≤ q := by rw [hq.out]; exact Int.ediv_nonneg h0 (Int.le_of_lt (pow_pos2 _))
      have hq1 : q < 4294967296 := by have := Int.ediv_le_self (2 ^ (8 * m)) h0; rw [← hq.out] at this; omega
      have hlen : Aside0 ((leB a m).length = m) := ⟨leB_length a m⟩
      go_wp2_with (((with_reducible refine gate_builtin (b := .append) (xs := #[.tmp 13, .tmp 17]) rfl ?_); at_builtin; refine Kd.R_append (Kd.int .u8) (w0 := w) w.heap.size rfl (.tmp 13) (.tmp 17) 24 5 (.int .u8 0) 1 rfl Try.underlying24 u8info rfl (by decide) (by omega) u5 (leB a m) (q % 256) [.int .u8 (q % 256)] (fun _ => True) (fun _ => False) rfl rfl ?aP (fun _ hk => hk.elim) ?aF ?aO ?aB ?aS ?aL ?_; (case aP => exact rfl); (case aB => exact (by repeat (first | (with_reducible first | exact HB.out | apply below_alloc | apply pw_below_drewN | apply below_drew1) | exact HB.out))); (case aF => exact (fun _ _ => trivial)); (case aO => exact (by (with_reducible repeat (first | apply Kd.R_alloc | apply Kd.R_drewN | apply Kd.R_drew)); exact HO1.out)); (case aS => exact (below_size (by repeat (first | (with_reducible first | exact HB.out | apply below_alloc | apply pw_below_drewN | apply below_drew1) | exact HB.out)))); (case aL => have := hlen.out; omega); intro v2 w11 ho hb hg hat; have n0_ := Aside0.mk (hb); have n1_ := Aside0.mk (ho); clear HB; clear HO1; have HB := n0_; have HO2 := n1_; clear n0_ n1_; clear ho hb hg hat))
      exact ⟨⟨m + 1, q / 256, rfl, rfl, ⟨by omega⟩, ⟨by rw [hq.out, div_step]⟩, ⟨by rw [leB_succ, ← hq.out]; exact HO2.out⟩, HB⟩, by simp [intOf]; omega⟩
    · have hkm : m = k := by omega
      subst hkm
      go_wp2
      go_ret
      exact ⟨_, rfl, HO1.out, HB.out⟩
set_option maxRecDepth 100000 in
theorem rP_walk (A : Option Addr) (c : Nat) (l : List Int) (n s : Int) (w : World) (hr : Kd.C (Kd.int .u8) w A l.length l) (hc : l.length ≤ c) (hl : l.length < 140737488355320) :
    Calls Try.prog 150 #[.slice A l.length c, .int .i64 n, .int .i64 s] w fun e w' => ∃ v : Value, e = .returned v ∧ Kd.R (Kd.int .u8) 5 w' w.heap.size (fun _ => True) v (numP l n s) ∧ Below w.heap.size w w' := by
  have HR := Aside0.mk hr
  have HC := Aside0.mk hc
  have HL := Aside0.mk hl
  have HB := Aside0.mk (Below.refl w.heap.size w)
  clear hr hc hl
  by_cases hi : numR n s = true
  case neg =>
    have HRi := Aside0.mk (Bool.eq_false_iff.2 hi)
    have E0 : Aside0 (numP l n s = l) := ⟨by unfold numP; rw [if_neg hi]⟩
    clear hi
    go_enter Try.func150, Try.ntmps150
    go_wp2_with (first | ((with_reducible refine gate_dst (N := 8) rfl ?_); refine Kd.R_lit (Kd.int .u8) _ 5 ?hg (N := 8) ?hd (xs := ([] : List Int)) (inner := []) (ok := fun _ => True) (okp := fun _ => True) ?hr ?hp (fun _ hk => hk) trivial (Below.refl _ _) (Nat.le_refl _) (by simp) ?_; (case hd => rfl); (case hg => rfl); (case hr => first | (go_simp; done) | (go_simp; rfl)); (case hp => exact (Reps.none _ _)); intro v114 w3 ho4 hb hg_ hnew_; clear hg_ hnew_; have n0_ := Aside0.mk (Kd.R_lower ho4 (below_size (by repeat (first | (with_reducible first | exact HB.out | apply below_alloc | apply pw_below_drewN | apply below_drew1) | exact HB.out)))); have n1_ := Aside0.mk (below_step (by repeat (first | (with_reducible first | exact HB.out | apply below_alloc | apply pw_below_drewN | apply below_drew1) | exact HB.out)) hb); clear HB; have HO1 := n0_; have HB := n1_; clear n0_ n1_; clear hb ho4) | ((with_reducible refine gate_builtin (b := .append) (xs := #[.tmp 8, .tmp 9]) rfl ?_); at_builtin; refine Kd.R_append_rows (Kd.int .u8) (w0 := w) w.heap.size rfl (.tmp 8) (.tmp 9) 24 5 (.int .u8 0) 1 rfl Try.underlying24 u8info rfl (by decide) (by omega) v114 [] l _ _ _ (fun _ => True) (fun _ => False) rfl rfl ?aO ?aR (fun _ _ h => h) (fun _ h => h.elim) ?aF ?aB ?aS ?aL ?_; (case aR => exact (Kd.C_below HR.out (by repeat (first | (with_reducible first | exact HB.out | apply below_alloc | apply pw_below_drewN | apply below_drew1) | exact HB.out)))); (case aB => exact (by repeat (first | (with_reducible first | exact HB.out | apply below_alloc | apply pw_below_drewN | apply below_drew1) | exact HB.out))); (case aF => exact (fun _ _ => trivial)); (case aO => exact (by (with_reducible repeat (first | apply Kd.R_alloc | apply Kd.R_drewN | apply Kd.R_drew)); exact HO1.out)); (case aS => exact (below_size (by repeat (first | (with_reducible first | exact HB.out | apply below_alloc | apply pw_below_drewN | apply below_drew1) | exact HB.out)))); (case aL => have := HL.out; simp; omega); intro v1 w11 ho hb hg hat; have n0_ := Aside0.mk (hb); have n1_ := Aside0.mk (ho); clear HB; clear HO1; have HB := n0_; have HO2 := n1_; clear n0_ n1_; clear ho hb hg hat) | (go_at_call 157; refine (rR_walk _ _ _).mono ?_; rintro e w2 ⟨rfl, ⟨nd, rfl⟩⟩; rw [HRi.out]))
    go_ret
    exact ⟨_, rfl, by rw [E0.out]; exact (by (with_reducible repeat (first | apply Kd.R_alloc | apply Kd.R_drewN | apply Kd.R_drew)); exact HO2.out), (by repeat (first | (with_reducible first | exact HB.out | apply below_alloc | apply pw_below_drewN | apply below_drew1) | exact HB.out))⟩
  have HRi := Aside0.mk hi
  obtain ⟨hw, hn0, hn1⟩ := numR_parts hi
  obtain ⟨k, rfl, hk1, hk4⟩ := numW_nat hw
  have E0 : Aside0 (numP l n k = l ++ leB n k) := ⟨by unfold numP; rw [if_pos hi, Int.toNat_natCast]⟩
  rw [Int.toNat_natCast] at hn1
  replace hn1 : n < 4294967296 := by rcases (by omega : k = 1 ∨ k = 2 ∨ k = 3 ∨ k = 4) with rfl | rfl | rfl | rfl <;> simp at hn1 <;> omega
  clear hi hw
  go_enter Try.func150, Try.ntmps150
  go_wp2_with (first | ((with_reducible refine gate_dst (N := 8) rfl ?_); refine Kd.R_lit (Kd.int .u8) _ 5 ?hg (N := 8) ?hd (xs := ([] : List Int)) (inner := []) (ok := fun _ => True) (okp := fun _ => True) ?hr ?hp (fun _ hk => hk) trivial (Below.refl _ _) (Nat.le_refl _) (by simp) ?_; (case hd => rfl); (case hg => rfl); (case hr => first | (go_simp; done) | (go_simp; rfl)); (case hp => exact (Reps.none _ _)); intro v114 w3 ho4 hb hg_ hnew_; clear hg_ hnew_; have n0_ := Aside0.mk (Kd.R_lower ho4 (below_size (by repeat (first | (with_reducible first | exact HB.out | apply below_alloc | apply pw_below_drewN | apply below_drew1) | exact HB.out)))); have n1_ := Aside0.mk (below_step (by repeat (first | (with_reducible first | exact HB.out | apply below_alloc | apply pw_below_drewN | apply below_drew1) | exact HB.out)) hb); clear HB; have HO1 := n0_; have HB := n1_; clear n0_ n1_; clear hb ho4) | ((with_reducible refine gate_builtin (b := .append) (xs := #[.tmp 8, .tmp 9]) rfl ?_); at_builtin; refine Kd.R_append_rows (Kd.int .u8) (w0 := w) w.heap.size rfl (.tmp 8) (.tmp 9) 24 5 (.int .u8 0) 1 rfl Try.underlying24 u8info rfl (by decide) (by omega) v114 [] l _ _ _ (fun _ => True) (fun _ => False) rfl rfl ?aO ?aR (fun _ _ h => h) (fun _ h => h.elim) ?aF ?aB ?aS ?aL ?_; (case aR => exact (Kd.C_below HR.out (by repeat (first | (with_reducible first | exact HB.out | apply below_alloc | apply pw_below_drewN | apply below_drew1) | exact HB.out)))); (case aB => exact (by repeat (first | (with_reducible first | exact HB.out | apply below_alloc | apply pw_below_drewN | apply below_drew1) | exact HB.out))); (case aF => exact (fun _ _ => trivial)); (case aO => exact (by (with_reducible repeat (first | apply Kd.R_alloc | apply Kd.R_drewN | apply Kd.R_drew)); exact HO1.out)); (case aS => exact (below_size (by repeat (first | (with_reducible first | exact HB.out | apply below_alloc | apply pw_below_drewN | apply below_drew1) | exact HB.out)))); (case aL => have := HL.out; simp; omega); intro v1 w11 ho hb hg hat; have n0_ := Aside0.mk (hb); have n1_ := Aside0.mk (ho); clear HB; clear HO1; have HB := n0_; have HO2 := n1_; clear n0_ n1_; clear ho hb hg hat) | (go_at_call 157; refine (rR_walk _ _ _).mono ?_; rintro e w2 ⟨rfl, ⟨nd, rfl⟩⟩; rw [HRi.out]) | (go_at_call 137; refine (rB_walk n k _ hn0 hn1 (by omega)).mono ?_; rintro e w3 ⟨v3, rfl, ho, hb⟩; obtain ⟨A3, c3, rfl⟩ := Kd.R_slice ho; have hr3 := (Kd.R_reads' ho).2.2; have hc3 := (Kd.R_reads' ho).2.1; have HR3 := Aside0.mk hr3; have n0_ : Aside0 (Kd.R (Kd.int .u8) 5 w3 w.heap.size (fun _ => True) v1 l) := ⟨Kd.R_below (by (with_reducible repeat (first | apply Kd.R_alloc | apply Kd.R_drewN | apply Kd.R_drew)); exact HO2.out) hb⟩; clear HO2; have HO2 := n0_; clear n0_; have n1_ : Aside0 (Below w.heap.size w w3) := ⟨below_step (by repeat (first | (with_reducible first | exact HB.out | apply below_alloc | apply pw_below_drewN | apply below_drew1) | exact HB.out)) hb⟩; clear HB; have HB := n1_; clear n1_; clear ho hb hr3) | ((with_reducible refine gate_builtin (b := .append) (xs := #[.tmp 14, .tmp 17]) rfl ?_); at_builtin; refine Kd.R_append_rows (Kd.int .u8) (w0 := w) w.heap.size rfl (.tmp 14) (.tmp 17) 24 5 (.int .u8 0) 1 rfl Try.underlying24 u8info rfl (by decide) (by omega) v1 l (leB n k) _ _ _ (fun _ => True) (fun _ => False) rfl rfl ?aO ?aR (fun _ _ h => h) (fun _ h => h.elim) ?aF ?aB ?aS ?aL ?_; (case aR => exact (by first | exact HR3.out | (refine Kd.C_drewN ?_ _; exact HR3.out) | (refine Kd.C_alloc ?_ _; exact HR3.out))); (case aB => exact (by repeat (first | (with_reducible first | exact HB.out | apply below_alloc | apply pw_below_drewN | apply below_drew1) | exact HB.out))); (case aF => exact (fun _ _ => trivial)); (case aO => exact (by (with_reducible repeat (first | apply Kd.R_alloc | apply Kd.R_drewN | apply Kd.R_drew)); exact HO2.out)); (case aS => exact (below_size (by repeat (first | (with_reducible first | exact HB.out | apply below_alloc | apply pw_below_drewN | apply below_drew1) | exact HB.out)))); (case aL => have := HL.out; rw [leB_length]; omega); intro v4 w11 ho hb hg hat; have n0_ := Aside0.mk (hb); have n1_ := Aside0.mk (ho); clear HB; clear HO2; have HB := n0_; have HO4 := n1_; clear n0_ n1_; clear ho hb hg hat))
  go_ret
  exact ⟨_, rfl, by rw [E0.out]; exact HO4.out, HB.out⟩
theorem rSame_walk (A1 : Option Addr) (c1 : Nat) (a : List Int) (A2 : Option Addr) (c2 : Nat) (b : List Int) (w : World) (h1 : Kd.C (Kd.int .u8) w A1 a.length a) (h2 : Kd.C (Kd.int .u8) w A2 b.length b) (ha : a.length < 140737488355328) :
    Calls Try.prog 92 #[.slice A1 a.length c1, .slice A2 b.length c2] w fun e w' => e = .returned (.bool (decide (a = b))) ∧ Drawn0 w w' := by
  have HA := Aside0.mk h1
  have HB := Aside0.mk h2
  clear h1 h2
  by_cases hl : a.length = b.length
  case neg =>
    have E0 : Aside0 (decide (a = b) = false) := ⟨by simp; intro h; exact hl (by rw [h])⟩
    have hb : ((a.length : Int) != b.length) = true := by simp; omega
    clear hl
    go_enter Try.func92, Try.ntmps92
    go_wp2
    go_ret
    exact ⟨ret_b (by rw [E0.out]), Drawn0.refl _⟩
  obtain ⟨n, hn⟩ : ∃ n, a.length = n := ⟨_, rfl⟩
  have hnb : b.length = n := by omega
  rw [hn] at HA ha ⊢
  rw [hnb] at HB ⊢
  have HN := Aside0.mk hn
  have HNb := Aside0.mk hnb
  clear hl hn hnb
  go_enter Try.func92, Try.ntmps92
  go_wp2
  go_loopw [5] (fun v5 w' => ∃ m : Nat, v5 = .int .i64 m ∧ Aside0 (m ≤ n) ∧ Aside0 (a.take m = b.take m) ∧ Aside0 (∃ d, w' = w.drewN d)) (fun i _ => n - (intOf i).toNat)
  case atStart => exact ⟨0, rfl, ⟨Nat.zero_le _⟩, ⟨rfl⟩, ⟨0, rfl⟩⟩
  case round =>
    obtain ⟨m, rfl, hm, ht, ⟨d, rfl⟩⟩ := hrel
    have hm' := hm.out
    by_cases hlt : m < n
    · obtain ⟨ad1, rfl, hx⟩ := Kd.at_int HA.out (m : Int) (by omega) (by omega)
      obtain ⟨ad2, rfl, hy⟩ := Kd.at_int HB.out (m : Int) (by omega) (by omega)
      have la := HN.out
      have lb := HNb.out
      have hxe : rd a (m : Int) = a[m] := by simp [rd, List.getElem?_eq_getElem (show m < a.length by omega)]
      have hye : rd b (m : Int) = b[m] := by simp [rd, List.getElem?_eq_getElem (show m < b.length by omega)]
      have hta : a.take (m + 1) = a.take m ++ [a[m]] := List.take_succ_eq_append_getElem (by omega)
      have htb : b.take (m + 1) = b.take m ++ [b[m]] := List.take_succ_eq_append_getElem (by omega)
      rw [hxe, Int.toNat_natCast] at hx
      rw [hye, Int.toNat_natCast] at hy
      obtain ⟨x, hxx⟩ : ∃ x, x = a[m] := ⟨_, rfl⟩
      obtain ⟨y, hyy⟩ : ∃ y, y = b[m] := ⟨_, rfl⟩
      rw [← hxx] at hx hta
      rw [← hyy] at hy htb
      by_cases hxy : x = y
      · have hT : Aside0 (a.take (m + 1) = b.take (m + 1)) := ⟨by rw [hta, htb, ht.out, hxy]⟩
        have hB : (x != y) = false := by simp [hxy]
        clear hxe hye hta htb hxx hyy hxy la lb
        go_wp2
        go_quiet (fail)
        go_wp2
        exact ⟨⟨m + 1, rfl, ⟨by omega⟩, hT, ⟨_, rfl⟩⟩, by simp [intOf]; omega⟩
      · have hT : Aside0 (decide (a = b) = false) := ⟨by simp; intro h; subst h; exact hxy (hxx.trans hyy.symm)⟩
        have hB : (x != y) = true := by simp [hxy]
        clear hxe hye hta htb hxx hyy hxy la lb
        go_wp2
        go_quiet (fail)
        go_wp2
        go_ret
        exact ⟨ret_b (by rw [hT.out]), (by repeat (first | exact Drawn0.refl _ | apply Drawn0.step))⟩
    · have hkm : m = n := by omega
      subst hkm
      have E1 : Aside0 (decide (a = b) = true) := ⟨by have := ht.out; rw [List.take_of_length_le (by have := HN.out; omega), List.take_of_length_le (by have := HNb.out; omega)] at this; simp [this]⟩
      go_wp2
      go_ret
      exact ⟨ret_b (by rw [E1.out]), ⟨⟨_, rfl⟩⟩⟩
theorem rG_walk (A : Option Addr) (c : Nat) (l : List Int) (i s : Int) (w : World) (hr : Kd.C (Kd.int .u8) w A l.length l) (hl : l.length < 140737488355320) (hb : Byts l) :
    Calls Try.prog 99 #[.slice A l.length c, .int .i64 i, .int .i64 s] w fun e w' => e = .returned (.tuple #[.int .i64 (numG l i s).1, .bool (numG l i s).2]) ∧ Drawn0 w w' := by
  have HR := Aside0.mk hr
  clear hr
  rcases numT_cases l i s with ⟨hw, ht⟩ | ⟨k, rfl, hk1, hk4, hw, ⟨h0, ht⟩ | ⟨j, rfl, ⟨h1, ht⟩ | ⟨h1, h2, ht⟩ | ⟨h1, ht⟩⟩⟩
  · have HW := Aside0.mk hw
    have E0 : Aside0 (numG l i s = (0, false)) := ⟨by unfold numG; rw [ht]; rfl⟩
    clear hw ht
    go_enter Try.func99, Try.ntmps99
    go_wp2_with (go_at_call 139; refine (rW_walk _ _).mono ?_; rintro e w2 ⟨rfl, ⟨nd, rfl⟩⟩; rw [HW.out])
    go_ret2; exact ⟨by rw [E0.out]; rfl, (by repeat (first | exact Drawn0.refl _ | apply Drawn0.step))⟩
  · have HW := Aside0.mk hw
    have E0 : Aside0 (numG l i k = (0, false)) := ⟨by unfold numG; rw [ht]; rfl⟩
    clear hw ht
    go_enter Try.func99, Try.ntmps99
    go_wp2_with (go_at_call 139; refine (rW_walk _ _).mono ?_; rintro e w2 ⟨rfl, ⟨nd, rfl⟩⟩; rw [HW.out])
    go_ret2; exact ⟨by rw [E0.out]; rfl, (by repeat (first | exact Drawn0.refl _ | apply Drawn0.step))⟩
  · have HW := Aside0.mk hw
    have E0 : Aside0 (numG l j k = (0, false)) := ⟨by unfold numG; rw [ht]; rfl⟩
    clear hw ht
    go_enter Try.func99, Try.ntmps99
    go_wp2_with (go_at_call 139; refine (rW_walk _ _).mono ?_; rintro e w2 ⟨rfl, ⟨nd, rfl⟩⟩; rw [HW.out])
    go_ret2; exact ⟨by rw [E0.out]; rfl, (by repeat (first | exact Drawn0.refl _ | apply Drawn0.step))⟩
  · have HW := Aside0.mk hw
    have E0 : Aside0 (numG l j k = (0, false)) := ⟨by unfold numG; rw [ht]; rfl⟩
    clear hw ht
    go_enter Try.func99, Try.ntmps99
    go_wp2_with (go_at_call 139; refine (rW_walk _ _).mono ?_; rintro e w2 ⟨rfl, ⟨nd, rfl⟩⟩; rw [HW.out])
    go_ret2; exact ⟨by rw [E0.out]; rfl, (by repeat (first | exact Drawn0.refl _ | apply Drawn0.step))⟩
  · have HW := Aside0.mk hw
    obtain ⟨ys, hys⟩ : ∃ ys, ys = (l.drop j).take k := ⟨_, rfl⟩
    have HY : Aside0 (ys.length = k) := ⟨by rw [hys]; simp; omega⟩
    have HBy : Aside0 (Byts ys) := ⟨by rw [hys]; exact (hb.drop _).take _⟩
    have HG : Aside0 (∀ m (h : m < k), l[j + m]'(by omega) = ys[m]'(by have := HY.out; omega)) := ⟨fun m h => by simp [hys]⟩
    have E0 : Aside0 (numG l j k = (leN ys, true)) := ⟨by unfold numG; rw [if_pos ht, hys]; simp⟩
    clear hw ht hys hb
    go_enter Try.func99, Try.ntmps99
    go_wp2_with (go_at_call 139; refine (rW_walk _ _).mono ?_; rintro e w2 ⟨rfl, ⟨nd, rfl⟩⟩; rw [HW.out])
    go_loop [8, 9] (fun v8 v9 => ∃ (m : Nat) (n : Int), v8 = .int .i64 n ∧ v9 = .int .i64 ((m : Int) - 1) ∧ Aside0 (m ≤ k) ∧ Aside0 (n = leN (ys.drop m))) (fun _ i => (intOf i + 1).toNat)
    case atStart => exact ⟨k, 0, rfl, rfl, ⟨Nat.le_refl _⟩, ⟨by rw [List.drop_eq_nil_of_le (by have := HY.out; omega)]; rfl⟩⟩
    case round =>
      obtain ⟨m, n, rfl, rfl, hm, hn⟩ := hrel
      have hm' := hm.out
      rcases m with _ | m
      · go_wp2
        go_ret2
        exact ⟨by rw [E0.out, hn.out]; rfl, (by repeat (first | exact Drawn0.refl _ | apply Drawn0.step))⟩
      · obtain ⟨ad, rfl, hx⟩ := Kd.at_int HR.out ((j + m : Nat) : Int) (by omega) (by omega)
        have hy := HY.out
        have hxe : rd l ((j + m : Nat) : Int) = l[j + m] := rd_get (by omega)
        have hg := HG.out m (by omega)
        have hbd := leN_bound (ys.drop (m + 1)) (HBy.out.drop _)
        rw [← hn.out] at hbd
        have hxb := HBy.out ys[m] (List.getElem_mem _)
        have hsn : leN (ys.drop m) = ys[m] + 256 * n := by rw [List.drop_eq_getElem_cons (by omega), leN, hn.out]
        rw [hxe, Int.toNat_natCast, hg] at hx
        obtain ⟨x, hxx⟩ : ∃ x, x = ys[m] := ⟨_, rfl⟩
        rw [← hxx] at hx hsn hxb
        have hn0 := hbd.1
        have hn1 : n < 16777216 := by
          have h2 := hbd.2
          rw [List.length_drop, hy] at h2
          rcases (by omega : k - (m + 1) = 0 ∨ k - (m + 1) = 1 ∨ k - (m + 1) = 2 ∨ k - (m + 1) = 3) with h | h | h | h <;> rw [h] at h2 <;> simp at h2 <;> omega
        obtain ⟨hx0, hx1⟩ := hxb
        have HS : Aside0 (n * 256 + x = leN (ys.drop m)) := ⟨by rw [hsn]; omega⟩
        clear hbd hxe hg hsn hxx hy
        go_wp2
        exact ⟨⟨m, _, rfl, rfl, ⟨by omega⟩, HS⟩, by simp [intOf]⟩
end Go.Proofs.Ytdknolnoimpgeaa.K
namespace Go.Proofs.Ytdknolnoimpgeaa.K
open Go.RowKit Go.Shelf Go.Lib Go.Proofs.YtdknolnoimpgeaaW.PrintWords Go.Proofs.YtdknolnoimpgeaaW.PrintLast Go.Proofs.YtdknolnoimpgeaaW.PrintMore
set_option linter.unusedVariables false
set_option linter.unusedSimpArgs false
theorem pack_nil (s : ByteArray) (w : World) (hs : rightN s = false) :
    Calls Try.prog 110 #[.string s] w fun e w' => e = .returned (.slice none 0 0) ∧ Below w.heap.size w w' := by
  have HB := Aside0.mk (Below.refl w.heap.size w)
  have WR := Aside0.mk (fun W => right_walk s W)
  rw [hs] at WR
  clear hs
  go_enter Try.func110, Try.ntmps110
  go_wp2_with (go_at_call 114; (with_reducible refine (WR.out _).mono ?_); rintro e w1 ⟨rfl, hb⟩; have n1_ : Aside0 (Below w.heap.size w w1) := ⟨below_step (by repeat (first | (with_reducible first | exact HB.out | apply below_alloc | apply pw_below_drewN | apply below_drew1) | exact HB.out)) hb⟩; clear HB; have HB := n1_; clear n1_; clear hb)
  go_ret
  exact ⟨rfl, HB.out⟩
theorem rPack_nil (s : ByteArray) (w : World) (hs : rightN s = false) :
    Calls Try.prog 140 #[.string s] w fun e w' => e = .returned (.slice none 0 0) ∧ Below w.heap.size w w' := by
  have HB := Aside0.mk (Below.refl w.heap.size w)
  have WR := Aside0.mk (fun W => rRight_walk s W)
  rw [hs] at WR
  clear hs
  go_enter Try.func140, Try.ntmps140
  go_wp2_with (go_at_call 115; (with_reducible refine (WR.out _).mono ?_); rintro e w1 ⟨rfl, hb⟩; have n1_ : Aside0 (Below w.heap.size w w1) := ⟨below_step (by repeat (first | (with_reducible first | exact HB.out | apply below_alloc | apply pw_below_drewN | apply below_drew1) | exact HB.out)) hb⟩; clear HB; have HB := n1_; clear n1_; clear hb)
  go_ret
  exact ⟨rfl, HB.out⟩
set_option maxRecDepth 100000 in
theorem rPack_walk (s : ByteArray) (w : World) (hs : rightN s = true) :
    Calls Try.prog 140 #[.string s] w fun e w' => ∃ v : Value, e = .returned v ∧ Kd.R (Kd.int .u8) 5 w' w.heap.size (fun _ => True) v (packN s) ∧ Below w.heap.size w w' := by
  have hsz := (rightN_size hs).2
  have HB := Aside0.mk (Below.refl w.heap.size w)
  have WR := Aside0.mk (fun W => rRight_walk s W)
  rw [hs] at WR
  obtain ⟨T, hT⟩ : ∃ T, T = sB s ++ List.replicate (13 - s.size) (0 : Int) := ⟨_, rfl⟩
  have hTl : Aside0 (T.length = 13) := ⟨by rw [hT, List.length_append, sB_length, List.length_replicate]; omega⟩
  have hTP : Aside0 (packN s = (s.size : Int) :: T) := ⟨by rw [hT]; rfl⟩
  have hTs : Aside0 (∀ m (h : m < s.size), T[m]? = some ((s[m]'h).toNat : Int)) := ⟨fun m h => by
    rw [hT, List.getElem?_append_left (by rw [sB_length]; exact h)]
    unfold sB
    rw [List.getElem?_map, Array.getElem?_toList, Array.getElem?_eq_getElem (show m < s.data.size from h)]
    rfl⟩
  have hTz : Aside0 (∀ m, s.size ≤ m → m < 13 → T[m]? = some 0) := ⟨fun m h h2 => by
    rw [hT, List.getElem?_append_right (by rw [sB_length]; exact h), sB_length, List.getElem?_replicate, if_pos (by omega)]⟩
  clear hs hT
  go_enter Try.func140, Try.ntmps140
  go_wp2_with (first | (go_at_call 115; (with_reducible refine (WR.out _).mono ?_); rintro e w1 ⟨rfl, hb⟩; have n1_ : Aside0 (Below w.heap.size w w1) := ⟨below_step (by repeat (first | (with_reducible first | exact HB.out | apply below_alloc | apply pw_below_drewN | apply below_drew1) | exact HB.out)) hb⟩; clear HB; have HB := n1_; clear n1_; clear hb) | ((with_reducible refine gate_dst (N := 11) rfl ?_); refine Kd.R_lit (Kd.int .u8) _ 5 ?hg (N := 11) ?hd (xs := ([(s.size : Int)] : List (Int))) (inner := [.int .u8 (s.size : Int)]) (ok := fun _ => True) (okp := fun _ => True) ?hr ?hp (fun _ hk => hk) trivial (Below.refl _ _) (Nat.le_refl _) (by simp) ?_; (case hd => rfl); (case hg => rfl); (case hr => first | (go_simp; done) | (go_simp; rfl)); (case hp => exact (Reps.one (show Kd.M (Kd.int .u8) _ _ _ (s.size : Int) [.int .u8 (s.size : Int)] from rfl) (Reps.none _ _))); intro v114 w3 ho4 hb hg_ hnew_; clear hg_ hnew_; have n0_ := Aside0.mk (Kd.R_lower ho4 (below_size (by repeat (first | (with_reducible first | exact HB.out | apply below_alloc | apply pw_below_drewN | apply below_drew1) | exact HB.out)))); have n1_ := Aside0.mk (below_step (by repeat (first | (with_reducible first | exact HB.out | apply below_alloc | apply pw_below_drewN | apply below_drew1) | exact HB.out)) hb); clear HB; have HO1 := n0_; have HB := n1_; clear n0_ n1_; clear hb ho4))
  have HO0 : Aside0 (Kd.R (Kd.int .u8) 5 w3 w.heap.size (fun _ => True) v114 ((s.size : Int) :: T.take 0)) := ⟨HO1.out⟩
  clear HO1
  go_loopw [3, 4] (fun v3 v4 w' => ∃ m : Nat, v4 = .int .i64 m ∧ Aside0 (m ≤ 13) ∧ Aside0 (Kd.R (Kd.int .u8) 5 w' w.heap.size (fun _ => True) v3 ((s.size : Int) :: T.take m)) ∧ Aside0 (Below w.heap.size w w')) (fun _ i _ => 13 - (intOf i).toNat)
  case atStart => exact ⟨0, rfl, ⟨by omega⟩, HO0, HB⟩
  case round =>
    clear HO0 HB
    obtain ⟨m, rfl, hm, HO1, HB⟩ := hrel
    have hm' := hm.out
    by_cases hlt : m < 13
    · have hlen : Aside0 (((s.size : Int) :: T.take m).length ≤ 14) := ⟨by have := hTl.out; simp; omega⟩
      by_cases hms : m < s.size
      · have hx := hTs.out m hms
        obtain ⟨x, hxx⟩ : ∃ x : Int, x = ((s[m]'hms).toNat : Int) := ⟨_, rfl⟩
        have hsnoc : Aside0 ((s.size : Int) :: T.take (m + 1) = ((s.size : Int) :: T.take m) ++ [x]) := ⟨by
          have hml : m < T.length := by rw [hTl.out]; exact hlt
          rw [List.take_succ_eq_append_getElem hml, List.cons_append]
          rw [List.getElem?_eq_getElem hml] at hx
          rw [Option.some.inj hx, hxx]⟩
        have HXX := Aside0.mk hxx
        clear hx
        go_wp2_with (((with_reducible refine gate_builtin (b := .append) (xs := #[.tmp 20, .tmp 24]) rfl ?_); at_builtin; refine Kd.R_append (Kd.int .u8) (w0 := w) w.heap.size rfl (.tmp 20) (.tmp 24) 24 5 (.int .u8 0) 1 rfl Try.underlying24 u8info rfl (by decide) (by omega) _ ((s.size : Int) :: T.take m) ((s[m]'hms).toNat : Int) [.int .u8 ((s[m]'hms).toNat : Int)] (fun _ => True) (fun _ => False) rfl rfl ?aP (fun _ hk => hk.elim) ?aF ?aO ?aB ?aS ?aL ?_; (case aP => exact rfl); (case aB => exact (by repeat (first | (with_reducible first | exact HB.out | apply below_alloc | apply pw_below_drewN | apply below_drew1) | exact HB.out))); (case aF => exact (fun _ _ => trivial)); (case aO => exact (by (with_reducible repeat (first | apply Kd.R_alloc | apply Kd.R_drewN | apply Kd.R_drew)); exact HO1.out)); (case aS => exact (below_size (by repeat (first | (with_reducible first | exact HB.out | apply below_alloc | apply pw_below_drewN | apply below_drew1) | exact HB.out)))); (case aL => have := hlen.out; omega); intro v9 w11 ho hb hg hat; have n0_ := Aside0.mk (hb); have n1_ := Aside0.mk (ho); clear HB; clear HO1; have HB := n0_; have HO2 := n1_; clear n0_ n1_; clear ho hb hg hat))
        exact ⟨⟨m + 1, rfl, ⟨by omega⟩, ⟨by rw [hsnoc.out, HXX.out]; exact HO2.out⟩, HB⟩, by simp [intOf]; omega⟩
      · have hx := hTz.out m (by omega) hlt
        have hsnoc : Aside0 ((s.size : Int) :: T.take (m + 1) = ((s.size : Int) :: T.take m) ++ [0]) := ⟨by
          have hml : m < T.length := by rw [hTl.out]; exact hlt
          rw [List.take_succ_eq_append_getElem hml, List.cons_append]
          rw [List.getElem?_eq_getElem hml] at hx
          rw [Option.some.inj hx]⟩
        have hge : s.size ≤ m := by omega
        clear hx hms
        go_wp2_with (((with_reducible refine gate_builtin (b := .append) (xs := #[.tmp 26, .tmp 27]) rfl ?_); at_builtin; refine Kd.R_append (Kd.int .u8) (w0 := w) w.heap.size rfl (.tmp 26) (.tmp 27) 24 5 (.int .u8 0) 1 rfl Try.underlying24 u8info rfl (by decide) (by omega) _ ((s.size : Int) :: T.take m) 0 [.int .u8 0] (fun _ => True) (fun _ => False) rfl rfl ?aP (fun _ hk => hk.elim) ?aF ?aO ?aB ?aS ?aL ?_; (case aP => exact rfl); (case aB => exact (by repeat (first | (with_reducible first | exact HB.out | apply below_alloc | apply pw_below_drewN | apply below_drew1) | exact HB.out))); (case aF => exact (fun _ _ => trivial)); (case aO => exact (by (with_reducible repeat (first | apply Kd.R_alloc | apply Kd.R_drewN | apply Kd.R_drew)); exact HO1.out)); (case aS => exact (below_size (by repeat (first | (with_reducible first | exact HB.out | apply below_alloc | apply pw_below_drewN | apply below_drew1) | exact HB.out)))); (case aL => have := hlen.out; omega); intro v9 w11 ho hb hg hat; have n0_ := Aside0.mk (hb); have n1_ := Aside0.mk (ho); clear HB; clear HO1; have HB := n0_; have HO2 := n1_; clear n0_ n1_; clear ho hb hg hat))
        exact ⟨⟨m + 1, rfl, ⟨by omega⟩, ⟨by rw [hsnoc.out]; exact HO2.out⟩, HB⟩, by simp [intOf]; omega⟩
    · have hkm : m = 13 := by omega
      subst hkm
      go_wp2
      go_ret
      refine ⟨_, rfl, ?_, HB.out⟩
      have := HO1.out
      rw [List.take_of_length_le (by rw [hTl.out]; exact Nat.le_refl _)] at this
      rw [hTP.out]
      exact this
end Go.Proofs.Ytdknolnoimpgeaa.K
namespace Go.Proofs.Ytdknolnoimpgeaa.K
open Go.RowKit Go.Shelf Go.Lib Go.Proofs.YtdknolnoimpgeaaW.PrintWords Go.Proofs.YtdknolnoimpgeaaW.PrintLast Go.Proofs.YtdknolnoimpgeaaW.PrintMore
set_option linter.unusedVariables false
set_option linter.unusedSimpArgs false
theorem conv_str (w : World) (ad : Addr) (cap : Nat) (xs : List Int) (hb : Byts xs) (hc : ∀ j (hj : j < xs.length), w.cell? (ad.add j) = some (.int .u8 xs[j])) : (convert 24 9 (.slice (some ad) xs.length cap)).run Try.prog w = .ok (.string (strOfNums xs)) w := by
  have := run_convert_bytes_back (P := Try.prog) w 24 9 5 ad cap (xs.map fun n => UInt8.ofNat n.toNat) Try.underlying24 Try.underlying5 Try.underlying9 (fun j hj => by
    rw [List.length_map] at hj
    rw [hc j hj, List.getElem_map]
    have := hb xs[j] (List.getElem_mem hj)
    congr 2
    rw [UInt8.toNat_ofNat']
    omega)
  rw [List.length_map] at this
  exact this
/-- What name.Unpack gives of bytes. -/
def unpackN (l : List Int) : ByteArray × Bool :=
  let s := strOfNums ((l.drop 1).take (l.headD 0).toNat)
  if l.length = 14 ∧ l.headD 0 ≤ 12 ∧ rightN s = true ∧ packN s = l then (s, true) else (ByteArray.empty, false)
theorem packN_byts {s : ByteArray} (h : s.size ≤ 12) : Byts (packN s) := by
  intro x hx
  unfold packN at hx
  rcases List.mem_cons.1 hx with rfl | hx
  · omega
  rcases List.mem_append.1 hx with hx | hx
  · unfold sB at hx
    obtain ⟨b, _, rfl⟩ := List.mem_map.1 hx
    have := b.toNat_lt
    omega
  · rw [(List.mem_replicate.1 hx).2]; omega
theorem add_succ (ad : Addr) (j : Nat) : (ad.add 1).add j = ad.add (j + 1) := by
  unfold Addr.add
  by_cases h : j = 0
  · subst h; simp
  · simp [h]; omega
set_option maxRecDepth 100000 in
theorem unpack_walk (A : Option Addr) (c : Nat) (l : List Int) (w : World) (hr : Kd.C (Kd.int .u8) w A l.length l) (hb : Byts l) (hcap : l.length ≤ c) :
    Calls Try.prog 112 #[.slice A l.length c] w fun e w' => e = .returned (.tuple #[.string (unpackN l).1, .bool (unpackN l).2]) ∧ Below w.heap.size w w' := by
  have HR := Aside0.mk hr
  have HB := Aside0.mk (Below.refl w.heap.size w)
  by_cases hl : l.length = 14
  case neg =>
    have E0 : Aside0 (unpackN l = (ByteArray.empty, false)) := ⟨by unfold unpackN; simp [hl]⟩
    have h14 : ((l.length : Int) != 14) = true := by simp; omega
    clear hl hr
    go_enter Try.func112, Try.ntmps112
    go_wp2
    go_ret2
    exact ⟨by rw [E0.out]; rfl, (by repeat (first | (with_reducible first | exact HB.out | apply below_alloc | apply pw_below_drewN | apply below_drew1) | exact HB.out))⟩
  match l, hl with
  | n :: r, hl =>
    have hn0 := hb n (by simp)
    obtain ⟨ad, rfl, hx⟩ := Kd.at_int hr 0 (by simp) (by omega)
    have x0 : w.cell? ad = some (.int .u8 n) := hx
    have hcell : ∀ W, Kd.C (Kd.int .u8) W (some ad) (n :: r).length (n :: r) → ∀ j (hj : j < (n :: r).length), W.cell? (ad.add j) = some (.int .u8 (n :: r)[j]) := fun W h j hj => by
      obtain ⟨ad', he, hx⟩ := Kd.at_int h (j : Int) (by omega) (by omega)
      cases he
      rw [show (n :: r)[j] = rd (n :: r) (j : Int) by unfold rd; rw [Int.toNat_natCast, List.getD_eq_getElem?_getD, List.getElem?_eq_getElem hj]; rfl]
      exact hx
    by_cases h12 : n ≤ 12
    case neg =>
      have E0 : Aside0 (unpackN (n :: r) = (ByteArray.empty, false)) := ⟨by unfold unpackN; simp [h12]⟩
      have h13 : (12 : Int) < n := by omega
      rw [hl]
      clear hl hr h12 hx hcell
      go_enter Try.func112, Try.ntmps112
      go_wp2
      go_ret2
      exact ⟨by rw [E0.out]; rfl, (by repeat (first | (with_reducible first | exact HB.out | apply below_alloc | apply pw_below_drewN | apply below_drew1) | exact HB.out))⟩
    obtain ⟨m, rfl⟩ : ∃ m : Nat, n = m := ⟨n.toNat, by omega⟩
    have hm12 : m ≤ 12 := by omega
    have hrl : r.length = 13 := by simp at hl; exact hl
    obtain ⟨S, hS⟩ : ∃ S, S = strOfNums (r.take m) := ⟨_, rfl⟩
    have hcv : (convert 24 9 (.slice (some ⟨ad.block, ad.off + 1, none⟩) m (c - 1))).run Try.prog w = .ok (.string S) w := by
      have := conv_str w (ad.add 1) (c - 1) (r.take m) (fun x hx => hb x (List.mem_cons_of_mem _ (List.mem_of_mem_take hx))) (fun j hj => by
        rw [List.length_take] at hj
        have h2 := hcell w hr (j + 1) (by simp; omega)
        rw [add_succ, h2]
        simp)
      rw [List.length_take, Nat.min_eq_left (by omega), ← hS] at this
      exact this
    have hU : unpackN (m :: r) = if rightN S = true ∧ packN S = (m : Int) :: r then (S, true) else (ByteArray.empty, false) := by
      unfold unpackN
      simp only [List.drop_succ_cons, List.drop_zero, List.headD_cons, Int.toNat_natCast, ← hS]
      have h12' : (m : Int) ≤ 12 := h12
      by_cases hR : rightN S = true ∧ packN S = (m : Int) :: r
      · rw [if_pos hR, if_pos ⟨hl, h12', hR⟩]
      · rw [if_neg hR, if_neg (fun h => hR h.2.2)]
    have WR := Aside0.mk (fun W => right_walk S W)
    rw [hl] at hcap ⊢
    have h12n : ¬ (12 : Int) < m := by omega
    cases hR : rightN S with
    | false =>
      have E0 : Aside0 (unpackN (m :: r) = (ByteArray.empty, false)) := ⟨by rw [hU, hR]; simp⟩
      rw [hR] at WR
      clear hx h12 hU hcell hR hS hr hl hrl
      go_enter Try.func112, Try.ntmps112
      go_wp2_with (go_at_call 114; (with_reducible refine (WR.out _).mono ?_); rintro e w1 ⟨rfl, hb⟩; have n1_ : Aside0 (Below w.heap.size w w1) := ⟨below_step (by repeat (first | (with_reducible first | exact HB.out | apply below_alloc | apply pw_below_drewN | apply below_drew1) | exact HB.out)) hb⟩; clear HB; have HB := n1_; clear n1_; clear hb)
      go_ret2
      exact ⟨by rw [E0.out]; rfl, (by repeat (first | (with_reducible first | exact HB.out | apply below_alloc | apply pw_below_drewN | apply below_drew1) | exact HB.out))⟩
    | true =>
      have hsz := rightN_size hR
      have hpl := packN_length (s := S) (by omega)
      obtain ⟨q, hq⟩ : ∃ q, q = decide (packN S = (m : Int) :: r) := ⟨_, rfl⟩
      have WP := Aside0.mk (fun W => pack_walk S W hR)
      have WE : Aside0 (∀ Ap cp W, Kd.C (Kd.int .u8) W Ap 14 (packN S) → Kd.C (Kd.int .u8) W (some ad) 14 ((m : Int) :: r) → Calls Try.prog 24 #[.slice Ap 14 cp, .slice (some ad) 14 c] W fun e w' => e = .returned (.bool q) ∧ w' = W) := ⟨fun Ap cp W h1 h2 => by
        have := bEq_same Ap cp (packN S) (some ad) c ((m : Int) :: r) W (by rw [hpl]; exact h1) (by rw [hl]; exact h2) (packN_byts hsz.2) hb
        rw [hpl, hl, ← hq] at this
        exact this⟩
      have HR' : Aside0 (Kd.C (Kd.int .u8) w (some ad) 14 ((m : Int) :: r)) := ⟨by have := hr; rw [hl] at this; exact this⟩
      rw [hR] at WR
      cases q with
      | false =>
        have E0 : Aside0 (unpackN (m :: r) = (ByteArray.empty, false)) := ⟨by rw [hU, if_neg (fun h => by have := of_decide_eq_false hq.symm; exact this h.2)]⟩
        clear hx h12 hU hcell hR hS hr hl hrl hq hpl hsz
        go_enter Try.func112, Try.ntmps112
        go_wp2_with (first | (go_at_call 114; (with_reducible refine (WR.out _).mono ?_); rintro e w1 ⟨rfl, hb⟩; have n1_ : Aside0 (Below w.heap.size w w1) := ⟨below_step (by repeat (first | (with_reducible first | exact HB.out | apply below_alloc | apply pw_below_drewN | apply below_drew1) | exact HB.out)) hb⟩; clear HB; have HB := n1_; clear n1_; clear hb) | (go_at_call 110; (with_reducible refine (WP.out _).mono ?_); rintro e w2 ⟨Ap, cp, rfl, hc2, hb⟩; have HC2 := Aside0.mk hc2; have n1_ : Aside0 (Below w.heap.size w w2) := ⟨below_step (by repeat (first | (with_reducible first | exact HB.out | apply below_alloc | apply pw_below_drewN | apply below_drew1) | exact HB.out)) hb⟩; clear HB; have HB := n1_; clear n1_; clear hb hc2) | (go_at_call 24; (with_reducible refine (WE.out _ _ _ HC2.out (Kd.C_below HR'.out HB.out)).mono ?_); rintro e w' ⟨rfl, h_⟩; have h_ := h_.symm; subst h_))
        go_ret2
        exact ⟨by rw [E0.out]; rfl, (by repeat (first | (with_reducible first | exact HB.out | apply below_alloc | apply pw_below_drewN | apply below_drew1) | exact HB.out))⟩
      | true =>
        have E0 : Aside0 (unpackN (m :: r) = (S, true)) := ⟨by rw [hU, if_pos ⟨hR, of_decide_eq_true hq.symm⟩]⟩
        clear hx h12 hU hcell hR hS hr hl hrl hq hpl hsz
        go_enter Try.func112, Try.ntmps112
        go_wp2_with (first | (go_at_call 114; (with_reducible refine (WR.out _).mono ?_); rintro e w1 ⟨rfl, hb⟩; have n1_ : Aside0 (Below w.heap.size w w1) := ⟨below_step (by repeat (first | (with_reducible first | exact HB.out | apply below_alloc | apply pw_below_drewN | apply below_drew1) | exact HB.out)) hb⟩; clear HB; have HB := n1_; clear n1_; clear hb) | (go_at_call 110; (with_reducible refine (WP.out _).mono ?_); rintro e w2 ⟨Ap, cp, rfl, hc2, hb⟩; have HC2 := Aside0.mk hc2; have n1_ : Aside0 (Below w.heap.size w w2) := ⟨below_step (by repeat (first | (with_reducible first | exact HB.out | apply below_alloc | apply pw_below_drewN | apply below_drew1) | exact HB.out)) hb⟩; clear HB; have HB := n1_; clear n1_; clear hb hc2) | (go_at_call 24; (with_reducible refine (WE.out _ _ _ HC2.out (Kd.C_below HR'.out HB.out)).mono ?_); rintro e w' ⟨rfl, h_⟩; have h_ := h_.symm; subst h_))
        go_ret2
        exact ⟨by rw [E0.out]; rfl, (by repeat (first | (with_reducible first | exact HB.out | apply below_alloc | apply pw_below_drewN | apply below_drew1) | exact HB.out))⟩
end Go.Proofs.Ytdknolnoimpgeaa.K
namespace Go.Proofs.Ytdknolnoimpgeaa.K
open Go.RowKit Go.Shelf Go.Lib Go.Proofs.YtdknolnoimpgeaaW.PrintWords Go.Proofs.YtdknolnoimpgeaaW.PrintLast Go.Proofs.YtdknolnoimpgeaaW.PrintMore
set_option linter.unusedVariables false
set_option linter.unusedSimpArgs false
set_option maxRecDepth 100000 in
theorem rUnpack_walk (A : Option Addr) (c : Nat) (l : List Int) (w : World) (hr : Kd.C (Kd.int .u8) w A l.length l) (hb : Byts l) (hcap : l.length ≤ c) :
    Calls Try.prog 113 #[.slice A l.length c] w fun e w' => e = .returned (.tuple #[.string (unpackN l).1, .bool (unpackN l).2]) ∧ Below w.heap.size w w' := by
  have HR := Aside0.mk hr
  have HB := Aside0.mk (Below.refl w.heap.size w)
  by_cases hl : l.length = 14
  case neg =>
    have E0 : Aside0 (unpackN l = (ByteArray.empty, false)) := ⟨by unfold unpackN; simp [hl]⟩
    have h14 : ((l.length : Int) != 14) = true := by simp; omega
    clear hl hr
    go_enter Try.func113, Try.ntmps113
    go_wp2
    go_ret2
    exact ⟨by rw [E0.out]; rfl, (by repeat (first | (with_reducible first | exact HB.out | apply below_alloc | apply pw_below_drewN | apply below_drew1) | exact HB.out))⟩
  match l, hl with
  | n :: r, hl =>
    have hn0 := hb n (by simp)
    obtain ⟨ad, rfl, hx⟩ := Kd.at_int hr 0 (by simp) (by omega)
    have x0 : w.cell? ad = some (.int .u8 n) := hx
    have hcell : ∀ W, Kd.C (Kd.int .u8) W (some ad) (n :: r).length (n :: r) → ∀ j (hj : j < (n :: r).length), W.cell? (ad.add j) = some (.int .u8 (n :: r)[j]) := fun W h j hj => by
      obtain ⟨ad', he, hx⟩ := Kd.at_int h (j : Int) (by omega) (by omega)
      cases he
      rw [show (n :: r)[j] = rd (n :: r) (j : Int) by unfold rd; rw [Int.toNat_natCast, List.getD_eq_getElem?_getD, List.getElem?_eq_getElem hj]; rfl]
      exact hx
    by_cases h12 : n ≤ 12
    case neg =>
      have E0 : Aside0 (unpackN (n :: r) = (ByteArray.empty, false)) := ⟨by unfold unpackN; simp [h12]⟩
      have h13 : (12 : Int) < n := by omega
      rw [hl]
      clear hl hr h12 hx hcell
      go_enter Try.func113, Try.ntmps113
      go_wp2
      go_ret2
      exact ⟨by rw [E0.out]; rfl, (by repeat (first | (with_reducible first | exact HB.out | apply below_alloc | apply pw_below_drewN | apply below_drew1) | exact HB.out))⟩
    obtain ⟨m, rfl⟩ : ∃ m : Nat, n = m := ⟨n.toNat, by omega⟩
    have hm12 : m ≤ 12 := by omega
    have hrl : r.length = 13 := by simp at hl; exact hl
    obtain ⟨S, hS⟩ : ∃ S, S = strOfNums (r.take m) := ⟨_, rfl⟩
    have hcv : (convert 24 9 (.slice (some ⟨ad.block, ad.off + 1, none⟩) m (c - 1))).run Try.prog w = .ok (.string S) w := by
      have := conv_str w (ad.add 1) (c - 1) (r.take m) (fun x hx => hb x (List.mem_cons_of_mem _ (List.mem_of_mem_take hx))) (fun j hj => by
        rw [List.length_take] at hj
        have h2 := hcell w hr (j + 1) (by simp; omega)
        rw [add_succ, h2]
        simp)
      rw [List.length_take, Nat.min_eq_left (by omega), ← hS] at this
      exact this
    have hU : unpackN (m :: r) = if rightN S = true ∧ packN S = (m : Int) :: r then (S, true) else (ByteArray.empty, false) := by
      unfold unpackN
      simp only [List.drop_succ_cons, List.drop_zero, List.headD_cons, Int.toNat_natCast, ← hS]
      have h12' : (m : Int) ≤ 12 := h12
      by_cases hR : rightN S = true ∧ packN S = (m : Int) :: r
      · rw [if_pos hR, if_pos ⟨hl, h12', hR⟩]
      · rw [if_neg hR, if_neg (fun h => hR h.2.2)]
    rw [hl] at hcap ⊢
    have h12n : ¬ (12 : Int) < m := by omega
    cases hR : rightN S with
    | false =>
      have E0 : Aside0 (unpackN (m :: r) = (ByteArray.empty, false)) := ⟨by rw [hU, hR]; simp⟩
      have WP := Aside0.mk (fun W => rPack_nil S W hR)
      clear hx h12 hU hcell hR hS hr hl hrl
      go_enter Try.func113, Try.ntmps113
      go_wp2_with (go_at_call 140; (with_reducible refine (WP.out _).mono ?_); rintro e w1 ⟨rfl, hb⟩; have n1_ : Aside0 (Below w.heap.size w w1) := ⟨below_step (by repeat (first | (with_reducible first | exact HB.out | apply below_alloc | apply pw_below_drewN | apply below_drew1) | exact HB.out)) hb⟩; clear HB; have HB := n1_; clear n1_; clear hb)
      go_ret2
      exact ⟨by rw [E0.out]; rfl, (by repeat (first | (with_reducible first | exact HB.out | apply below_alloc | apply pw_below_drewN | apply below_drew1) | exact HB.out))⟩
    | true =>
      have hsz := rightN_size hR
      have hpl := packN_length (s := S) (by omega)
      have WP : Aside0 (∀ W, Calls Try.prog 140 #[.string S] W fun e w' => ∃ Ap cp, e = .returned (.slice Ap 14 cp) ∧ Kd.C (Kd.int .u8) w' Ap 14 (packN S) ∧ Below W.heap.size W w') := ⟨fun W => (rPack_walk S W hR).mono fun e w' ⟨v, he, ho, hb⟩ => by
        obtain ⟨Ap, cp, rfl⟩ := Kd.R_slice ho
        have hc := (Kd.R_reads' ho).2.2
        rw [hpl] at hc he
        exact ⟨Ap, cp, he, hc, hb⟩⟩
      have HR' : Aside0 (Kd.C (Kd.int .u8) w (some ad) 14 ((m : Int) :: r)) := ⟨by have := hr; rw [hl] at this; exact this⟩
      obtain ⟨b, hbl⟩ : ∃ b, b = (m : Int) :: r := ⟨_, rfl⟩
      obtain ⟨a, hal⟩ : ∃ a, a = packN S := ⟨_, rfl⟩
      have hb14 : Aside0 (b.length = 14) := ⟨by rw [hbl]; exact hl⟩
      have ha14 : Aside0 (a.length = 14) := ⟨by rw [hal]; exact hpl⟩
      have E0 : Aside0 (unpackN (m :: r) = if a = b then (S, true) else (ByteArray.empty, false)) := ⟨by rw [hU, hR, hal, hbl]; simp⟩
      rw [← hbl] at HR'
      rw [← hal] at WP
      clear hx h12 hU hcell hR hS hr hl hrl hpl hsz hbl hal
      go_enter Try.func113, Try.ntmps113
      go_wp2_with (go_at_call 140; (with_reducible refine (WP.out _).mono ?_); rintro e w2 ⟨Ap, cp, rfl, hc2, hb⟩; have HC2 := Aside0.mk hc2; have n1_ : Aside0 (Below w.heap.size w w2) := ⟨below_step (by repeat (first | (with_reducible first | exact HB.out | apply below_alloc | apply pw_below_drewN | apply below_drew1) | exact HB.out)) hb⟩; clear HB; have HB := n1_; clear n1_; clear hb hc2)
      have HR2 := Aside0.mk (Kd.C_below HR'.out HB.out)
      have HB2 := Aside0.mk HB.out
      clear HB
      go_loopw [6] (fun v6 w' => ∃ k : Nat, v6 = .int .i64 k ∧ Aside0 (k ≤ 14) ∧ Aside0 (a.take k = b.take k) ∧ Aside0 (∃ d, w' = w2.drewN d)) (fun i _ => 14 - (intOf i).toNat)
      case atStart => exact ⟨0, rfl, ⟨Nat.zero_le _⟩, ⟨rfl⟩, ⟨0, rfl⟩⟩
      case round =>
        obtain ⟨k, rfl, hk, ht, ⟨d, rfl⟩⟩ := hrel
        have hk' := hk.out
        by_cases hlt : k < 14
        · obtain ⟨ad1, rfl, hx⟩ := Kd.at_int HC2.out (k : Int) (by omega) (by omega)
          obtain ⟨ad2, he2, hy⟩ := Kd.at_int HR2.out (k : Int) (by omega) (by omega)
          cases he2
          have la := ha14.out
          have lb := hb14.out
          have hta : a.take (k + 1) = a.take k ++ [a[k]] := List.take_succ_eq_append_getElem (by omega)
          have htb : b.take (k + 1) = b.take k ++ [b[k]] := List.take_succ_eq_append_getElem (by omega)
          rw [show rd a (k : Int) = a[k] by unfold rd; rw [Int.toNat_natCast, List.getD_eq_getElem?_getD, List.getElem?_eq_getElem (by omega)]; rfl, Int.toNat_natCast] at hx
          rw [show rd b (k : Int) = b[k] by unfold rd; rw [Int.toNat_natCast, List.getD_eq_getElem?_getD, List.getElem?_eq_getElem (by omega)]; rfl, Int.toNat_natCast] at hy
          obtain ⟨x, hxx⟩ : ∃ x, x = a[k] := ⟨_, rfl⟩
          obtain ⟨y, hyy⟩ : ∃ y, y = b[k] := ⟨_, rfl⟩
          rw [← hxx] at hx hta
          rw [← hyy] at hy htb
          by_cases hxy : x = y
          · have hT : Aside0 (a.take (k + 1) = b.take (k + 1)) := ⟨by rw [hta, htb, ht.out, hxy]⟩
            clear hta htb hxx hyy la lb
            subst hxy
            go_wp2
            go_quiet (fail)
            go_wp2
            exact ⟨⟨k + 1, rfl, ⟨by omega⟩, hT, ⟨_, rfl⟩⟩, by simp [intOf]; omega⟩
          · have hT : Aside0 (¬ a = b) := ⟨fun h => by subst h; exact hxy (hxx.trans hyy.symm)⟩
            have hxy' : (x == y) = false := by simpa using hxy
            clear hta htb hxx hyy la lb hxy
            go_wp2
            go_quiet (fail)
            go_wp2
            go_ret2
            exact ⟨by rw [E0.out, if_neg hT.out]; rfl, by first | exact pw_below_drewN HB2.out _ | exact pw_below_drewN (pw_below_drewN HB2.out _) _⟩
        · have hk14 : k = 14 := by omega
          subst hk14
          have E1 : Aside0 (a = b) := ⟨by have := ht.out; rw [List.take_of_length_le (by have := ha14.out; omega), List.take_of_length_le (by have := hb14.out; omega)] at this; exact this⟩
          go_wp2
          go_ret2
          exact ⟨by rw [E0.out, if_pos E1.out]; rfl, by first | exact HB2.out | exact pw_below_drewN HB2.out _⟩
end Go.Proofs.Ytdknolnoimpgeaa.K
namespace Go.Proofs.Ytdknolnoimpgeaa.K
open Go.RowKit Go.Shelf Go.Lib Go.Proofs.YtdknolnoimpgeaaW.PrintWords Go.Proofs.YtdknolnoimpgeaaW.PrintLast Go.Proofs.YtdknolnoimpgeaaW.PrintMore
set_option linter.unusedVariables false
set_option linter.unusedSimpArgs false
/-- An entry that may be. -/
def rightE (sl ino : Int) (nm : ByteArray) : Bool := decide (0 ≤ sl) && decide (sl < 16) && decide (0 < ino) && decide (ino ≤ 65535) && rightN nm
set_option maxRecDepth 100000 in
theorem eRight_walk (sl ino : Int) (nm : ByteArray) (w : World) :
    Calls Try.prog 58 #[.agg #[.int .i64 sl, .int .i64 ino, .string nm]] w fun e w' => e = .returned (.bool (rightE sl ino nm)) ∧ Below w.heap.size w w' := by
  have HB := Aside0.mk (Below.refl w.heap.size w)
  by_cases h1 : 0 ≤ sl
  case neg =>
    have E0 : Aside0 (rightE sl ino nm = false) := ⟨by simp [rightE, h1]⟩
    have hn : sl < 0 := by omega
    clear h1
    go_enter Try.func58, Try.ntmps58
    go_wp2
    go_ret
    exact ⟨by rw [E0.out]; rfl, (by repeat (first | exact Below.refl _ _ | apply Below.drew | apply below_alloc))⟩
  by_cases h2 : sl < 16
  case neg =>
    have E0 : Aside0 (rightE sl ino nm = false) := ⟨by simp [rightE, h2]⟩
    have hn : 16 ≤ sl := by omega
    clear h2
    go_enter Try.func58, Try.ntmps58
    go_wp2
    go_ret
    exact ⟨by rw [E0.out]; rfl, (by repeat (first | exact Below.refl _ _ | apply Below.drew | apply below_alloc))⟩
  by_cases h3 : 0 < ino
  case neg =>
    have E0 : Aside0 (rightE sl ino nm = false) := ⟨by simp [rightE, h3]⟩
    have hn : ino ≤ 0 := by omega
    clear h3
    go_enter Try.func58, Try.ntmps58
    go_wp2
    go_ret
    exact ⟨by rw [E0.out]; rfl, (by repeat (first | exact Below.refl _ _ | apply Below.drew | apply below_alloc))⟩
  by_cases h4 : ino ≤ 65535
  case neg =>
    have E0 : Aside0 (rightE sl ino nm = false) := ⟨by simp [rightE, h4]⟩
    have hn : 65535 < ino := by omega
    clear h4
    go_enter Try.func58, Try.ntmps58
    go_wp2
    go_ret
    exact ⟨by rw [E0.out]; rfl, (by repeat (first | exact Below.refl _ _ | apply Below.drew | apply below_alloc))⟩
  have E0 : Aside0 (rightE sl ino nm = rightN nm) := ⟨by simp [rightE, h1, h2, h3, h4]⟩
  have WR := Aside0.mk (fun W => right_walk nm W)
  have h3' : 1 ≤ ino := by omega
  go_enter Try.func58, Try.ntmps58
  go_wp2_with (go_at_call 114; (with_reducible refine (WR.out _).mono ?_); rintro e w1 ⟨rfl, hb⟩; have HB1 := Aside0.mk (below_step (W := w.alloc (.cells #[.int .i64 sl, .int .i64 ino, .string nm] 62)) (below_alloc HB.out _) hb))
  go_ret
  exact ⟨by rw [E0.out]; rfl, HB1.out⟩
set_option maxRecDepth 100000 in
theorem rERight_walk (sl ino : Int) (nm : ByteArray) (w : World) :
    Calls Try.prog 59 #[.agg #[.int .i64 sl, .int .i64 ino, .string nm]] w fun e w' => e = .returned (.bool (rightE sl ino nm)) ∧ Below w.heap.size w w' := by
  have HB := Aside0.mk (Below.refl w.heap.size w)
  by_cases h1 : 0 ≤ sl
  case neg =>
    have E0 : Aside0 (rightE sl ino nm = false) := ⟨by simp [rightE, h1]⟩
    have hn : sl < 0 := by omega
    clear h1
    go_enter Try.func59, Try.ntmps59
    go_wp2
    go_ret
    exact ⟨by rw [E0.out]; rfl, (by repeat (first | exact Below.refl _ _ | apply Below.drew | apply below_alloc))⟩
  by_cases h2 : sl < 16
  case neg =>
    have E0 : Aside0 (rightE sl ino nm = false) := ⟨by simp [rightE, h2]⟩
    have hn : 16 ≤ sl := by omega
    clear h2
    go_enter Try.func59, Try.ntmps59
    go_wp2
    go_ret
    exact ⟨by rw [E0.out]; rfl, (by repeat (first | exact Below.refl _ _ | apply Below.drew | apply below_alloc))⟩
  by_cases h3 : 0 < ino
  case neg =>
    have E0 : Aside0 (rightE sl ino nm = false) := ⟨by simp [rightE, h3]⟩
    have hn : ino ≤ 0 := by omega
    clear h3
    go_enter Try.func59, Try.ntmps59
    go_wp2
    go_ret
    exact ⟨by rw [E0.out]; rfl, (by repeat (first | exact Below.refl _ _ | apply Below.drew | apply below_alloc))⟩
  by_cases h4 : ino ≤ 65535
  case neg =>
    have E0 : Aside0 (rightE sl ino nm = false) := ⟨by simp [rightE, h4]⟩
    have hn : 65535 < ino := by omega
    clear h4
    go_enter Try.func59, Try.ntmps59
    go_wp2
    go_ret
    exact ⟨by rw [E0.out]; rfl, (by repeat (first | exact Below.refl _ _ | apply Below.drew | apply below_alloc))⟩
  have E0 : Aside0 (rightE sl ino nm = rightN nm) := ⟨by simp [rightE, h1, h2, h3, h4]⟩
  have WR := Aside0.mk (fun W => rRight_walk nm W)
  have h3' : 1 ≤ ino := by omega
  go_enter Try.func59, Try.ntmps59
  go_wp2_with (go_at_call 115; (with_reducible refine (WR.out _).mono ?_); rintro e w1 ⟨rfl, hb⟩; have HB1 := Aside0.mk (below_step (W := w.alloc (.cells #[.int .i64 sl, .int .i64 ino, .string nm] 62)) (below_alloc HB.out _) hb))
  go_ret
  exact ⟨by rw [E0.out]; rfl, HB1.out⟩
end Go.Proofs.Ytdknolnoimpgeaa.K
namespace Go.Proofs.Ytdknolnoimpgeaa.K
open Go.RowKit Go.Shelf Go.Lib Go.Proofs.YtdknolnoimpgeaaW.PrintWords Go.Proofs.YtdknolnoimpgeaaW.PrintLast Go.Proofs.YtdknolnoimpgeaaW.PrintMore
set_option linter.unusedVariables false
set_option linter.unusedSimpArgs false
def bytesE (ino : Int) (nm : ByteArray) : List Int := leB ino 2 ++ packN nm
theorem rightE_parts {sl ino : Int} {nm : ByteArray} (h : rightE sl ino nm = true) : 0 ≤ sl ∧ sl < 16 ∧ 0 < ino ∧ ino ≤ 65535 ∧ rightN nm = true := by
  simp only [rightE, Bool.and_eq_true, decide_eq_true_eq] at h
  exact ⟨h.1.1.1.1, h.1.1.1.2, h.1.1.2, h.1.2, h.2⟩
theorem bytesE_length {ino : Int} {nm : ByteArray} (h : rightN nm = true) : (bytesE ino nm).length = 16 := by
  unfold bytesE
  rw [List.length_append, leB_length, packN_length (by have := (rightN_size h).2; omega)]
set_option maxRecDepth 100000 in
theorem ePut_no (sl ino : Int) (nm : ByteArray) (w : World) (h : rightE sl ino nm = false) :
    Calls Try.prog 54 #[.agg #[.int .i64 sl, .int .i64 ino, .string nm]] w fun e w' => e = .returned (.tuple #[.slice none 0 0, .int .i64 1]) ∧ Below w.heap.size w w' := by
  have HB := Aside0.mk (Below.refl w.heap.size w)
  have WR := Aside0.mk (fun W => eRight_walk sl ino nm W)
  rw [h] at WR
  clear h
  go_enter Try.func54, Try.ntmps54
  go_wp2_with (go_at_call 58; (with_reducible refine (WR.out _).mono ?_); rintro e w1 ⟨rfl, hb⟩; have n1_ : Aside0 (Below w.heap.size w w1) := ⟨below_step (by repeat (first | (with_reducible first | exact HB.out | apply below_alloc | apply pw_below_drewN | apply below_drew1) | exact HB.out)) hb⟩; clear HB; have HB := n1_; clear n1_; clear hb)
  go_ret2
  exact ⟨rfl, (by repeat (first | (with_reducible first | exact HB.out | apply below_alloc | apply pw_below_drewN | apply below_drew1) | exact HB.out))⟩
set_option maxHeartbeats 4000000 in
set_option maxRecDepth 100000 in
theorem ePut_walk (sl ino : Int) (nm : ByteArray) (w0 : World) (h : rightE sl ino nm = true) :
    Calls Try.prog 54 #[.agg #[.int .i64 sl, .int .i64 ino, .string nm]] w0 fun e w' => ∃ A c, e = .returned (.tuple #[.slice A 16 c, .int .i64 0]) ∧ Kd.C (Kd.int .u8) w' A 16 (bytesE ino nm) ∧ Below w0.heap.size w0 w' := by
  obtain ⟨h1, h2, h3, h4, h5⟩ := rightE_parts h
  have hpl := packN_length (s := nm) (by have := (rightN_size h5).2; omega)
  have h16 := Aside0.mk (bytesE_length (ino := ino) h5)
  have WR := Aside0.mk (fun W => eRight_walk sl ino nm W)
  rw [h] at WR
  have WN : Aside0 (∀ W, Calls Try.prog 96 #[.slice none 0 0, .int .i64 ino, .int .i64 2] W fun e w' => ∃ v : Value, e = .returned v ∧ Kd.R (Kd.int .u8) 5 w' W.heap.size (fun _ => True) v (leB ino 2) ∧ Below W.heap.size W w') := ⟨fun W => by
    have := numP_walk none 0 [] ino 2 W (Kd.C_nil _ _) (by simp) (by simp)
    rw [show numP [] ino 2 = leB ino 2 by unfold numP numR; rw [if_pos (by simp [numW]; omega)]; simp] at this
    exact this⟩
  have WP : Aside0 (∀ W, Calls Try.prog 110 #[.string nm] W fun e w' => ∃ A c, e = .returned (.slice A (packN nm).length c) ∧ Kd.C (Kd.int .u8) w' A (packN nm).length (packN nm) ∧ Below W.heap.size W w') := ⟨fun W => by rw [hpl]; exact pack_walk nm W h5⟩
  have hp14 := Aside0.mk hpl
  clear hpl h h1 h2 h3 h4 h5
  go_enter Try.func54, Try.ntmps54
  go_wp2_with (go_at_call 58; fail)
  obtain ⟨w, hw⟩ : ∃ w, w = w0.alloc (.cells #[.int .i64 sl, .int .i64 ino, .string nm] 62) := ⟨_, rfl⟩
  skip
  rw [← hw]
  have HW := Aside0.mk hw
  have HB := Aside0.mk (Below.refl w.heap.size w)
  have k0 : w.cell? ⟨w0.heap.size, 0, none⟩ = some (.int .i64 sl) := by rw [hw]; go_simp
  have k1 : w.cell? ⟨w0.heap.size, 1, none⟩ = some (.int .i64 ino) := by rw [hw]; go_simp
  have k2 : w.cell? ⟨w0.heap.size, 2, none⟩ = some (.string nm) := by rw [hw]; go_simp
  have hlt0 : w0.heap.size < w.heap.size := by rw [hw]; simp
  clear hw
  refine (WR.out _).mono ?_
  rintro e w1 ⟨rfl, hb⟩
  have m1 := pw_cell_below hb k1
  have m2 := pw_cell_below hb k2
  have hb1 := below_step HB.out hb
  clear hb
  go_wp2
  go_region_held3 (fun W => W.cell? ⟨w0.heap.size, 1, none⟩ = some (.int .i64 ino) ∧ W.cell? ⟨w0.heap.size, 2, none⟩ = some (.string nm) ∧ Below w.heap.size w W) (first | (exact ⟨pw_cell_below hb19 k1, pw_cell_below hb19 k2, hb19⟩) | (go_split_ands; refine ⟨pw_cell_below hb5 (by assumption), pw_cell_below hb5 (by assumption), below_step (by assumption) hb5⟩) | (go_split_ands; refine ⟨(by assumption), (by assumption), pw_below_drewN (by assumption) _⟩) | (go_split_ands; refine ⟨pw_cell_below (below_alloc (Below.refl _ _) _) (by assumption), pw_cell_below (below_alloc (Below.refl _ _) _) (by assumption), below_alloc (by assumption) _⟩)) (first | (go_at_call 96; go_split_ands; (with_reducible refine (WN.out _).mono ?_); rintro e w5 ⟨v5, rfl, ho5_, hb5⟩; have ho5 := Kd.R_lower ho5_ (below_size (by assumption)); clear ho5_; obtain ⟨A5, c5, rfl⟩ := Kd.R_slice ho5) | (go_at_call 110; go_split_ands; (with_reducible refine (WP.out _).mono ?_); rintro e w6 ⟨A6, c6, rfl, hc6, hb5⟩; have hb6 := hb5) | (go_split_ands; (refine Kd.R_append_rows_step (Kd.int .u8) (w0 := w) w.heap.size (by rfl) (.tmp 9) (.tmp 12) 24 5 (.int .u8 0) 1 (by rfl) Try.underlying24 u8info rfl (by decide) (by omega) _ (leB ino 2) (packN nm) A6 (packN nm).length c6 (fun _ => True) (fun _ => False) (by rfl) (by rfl) ?aO ?aR (fun _ _ h => h) (fun _ h => h.elim) (fun _ _ => trivial) ?aB ?aS ?aL ?_); (case aO => first | exact Kd.R_below ho5 (by first | exact hb6 | exact below_undrew hb6) | exact Kd.R_drew (Kd.R_below ho5 hb6)); (case aR => first | exact hc6 | exact Kd.C_drew hc6); (case aB => assumption); (case aS => exact below_size (by assumption)); (case aL => rw [leB_length, hp14.out]; decide); intro v19 w19 ho19 hb19 hg_ hat_; clear hg_ hat_) | fail)
  obtain ⟨A, c, rfl⟩ := Kd.R_slice ho19
  have HC := Aside0.mk (Kd.R_reads' ho19).2.2
  have HX : Aside0 (Below w0.heap.size w0 w19) := ⟨by have := hb19; rw [HW.out] at this; exact below_step (W := w0.alloc _) (below_alloc (Below.refl _ _) _) this⟩
  clear ho19
  rw [show (leB ino 2 ++ packN nm).length = 16 from h16.out] at HC ⊢
  go_wp2
  go_ret2
  exact ⟨A, _, rfl, by first | exact HC.out | exact Kd.C_drew HC.out | exact Kd.C_drewN HC.out _, by first | exact HX.out | exact below_drew1 HX.out | exact pw_below_drewN HX.out _⟩
end Go.Proofs.Ytdknolnoimpgeaa.K
namespace Go.Proofs.Ytdknolnoimpgeaa.K
set_option linter.unusedVariables false
set_option linter.unusedSimpArgs false
def inoZ (k im nl ge sz p0 p1 p2 p3 at_ : Int) : Bool := (k == 0 && (im == 0 && (nl == 0 && (ge == 0 && (sz == 0 && ((p0 == 0 && (p1 == 0 && (p2 == 0 && p3 == 0))) && at_ == 0))))))
theorem inoZ_true {k im nl ge sz p0 p1 p2 p3 at_ : Int} (h : inoZ k im nl ge sz p0 p1 p2 p3 at_ = true) : k = 0 ∧ im = 0 ∧ nl = 0 ∧ ge = 0 ∧ sz = 0 ∧ p0 = 0 ∧ p1 = 0 ∧ p2 = 0 ∧ p3 = 0 ∧ at_ = 0 := by
  simp only [inoZ, Bool.and_eq_true, beq_iff_eq] at h
  omega
def rgB (n top : Int) : Bool := decide (0 ≤ n) && decide (n ≤ top)
theorem rgB_true {n top : Int} (h : rgB n top = true) : 0 ≤ n ∧ n ≤ top := by simpa [rgB] using h
theorem rgB_false {n top : Int} (h : rgB n top = false) : n < 0 ∨ top < n := by simp [rgB] at h; omega
/-- All numbers are none above their greatest ones. -/
def inoR (k im nl ge sz p0 p1 p2 p3 at_ : Int) : Bool := rgB k 4 && (rgB im 255 && (rgB nl 65535 && (rgB ge 268435455 && (rgB sz 256 && (rgB p0 65535 && (rgB p1 65535 && (rgB p2 65535 && (rgB p3 65535 && rgB at_ 65535))))))))
theorem inoR_parts {k im nl ge sz p0 p1 p2 p3 at_ : Int} (h : inoR k im nl ge sz p0 p1 p2 p3 at_ = true) : (0 ≤ k ∧ k ≤ 4) ∧ (0 ≤ im ∧ im ≤ 255) ∧ (0 ≤ nl ∧ nl ≤ 65535) ∧ (0 ≤ ge ∧ ge ≤ 268435455) ∧ (0 ≤ sz ∧ sz ≤ 256) ∧ (0 ≤ p0 ∧ p0 ≤ 65535) ∧ (0 ≤ p1 ∧ p1 ≤ 65535) ∧ (0 ≤ p2 ∧ p2 ≤ 65535) ∧ (0 ≤ p3 ∧ p3 ≤ 65535) ∧ (0 ≤ at_ ∧ at_ ≤ 65535) := by
  simp only [inoR, Bool.and_eq_true] at h
  obtain ⟨h0, h1, h2, h3, h4, h5, h6, h7, h8, h9⟩ := h
  exact ⟨rgB_true h0, rgB_true h1, rgB_true h2, rgB_true h3, rgB_true h4, rgB_true h5, rgB_true h6, rgB_true h7, rgB_true h8, rgB_true h9⟩
def inoOdd (k sz p0 p1 p2 p3 : Int) : Bool := if k = 1 then sz != 0 else if k = 4 then (sz != 0 || !(p0 == 0 && (p1 == 0 && (p2 == 0 && p3 == 0)))) else k == 0
/-- inode.Right. -/
def inoOk (k im nl ge sz p0 p1 p2 p3 at_ : Int) : Bool := inoZ k im nl ge sz p0 p1 p2 p3 at_ || (inoR k im nl ge sz p0 p1 p2 p3 at_ && !inoOdd k sz p0 p1 p2 p3)
/-- The numbers' bytes. -/
def inoB (k im nl ge sz p0 p1 p2 p3 at_ : Int) : List Int := leB k 1 ++ leB im 1 ++ leB nl 2 ++ leB ge 4 ++ leB sz 2 ++ leB p0 2 ++ leB p1 2 ++ leB p2 2 ++ leB p3 2 ++ leB at_ 2
theorem inoB_length (k im nl ge sz p0 p1 p2 p3 at_ : Int) : (inoB k im nl ge sz p0 p1 p2 p3 at_).length = 20 := by simp [inoB, leB_length]
theorem inoB_byts (k im nl ge sz p0 p1 p2 p3 at_ : Int) : Byts (inoB k im nl ge sz p0 p1 p2 p3 at_) := by
  unfold inoB
  exact (((((((((leB_byts _ _).append (leB_byts _ _)).append (leB_byts _ _)).append (leB_byts _ _)).append (leB_byts _ _)).append (leB_byts _ _)).append (leB_byts _ _)).append (leB_byts _ _)).append (leB_byts _ _)).append (leB_byts _ _)
/-- inode.Put: the bytes (none of a wrong one). -/
def inoP (k im nl ge sz p0 p1 p2 p3 at_ : Int) : List Int :=
  if inoOk k im nl ge sz p0 p1 p2 p3 at_ = true then (if inoZ k im nl ge sz p0 p1 p2 p3 at_ = true then List.replicate 64 0 else sealS (inoB k im nl ge sz p0 p1 p2 p3 at_)) else []
def inoE (k im nl ge sz p0 p1 p2 p3 at_ : Int) : Int := if inoOk k im nl ge sz p0 p1 p2 p3 at_ = true then 0 else 1
theorem inoP_byts (k im nl ge sz p0 p1 p2 p3 at_ : Int) : Byts (inoP k im nl ge sz p0 p1 p2 p3 at_) := by
  unfold inoP
  split
  · split
    · exact Byts.zeros 64
    · exact sealS_byts (inoB_byts _ _ _ _ _ _ _ _ _ _)
  · exact Byts.nil
/-- A number of a sector. -/
def gN (l : List Int) (i s : Int) : Int := (numG l i s).1
theorem gN_one {xs a ys : List Int} {i s : Nat} (hx : xs.length = i) (ha : a.length = s) (hw : numW s = true) : gN (xs ++ a ++ ys) i s = leN a := by
  unfold gN numG
  have ht : numT (xs ++ a ++ ys) i s = true := by
    unfold numT; rw [hw]; simp; omega
  rw [if_pos ht]
  subst hx ha
  simp
theorem gN_two {a ys : List Int} {s : Nat} (ha : a.length = s) (hw : numW s = true) : gN (a ++ ys) 0 s = leN a := by
  have := gN_one (xs := []) (ys := ys) rfl ha hw
  simpa using this
theorem leN_le {n : Int} {k : Nat} (h0 : 0 ≤ n) (h1 : n < 2 ^ (8 * k)) : leN (leB n k) = n := leN_leB k n h0 h1
/-- What was put is got: the numbers. -/
theorem read_inoB {k im nl ge sz p0 p1 p2 p3 at_ : Int} (h : inoR k im nl ge sz p0 p1 p2 p3 at_ = true) (ys : List Int) :
    gN (inoB k im nl ge sz p0 p1 p2 p3 at_ ++ ys) 0 1 = k ∧ gN (inoB k im nl ge sz p0 p1 p2 p3 at_ ++ ys) 1 1 = im ∧ gN (inoB k im nl ge sz p0 p1 p2 p3 at_ ++ ys) 2 2 = nl ∧ gN (inoB k im nl ge sz p0 p1 p2 p3 at_ ++ ys) 4 4 = ge ∧ gN (inoB k im nl ge sz p0 p1 p2 p3 at_ ++ ys) 8 2 = sz ∧
      gN (inoB k im nl ge sz p0 p1 p2 p3 at_ ++ ys) 10 2 = p0 ∧ gN (inoB k im nl ge sz p0 p1 p2 p3 at_ ++ ys) 12 2 = p1 ∧ gN (inoB k im nl ge sz p0 p1 p2 p3 at_ ++ ys) 14 2 = p2 ∧ gN (inoB k im nl ge sz p0 p1 p2 p3 at_ ++ ys) 16 2 = p3 ∧ gN (inoB k im nl ge sz p0 p1 p2 p3 at_ ++ ys) 18 2 = at_ := by
  obtain ⟨h0, h1, h2, h3, h4, h5, h6, h7, h8, h9⟩ := inoR_parts h
  unfold inoB
  have q1 : ∀ a : Int, (leB a 1).length = 1 := fun a => leB_length a 1
  have q2 : ∀ a : Int, (leB a 2).length = 2 := fun a => leB_length a 2
  have q4 : ∀ a : Int, (leB a 4).length = 4 := fun a => leB_length a 4
  refine ⟨?_, ?_, ?_, ?_, ?_, ?_, ?_, ?_, ?_, ?_⟩
  · rw [show leB k 1 ++ leB im 1 ++ leB nl 2 ++ leB ge 4 ++ leB sz 2 ++ leB p0 2 ++ leB p1 2 ++ leB p2 2 ++ leB p3 2 ++ leB at_ 2 ++ ys = [] ++ leB k 1 ++ (leB im 1 ++ leB nl 2 ++ leB ge 4 ++ leB sz 2 ++ leB p0 2 ++ leB p1 2 ++ leB p2 2 ++ leB p3 2 ++ leB at_ 2 ++ ys) by simp]
    exact (gN_one (i := 0) rfl (q1 k) rfl).trans (leN_le h0.1 (by omega))
  · rw [show leB k 1 ++ leB im 1 ++ leB nl 2 ++ leB ge 4 ++ leB sz 2 ++ leB p0 2 ++ leB p1 2 ++ leB p2 2 ++ leB p3 2 ++ leB at_ 2 ++ ys = leB k 1 ++ leB im 1 ++ (leB nl 2 ++ leB ge 4 ++ leB sz 2 ++ leB p0 2 ++ leB p1 2 ++ leB p2 2 ++ leB p3 2 ++ leB at_ 2 ++ ys) by simp]
    exact (gN_one (i := 1) (by simp [q1]) (q1 im) rfl).trans (leN_le h1.1 (by omega))
  · rw [show leB k 1 ++ leB im 1 ++ leB nl 2 ++ leB ge 4 ++ leB sz 2 ++ leB p0 2 ++ leB p1 2 ++ leB p2 2 ++ leB p3 2 ++ leB at_ 2 ++ ys = (leB k 1 ++ leB im 1) ++ leB nl 2 ++ (leB ge 4 ++ leB sz 2 ++ leB p0 2 ++ leB p1 2 ++ leB p2 2 ++ leB p3 2 ++ leB at_ 2 ++ ys) by simp]
    exact (gN_one (i := 2) (by simp [q1]) (q2 nl) rfl).trans (leN_le h2.1 (by omega))
  · rw [show leB k 1 ++ leB im 1 ++ leB nl 2 ++ leB ge 4 ++ leB sz 2 ++ leB p0 2 ++ leB p1 2 ++ leB p2 2 ++ leB p3 2 ++ leB at_ 2 ++ ys = (leB k 1 ++ leB im 1 ++ leB nl 2) ++ leB ge 4 ++ (leB sz 2 ++ leB p0 2 ++ leB p1 2 ++ leB p2 2 ++ leB p3 2 ++ leB at_ 2 ++ ys) by simp]
    exact (gN_one (i := 4) (by simp [q1, q2]) (q4 ge) rfl).trans (leN_le h3.1 (by omega))
  · rw [show leB k 1 ++ leB im 1 ++ leB nl 2 ++ leB ge 4 ++ leB sz 2 ++ leB p0 2 ++ leB p1 2 ++ leB p2 2 ++ leB p3 2 ++ leB at_ 2 ++ ys = (leB k 1 ++ leB im 1 ++ leB nl 2 ++ leB ge 4) ++ leB sz 2 ++ (leB p0 2 ++ leB p1 2 ++ leB p2 2 ++ leB p3 2 ++ leB at_ 2 ++ ys) by simp]
    exact (gN_one (i := 8) (by simp [q1, q2, q4]) (q2 sz) rfl).trans (leN_le h4.1 (by omega))
  · rw [show leB k 1 ++ leB im 1 ++ leB nl 2 ++ leB ge 4 ++ leB sz 2 ++ leB p0 2 ++ leB p1 2 ++ leB p2 2 ++ leB p3 2 ++ leB at_ 2 ++ ys = (leB k 1 ++ leB im 1 ++ leB nl 2 ++ leB ge 4 ++ leB sz 2) ++ leB p0 2 ++ (leB p1 2 ++ leB p2 2 ++ leB p3 2 ++ leB at_ 2 ++ ys) by simp]
    exact (gN_one (i := 10) (by simp [q1, q2, q4]) (q2 p0) rfl).trans (leN_le h5.1 (by omega))
  · rw [show leB k 1 ++ leB im 1 ++ leB nl 2 ++ leB ge 4 ++ leB sz 2 ++ leB p0 2 ++ leB p1 2 ++ leB p2 2 ++ leB p3 2 ++ leB at_ 2 ++ ys = (leB k 1 ++ leB im 1 ++ leB nl 2 ++ leB ge 4 ++ leB sz 2 ++ leB p0 2) ++ leB p1 2 ++ (leB p2 2 ++ leB p3 2 ++ leB at_ 2 ++ ys) by simp]
    exact (gN_one (i := 12) (by simp [q1, q2, q4]) (q2 p1) rfl).trans (leN_le h6.1 (by omega))
  · rw [show leB k 1 ++ leB im 1 ++ leB nl 2 ++ leB ge 4 ++ leB sz 2 ++ leB p0 2 ++ leB p1 2 ++ leB p2 2 ++ leB p3 2 ++ leB at_ 2 ++ ys = (leB k 1 ++ leB im 1 ++ leB nl 2 ++ leB ge 4 ++ leB sz 2 ++ leB p0 2 ++ leB p1 2) ++ leB p2 2 ++ (leB p3 2 ++ leB at_ 2 ++ ys) by simp]
    exact (gN_one (i := 14) (by simp [q1, q2, q4]) (q2 p2) rfl).trans (leN_le h7.1 (by omega))
  · rw [show leB k 1 ++ leB im 1 ++ leB nl 2 ++ leB ge 4 ++ leB sz 2 ++ leB p0 2 ++ leB p1 2 ++ leB p2 2 ++ leB p3 2 ++ leB at_ 2 ++ ys = (leB k 1 ++ leB im 1 ++ leB nl 2 ++ leB ge 4 ++ leB sz 2 ++ leB p0 2 ++ leB p1 2 ++ leB p2 2) ++ leB p3 2 ++ (leB at_ 2 ++ ys) by simp]
    exact (gN_one (i := 16) (by simp [q1, q2, q4]) (q2 p3) rfl).trans (leN_le h8.1 (by omega))
  · rw [show leB k 1 ++ leB im 1 ++ leB nl 2 ++ leB ge 4 ++ leB sz 2 ++ leB p0 2 ++ leB p1 2 ++ leB p2 2 ++ leB p3 2 ++ leB at_ 2 ++ ys = (leB k 1 ++ leB im 1 ++ leB nl 2 ++ leB ge 4 ++ leB sz 2 ++ leB p0 2 ++ leB p1 2 ++ leB p2 2 ++ leB p3 2) ++ leB at_ 2 ++ ys by simp]
    exact (gN_one (i := 18) (by simp [q1, q2, q4]) (q2 at_) rfl).trans (leN_le h9.1 (by omega))
theorem read_zeros (i s : Int) : gN (List.replicate 64 0) i s = 0 := by
  unfold gN numG
  split
  · next h =>
    obtain ⟨hw, h0, h1⟩ := numT_parts h
    have : ∀ n : Nat, leN (List.replicate n 0) = 0 := by
      intro n; induction n with
      | zero => rfl
      | succ n ih => rw [List.replicate_succ, leN, ih]; rfl
    rw [List.drop_replicate, List.take_replicate]
    exact this _
  · rfl
/-- inode.Get: the numbers, and whether. -/
def inoGok (l : List Int) : Bool := decide (l = inoP (gN l 0 1) (gN l 1 1) (gN l 2 2) (gN l 4 4) (gN l 8 2) (gN l 10 2) (gN l 12 2) (gN l 14 2) (gN l 16 2) (gN l 18 2)) && inoOk (gN l 0 1) (gN l 1 1) (gN l 2 2) (gN l 4 4) (gN l 8 2) (gN l 10 2) (gN l 12 2) (gN l 14 2) (gN l 16 2) (gN l 18 2)
/-- What was put is got again. -/
theorem put_get {k im nl ge sz p0 p1 p2 p3 at_ : Int} (h : inoOk k im nl ge sz p0 p1 p2 p3 at_ = true) {l : List Int} (hl : l = inoP k im nl ge sz p0 p1 p2 p3 at_) :
    gN l 0 1 = k ∧ gN l 1 1 = im ∧ gN l 2 2 = nl ∧ gN l 4 4 = ge ∧ gN l 8 2 = sz ∧ gN l 10 2 = p0 ∧ gN l 12 2 = p1 ∧ gN l 14 2 = p2 ∧ gN l 16 2 = p3 ∧ gN l 18 2 = at_ := by
  unfold inoP at hl
  rw [if_pos h] at hl
  by_cases hz : inoZ k im nl ge sz p0 p1 p2 p3 at_ = true
  · rw [if_pos hz] at hl
    obtain ⟨rfl, rfl, rfl, rfl, rfl, rfl, rfl, rfl, rfl, rfl⟩ := inoZ_true hz
    subst hl
    exact ⟨read_zeros _ _, read_zeros _ _, read_zeros _ _, read_zeros _ _, read_zeros _ _, read_zeros _ _, read_zeros _ _, read_zeros _ _, read_zeros _ _, read_zeros _ _⟩
  · rw [if_neg hz] at hl
    have hr : inoR k im nl ge sz p0 p1 p2 p3 at_ = true := by
      unfold inoOk at h
      simp only [Bool.or_eq_true, Bool.and_eq_true] at h
      exact (h.resolve_left hz).1
    have hs : sealS (inoB k im nl ge sz p0 p1 p2 p3 at_) = inoB k im nl ge sz p0 p1 p2 p3 at_ ++ (List.replicate 40 0 ++ leB (of02 (seal60 (inoB k im nl ge sz p0 p1 p2 p3 at_))) 4) := by
      unfold sealS
      rw [← List.append_assoc]
      have h60 : seal60 (inoB k im nl ge sz p0 p1 p2 p3 at_) = inoB k im nl ge sz p0 p1 p2 p3 at_ ++ List.replicate 40 0 := by
        unfold seal60
        rw [inoB_length, List.take_of_length_le (by rw [inoB_length]; omega)]
      rw [← h60]
    rw [hs] at hl
    subst hl
    exact read_inoB hr _
theorem inoGok_put {k im nl ge sz p0 p1 p2 p3 at_ : Int} (h : inoOk k im nl ge sz p0 p1 p2 p3 at_ = true) : inoGok (inoP k im nl ge sz p0 p1 p2 p3 at_) = true := by
  obtain ⟨e0, e1, e2, e3, e4, e5, e6, e7, e8, e9⟩ := put_get h rfl
  unfold inoGok
  rw [e0, e1, e2, e3, e4, e5, e6, e7, e8, e9, h]
  simp
theorem inoP_length {k im nl ge sz p0 p1 p2 p3 at_ : Int} (h : inoOk k im nl ge sz p0 p1 p2 p3 at_ = true) : (inoP k im nl ge sz p0 p1 p2 p3 at_).length = 64 := by
  unfold inoP; rw [if_pos h]; split
  · simp
  · exact sealS_length _
theorem inoGok_len {l : List Int} (h : inoGok l = true) : l.length = 64 := by
  unfold inoGok at h
  simp only [Bool.and_eq_true, decide_eq_true_eq] at h
  rw [h.1]; exact inoP_length h.2
end Go.Proofs.Ytdknolnoimpgeaa.K
namespace Go.Proofs.Ytdknolnoimpgeaa.K
open Go.Lib
set_option linter.unusedVariables false
set_option linter.unusedSimpArgs false
structure Ent where
  sl : Int
  ino : Int
  nm : ByteArray
def Ent.zero : Ent := ⟨0, 0, ByteArray.empty⟩
/-- The entry that bytes are. -/
def getE (l : List Int) (slot : Int) : Ent × Bool × Bool :=
  if l.length ≠ 16 then (Ent.zero, false, false)
  else if l = List.replicate 16 0 then (Ent.zero, false, true)
  else
    let ino := gN l 0 2
    let nm := (unpackN (l.drop 2)).1
    if rightE slot ino nm = true ∧ bytesE ino nm = l then (⟨slot, ino, nm⟩, true, true) else (Ent.zero, false, false)
end Go.Proofs.Ytdknolnoimpgeaa.K
namespace Go.Proofs.Ytdknolnoimpgeaa.K
open Go.RowKit Go.Proofs.YtdknolnoimpgeaaW.PrintWords Go.Proofs.YtdknolnoimpgeaaW.PrintLast Go.Proofs.YtdknolnoimpgeaaW.PrintMore
set_option linter.unusedVariables false
set_option linter.unusedSimpArgs false
theorem all_range_ints : ∀ (xs ys : List Int), xs.length = ys.length → ((List.range xs.length).all fun i => xs.getD i 0 == ys.getD i 0) = (xs == ys)
  | [], [], _ => rfl
  | x :: xs, y :: ys, h => by
    have ih := all_range_ints xs ys (by simpa using h)
    rw [List.length_cons, List.range_succ_eq_map, List.all_cons, List.all_map]
    simp only [List.getD_cons_zero, Function.comp_def, List.getD_cons_succ, ih]
    simp [List.cons_beq_cons]
  | [], _ :: _, h => by simp at h
  | _ :: _, [], h => by simp at h
theorem run_equalIn_ints {P : Program} (w : World) (k : IntKind) (d : Nat) (t e : TypeId) (n : Nat) (ht : P.underlying t = some (.array n e)) (he : P.underlying e = some (.int k)) (hsz : ∀ w, (sizeOf e).run P w = .ok 1 w)
    (xs ys : List Int) (hx : xs.length = n) (hy : ys.length = n) :
    (Op.equalIn (d + 2) t (.agg (xs.map (Value.int k)).toArray) (.agg (ys.map (Value.int k)).toArray)).run P w = .ok (xs == ys) w := by
  rw [← all_range_ints xs ys (hx.trans hy.symm), hx, List.range_eq_range', Op.equalIn]
  simp only [Sem.run_bind, run_underlying ht, Result.andThen_ok, hsz, Std.Legacy.Range.forIn_eq_forIn_range', Std.Legacy.Range.size, Nat.sub_zero, Nat.add_sub_cancel, Nat.div_one]
  have hl : ∀ i ∈ List.range' 0 n 1, i < n := fun i hi => by simpa using (List.mem_range'_1.1 hi).2
  generalize List.range' 0 n 1 = l at hl ⊢
  induction l with
  | nil => simp
  | cons i l ih =>
    have hi : i < n := hl i (by simp)
    have px : (part e (xs.map (Value.int k)).toArray (i * 1)).run P w = .ok (.int k (xs.getD i 0)) w := by
      simp [part, isAgg, run_underlying he, List.getD, List.getElem?_eq_getElem (show i < xs.length by omega)]
    have py : (part e (ys.map (Value.int k)).toArray (i * 1)).run P w = .ok (.int k (ys.getD i 0)) w := by
      simp [part, isAgg, run_underlying he, List.getD, List.getElem?_eq_getElem (show i < ys.length by omega)]
    have pe : (Op.equalIn (d + 1) e (.int k (xs.getD i 0)) (.int k (ys.getD i 0))).run P w = .ok (xs.getD i 0 == ys.getD i 0) w := by
      rw [run_equalIn_int w d e k k _ _ he]
    simp only [List.forIn_cons, Sem.run_bind, px, py, pe, Result.andThen_ok, List.all_cons]
    cases hb : (xs.getD i 0 == ys.getD i 0)
    · simp
    · simp only [Bool.not_true, Bool.false_eq_true, if_false, Sem.run_pure, Result.andThen_ok, Bool.true_and]
      exact ih fun j hj => hl j (by simp [hj])
theorem int_size (w : World) : (sizeOf 3).run Try.prog w = .ok 1 w := by
  have h : (Try.prog.info? 3).map (·.size) = some 1 := by kernel_rfl
  obtain ⟨i, hi, hz⟩ := Option.map_eq_some_iff.1 h
  simp [sizeOf, typeInfo, hi, hz]
theorem eq4d (dd : Nat) (w : World) (a b c d a' b' c' d' : Int) : (Op.equalIn (dd + 2) 52 (.agg #[.int .i64 a, .int .i64 b, .int .i64 c, .int .i64 d]) (.agg #[.int .i64 a', .int .i64 b', .int .i64 c', .int .i64 d'])).run Try.prog w = .ok (a == a' && (b == b' && (c == c' && d == d'))) w := by
  have h := run_equalIn_ints (P := Try.prog) w .i64 dd 52 3 4 Try.underlying52 Try.underlying3 int_size [a, b, c, d] [a', b', c', d'] rfl rfl
  rw [show (([a, b, c, d] : List Int) == [a', b', c', d']) = (a == a' && (b == b' && (c == c' && d == d'))) by simp [List.cons_beq_cons]] at h
  exact h
theorem eqIno (dd : Nat) (w : World) (x0 y0 x1 y1 x2 y2 x3 y3 x4 y4 x5 y5 x6 y6 x7 y7 x8 y8 x9 y9 : Int) :
    (Op.equalIn (dd + 3) 54 (.agg #[.int .i64 x0, .int .i64 x1, .int .i64 x2, .int .i64 x3, .int .i64 x4, .int .i64 x5, .int .i64 x6, .int .i64 x7, .int .i64 x8, .int .i64 x9]) (.agg #[.int .i64 y0, .int .i64 y1, .int .i64 y2, .int .i64 y3, .int .i64 y4, .int .i64 y5, .int .i64 y6, .int .i64 y7, .int .i64 y8, .int .i64 y9])).run Try.prog w = .ok (x0 == y0 && (x1 == y1 && (x2 == y2 && (x3 == y3 && (x4 == y4 && ((x5 == y5 && (x6 == y6 && (x7 == y7 && x8 == y8))) && x9 == y9)))))) w := by
  refine eqA_of Try.underlying54 (by kernel_rfl) ?_
  refine eqf_cons (by rfl) (by go_simp; rfl) (by go_simp; rfl) (by go_simp) ?_
  refine eqf_cons (by rfl) (by go_simp; rfl) (by go_simp; rfl) (by go_simp) ?_
  refine eqf_cons (by rfl) (by go_simp; rfl) (by go_simp; rfl) (by go_simp) ?_
  refine eqf_cons (by rfl) (by go_simp; rfl) (by go_simp; rfl) (by go_simp) ?_
  refine eqf_cons (by rfl) (by go_simp; rfl) (by go_simp; rfl) (by go_simp) ?_
  refine eqf_cons (by rfl) (by go_simp) (by go_simp) (eq4d (dd + 0) w _ _ _ _ _ _ _ _) ?_
  exact eqf_last (by rfl) (by go_simp; rfl) (by go_simp; rfl) (by go_simp)
theorem eq4 (w : World) (a b c d a' b' c' d' : Int) : (Op.equalIn 10000 52 (.agg #[.int .i64 a, .int .i64 b, .int .i64 c, .int .i64 d]) (.agg #[.int .i64 a', .int .i64 b', .int .i64 c', .int .i64 d'])).run Try.prog w = .ok (a == a' && (b == b' && (c == c' && d == d'))) w := by
  have h := run_equalIn_ints (P := Try.prog) w .i64 9998 52 3 4 Try.underlying52 Try.underlying3 int_size [a, b, c, d] [a', b', c', d'] rfl rfl
  rw [show (([a, b, c, d] : List Int) == [a', b', c', d']) = (a == a' && (b == b' && (c == c' && d == d'))) by simp [List.cons_beq_cons]] at h
  exact h
end Go.Proofs.Ytdknolnoimpgeaa.K
namespace Go.Proofs.Ytdknolnoimpgeaa.K
open Go.RowKit Go.Proofs.YtdknolnoimpgeaaW.PrintWords Go.Proofs.YtdknolnoimpgeaaW.PrintLast Go.Proofs.YtdknolnoimpgeaaW.PrintMore
set_option linter.unusedVariables false
set_option linter.unusedSimpArgs false
def inoV (k im nl ge sz p0 p1 p2 p3 at_ : Int) : Value := .agg #[.int .i64 k, .int .i64 im, .int .i64 nl, .int .i64 ge, .int .i64 sz, .int .i64 p0, .int .i64 p1, .int .i64 p2, .int .i64 p3, .int .i64 at_]
def inoN (k im nl ge sz p0 p1 p2 p3 at_ : Int) : Value := .agg #[.int .i64 k, .int .i64 1, .int .i64 4, .int .i64 im, .int .i64 1, .int .i64 255, .int .i64 nl, .int .i64 2, .int .i64 65535, .int .i64 ge, .int .i64 4, .int .i64 268435455, .int .i64 sz, .int .i64 2, .int .i64 256,
  .int .i64 p0, .int .i64 2, .int .i64 65535, .int .i64 p1, .int .i64 2, .int .i64 65535, .int .i64 p2, .int .i64 2, .int .i64 65535, .int .i64 p3, .int .i64 2, .int .i64 65535, .int .i64 at_, .int .i64 2, .int .i64 65535]
theorem heap_at {W : World} {o : Obj} {g : Nat} (hg : W.heap.size = g) : (W.alloc o).heap[g]? = some o := by
  subst hg
  exact heap_alloc_new _ _
set_option maxRecDepth 100000 in
theorem inoFresh_walk (w : World) : Calls Try.prog 49 #[] w fun e w' => e = .returned (inoV 1 0 2 0 0 0 0 0 0 0) ∧ Below w.heap.size w w' := by
  unfold inoV
  go_enter Try.func49, Try.ntmps49
  go_wp2
  refine bodyPost_ret (results_cell_row rfl _ _ w.heap.size 54 #[.int .i64 1, .int .i64 0, .int .i64 2, .int .i64 0, .int .i64 0, .int .i64 0, .int .i64 0, .int .i64 0, .int .i64 0, .int .i64 0] (0, 0) _ rfl (by exact heap_alloc_new _ _) Try.underlying54 rfl (by kernel_rfl)) rfl ?_
  exact ⟨by first | rfl | (go_simp; rfl), (by repeat (first | exact Below.refl _ _ | apply Below.drew | apply below_alloc))⟩
set_option maxRecDepth 100000 in
theorem inoNumbers_walk (k im nl ge sz p0 p1 p2 p3 at_ : Int) (w : World) : Calls Try.prog 105 #[inoV k im nl ge sz p0 p1 p2 p3 at_] w fun e w' => e = .returned (inoN k im nl ge sz p0 p1 p2 p3 at_) ∧ Below w.heap.size w w' := by
  unfold inoV inoN
  go_enter Try.func105, Try.ntmps105
  go_wp2_with ((with_reducible refine gate_store (p := 2) rfl ?_); go_loud (refine wpList_store_rowTo rfl 121 (.tmp 2) (.tmp 37) rfl rfl (w.heap.size + 1) #[.int .i64 k, .int .i64 1, .int .i64 4, .int .i64 im, .int .i64 1, .int .i64 255, .int .i64 nl, .int .i64 2, .int .i64 65535, .int .i64 ge, .int .i64 4, .int .i64 268435455, .int .i64 sz, .int .i64 2, .int .i64 256, .int .i64 p0, .int .i64 2, .int .i64 65535, .int .i64 p1, .int .i64 2, .int .i64 65535, .int .i64 p2, .int .i64 2, .int .i64 65535, .int .i64 p3, .int .i64 2, .int .i64 65535, .int .i64 at_, .int .i64 2, .int .i64 65535] rfl rfl 121 #[.int .i64 0, .int .i64 0, .int .i64 0, .int .i64 0, .int .i64 0, .int .i64 0, .int .i64 0, .int .i64 0, .int .i64 0, .int .i64 0, .int .i64 0, .int .i64 0, .int .i64 0, .int .i64 0, .int .i64 0, .int .i64 0, .int .i64 0, .int .i64 0, .int .i64 0, .int .i64 0, .int .i64 0, .int .i64 0, .int .i64 0, .int .i64 0, .int .i64 0, .int .i64 0, .int .i64 0, .int .i64 0, .int .i64 0, .int .i64 0] (heap_at (by simp)) (by kernel_rfl) rfl (by simp [Value.oneCell']) ?_; have e_ := World.setRow_alloc_new (w.alloc (.cells #[.int .i64 k, .int .i64 im, .int .i64 nl, .int .i64 ge, .int .i64 sz, .int .i64 p0, .int .i64 p1, .int .i64 p2, .int .i64 p3, .int .i64 at_] 54)) #[.int .i64 0, .int .i64 0, .int .i64 0, .int .i64 0, .int .i64 0, .int .i64 0, .int .i64 0, .int .i64 0, .int .i64 0, .int .i64 0, .int .i64 0, .int .i64 0, .int .i64 0, .int .i64 0, .int .i64 0, .int .i64 0, .int .i64 0, .int .i64 0, .int .i64 0, .int .i64 0, .int .i64 0, .int .i64 0, .int .i64 0, .int .i64 0, .int .i64 0, .int .i64 0, .int .i64 0, .int .i64 0, .int .i64 0, .int .i64 0] #[.int .i64 k, .int .i64 1, .int .i64 4, .int .i64 im, .int .i64 1, .int .i64 255, .int .i64 nl, .int .i64 2, .int .i64 65535, .int .i64 ge, .int .i64 4, .int .i64 268435455, .int .i64 sz, .int .i64 2, .int .i64 256, .int .i64 p0, .int .i64 2, .int .i64 65535, .int .i64 p1, .int .i64 2, .int .i64 65535, .int .i64 p2, .int .i64 2, .int .i64 65535, .int .i64 p3, .int .i64 2, .int .i64 65535, .int .i64 at_, .int .i64 2, .int .i64 65535] 121; rw [show (w.alloc (.cells #[.int .i64 k, .int .i64 im, .int .i64 nl, .int .i64 ge, .int .i64 sz, .int .i64 p0, .int .i64 p1, .int .i64 p2, .int .i64 p3, .int .i64 at_] 54)).heap.size = w.heap.size + 1 by simp] at e_; rw [e_]))
  refine bodyPost_ret (results_cell_row rfl _ _ (w.heap.size + 1) 121 #[.int .i64 k, .int .i64 1, .int .i64 4, .int .i64 im, .int .i64 1, .int .i64 255, .int .i64 nl, .int .i64 2, .int .i64 65535, .int .i64 ge, .int .i64 4, .int .i64 268435455, .int .i64 sz, .int .i64 2, .int .i64 256, .int .i64 p0, .int .i64 2, .int .i64 65535, .int .i64 p1, .int .i64 2, .int .i64 65535, .int .i64 p2, .int .i64 2, .int .i64 65535, .int .i64 p3, .int .i64 2, .int .i64 65535, .int .i64 at_, .int .i64 2, .int .i64 65535] (0, 0) _ rfl (heap_at (by simp)) Try.underlying121 rfl (by kernel_rfl)) rfl ?_
  exact ⟨rfl, (by repeat (first | exact Below.refl _ _ | apply Below.drew | apply below_alloc))⟩
end Go.Proofs.Ytdknolnoimpgeaa.K
namespace Go.Proofs.Ytdknolnoimpgeaa.K
open Go.RowKit Go.Proofs.YtdknolnoimpgeaaW.PrintWords Go.Proofs.YtdknolnoimpgeaaW.PrintLast Go.Proofs.YtdknolnoimpgeaaW.PrintMore
set_option linter.unusedVariables false
set_option linter.unusedSimpArgs false
set_option maxRecDepth 100000 in
theorem inoOdd_walk (k im nl ge sz p0 p1 p2 p3 at_ : Int) (w : World) : Calls Try.prog 107 #[inoV k im nl ge sz p0 p1 p2 p3 at_] w fun e w' => e = .returned (.bool (inoOdd k sz p0 p1 p2 p3)) ∧ Below w.heap.size w w' := by
  unfold inoV
  by_cases h1 : k = 1
  · subst h1
    have E0 : Aside0 (inoOdd 1 sz p0 p1 p2 p3 = (sz != 0)) := ⟨by simp [inoOdd]⟩
    go_enter Try.func107, Try.ntmps107
    go_wp2
    go_ret
    exact ⟨by rw [E0.out]; rfl, (by repeat (first | exact Below.refl _ _ | apply Below.drew | apply below_alloc))⟩
  by_cases h4 : k = 4
  · subst h4
    by_cases hs : sz = 0
    · have E0 : Aside0 (inoOdd 4 sz p0 p1 p2 p3 = !(p0 == 0 && (p1 == 0 && (p2 == 0 && p3 == 0)))) := ⟨by simp [inoOdd, hs]⟩
      subst hs
      clear h1
      have q4 := fun w => eq4 w p0 p1 p2 p3 0 0 0 0
      go_enter Try.func107, Try.ntmps107
      go_wp2
      go_ret
      exact ⟨by rw [E0.out]; first | rfl | (simp; done) | trace_state, (by repeat (first | exact Below.refl _ _ | apply Below.drew | apply below_alloc))⟩
    · have E0 : Aside0 (inoOdd 4 sz p0 p1 p2 p3 = true) := ⟨by simp [inoOdd, hs]⟩
      have hsb : (sz != 0) = true := by simp [hs]
      clear h1
      go_enter Try.func107, Try.ntmps107
      go_wp2
      go_ret
      exact ⟨by rw [E0.out]; first | rfl | (simp; done) | trace_state, (by repeat (first | exact Below.refl _ _ | apply Below.drew | apply below_alloc))⟩
  · have E0 : Aside0 (inoOdd k sz p0 p1 p2 p3 = (k == 0)) := ⟨by simp [inoOdd, h1, h4]⟩
    have h1b : (k == 1) = false := by simp [h1]
    have h4b : (k == 4) = false := by simp [h4]
    go_enter Try.func107, Try.ntmps107
    go_wp2
    go_ret
    exact ⟨by rw [E0.out]; rfl, (by repeat (first | exact Below.refl _ _ | apply Below.drew | apply below_alloc))⟩
def inoRow (k im nl ge sz p0 p1 p2 p3 at_ : Int) : Nat → Int × Int × Int
  | 0 => (k, 1, 4) | 1 => (im, 1, 255) | 2 => (nl, 2, 65535) | 3 => (ge, 4, 268435455) | 4 => (sz, 2, 256)
  | 5 => (p0, 2, 65535) | 6 => (p1, 2, 65535) | 7 => (p2, 2, 65535) | 8 => (p3, 2, 65535) | _ => (at_, 2, 65535)
theorem lt10 {m : Nat} (h : m < 10) : m = 0 ∨ m = 1 ∨ m = 2 ∨ m = 3 ∨ m = 4 ∨ m = 5 ∨ m = 6 ∨ m = 7 ∨ m = 8 ∨ m = 9 := by omega
theorem inoN_at (k im nl ge sz p0 p1 p2 p3 at_ : Int) {m : Nat} (h : m < 10) (w : World) : (Instr.index 121 (inoN k im nl ge sz p0 p1 p2 p3 at_) (.int .i64 m)).run Try.prog w = .ok (.agg #[.int .i64 (inoRow k im nl ge sz p0 p1 p2 p3 at_ m).1, .int .i64 (inoRow k im nl ge sz p0 p1 p2 p3 at_ m).2.1, .int .i64 (inoRow k im nl ge sz p0 p1 p2 p3 at_ m).2.2]) w := by
  rcases lt10 h with rfl | rfl | rfl | rfl | rfl | rfl | rfl | rfl | rfl | rfl
  all_goals (unfold inoN inoRow; kernel_rfl)
end Go.Proofs.Ytdknolnoimpgeaa.K
namespace Go.Proofs.Ytdknolnoimpgeaa.K
open Go.RowKit Go.Proofs.YtdknolnoimpgeaaW.PrintWords Go.Proofs.YtdknolnoimpgeaaW.PrintLast Go.Proofs.YtdknolnoimpgeaaW.PrintMore
set_option linter.unusedVariables false
set_option linter.unusedSimpArgs false
theorem inoR_rows {k im nl ge sz p0 p1 p2 p3 at_ : Int} (h : ∀ j, j < 10 → 0 ≤ (inoRow k im nl ge sz p0 p1 p2 p3 at_ j).1 ∧ (inoRow k im nl ge sz p0 p1 p2 p3 at_ j).1 ≤ (inoRow k im nl ge sz p0 p1 p2 p3 at_ j).2.2) : inoR k im nl ge sz p0 p1 p2 p3 at_ = true := by
  have h0 := h 0 (by omega)
  have h1 := h 1 (by omega)
  have h2 := h 2 (by omega)
  have h3 := h 3 (by omega)
  have h4 := h 4 (by omega)
  have h5 := h 5 (by omega)
  have h6 := h 6 (by omega)
  have h7 := h 7 (by omega)
  have h8 := h 8 (by omega)
  have h9 := h 9 (by omega)
  simp only [inoRow] at h0 h1 h2 h3 h4 h5 h6 h7 h8 h9
  simp only [inoR, rgB, Bool.and_eq_true, decide_eq_true_eq]
  omega
theorem inoR_not {k im nl ge sz p0 p1 p2 p3 at_ : Int} {j : Nat} (hj : j < 10) (h : (inoRow k im nl ge sz p0 p1 p2 p3 at_ j).1 < 0 ∨ (inoRow k im nl ge sz p0 p1 p2 p3 at_ j).2.2 < (inoRow k im nl ge sz p0 p1 p2 p3 at_ j).1) : inoR k im nl ge sz p0 p1 p2 p3 at_ = false := by
  cases hb : inoR k im nl ge sz p0 p1 p2 p3 at_ with
  | false => rfl
  | true =>
    obtain ⟨h0, h1, h2, h3, h4, h5, h6, h7, h8, h9⟩ := inoR_parts hb
    rcases lt10 hj with rfl | rfl | rfl | rfl | rfl | rfl | rfl | rfl | rfl | rfl <;> simp only [inoRow] at h <;> omega
set_option maxRecDepth 100000 in
theorem inoRight_walk (k im nl ge sz p0 p1 p2 p3 at_ : Int) (w : World) : Calls Try.prog 46 #[inoV k im nl ge sz p0 p1 p2 p3 at_] w fun e w' => e = .returned (.bool (inoOk k im nl ge sz p0 p1 p2 p3 at_)) ∧ Below w.heap.size w w' := by
  by_cases hz : inoZ k im nl ge sz p0 p1 p2 p3 at_ = true
  · have E0 : Aside0 (inoOk k im nl ge sz p0 p1 p2 p3 at_ = true) := ⟨by unfold inoOk; rw [hz]; rfl⟩
    have q : ∀ w, (Op.equalIn 10000 54 (.agg #[.int .i64 k, .int .i64 im, .int .i64 nl, .int .i64 ge, .int .i64 sz, .int .i64 p0, .int .i64 p1, .int .i64 p2, .int .i64 p3, .int .i64 at_]) (.agg #[.int .i64 0, .int .i64 0, .int .i64 0, .int .i64 0, .int .i64 0, .int .i64 0, .int .i64 0, .int .i64 0, .int .i64 0, .int .i64 0])).run Try.prog w = .ok true w := fun w => by
      rw [eqIno 9997 w]; unfold inoZ at hz; rw [hz]
    clear hz
    unfold inoV
    go_enter Try.func46, Try.ntmps46
    go_wp2
    go_ret
    exact ⟨by rw [E0.out]; rfl, (by repeat (first | exact Below.refl _ _ | apply Below.drew | apply below_alloc))⟩
  have hzf : inoZ k im nl ge sz p0 p1 p2 p3 at_ = false := by simpa using hz
  have q : ∀ w, (Op.equalIn 10000 54 (.agg #[.int .i64 k, .int .i64 im, .int .i64 nl, .int .i64 ge, .int .i64 sz, .int .i64 p0, .int .i64 p1, .int .i64 p2, .int .i64 p3, .int .i64 at_]) (.agg #[.int .i64 0, .int .i64 0, .int .i64 0, .int .i64 0, .int .i64 0, .int .i64 0, .int .i64 0, .int .i64 0, .int .i64 0, .int .i64 0])).run Try.prog w = .ok false w := fun w => by
    rw [eqIno 9997 w]; unfold inoZ at hzf; rw [hzf]
  have HZ := Aside0.mk hzf
  have WN := Aside0.mk (fun W => inoNumbers_walk k im nl ge sz p0 p1 p2 p3 at_ W)
  have WO := Aside0.mk (fun W => inoOdd_walk k im nl ge sz p0 p1 p2 p3 at_ W)
  have HX := Aside0.mk (Below.refl (w.alloc (.cells #[.int .i64 k, .int .i64 im, .int .i64 nl, .int .i64 ge, .int .i64 sz, .int .i64 p0, .int .i64 p1, .int .i64 p2, .int .i64 p3, .int .i64 at_] 54)).heap.size (w.alloc (.cells #[.int .i64 k, .int .i64 im, .int .i64 nl, .int .i64 ge, .int .i64 sz, .int .i64 p0, .int .i64 p1, .int .i64 p2, .int .i64 p3, .int .i64 at_] 54)))
  have IX := Aside0.mk (fun m (h : m < 10) W => inoN_at k im nl ge sz p0 p1 p2 p3 at_ h W)
  obtain ⟨nv, hnv⟩ : ∃ nv, nv = inoN k im nl ge sz p0 p1 p2 p3 at_ := ⟨_, rfl⟩
  rw [← hnv] at WN IX
  clear hz hzf hnv
  unfold inoV at WN WO ⊢
  go_enter Try.func46, Try.ntmps46
  go_wp2_with (first | (go_at_call 105; (with_reducible refine (WN.out _).mono ?_); rintro e w1 ⟨rfl, hb⟩; have n2_ := Aside0.mk (below_step (by repeat (first | (with_reducible first | exact HX.out | apply below_alloc | apply pw_below_drewN | apply below_drew1) | exact HX.out)) hb); clear HX; have HX := n2_; clear n2_; clear hb))
  go_loopw [10] (fun v10 w' => ∃ m : Nat, v10 = .int .i64 m ∧ Aside0 (m ≤ 10) ∧ Aside0 (∀ j, j < m → 0 ≤ (inoRow k im nl ge sz p0 p1 p2 p3 at_ j).1 ∧ (inoRow k im nl ge sz p0 p1 p2 p3 at_ j).1 ≤ (inoRow k im nl ge sz p0 p1 p2 p3 at_ j).2.2) ∧ Aside0 (Below (w.alloc (.cells #[.int .i64 k, .int .i64 im, .int .i64 nl, .int .i64 ge, .int .i64 sz, .int .i64 p0, .int .i64 p1, .int .i64 p2, .int .i64 p3, .int .i64 at_] 54)).heap.size (w.alloc (.cells #[.int .i64 k, .int .i64 im, .int .i64 nl, .int .i64 ge, .int .i64 sz, .int .i64 p0, .int .i64 p1, .int .i64 p2, .int .i64 p3, .int .i64 at_] 54)) w')) (fun i _ => 10 - (intOf i).toNat)
  case atStart => exact ⟨0, rfl, ⟨by omega⟩, ⟨fun j hj => absurd hj (by omega)⟩, HX⟩
  case round =>
    clear HX
    obtain ⟨m, rfl, hm, hall, HX⟩ := hrel
    have hm' := hm.out
    by_cases hlt : m < 10
    · have hx := IX.out m hlt
      obtain ⟨⟨v, s, t⟩, hr⟩ : ∃ r, r = inoRow k im nl ge sz p0 p1 p2 p3 at_ m := ⟨_, rfl⟩
      have HR := Aside0.mk hr
      rw [← hr] at hx
      clear hr
      simp only at hx
      by_cases h0 : v < 0
      · have E0 : Aside0 (inoOk k im nl ge sz p0 p1 p2 p3 at_ = false) := ⟨by unfold inoOk; rw [HZ.out, inoR_not hlt (by rw [← HR.out]; exact .inl h0)]; rfl⟩
        go_wp2
        go_ret
        exact ⟨by rw [E0.out]; rfl, (below_step (W := w.alloc (.cells #[.int .i64 k, .int .i64 im, .int .i64 nl, .int .i64 ge, .int .i64 sz, .int .i64 p0, .int .i64 p1, .int .i64 p2, .int .i64 p3, .int .i64 at_] 54)) (by repeat (first | exact Below.refl _ _ | apply Below.drew | apply below_alloc)) (by repeat (first | (with_reducible first | exact HX.out | apply below_alloc | apply pw_below_drewN | apply below_drew1) | exact HX.out)))⟩
      by_cases h1 : t < v
      · have E0 : Aside0 (inoOk k im nl ge sz p0 p1 p2 p3 at_ = false) := ⟨by unfold inoOk; rw [HZ.out, inoR_not hlt (by rw [← HR.out]; exact .inr h1)]; rfl⟩
        go_wp2
        go_ret
        exact ⟨by rw [E0.out]; rfl, (below_step (W := w.alloc (.cells #[.int .i64 k, .int .i64 im, .int .i64 nl, .int .i64 ge, .int .i64 sz, .int .i64 p0, .int .i64 p1, .int .i64 p2, .int .i64 p3, .int .i64 at_] 54)) (by repeat (first | exact Below.refl _ _ | apply Below.drew | apply below_alloc)) (by repeat (first | (with_reducible first | exact HX.out | apply below_alloc | apply pw_below_drewN | apply below_drew1) | exact HX.out)))⟩
      · have h0' : 0 ≤ v := by omega
        have h1' : v ≤ t := by omega
        have HS : Aside0 (∀ j, j < m + 1 → 0 ≤ (inoRow k im nl ge sz p0 p1 p2 p3 at_ j).1 ∧ (inoRow k im nl ge sz p0 p1 p2 p3 at_ j).1 ≤ (inoRow k im nl ge sz p0 p1 p2 p3 at_ j).2.2) := ⟨fun j hj => by
          by_cases hjm : j = m
          · subst hjm; rw [← HR.out]; exact ⟨h0', h1'⟩
          · exact hall.out j (by omega)⟩
        clear h0 h1
        go_wp2
        exact ⟨⟨m + 1, rfl, ⟨by omega⟩, HS, ⟨(by repeat (first | (with_reducible first | exact HX.out | apply below_alloc | apply pw_below_drewN | apply below_drew1) | exact HX.out))⟩⟩, by simp [intOf]; omega⟩
    · have hmn : 10 ≤ m := by omega
      have hR := inoR_rows (fun j hj => hall.out j (by omega))
      clear hlt
      obtain ⟨o, ho⟩ : ∃ o, o = inoOdd k sz p0 p1 p2 p3 := ⟨_, rfl⟩
      have E0 : Aside0 (inoOk k im nl ge sz p0 p1 p2 p3 at_ = !o) := ⟨by unfold inoOk; rw [HZ.out, hR, ho]; rfl⟩
      rw [← ho] at WO
      clear hR ho
      have k0 := pw_cell_below HX.out (show (w.alloc (.cells #[.int .i64 k, .int .i64 im, .int .i64 nl, .int .i64 ge, .int .i64 sz, .int .i64 p0, .int .i64 p1, .int .i64 p2, .int .i64 p3, .int .i64 at_] 54)).cell? ⟨w.heap.size, 0, none⟩ = some (.int .i64 k) by go_simp); have k1 := pw_cell_below HX.out (show (w.alloc (.cells #[.int .i64 k, .int .i64 im, .int .i64 nl, .int .i64 ge, .int .i64 sz, .int .i64 p0, .int .i64 p1, .int .i64 p2, .int .i64 p3, .int .i64 at_] 54)).cell? ⟨w.heap.size, 1, none⟩ = some (.int .i64 im) by go_simp); have k2 := pw_cell_below HX.out (show (w.alloc (.cells #[.int .i64 k, .int .i64 im, .int .i64 nl, .int .i64 ge, .int .i64 sz, .int .i64 p0, .int .i64 p1, .int .i64 p2, .int .i64 p3, .int .i64 at_] 54)).cell? ⟨w.heap.size, 2, none⟩ = some (.int .i64 nl) by go_simp); have k3 := pw_cell_below HX.out (show (w.alloc (.cells #[.int .i64 k, .int .i64 im, .int .i64 nl, .int .i64 ge, .int .i64 sz, .int .i64 p0, .int .i64 p1, .int .i64 p2, .int .i64 p3, .int .i64 at_] 54)).cell? ⟨w.heap.size, 3, none⟩ = some (.int .i64 ge) by go_simp); have k4 := pw_cell_below HX.out (show (w.alloc (.cells #[.int .i64 k, .int .i64 im, .int .i64 nl, .int .i64 ge, .int .i64 sz, .int .i64 p0, .int .i64 p1, .int .i64 p2, .int .i64 p3, .int .i64 at_] 54)).cell? ⟨w.heap.size, 4, none⟩ = some (.int .i64 sz) by go_simp); have k5 := pw_cell_below HX.out (show (w.alloc (.cells #[.int .i64 k, .int .i64 im, .int .i64 nl, .int .i64 ge, .int .i64 sz, .int .i64 p0, .int .i64 p1, .int .i64 p2, .int .i64 p3, .int .i64 at_] 54)).cell? ⟨w.heap.size, 5, none⟩ = some (.int .i64 p0) by go_simp); have k6 := pw_cell_below HX.out (show (w.alloc (.cells #[.int .i64 k, .int .i64 im, .int .i64 nl, .int .i64 ge, .int .i64 sz, .int .i64 p0, .int .i64 p1, .int .i64 p2, .int .i64 p3, .int .i64 at_] 54)).cell? ⟨w.heap.size, 6, none⟩ = some (.int .i64 p1) by go_simp); have k7 := pw_cell_below HX.out (show (w.alloc (.cells #[.int .i64 k, .int .i64 im, .int .i64 nl, .int .i64 ge, .int .i64 sz, .int .i64 p0, .int .i64 p1, .int .i64 p2, .int .i64 p3, .int .i64 at_] 54)).cell? ⟨w.heap.size, 7, none⟩ = some (.int .i64 p2) by go_simp); have k8 := pw_cell_below HX.out (show (w.alloc (.cells #[.int .i64 k, .int .i64 im, .int .i64 nl, .int .i64 ge, .int .i64 sz, .int .i64 p0, .int .i64 p1, .int .i64 p2, .int .i64 p3, .int .i64 at_] 54)).cell? ⟨w.heap.size, 8, none⟩ = some (.int .i64 p3) by go_simp); have k9 := pw_cell_below HX.out (show (w.alloc (.cells #[.int .i64 k, .int .i64 im, .int .i64 nl, .int .i64 ge, .int .i64 sz, .int .i64 p0, .int .i64 p1, .int .i64 p2, .int .i64 p3, .int .i64 at_] 54)).cell? ⟨w.heap.size, 9, none⟩ = some (.int .i64 at_) by go_simp)
      go_wp2_with (first | (go_at_call 107; (with_reducible refine (WO.out _).mono ?_); rintro e w2 ⟨rfl, hb⟩; have n2_ := Aside0.mk (below_step (by repeat (first | (with_reducible first | exact HX.out | apply below_alloc | apply pw_below_drewN | apply below_drew1) | exact HX.out)) hb); clear HX; have HX := n2_; clear n2_; clear hb))
      go_ret
      exact ⟨by rw [E0.out]; rfl, (below_step (W := w.alloc (.cells #[.int .i64 k, .int .i64 im, .int .i64 nl, .int .i64 ge, .int .i64 sz, .int .i64 p0, .int .i64 p1, .int .i64 p2, .int .i64 p3, .int .i64 at_] 54)) (by repeat (first | exact Below.refl _ _ | apply Below.drew | apply below_alloc)) (by repeat (first | (with_reducible first | exact HX.out | apply below_alloc | apply pw_below_drewN | apply below_drew1) | exact HX.out)))⟩
end Go.Proofs.Ytdknolnoimpgeaa.K
namespace Go.Proofs.Ytdknolnoimpgeaa.K
open Go.RowKit Go.Proofs.YtdknolnoimpgeaaW.PrintWords Go.Proofs.YtdknolnoimpgeaaW.PrintLast Go.Proofs.YtdknolnoimpgeaaW.PrintMore
set_option linter.unusedVariables false
set_option linter.unusedSimpArgs false
def inoPre (k im nl ge sz p0 p1 p2 p3 at_ : Int) : Nat → List Int
  | 0 => []
  | m + 1 => inoPre k im nl ge sz p0 p1 p2 p3 at_ m ++ leB (inoRow k im nl ge sz p0 p1 p2 p3 at_ m).1 (inoRow k im nl ge sz p0 p1 p2 p3 at_ m).2.1.toNat
theorem inoPre_all (k im nl ge sz p0 p1 p2 p3 at_ : Int) : inoPre k im nl ge sz p0 p1 p2 p3 at_ 10 = inoB k im nl ge sz p0 p1 p2 p3 at_ := by
  simp [inoPre, inoB, inoRow]
theorem inoPre_len (k im nl ge sz p0 p1 p2 p3 at_ : Int) : ∀ m, m ≤ 10 → (inoPre k im nl ge sz p0 p1 p2 p3 at_ m).length ≤ 4 * m := by
  intro m
  induction m with
  | zero => intro _; simp [inoPre]
  | succ m ih =>
    intro h
    have h1 := ih (by omega)
    have h2 : (inoRow k im nl ge sz p0 p1 p2 p3 at_ m).2.1.toNat ≤ 4 := by
      rcases lt10 (show m < 10 by omega) with rfl | rfl | rfl | rfl | rfl | rfl | rfl | rfl | rfl | rfl <;> simp [inoRow]
    rw [inoPre, List.length_append, leB_length]; omega
theorem inoRow_R {k im nl ge sz p0 p1 p2 p3 at_ : Int} (h : inoR k im nl ge sz p0 p1 p2 p3 at_ = true) {m : Nat} (hm : m < 10) : numR (inoRow k im nl ge sz p0 p1 p2 p3 at_ m).1 (inoRow k im nl ge sz p0 p1 p2 p3 at_ m).2.1 = true := by
  obtain ⟨h0, h1, h2, h3, h4, h5, h6, h7, h8, h9⟩ := inoR_parts h
  unfold numR
  rcases lt10 hm with rfl | rfl | rfl | rfl | rfl | rfl | rfl | rfl | rfl | rfl
  all_goals
    simp only [inoRow, numW, Bool.and_eq_true, decide_eq_true_eq]
    refine ⟨⟨by decide, by omega⟩, ?_⟩
    simp
    omega
theorem inoPre_succ {k im nl ge sz p0 p1 p2 p3 at_ : Int} (h : inoR k im nl ge sz p0 p1 p2 p3 at_ = true) {m : Nat} (hm : m < 10) : numP (inoPre k im nl ge sz p0 p1 p2 p3 at_ m) (inoRow k im nl ge sz p0 p1 p2 p3 at_ m).1 (inoRow k im nl ge sz p0 p1 p2 p3 at_ m).2.1 = inoPre k im nl ge sz p0 p1 p2 p3 at_ (m + 1) := by
  unfold numP
  rw [if_pos (inoRow_R h hm), inoPre]
set_option maxRecDepth 100000 in
theorem inoPut_walk (k im nl ge sz p0 p1 p2 p3 at_ : Int) (w : World) : Calls Try.prog 44 #[inoV k im nl ge sz p0 p1 p2 p3 at_] w fun e w' => ∃ v : Value, e = .returned (.tuple #[v, .int .i64 (inoE k im nl ge sz p0 p1 p2 p3 at_)]) ∧ Kd.R (Kd.int .u8) 5 w' w.heap.size (fun _ => True) v (inoP k im nl ge sz p0 p1 p2 p3 at_) ∧ Below w.heap.size w w' := by
  have WR := Aside0.mk (fun W => inoRight_walk k im nl ge sz p0 p1 p2 p3 at_ W)
  have WN := Aside0.mk (fun W => inoNumbers_walk k im nl ge sz p0 p1 p2 p3 at_ W)
  have IX := Aside0.mk (fun m (h : m < 10) W => inoN_at k im nl ge sz p0 p1 p2 p3 at_ h W)
  have HB := Aside0.mk (Below.refl w.heap.size w)
  by_cases hok : inoOk k im nl ge sz p0 p1 p2 p3 at_ = true
  case neg =>
    have hokf : inoOk k im nl ge sz p0 p1 p2 p3 at_ = false := by simpa using hok
    have E0 : Aside0 (inoE k im nl ge sz p0 p1 p2 p3 at_ = 1) := ⟨by unfold inoE; rw [if_neg hok]⟩
    have E1 : Aside0 (inoP k im nl ge sz p0 p1 p2 p3 at_ = []) := ⟨by unfold inoP; rw [if_neg hok]⟩
    rw [hokf] at WR
    clear hok hokf
    unfold inoV at WR ⊢
    go_enter Try.func44, Try.ntmps44
    go_wp2_with (first | (go_at_call 46; (with_reducible refine (WR.out _).mono ?_); rintro e w1 ⟨rfl, hb⟩; have n1_ : Aside0 (Below w.heap.size w w1) := ⟨below_step (by repeat (first | (with_reducible first | exact HB.out | apply below_alloc | apply pw_below_drewN | apply below_drew1) | exact HB.out)) hb⟩; clear HB; have HB := n1_; clear n1_; clear hb))
    go_ret2
    exact ⟨_, by rw [E0.out]; rfl, by rw [E1.out]; exact Kd.R_nil _ _ _ _ _, (by repeat (first | (with_reducible first | exact HB.out | apply below_alloc | apply pw_below_drewN | apply below_drew1) | exact HB.out))⟩
  have E0 : Aside0 (inoE k im nl ge sz p0 p1 p2 p3 at_ = 0) := ⟨by unfold inoE; rw [if_pos hok]⟩
  rw [hok] at WR
  by_cases hk0 : k = 0
  · have hz : inoZ k im nl ge sz p0 p1 p2 p3 at_ = true := by
      unfold inoOk at hok
      simp only [Bool.or_eq_true, Bool.and_eq_true] at hok
      rcases hok with h | ⟨_, h⟩
      · exact h
      · rw [hk0] at h; simp [inoOdd] at h
    have E1 : Aside0 (inoP k im nl ge sz p0 p1 p2 p3 at_ = List.replicate (64 : Int).toNat 0) := ⟨by unfold inoP; rw [if_pos hok, if_pos hz]; rfl⟩
    subst hk0
    clear hok hz
    unfold inoV at WR ⊢
    go_enter Try.func44, Try.ntmps44
    have HX := Aside0.mk (Below.refl (w.alloc (.cells #[.int .i64 0, .int .i64 im, .int .i64 nl, .int .i64 ge, .int .i64 sz, .int .i64 p0, .int .i64 p1, .int .i64 p2, .int .i64 p3, .int .i64 at_] 54)).heap.size (w.alloc (.cells #[.int .i64 0, .int .i64 im, .int .i64 nl, .int .i64 ge, .int .i64 sz, .int .i64 p0, .int .i64 p1, .int .i64 p2, .int .i64 p3, .int .i64 at_] 54)))
    go_wp2_with (first | (go_at_call 46; (with_reducible refine (WR.out _).mono ?_); rintro e w1 ⟨rfl, hb⟩; have n1_ : Aside0 (Below w.heap.size w w1) := ⟨below_step (by repeat (first | (with_reducible first | exact HB.out | apply below_alloc | apply pw_below_drewN | apply below_drew1) | exact HB.out)) hb⟩; clear HB; have HB := n1_; clear n1_; have n2_ := Aside0.mk (below_step (by repeat (first | (with_reducible first | exact HX.out | apply below_alloc | apply pw_below_drewN | apply below_drew1) | exact HX.out)) hb); clear HX; have HX := n2_; clear n2_; clear hb; have k0 := pw_cell_below HX.out (show (w.alloc (.cells #[.int .i64 0, .int .i64 im, .int .i64 nl, .int .i64 ge, .int .i64 sz, .int .i64 p0, .int .i64 p1, .int .i64 p2, .int .i64 p3, .int .i64 at_] 54)).cell? ⟨w.heap.size, 0, none⟩ = some (.int .i64 0) by go_simp); have k1 := pw_cell_below HX.out (show (w.alloc (.cells #[.int .i64 0, .int .i64 im, .int .i64 nl, .int .i64 ge, .int .i64 sz, .int .i64 p0, .int .i64 p1, .int .i64 p2, .int .i64 p3, .int .i64 at_] 54)).cell? ⟨w.heap.size, 1, none⟩ = some (.int .i64 im) by go_simp); have k2 := pw_cell_below HX.out (show (w.alloc (.cells #[.int .i64 0, .int .i64 im, .int .i64 nl, .int .i64 ge, .int .i64 sz, .int .i64 p0, .int .i64 p1, .int .i64 p2, .int .i64 p3, .int .i64 at_] 54)).cell? ⟨w.heap.size, 2, none⟩ = some (.int .i64 nl) by go_simp); have k3 := pw_cell_below HX.out (show (w.alloc (.cells #[.int .i64 0, .int .i64 im, .int .i64 nl, .int .i64 ge, .int .i64 sz, .int .i64 p0, .int .i64 p1, .int .i64 p2, .int .i64 p3, .int .i64 at_] 54)).cell? ⟨w.heap.size, 3, none⟩ = some (.int .i64 ge) by go_simp); have k4 := pw_cell_below HX.out (show (w.alloc (.cells #[.int .i64 0, .int .i64 im, .int .i64 nl, .int .i64 ge, .int .i64 sz, .int .i64 p0, .int .i64 p1, .int .i64 p2, .int .i64 p3, .int .i64 at_] 54)).cell? ⟨w.heap.size, 4, none⟩ = some (.int .i64 sz) by go_simp); have k5 := pw_cell_below HX.out (show (w.alloc (.cells #[.int .i64 0, .int .i64 im, .int .i64 nl, .int .i64 ge, .int .i64 sz, .int .i64 p0, .int .i64 p1, .int .i64 p2, .int .i64 p3, .int .i64 at_] 54)).cell? ⟨w.heap.size, 5, none⟩ = some (.int .i64 p0) by go_simp); have k6 := pw_cell_below HX.out (show (w.alloc (.cells #[.int .i64 0, .int .i64 im, .int .i64 nl, .int .i64 ge, .int .i64 sz, .int .i64 p0, .int .i64 p1, .int .i64 p2, .int .i64 p3, .int .i64 at_] 54)).cell? ⟨w.heap.size, 6, none⟩ = some (.int .i64 p1) by go_simp); have k7 := pw_cell_below HX.out (show (w.alloc (.cells #[.int .i64 0, .int .i64 im, .int .i64 nl, .int .i64 ge, .int .i64 sz, .int .i64 p0, .int .i64 p1, .int .i64 p2, .int .i64 p3, .int .i64 at_] 54)).cell? ⟨w.heap.size, 7, none⟩ = some (.int .i64 p2) by go_simp); have k8 := pw_cell_below HX.out (show (w.alloc (.cells #[.int .i64 0, .int .i64 im, .int .i64 nl, .int .i64 ge, .int .i64 sz, .int .i64 p0, .int .i64 p1, .int .i64 p2, .int .i64 p3, .int .i64 at_] 54)).cell? ⟨w.heap.size, 8, none⟩ = some (.int .i64 p3) by go_simp); have k9 := pw_cell_below HX.out (show (w.alloc (.cells #[.int .i64 0, .int .i64 im, .int .i64 nl, .int .i64 ge, .int .i64 sz, .int .i64 p0, .int .i64 p1, .int .i64 p2, .int .i64 p3, .int .i64 at_] 54)).cell? ⟨w.heap.size, 9, none⟩ = some (.int .i64 at_) by go_simp)) | ((with_reducible refine gate_dst (N := 15) rfl ?_); refine Kd.R_make (Kd.int .u8) _ 5 rfl (N := 15) rfl 24 _ _ rfl (64) rfl rfl Try.underlying24 (.int .u8 0) 1 u8info rfl (by decide) (by omega) 0 (ok := fun _ => True) (okp := fun _ => True) rfl (fun _ hk => hk) trivial (by omega) (by omega) (Below.refl _ _) (Nat.le_refl _) ?_; intro v1 w1 ho hb hg_ hnew_; clear hg_ hnew_; obtain ⟨g1, c1, rfl, hg1, hl1, _, _⟩ := Kd.R_form ho (by simp); have HG1 := Aside0.mk (Nat.le_trans (below_size (by repeat (first | (with_reducible first | exact HB.out | apply below_alloc | apply pw_below_drewN | apply below_drew1) | exact HB.out))) hg1); clear hg1 hl1; have HO1 := Aside0.mk (Kd.R_lower ho (below_size (by repeat (first | (with_reducible first | exact HB.out | apply below_alloc | apply pw_below_drewN | apply below_drew1) | exact HB.out)))); have n1_ : Aside0 (Below w.heap.size w w1) := ⟨below_step (by repeat (first | (with_reducible first | exact HB.out | apply below_alloc | apply pw_below_drewN | apply below_drew1) | exact HB.out)) hb⟩; clear HB; have HB := n1_; clear n1_; clear ho hb))
    go_ret2
    exact ⟨_, by rw [E0.out]; rfl, by rw [E1.out]; exact HO1.out, (by repeat (first | (with_reducible first | exact HB.out | apply below_alloc | apply pw_below_drewN | apply below_drew1) | exact HB.out))⟩
  · have hz : ¬ inoZ k im nl ge sz p0 p1 p2 p3 at_ = true := fun h => hk0 (inoZ_true h).1
    have hR : inoR k im nl ge sz p0 p1 p2 p3 at_ = true := by
      unfold inoOk at hok
      simp only [Bool.or_eq_true, Bool.and_eq_true] at hok
      exact (hok.resolve_left hz).1
    have E1 : Aside0 (inoP k im nl ge sz p0 p1 p2 p3 at_ = sealS (inoB k im nl ge sz p0 p1 p2 p3 at_)) := ⟨by unfold inoP; rw [if_pos hok, if_neg hz]⟩
    have HP := Aside0.mk (fun (m : Nat) (h : m < 10) => inoPre_succ (m := m) hR h)
    have hkb : (k == 0) = false := by simp [hk0]
    obtain ⟨nv, hnv⟩ : ∃ nv, nv = inoN k im nl ge sz p0 p1 p2 p3 at_ := ⟨_, rfl⟩
    rw [← hnv] at WN IX
    clear hok hz hR hk0 hnv
    unfold inoV at WR WN ⊢
    go_enter Try.func44, Try.ntmps44
    have HX := Aside0.mk (Below.refl (w.alloc (.cells #[.int .i64 k, .int .i64 im, .int .i64 nl, .int .i64 ge, .int .i64 sz, .int .i64 p0, .int .i64 p1, .int .i64 p2, .int .i64 p3, .int .i64 at_] 54)).heap.size (w.alloc (.cells #[.int .i64 k, .int .i64 im, .int .i64 nl, .int .i64 ge, .int .i64 sz, .int .i64 p0, .int .i64 p1, .int .i64 p2, .int .i64 p3, .int .i64 at_] 54)))
    go_wp2_with (first | (go_at_call 46; (with_reducible refine (WR.out _).mono ?_); rintro e w1 ⟨rfl, hb⟩; have n1_ : Aside0 (Below w.heap.size w w1) := ⟨below_step (by repeat (first | (with_reducible first | exact HB.out | apply below_alloc | apply pw_below_drewN | apply below_drew1) | exact HB.out)) hb⟩; clear HB; have HB := n1_; clear n1_; have n2_ := Aside0.mk (below_step (by repeat (first | (with_reducible first | exact HX.out | apply below_alloc | apply pw_below_drewN | apply below_drew1) | exact HX.out)) hb); clear HX; have HX := n2_; clear n2_; clear hb; have k0 := pw_cell_below HX.out (show (w.alloc (.cells #[.int .i64 k, .int .i64 im, .int .i64 nl, .int .i64 ge, .int .i64 sz, .int .i64 p0, .int .i64 p1, .int .i64 p2, .int .i64 p3, .int .i64 at_] 54)).cell? ⟨w.heap.size, 0, none⟩ = some (.int .i64 k) by go_simp); have k1 := pw_cell_below HX.out (show (w.alloc (.cells #[.int .i64 k, .int .i64 im, .int .i64 nl, .int .i64 ge, .int .i64 sz, .int .i64 p0, .int .i64 p1, .int .i64 p2, .int .i64 p3, .int .i64 at_] 54)).cell? ⟨w.heap.size, 1, none⟩ = some (.int .i64 im) by go_simp); have k2 := pw_cell_below HX.out (show (w.alloc (.cells #[.int .i64 k, .int .i64 im, .int .i64 nl, .int .i64 ge, .int .i64 sz, .int .i64 p0, .int .i64 p1, .int .i64 p2, .int .i64 p3, .int .i64 at_] 54)).cell? ⟨w.heap.size, 2, none⟩ = some (.int .i64 nl) by go_simp); have k3 := pw_cell_below HX.out (show (w.alloc (.cells #[.int .i64 k, .int .i64 im, .int .i64 nl, .int .i64 ge, .int .i64 sz, .int .i64 p0, .int .i64 p1, .int .i64 p2, .int .i64 p3, .int .i64 at_] 54)).cell? ⟨w.heap.size, 3, none⟩ = some (.int .i64 ge) by go_simp); have k4 := pw_cell_below HX.out (show (w.alloc (.cells #[.int .i64 k, .int .i64 im, .int .i64 nl, .int .i64 ge, .int .i64 sz, .int .i64 p0, .int .i64 p1, .int .i64 p2, .int .i64 p3, .int .i64 at_] 54)).cell? ⟨w.heap.size, 4, none⟩ = some (.int .i64 sz) by go_simp); have k5 := pw_cell_below HX.out (show (w.alloc (.cells #[.int .i64 k, .int .i64 im, .int .i64 nl, .int .i64 ge, .int .i64 sz, .int .i64 p0, .int .i64 p1, .int .i64 p2, .int .i64 p3, .int .i64 at_] 54)).cell? ⟨w.heap.size, 5, none⟩ = some (.int .i64 p0) by go_simp); have k6 := pw_cell_below HX.out (show (w.alloc (.cells #[.int .i64 k, .int .i64 im, .int .i64 nl, .int .i64 ge, .int .i64 sz, .int .i64 p0, .int .i64 p1, .int .i64 p2, .int .i64 p3, .int .i64 at_] 54)).cell? ⟨w.heap.size, 6, none⟩ = some (.int .i64 p1) by go_simp); have k7 := pw_cell_below HX.out (show (w.alloc (.cells #[.int .i64 k, .int .i64 im, .int .i64 nl, .int .i64 ge, .int .i64 sz, .int .i64 p0, .int .i64 p1, .int .i64 p2, .int .i64 p3, .int .i64 at_] 54)).cell? ⟨w.heap.size, 7, none⟩ = some (.int .i64 p2) by go_simp); have k8 := pw_cell_below HX.out (show (w.alloc (.cells #[.int .i64 k, .int .i64 im, .int .i64 nl, .int .i64 ge, .int .i64 sz, .int .i64 p0, .int .i64 p1, .int .i64 p2, .int .i64 p3, .int .i64 at_] 54)).cell? ⟨w.heap.size, 8, none⟩ = some (.int .i64 p3) by go_simp); have k9 := pw_cell_below HX.out (show (w.alloc (.cells #[.int .i64 k, .int .i64 im, .int .i64 nl, .int .i64 ge, .int .i64 sz, .int .i64 p0, .int .i64 p1, .int .i64 p2, .int .i64 p3, .int .i64 at_] 54)).cell? ⟨w.heap.size, 9, none⟩ = some (.int .i64 at_) by go_simp)) | (go_at_call 105; (with_reducible refine (WN.out _).mono ?_); rintro e w2 ⟨rfl, hb⟩; have n1_ : Aside0 (Below w.heap.size w w2) := ⟨below_step (by repeat (first | (with_reducible first | exact HB.out | apply below_alloc | apply pw_below_drewN | apply below_drew1) | exact HB.out)) hb⟩; clear HB; have HB := n1_; clear n1_; have n2_ := Aside0.mk (below_step (by repeat (first | (with_reducible first | exact HX.out | apply below_alloc | apply pw_below_drewN | apply below_drew1) | exact HX.out)) hb); clear HX; have HX := n2_; clear n2_; clear hb))
    clear k0 k1 k2 k3 k4 k5 k6 k7 k8 k9 HX
    go_loopw [4, 18] (fun v4 v18 w' => ∃ m : Nat, ∃ A c, v18 = .int .i64 m ∧ v4 = .slice A (inoPre k im nl ge sz p0 p1 p2 p3 at_ m).length c ∧ Aside0 (m ≤ 10) ∧ Aside0 ((inoPre k im nl ge sz p0 p1 p2 p3 at_ m).length ≤ c) ∧ Aside0 (Kd.C (Kd.int .u8) w' A (inoPre k im nl ge sz p0 p1 p2 p3 at_ m).length (inoPre k im nl ge sz p0 p1 p2 p3 at_ m)) ∧ Aside0 (Below w.heap.size w w')) (fun _ i _ => 10 - (intOf i).toNat)
    case atStart => exact ⟨0, none, 0, rfl, rfl, ⟨by omega⟩, ⟨by simp [inoPre]⟩, ⟨Kd.C_nil _ _⟩, HB⟩
    case round =>
      clear HB
      obtain ⟨m, A, c, rfl, rfl, hm, hc, HR, HB⟩ := hrel
      have hm' := hm.out
      by_cases hlt : m < 10
      · have hx := IX.out m hlt
        have hp := HP.out m hlt
        have hpl := inoPre_len k im nl ge sz p0 p1 p2 p3 at_ m (by omega)
        obtain ⟨⟨v, s, t⟩, hr⟩ : ∃ r, r = inoRow k im nl ge sz p0 p1 p2 p3 at_ m := ⟨_, rfl⟩
        rw [← hr] at hx hp
        simp only at hx hp
        obtain ⟨q, hq⟩ : ∃ q, q = inoPre k im nl ge sz p0 p1 p2 p3 at_ m := ⟨_, rfl⟩
        rw [← hq] at hp hpl HR hc ⊢
        have HPP := Aside0.mk hp
        clear hr hq hp
        go_wp2_with (first | (go_at_call 96; (with_reducible refine (numP_walk A c q v s _ (by first | exact HR.out | (refine Kd.C_drewN ?_ _; exact HR.out) | (refine Kd.C_alloc ?_ _; exact HR.out)) hc.out (by omega)).mono ?_); rintro e w5 ⟨v5, rfl, ho, hb⟩; rw [HPP.out] at ho; obtain ⟨A5, c5, rfl⟩ := Kd.R_slice ho; have HR5 := Aside0.mk (Kd.R_reads' ho).2.2; have HC5 := Aside0.mk (Kd.R_reads' ho).2.1; have n1_ : Aside0 (Below w.heap.size w w5) := ⟨below_step (by repeat (first | (with_reducible first | exact HB.out | apply below_alloc | apply pw_below_drewN | apply below_drew1) | exact HB.out)) hb⟩; clear HB; have HB := n1_; clear n1_; clear ho hb))
        exact ⟨⟨m + 1, _, _, rfl, rfl, ⟨by omega⟩, HC5, HR5, HB⟩, by simp [intOf]; omega⟩
      · have hmn : m = 10 := by omega
        subst hmn
        rw [inoPre_all] at HR hc ⊢
        have hY := Aside0.mk (inoB_byts k im nl ge sz p0 p1 p2 p3 at_)
        obtain ⟨q, hq⟩ : ∃ q, q = inoB k im nl ge sz p0 p1 p2 p3 at_ := ⟨_, rfl⟩
        rw [← hq] at HR hc hY E1 ⊢
        clear hq
        go_wp2_with (first | (go_at_call 90; (with_reducible refine (seal_walk A c q _ (by first | exact HR.out | (refine Kd.C_drewN ?_ _; exact HR.out) | (refine Kd.C_alloc ?_ _; exact HR.out)) hY.out).mono ?_); rintro e w5 ⟨v5, rfl, ho, hb⟩; replace ho := Kd.R_lower ho (below_size (by repeat (first | (with_reducible first | exact HB.out | apply below_alloc | apply pw_below_drewN | apply below_drew1) | exact HB.out))); obtain ⟨A5, c5, rfl⟩ := Kd.R_slice ho; have HR5 := Aside0.mk (Kd.R_reads' ho).2.2; have HC5 := Aside0.mk (Kd.R_reads' ho).2.1; have n1_ : Aside0 (Below w.heap.size w w5) := ⟨below_step (by repeat (first | (with_reducible first | exact HB.out | apply below_alloc | apply pw_below_drewN | apply below_drew1) | exact HB.out)) hb⟩; clear HB; have HB := n1_; clear n1_; have HO5 := Aside0.mk ho; clear ho hb))
        go_ret2
        exact ⟨_, by rw [E0.out]; rfl, by rw [E1.out]; exact HO5.out, (by repeat (first | (with_reducible first | exact HB.out | apply below_alloc | apply pw_below_drewN | apply below_drew1) | exact HB.out))⟩
end Go.Proofs.Ytdknolnoimpgeaa.K
