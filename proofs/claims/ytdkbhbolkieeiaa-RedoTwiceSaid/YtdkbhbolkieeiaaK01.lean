/- The walks of the package num: each function comes to what the plain law's does. -/
import Derived.Test.YtdkbhbolkieeiaaKC
import Derived.Test.YtdkbhbolkieeiaaKS01
namespace Go.Proofs.Ytdkbhbolkieeiaa.K
open Go.RowKit Go.Proofs.YtdkbhbolkieeiaaW.PrintWords Go.Proofs.YtdkbhbolkieeiaaW.PrintLast Go.Proofs.YtdkbhbolkieeiaaW.PrintMore
set_option linter.unusedVariables false
set_option linter.unusedSimpArgs false
theorem numW_walk (s : Int) (w : World) : Calls Try.prog 123 #[.int .i64 s] w fun e w' => e = .returned (.bool (numW s)) ∧ Drawn0 w w' := by
  unfold numW
  by_cases h1 : s = 1
  · subst h1; go_enter Try.func123, Try.ntmps123
    go_wp2; go_ret; exact ⟨rfl, Drawn0.refl _⟩
  by_cases h2 : s = 2
  · subst h2; go_enter Try.func123, Try.ntmps123
    go_wp2; go_ret; exact ⟨rfl, Drawn0.refl _⟩
  have b1 : (s == 1) = false := by simpa using h1
  have b2 : (s == 2) = false := by simpa using h2
  clear h1 h2
  go_enter Try.func123, Try.ntmps123
  go_wp2; go_ret; exact ⟨ret_b (by simp [b1, b2]), Drawn0.refl _⟩
theorem numR_walk (n s : Int) (w : World) : Calls Try.prog 101 #[.int .i64 n, .int .i64 s] w fun e w' => e = .returned (.bool (numR n s)) ∧ Drawn0 w w' := by
  by_cases hw : numW s = true
  case neg =>
    have hw' := Bool.eq_false_iff.2 hw
    have e0 : numR n s = false := by unfold numR; rw [hw']; rfl
    have E0 := Aside0.mk e0; have HW := Aside0.mk hw'; clear e0 hw hw'
    go_enter Try.func101, Try.ntmps101
    go_wp2_with (go_at_call 123; refine (numW_walk _ _).mono ?_; rintro e w2 ⟨rfl, ⟨nd, rfl⟩⟩; rw [HW.out])
    go_ret; exact ⟨ret_b E0.out.symm, ⟨⟨nd, rfl⟩⟩⟩
  obtain ⟨k, rfl, hk1, hk4⟩ := numW_nat hw
  have HW := Aside0.mk hw
  by_cases h0 : 0 ≤ n
  case neg =>
    have e0 : numR n k = false := by unfold numR; simp [h0]
    have E0 := Aside0.mk e0
    clear e0 hw
    go_enter Try.func101, Try.ntmps101
    go_wp2_with (go_at_call 123; refine (numW_walk _ _).mono ?_; rintro e w2 ⟨rfl, ⟨nd, rfl⟩⟩; rw [HW.out])
    go_ret; exact ⟨ret_b E0.out.symm, ⟨⟨nd, rfl⟩⟩⟩
  have e0 : numR n k = (n / 2 ^ (8 * k) == 0) := by
    unfold numR
    rw [hw]
    rw [Bool.eq_iff_iff]
    simp [h0, div_zero_iff (pow_pos2 (8 * k)) h0]
  have E0 := Aside0.mk e0
  clear e0 hw
  go_enter Try.func101, Try.ntmps101
  go_wp2_with (go_at_call 123; refine (numW_walk _ _).mono ?_; rintro e w2 ⟨rfl, ⟨nd, rfl⟩⟩; rw [HW.out])
  go_ret; exact ⟨ret_b E0.out.symm, ⟨⟨nd, rfl⟩⟩⟩
theorem numT_walk (A : Option Addr) (c : Nat) (l : List Int) (i s : Int) (w : World) (hl : l.length < 140737488355328) : Calls Try.prog 108 #[.slice A l.length c, .int .i64 i, .int .i64 s] w fun e w' => e = .returned (.bool (numT l i s)) ∧ Drawn0 w w' := by
  by_cases hw : numW s = true
  case neg =>
    have hw' := Bool.eq_false_iff.2 hw
    have e0 : numT l i s = false := by unfold numT; rw [hw']; rfl
    have E0 := Aside0.mk e0; have HW := Aside0.mk hw'; clear e0 hw hw'
    go_enter Try.func108, Try.ntmps108
    go_wp2_with (go_at_call 123; refine (numW_walk _ _).mono ?_; rintro e w2 ⟨rfl, ⟨nd, rfl⟩⟩; rw [HW.out])
    go_ret; exact ⟨ret_b E0.out.symm, ⟨⟨nd, rfl⟩⟩⟩
  obtain ⟨k, rfl, hk1, hk4⟩ := numW_nat hw
  have HW := Aside0.mk hw
  by_cases h0 : 0 ≤ i
  case neg =>
    have e0 : numT l i k = false := by unfold numT; simp [h0]
    have E0 := Aside0.mk e0
    clear e0 hw
    go_enter Try.func108, Try.ntmps108
    go_wp2_with (go_at_call 123; refine (numW_walk _ _).mono ?_; rintro e w2 ⟨rfl, ⟨nd, rfl⟩⟩; rw [HW.out])
    go_ret; exact ⟨ret_b E0.out.symm, ⟨⟨nd, rfl⟩⟩⟩
  obtain ⟨j, rfl⟩ := Int.eq_ofNat_of_zero_le h0
  by_cases h1 : j ≤ l.length
  case neg =>
    have e0 : numT l j k = false := by unfold numT; simp; omega
    have E0 := Aside0.mk e0
    have h2 : l.length < j := by omega
    clear e0 hw h1
    go_enter Try.func108, Try.ntmps108
    go_wp2_with (go_at_call 123; refine (numW_walk _ _).mono ?_; rintro e w2 ⟨rfl, ⟨nd, rfl⟩⟩; rw [HW.out])
    go_ret; exact ⟨ret_b E0.out.symm, ⟨⟨nd, rfl⟩⟩⟩
  have e0 : numT l j k = decide ((k : Int) ≤ l.length - j) := by
    unfold numT; rw [hw, Bool.eq_iff_iff]; simp; omega
  have E0 := Aside0.mk e0
  clear e0 hw
  go_enter Try.func108, Try.ntmps108
  go_wp2_with (go_at_call 123; refine (numW_walk _ _).mono ?_; rintro e w2 ⟨rfl, ⟨nd, rfl⟩⟩; rw [HW.out])
  go_ret; exact ⟨ret_b (by rw [E0.out]), ⟨⟨nd, rfl⟩⟩⟩
theorem numC_walk (A : Option Addr) (c : Nat) (l : List Int) (w : World) (hr : Kd.C (Kd.int .u8) w A l.length l) (hc : l.length ≤ c) (hl : l.length < 140737488355328) :
    Calls Try.prog 81 #[.slice A l.length c] w fun e w' => ∃ v : Value, e = .returned v ∧ Kd.R (Kd.int .u8) 5 w' w.heap.size (fun _ => True) v l ∧ Below w.heap.size w w' := by
  have HR := Aside0.mk hr
  have HL := Aside0.mk hl
  clear hr hc hl
  have HB := Aside0.mk (Below.refl w.heap.size w)
  cases A with
  | none =>
    have e0 := C_nil_len HR.out
    subst e0
    clear HL HR
    have heq := fun W => Lib.run_eql_slice_nil (P := Try.prog) W 44 5 none 0 c 0 0 Try.underlying44
    go_enter Try.func81, Try.ntmps81
    go_wp2
    go_ret
    exact ⟨_, rfl, Kd.R_nil _ _ _ _ _, HB.out⟩
  | some a0 =>
    have heq := fun W => Lib.run_eql_slice_nil (P := Try.prog) W 44 5 (some a0) l.length c 0 0 Try.underlying44
    go_enter Try.func81, Try.ntmps81
    go_wp2_with (first | ((with_reducible refine gate_dst (N := 5) rfl ?_); refine Kd.R_lit (Kd.int .u8) _ 5 ?hg (N := 5) ?hd (xs := ([] : List Int)) (inner := []) (ok := fun _ => True) (okp := fun _ => True) ?hr ?hp (fun _ hk => hk) trivial (Below.refl _ _) (Nat.le_refl _) (by simp) ?_; (case hd => rfl); (case hg => rfl); (case hr => first | (go_simp; done) | (go_simp; rfl)); (case hp => exact (Reps.none _ _)); intro v114 w3 ho4 hb hg_ hnew_; clear hg_ hnew_; have n0_ := Aside0.mk (Kd.R_lower ho4 (below_size (by repeat (first | (with_reducible first | exact HB.out | apply below_alloc | apply pw_below_drewN | apply below_drew1) | exact HB.out)))); have n1_ := Aside0.mk (below_step (by repeat (first | (with_reducible first | exact HB.out | apply below_alloc | apply pw_below_drewN | apply below_drew1) | exact HB.out)) hb); clear HB; have HO1 := n0_; have HB := n1_; clear n0_ n1_; clear hb ho4) | ((with_reducible refine gate_builtin (b := .append) (xs := #[.tmp 5, .tmp 6]) rfl ?_); at_builtin; refine Kd.R_append_rows (Kd.int .u8) (w0 := w) w.heap.size rfl (.tmp 5) (.tmp 6) 44 5 (.int .u8 0) 1 rfl Try.underlying44 u8info rfl (by decide) (by omega) v114 [] l _ _ _ (fun _ => True) (fun _ => False) rfl rfl ?aO ?aR (fun _ _ h => h) (fun _ h => h.elim) ?aF ?aB ?aS ?aL ?_; (case aR => exact (Kd.C_below HR.out (by repeat (first | (with_reducible first | exact HB.out | apply below_alloc | apply pw_below_drewN | apply below_drew1) | exact HB.out)))); (case aB => exact (by repeat (first | (with_reducible first | exact HB.out | apply below_alloc | apply pw_below_drewN | apply below_drew1) | exact HB.out))); (case aF => exact (fun _ _ => trivial)); (case aO => exact (by (with_reducible repeat (first | apply Kd.R_alloc | apply Kd.R_drewN | apply Kd.R_drew)); exact HO1.out)); (case aS => exact (below_size (by repeat (first | (with_reducible first | exact HB.out | apply below_alloc | apply pw_below_drewN | apply below_drew1) | exact HB.out)))); (case aL => have := HL.out; simp; omega); intro v123 w11 ho hb hg hat; have n0_ := Aside0.mk (hb); have n1_ := Aside0.mk (ho); clear HB; clear HO1; have HB := n0_; have HO2 := n1_; clear n0_ n1_; clear ho hb hg hat))
    go_ret
    exact ⟨_, rfl, HO2.out, HB.out⟩
theorem num_lay_walk (w0 w : World) (g o n cap c : Nat) (xs : List Int) (a : Int) (hB : Below w0.heap.size w0 w) (hg : w0.heap.size ≤ g) (hR : Kd.R (Kd.int .u8) 5 w w0.heap.size (fun _ => True) (.slice (some ⟨g, 0, none⟩) xs.length cap) xs) (hn : o + n ≤ xs.length) (h8 : n ≤ 8) :
    Calls Try.prog 102 #[.slice (some ⟨g, o, none⟩) n c, .int .i64 a] w fun e w' => e = .returned (.tuple #[]) ∧ Kd.R (Kd.int .u8) 5 w' w0.heap.size (fun _ => True) (.slice (some ⟨g, 0, none⟩) xs.length cap) (setAt xs o (leB a n)) ∧ Below w0.heap.size w0 w' := by
  have HB := Aside0.mk hB
  have HO := Aside0.mk hR
  clear hB hR
  go_enter Try.func102, Try.ntmps102
  go_wp2
  go_loopw [7] (fun v7 w' => ∃ k : Nat, v7 = .int .i64 k ∧ Aside0 (k ≤ n) ∧ Aside0 (Kd.R (Kd.int .u8) 5 w' w0.heap.size (fun _ => True) (.slice (some ⟨g, 0, none⟩) xs.length cap) (setAt xs o (leB a k))) ∧ Aside0 (Below w0.heap.size w0 w')) (fun i _ => n - (intOf i).toNat)
  case atStart => exact ⟨0, rfl, ⟨Nat.zero_le _⟩, ⟨by rw [leB_zero, setAt_nil]; exact HO.out⟩, HB⟩
  case round =>
    obtain ⟨k, rfl, hk, HO, HB⟩ := hrel
    have hk' := hk.out
    by_cases hlt : k < n
    · have hc := Kd.R_celln 0 HO.out ((o + k : Nat) : Int) (by omega) (by omega)
      obtain ⟨hx, hf⟩ := hc
      simp only [Int.toNat_natCast] at hx hf
      have HP := Kd.R_putg HO.out ((o + k : Nat) : Int) ((a / 2 ^ (8 * k)) % 256)
      have hsn := setAt_snoc (xs := xs) (o := o) (ys := leB a k) (y := a / 2 ^ (8 * k) % 256) (by rw [leB_length]; omega)
      rw [leB_length, ← leB_succ] at hsn
      rw [Int.toNat_natCast, hsn] at HP
      have HP' := Aside0.mk HP
      clear HP hsn
      go_wp2
      exact ⟨⟨k + 1, rfl, ⟨by omega⟩, ⟨HP'.out.1⟩, ⟨below_set HB.out hg⟩⟩, by simp [intOf]; omega⟩
    · have hkn : k = n := by omega
      subst hkn
      go_wp2
      go_end0
      exact ⟨rfl, HO.out, HB.out⟩
set_option maxRecDepth 100000 in
theorem numP_walk (A : Option Addr) (c : Nat) (l : List Int) (n s : Int) (w : World) (hr : Kd.C (Kd.int .u8) w A l.length l) (hc : l.length ≤ c) (hl : l.length < 140737488355320) :
    Calls Try.prog 66 #[.slice A l.length c, .int .i64 n, .int .i64 s] w fun e w' => ∃ v : Value, e = .returned v ∧ Kd.R (Kd.int .u8) 5 w' w.heap.size (fun _ => True) v (numP l n s) ∧ Below w.heap.size w w' := by
  have HR := Aside0.mk hr
  have HC := Aside0.mk hc
  have HL := Aside0.mk hl
  have HB := Aside0.mk (Below.refl w.heap.size w)
  clear hr hc hl
  by_cases hi : numR n s = true
  case neg =>
    have HRi := Aside0.mk (Bool.eq_false_iff.2 hi)
    have E0 : Aside0 (numP l n s = l) := ⟨by unfold numP; rw [if_neg hi]⟩
    clear hi
    go_enter Try.func66, Try.ntmps66
    go_wp2_with (first | (go_at_call 81; refine (numC_walk _ _ l _ (Kd.C_below HR.out (by repeat (first | (with_reducible first | exact HB.out | apply below_alloc | apply pw_below_drewN | apply below_drew1) | exact HB.out))) HC.out (by have := HL.out; omega)).mono ?_; rintro e w1 ⟨v1, rfl, ho, hb⟩; have HO1 := Aside0.mk ho; clear HB; have HB := Aside0.mk hb; clear ho hb) | (go_at_call 101; refine (numR_walk _ _ _).mono ?_; rintro e w2 ⟨rfl, ⟨nd, rfl⟩⟩; rw [HRi.out]))
    go_ret
    exact ⟨_, rfl, by rw [E0.out]; exact (by (with_reducible repeat (first | apply Kd.R_alloc | apply Kd.R_drewN | apply Kd.R_drew)); exact HO1.out), (by repeat (first | (with_reducible first | exact HB.out | apply below_alloc | apply pw_below_drewN | apply below_drew1) | exact HB.out))⟩
  have HRi := Aside0.mk hi
  obtain ⟨k, rfl, hk1, hk4⟩ := numW_nat (numR_parts hi).1
  have E0 : Aside0 (numP l n k = l ++ leB n k) := ⟨by unfold numP; rw [if_pos hi, Int.toNat_natCast]⟩
  clear hi
  go_enter Try.func66, Try.ntmps66
  go_wp2_with (first | (go_at_call 81; refine (numC_walk _ _ l _ (Kd.C_below HR.out (by repeat (first | (with_reducible first | exact HB.out | apply below_alloc | apply pw_below_drewN | apply below_drew1) | exact HB.out))) HC.out (by have := HL.out; omega)).mono ?_; rintro e w1 ⟨v1, rfl, ho, hb⟩; have HO1 := Aside0.mk ho; clear HB; have HB := Aside0.mk hb; clear ho hb) | (go_at_call 101; refine (numR_walk _ _ _).mono ?_; rintro e w2 ⟨rfl, ⟨nd, rfl⟩⟩; rw [HRi.out]) | ((with_reducible refine gate_builtin (b := .append) (xs := #[.tmp 15, .tmp 16]) rfl ?_); at_builtin; refine Kd.R_append_zeros (Kd.int .u8) (w0 := w) w.heap.size rfl (.tmp 15) (.tmp 16) 44 3 5 (.int .u8 0) 1 rfl Try.underlying44 Try.underlying3 u8info rfl (by decide) (by omega) v1 l 0 (k : Int) (fun _ => True) rfl rfl rfl ?aF ?aO (by omega) ?aB ?aS ?aL ?_; (case aB => exact (by repeat (first | (with_reducible first | exact HB.out | apply below_alloc | apply pw_below_drewN | apply below_drew1) | exact HB.out))); (case aF => exact (fun _ _ => trivial)); (case aO => exact (by (with_reducible repeat (first | apply Kd.R_alloc | apply Kd.R_drewN | apply Kd.R_drew)); exact HO1.out)); (case aS => exact (below_size (by repeat (first | (with_reducible first | exact HB.out | apply below_alloc | apply pw_below_drewN | apply below_drew1) | exact HB.out)))); (case aL => have := HL.out; simp; omega); intro v2 w11 ho hb hg hat; have n0_ := Aside0.mk (hb); have n1_ := Aside0.mk (ho); clear HB; clear HO1; have HB := n0_; have HO2 := n1_; clear n0_ n1_; clear ho hb hg hat; obtain ⟨g2, cap2, rfl, hg2, hg2', cells2, hcells2⟩ := Kd.R_form HO2.out (by simp; omega); have HG2 := Aside0.mk hg2; have hle2 := (Kd.R_reads' HO2.out).2.1; simp only [List.length_append, List.length_replicate] at hle2; clear hg2 hg2' hcells2) | (go_at_call 102; refine (num_lay_walk w _ g2 l.length k cap2 _ (l ++ List.replicate k 0) n HB.out HG2.out HO2.out (by simp) (by omega)).mono ?_; rintro e w3 ⟨rfl, ho, hb⟩; have HO3 := Aside0.mk ho; clear HB; have HB := Aside0.mk hb; clear ho hb))
  go_ret
  exact ⟨_, rfl, by rw [E0.out, ← setAt_end l (leB n k) k (leB_length n k)]; simpa using HO3.out, HB.out⟩
set_option maxRecDepth 100000 in
theorem numG_walk (A : Option Addr) (c : Nat) (l : List Int) (i s : Int) (w : World) (hr : Kd.C (Kd.int .u8) w A l.length l) (hc : l.length ≤ c) (hl : l.length < 140737488355320) (hb : Byts l) :
    Calls Try.prog 72 #[.slice A l.length c, .int .i64 i, .int .i64 s] w fun e w' => e = .returned (.tuple #[.int .i64 (numG l i s).1, .bool (numG l i s).2]) ∧ Drawn0 w w' := by
  have HR := Aside0.mk hr
  have HC := Aside0.mk hc
  have HL := Aside0.mk hl
  clear hr hc
  by_cases ht : numT l i s = true
  case neg =>
    have HTh := Aside0.mk (Bool.eq_false_iff.2 ht)
    have E0 : Aside0 (numG l i s = (0, false)) := ⟨by unfold numG; rw [if_neg ht]⟩
    clear ht
    go_enter Try.func72, Try.ntmps72
    go_wp2_with (go_at_call 108; refine (numT_walk _ _ l _ _ _ (by have := HL.out; omega)).mono ?_; rintro e w2 ⟨rfl, ⟨nd2, rfl⟩⟩; rw [HTh.out])
    go_ret2
    exact ⟨by rw [E0.out]; rfl, ⟨⟨_, rfl⟩⟩⟩
  have HTh := Aside0.mk ht
  obtain ⟨hw, hi0, hi1⟩ := numT_parts ht
  obtain ⟨k, rfl, hk1, hk4⟩ := numW_nat hw
  obtain ⟨j, rfl⟩ := Int.eq_ofNat_of_zero_le hi0
  have hi2 : j + k ≤ l.length := by omega
  obtain ⟨i5, hi5, hz5⟩ := Option.map_eq_some_iff.1 u8info
  obtain ⟨A', hrun, hC', _⟩ := cutMid (P := Try.prog) (Kd.int .u8) 44 5 Try.underlying44 hi5 (by simp only [Prod.mk.injEq] at hz5; exact hz5.2.1) A c l j (j + k) (by omega) hi2 HC.out
  have hlen : j + k - j = k := by omega
  rw [hlen] at hrun hC'
  have hC := hC' w HR.out
  clear hC' hlen hi5 hz5
  obtain ⟨ys, hys⟩ : ∃ ys, ys = (l.take (j + k)).drop j := ⟨_, rfl⟩
  rw [← hys] at hC
  have hbys : Byts ys := by rw [hys]; exact (hb.take _).drop _
  have hly : ys.length = k := hC.1
  have E0 : Aside0 (numG l j k = (leN ys, true)) := ⟨by unfold numG; rw [if_pos ht, hys, List.drop_take]; simp⟩
  obtain ⟨ad, rfl, _⟩ := Kd.at_int hC 0 (by omega) (by omega)
  have HCy := Aside0.mk hC
  have HY := Aside0.mk hly
  have HBy := Aside0.mk hbys
  clear hC hys hly hbys ht hw hi0 hi1 hb HR
  simp only [Int.natCast_add] at hrun
  go_enter Try.func72, Try.ntmps72
  go_wp2_with (go_at_call 108; refine (numT_walk _ _ l _ _ _ (by have := HL.out; omega)).mono ?_; rintro e w2 ⟨rfl, ⟨nd2, rfl⟩⟩; rw [HTh.out])
  clear hrun
  go_loop [8, 23] (fun v8 v23 => ∃ m : Nat, v8 = .int .i64 (leN (ys.take m)) ∧ v23 = .int .i64 m ∧ Aside0 (m ≤ k)) (fun _ i => k - (intOf i).toNat)
  case atStart => exact ⟨0, rfl, rfl, ⟨Nat.zero_le _⟩⟩
  case round =>
    obtain ⟨m, rfl, rfl, hm⟩ := hrel
    have hm' := hm.out
    by_cases hlt : m < k
    · obtain ⟨ad', he, hx⟩ := Kd.at_int HCy.out (m : Int) (by omega) (by omega)
      obtain rfl := Option.some.inj he
      have hy := HY.out
      have hxe : rd ys (m : Int) = ys[m] := by simp [rd, List.getElem?_eq_getElem (show m < ys.length by omega)]
      have hsn : leN (ys.take (m + 1)) = leN (ys.take m) + ys[m] * 2 ^ (8 * m) := by
        rw [List.take_succ_eq_append_getElem (by omega), leN_snoc, List.length_take, Nat.min_eq_left (by omega)]
      have hbd := leN_bound (ys.take m) (HBy.out.take m)
      rw [List.length_take, Nat.min_eq_left (by omega)] at hbd
      have hxb := HBy.out ys[m] (List.getElem_mem _)
      rw [hxe, Int.toNat_natCast] at hx
      obtain ⟨x, hxx⟩ : ∃ x, x = ys[m] := ⟨_, rfl⟩
      obtain ⟨n, hnn⟩ : ∃ n, n = leN (ys.take m) := ⟨_, rfl⟩
      obtain ⟨n1, hn1⟩ : ∃ n1, n1 = leN (ys.take (m + 1)) := ⟨_, rfl⟩
      rw [← hxx] at hx hsn hxb
      rw [← hnn] at hsn hbd
      rw [← hn1] at hsn
      rw [← hnn]
      have N1 := Aside0.mk hn1
      have hor := or_i64 hbd.1 hbd.2 hxb.1 hxb.2 (by omega)
      rw [← hsn] at hor
      have hx0 := hxb.1
      have hx1 := hxb.2
      have hwr : wrap64 (x * 2 ^ (8 * m)) = x * 2 ^ (8 * m) := by
        rcases (by omega : m = 0 ∨ m = 1 ∨ m = 2 ∨ m = 3) with rfl | rfl | rfl | rfl <;> (unfold wrap64; simp; omega)
      have HE : Aside0 (bits .or .i64 n (wrap64 (x * 2 ^ (8 * m))) = leN (ys.take (m + 1))) := ⟨by rw [hwr, hor, hn1]⟩
      clear hxx hnn hn1 hsn hbd hxb hxe hy he hor hwr N1
      go_wp2
      exact ⟨⟨m + 1, by rw [HE.out], rfl, ⟨by omega⟩⟩, by simp [intOf]; omega⟩
    · have hkm : m = k := by omega
      subst hkm
      have E1 : Aside0 (ys.take m = ys) := ⟨List.take_of_length_le (by have := HY.out; omega)⟩
      go_wp2
      go_ret2
      exact ⟨by rw [E0.out, E1.out]; rfl, ⟨⟨_, rfl⟩⟩⟩
end Go.Proofs.Ytdkbhbolkieeiaa.K