/- The law NumBack, walked. -/
import Derived.Test.YtfbcnmjahpbbeaaL01
import Derived.StillTailTactics
namespace Go.Proofs.Ytfbcnmjahpbbeaa.K
open Go.RowKit Go.Proofs.YtfbcnmjahpbbeaaW.PrintWords Go.Proofs.YtfbcnmjahpbbeaaW.PrintLast Go.Proofs.YtfbcnmjahpbbeaaW.PrintMore
set_option linter.unusedVariables false
set_option linter.unusedSimpArgs false
theorem l01_few (A : Option Addr) (c : Nat) (l : List Int) (n a wh : Int) (w : World) (h : 2000 < l.length ∨ l.length < 4) :
    Calls Try.prog 6 #[.slice A l.length c, .int .u32 n, .int .u16 a, .int .u8 wh] w fun e w' => e = .returned (.bool true) ∧ Below w.heap.size w w' := by
  have HB := Aside0.mk (Below.refl w.heap.size w)
  rcases h with h | h
  · go_enter Try.func6, Try.ntmps6
    go_wp2_with (go_at_call 15; refine (l01_awake _).mono ?_; rintro e w9 ⟨rfl, hb⟩; have n1_ : Aside0 (Below w.heap.size w w9) := ⟨below_step (by repeat (first | (with_reducible first | exact HB.out | apply below_alloc | apply pw_below_drewN | apply below_drew1) | exact HB.out)) hb⟩; clear HB; have HB := n1_; clear n1_; clear hb)
    go_ret
    exact ⟨rfl, HB.out⟩
  · go_enter Try.func6, Try.ntmps6
    go_wp2_with (go_at_call 15; refine (l01_awake _).mono ?_; rintro e w9 ⟨rfl, hb⟩; have n1_ : Aside0 (Below w.heap.size w w9) := ⟨below_step (by repeat (first | (with_reducible first | exact HB.out | apply below_alloc | apply pw_below_drewN | apply below_drew1) | exact HB.out)) hb⟩; clear HB; have HB := n1_; clear n1_; clear hb)
    go_ret
    exact ⟨rfl, HB.out⟩
set_option maxRecDepth 100000 in
set_option maxHeartbeats 1000000 in
theorem l01_back1 (A : Option Addr) (c : Nat) (l : List Int) (n a wh : Int) (w : World) (hr : Kd.C (Kd.int .u8) w A l.length l) (hc : l.length ≤ c) (hb : Byts l) (h1 : 4 ≤ l.length) (h2 : l.length ≤ 2000) (hn0 : 0 ≤ n) (hn1 : n < 4294967296) (ha0 : 0 ≤ a) (ha1 : a < 65536) (hw0 : 0 ≤ wh) (hw1 : wh < 256) (hw : wh % 3 = 0) :
    Calls Try.prog 6 #[.slice A l.length c, .int .u32 n, .int .u16 a, .int .u8 wh] w fun e w' => e = .returned (.bool true) ∧ Below w.heap.size w w' := by
  have HR := Aside0.mk hr
  have HC := Aside0.mk hc
  have HY := Aside0.mk hb
  have HB := Aside0.mk (Below.refl w.heap.size w)
  obtain ⟨k, hk⟩ : ∃ k, n % 256 = k := ⟨_, rfl⟩
  have hm0 := Int.emod_nonneg a (show ((l.length:Int)) ≠ 0 by omega)
  have hm1 := Int.emod_lt_of_pos a (show 0 < (l.length:Int) by omega)
  obtain ⟨j, hj⟩ : ∃ j : Nat, a % ((l.length:Int)) = j := ⟨(a % ((l.length:Int))).toNat, by omega⟩
  rw [hj] at hm0 hm1
  have hjl : j + 1 ≤ l.length := by omega
  have hR : numR k 1 = true := by
    have : 0 ≤ k ∧ k < 256 := by omega
    unfold numR; simp [numW]; omega
  have hT : numT l j 1 = true := by unfold numT; simp [numW]; omega
  have g1' := numG_put (l := l) hR
  have g2' := numG_set (l := l) hR hT
  have e1 : numS l j k 1 = setAt l j (leB k 1) := by unfold numS; rw [if_pos ⟨hR, hT⟩]; rfl
  have hle : j + (leB k 1).length ≤ l.length := by rw [leB_length]; omega
  have e2 := setAt_length hle
  have e3 := setAt_before l j (leB k 1) hle
  have e4 := setAt_behind l j (leB k 1) hle
  rw [leB_length] at e4
  have hpl := (numP_length l k 1).1
  have hpb := numP_byts hb k 1
  have hcb := numS_byts hb j k 1
  rw [← e1] at e2 e3 e4
  obtain ⟨p, hp⟩ : ∃ p, p = numP l k 1 := ⟨_, rfl⟩
  obtain ⟨q, hq⟩ : ∃ q, q = numS l j k 1 := ⟨_, rfl⟩
  rw [← hp] at g1' hpl hpb
  rw [← hq] at g2' e2 e3 e4 hcb
  have HP := Aside0.mk hp
  have HQ := Aside0.mk hq
  have E2 := Aside0.mk e2
  have E3 := Aside0.mk e3
  have E4 := Aside0.mk e4
  have PB := Aside0.mk hpb
  have QB := Aside0.mk hcb
  clear hr hc hb hp hq e1 e2 e3 e4 hle hR hT hpb hcb
  go_enter Try.func6, Try.ntmps6
  go_wp2_with (first | ((with_reducible refine gate_dst (N := 26) rfl ?_); refine Kd.R_lit (Kd.int .i64) _ 3 ?hg (N := 26) ?hd (xs := ([(1 : Int), (2 : Int), (4 : Int)] : List (Int))) (inner := [.int .i64 1, .int .i64 2, .int .i64 4]) (ok := fun _ => True) (okp := fun _ => True) ?hr ?hp (fun _ hk => hk) trivial (Below.refl _ _) (Nat.le_refl _) (by simp) ?_; (case hd => rfl); (case hg => rfl); (case hr => first | (go_simp; done) | (go_simp; rfl)); (case hp => exact (Reps.one (show Kd.M (Kd.int .i64) _ _ _ (1 : Int) [.int .i64 1] from rfl) (Reps.one (show Kd.M (Kd.int .i64) _ _ _ (2 : Int) [.int .i64 2] from rfl) (Reps.one (show Kd.M (Kd.int .i64) _ _ _ (4 : Int) [.int .i64 4] from rfl) (Reps.none _ _))))); intro v1 w1 ho hb hg_ hnew_; clear hg_ hnew_; obtain ⟨g1, c1, rfl, hg1, hl1, _, _⟩ := Kd.R_form ho (by simp); have HG1 := Aside0.mk hg1; have HGL1 := Aside0.mk hl1; clear hg1 hl1; have HR1 := Aside0.mk (Kd.R_reads' ho).2.2; have HC1 := Aside0.mk (Kd.R_reads' ho).2.1; have n1_ : Aside0 (Below w.heap.size w w1) := ⟨below_step (by repeat (first | (with_reducible first | exact HB.out | apply below_alloc | apply pw_below_drewN | apply below_drew1) | exact HB.out)) hb⟩; clear HB; have HB := n1_; clear n1_; have hx1 := (Kd.R_celln 0 ho 0 (by decide) (by decide)).1; simp [rdOf] at hx1; clear ho hb) | (go_at_call 19; refine (numP_walk A c l k 1 _ (Kd.C_below HR.out (by repeat (first | (with_reducible first | exact HB.out | apply below_alloc | apply pw_below_drewN | apply below_drew1) | exact HB.out))) HC.out (by omega)).mono ?_; rintro e w2 ⟨v2, rfl, ho, hb⟩; rw [← HP.out] at ho; obtain ⟨A2, c2, rfl⟩ := Kd.R_slice ho; have HR2 := Aside0.mk (Kd.R_reads' ho).2.2; have HC2 := Aside0.mk (Kd.R_reads' ho).2.1; have n1_ : Aside0 (Below w.heap.size w w2) := ⟨below_step (by repeat (first | (with_reducible first | exact HB.out | apply below_alloc | apply pw_below_drewN | apply below_drew1) | exact HB.out)) hb⟩; clear HB; have HB := n1_; clear n1_; clear ho hb) | (go_at_call 26; (with_reducible refine (numG_walk A2 c2 p l.length 1 _ (by first | exact HR2.out | (refine Kd.C_drewN ?_ _; exact HR2.out) | (refine Kd.C_alloc ?_ _; exact HR2.out)) HC2.out (by omega) PB.out).mono ?_); rintro e w' ⟨rfl, ⟨nd, rfl⟩⟩) | (go_at_call 28; refine (numS_walk A c l j k 1 _ (Kd.C_below HR.out (by repeat (first | (with_reducible first | exact HB.out | apply below_alloc | apply pw_below_drewN | apply below_drew1) | exact HB.out))) HC.out (by omega)).mono ?_; rintro e w3 ⟨v3, rfl, ho, hb⟩; rw [← HQ.out] at ho; obtain ⟨A3, c3, rfl⟩ := Kd.R_slice ho; have HR3 := Aside0.mk (Kd.R_reads' ho).2.2; have HC3 := Aside0.mk (Kd.R_reads' ho).2.1; have n1_ : Aside0 (Below w.heap.size w w3) := ⟨below_step (by repeat (first | (with_reducible first | exact HB.out | apply below_alloc | apply pw_below_drewN | apply below_drew1) | exact HB.out)) hb⟩; clear HB; have HB := n1_; clear n1_; clear ho hb) | (go_at_call 26; (with_reducible refine (numG_walk A3 c3 q j 1 _ (by first | exact HR3.out | (refine Kd.C_drewN ?_ _; exact HR3.out) | (refine Kd.C_alloc ?_ _; exact HR3.out)) HC3.out (by have := E2.out; omega) QB.out).mono ?_); rintro e w' ⟨rfl, ⟨nd2, rfl⟩⟩))
  obtain ⟨i5, hi5, hz5⟩ := Option.map_eq_some_iff.1 u8info
  have hz5' : i5.size = 1 := by simp only [Prod.mk.injEq] at hz5; exact hz5.2.1
  obtain ⟨r1, C1, _⟩ := cutTo (P := Try.prog) (Kd.int .u8) 22 5 Try.underlying22 hi5 A3 c3 q j (by have := E2.out; omega) HC3.out
  obtain ⟨r2, C2, _⟩ := cutTo (P := Try.prog) (Kd.int .u8) 22 5 Try.underlying22 hi5 A c l j (by omega) HC.out
  obtain ⟨A4, r3, C3, _⟩ := cutFrom (P := Try.prog) (Kd.int .u8) 22 5 Try.underlying22 hi5 hz5' A3 c3 q (j + 1) (by have := E2.out; omega) HC3.out
  obtain ⟨A5, r4, C4, _⟩ := cutFrom (P := Try.prog) (Kd.int .u8) 22 5 Try.underlying22 hi5 hz5' A c l (j + 1) (by omega) HC.out
  rw [show ((j + 1 : Nat) : Int) = (j : Int) + 1 from by omega] at r3 r4
  have hb8 : ((q.length : Int) == (l.length : Int)) = true := by rw [E2.out]; simp
  have hq8 : j + 1 ≤ q.length := by rw [E2.out]; omega
  have hwj : IntKind.i64.wrap ((j : Int) + 1) = (j : Int) + 1 := by rw [IntKind.wrap_i64]; omega
  refine wp_region_still_tail 44 (by kernel_rfl) (by kernel_rfl) ?_
  simp only [List.take_succ_cons, List.take_zero, List.drop_succ_cons, List.drop_zero]
  repeat still_step
  have HBw : ∀ W : World, W.heap = w3.heap → W.os = w3.os → W.tape = w3.tape → W.output = w3.output → Below w.heap.size w W := fun W h1 h2 h3 h4 => ⟨h2.trans HB.out.os, h3.trans HB.out.tape, h4.trans HB.out.output, by rw [h1]; exact HB.out.size, fun k hk => by rw [h1]; exact HB.out.block k hk⟩
  still_call (bEq_true A3 j c3 (q.take j) A j c (l.take j) _ (C1 _ HR3.out) (C2 _ (Kd.C_below HR.out (HBw _ rfl rfl rfl rfl))) (QB.out.take j) E3.out)
  repeat still_step
  still_call (bEq_true A4 _ _ (q.drop (j + 1)) A5 _ _ (l.drop (j + 1)) _ (C3 _ HR3.out) (C4 _ (Kd.C_below HR.out (HBw _ rfl rfl rfl rfl))) (QB.out.drop _) E4.out)
  repeat still_step
  refine wpStill_nil ?_
  clear HBw C1 C2 C3 C4 r1 r2 r3 r4
  change wpList _ _ _ _ _ (w3.drewN _).drew
  go_wp2_with (go_at_call 15; refine (l01_awake _).mono ?_; rintro e w9 ⟨rfl, hb⟩; have n1_ : Aside0 (Below w.heap.size w w9) := ⟨below_step (by repeat (first | (with_reducible first | exact HB.out | apply below_alloc | apply pw_below_drewN | apply below_drew1) | exact HB.out)) hb⟩; clear HB; have HB := n1_; clear n1_; clear hb)
  go_ret
  exact ⟨by simp, HB.out⟩
set_option maxRecDepth 100000 in
set_option maxHeartbeats 1000000 in
theorem l01_back2 (A : Option Addr) (c : Nat) (l : List Int) (n a wh : Int) (w : World) (hr : Kd.C (Kd.int .u8) w A l.length l) (hc : l.length ≤ c) (hb : Byts l) (h1 : 4 ≤ l.length) (h2 : l.length ≤ 2000) (hn0 : 0 ≤ n) (hn1 : n < 4294967296) (ha0 : 0 ≤ a) (ha1 : a < 65536) (hw0 : 0 ≤ wh) (hw1 : wh < 256) (hw : wh % 3 = 1) :
    Calls Try.prog 6 #[.slice A l.length c, .int .u32 n, .int .u16 a, .int .u8 wh] w fun e w' => e = .returned (.bool true) ∧ Below w.heap.size w w' := by
  have HR := Aside0.mk hr
  have HC := Aside0.mk hc
  have HY := Aside0.mk hb
  have HB := Aside0.mk (Below.refl w.heap.size w)
  obtain ⟨k, hk⟩ : ∃ k, n % 65536 = k := ⟨_, rfl⟩
  have hm0 := Int.emod_nonneg a (show ((l.length:Int)-2+1) ≠ 0 by omega)
  have hm1 := Int.emod_lt_of_pos a (show 0 < (l.length:Int)-2+1 by omega)
  obtain ⟨j, hj⟩ : ∃ j : Nat, a % ((l.length:Int)-2+1) = j := ⟨(a % ((l.length:Int)-2+1)).toNat, by omega⟩
  rw [hj] at hm0 hm1
  have hjl : j + 2 ≤ l.length := by omega
  have hR : numR k 2 = true := by
    have : 0 ≤ k ∧ k < 65536 := by omega
    unfold numR; simp [numW]; omega
  have hT : numT l j 2 = true := by unfold numT; simp [numW]; omega
  have g1' := numG_put (l := l) hR
  have g2' := numG_set (l := l) hR hT
  have e1 : numS l j k 2 = setAt l j (leB k 2) := by unfold numS; rw [if_pos ⟨hR, hT⟩]; rfl
  have hle : j + (leB k 2).length ≤ l.length := by rw [leB_length]; omega
  have e2 := setAt_length hle
  have e3 := setAt_before l j (leB k 2) hle
  have e4 := setAt_behind l j (leB k 2) hle
  rw [leB_length] at e4
  have hpl := (numP_length l k 2).1
  have hpb := numP_byts hb k 2
  have hcb := numS_byts hb j k 2
  rw [← e1] at e2 e3 e4
  obtain ⟨p, hp⟩ : ∃ p, p = numP l k 2 := ⟨_, rfl⟩
  obtain ⟨q, hq⟩ : ∃ q, q = numS l j k 2 := ⟨_, rfl⟩
  rw [← hp] at g1' hpl hpb
  rw [← hq] at g2' e2 e3 e4 hcb
  have HP := Aside0.mk hp
  have HQ := Aside0.mk hq
  have E2 := Aside0.mk e2
  have E3 := Aside0.mk e3
  have E4 := Aside0.mk e4
  have PB := Aside0.mk hpb
  have QB := Aside0.mk hcb
  clear hr hc hb hp hq e1 e2 e3 e4 hle hR hT hpb hcb
  go_enter Try.func6, Try.ntmps6
  go_wp2_with (first | ((with_reducible refine gate_dst (N := 26) rfl ?_); refine Kd.R_lit (Kd.int .i64) _ 3 ?hg (N := 26) ?hd (xs := ([(1 : Int), (2 : Int), (4 : Int)] : List (Int))) (inner := [.int .i64 1, .int .i64 2, .int .i64 4]) (ok := fun _ => True) (okp := fun _ => True) ?hr ?hp (fun _ hk => hk) trivial (Below.refl _ _) (Nat.le_refl _) (by simp) ?_; (case hd => rfl); (case hg => rfl); (case hr => first | (go_simp; done) | (go_simp; rfl)); (case hp => exact (Reps.one (show Kd.M (Kd.int .i64) _ _ _ (1 : Int) [.int .i64 1] from rfl) (Reps.one (show Kd.M (Kd.int .i64) _ _ _ (2 : Int) [.int .i64 2] from rfl) (Reps.one (show Kd.M (Kd.int .i64) _ _ _ (4 : Int) [.int .i64 4] from rfl) (Reps.none _ _))))); intro v1 w1 ho hb hg_ hnew_; clear hg_ hnew_; obtain ⟨g1, c1, rfl, hg1, hl1, _, _⟩ := Kd.R_form ho (by simp); have HG1 := Aside0.mk hg1; have HGL1 := Aside0.mk hl1; clear hg1 hl1; have HR1 := Aside0.mk (Kd.R_reads' ho).2.2; have HC1 := Aside0.mk (Kd.R_reads' ho).2.1; have n1_ : Aside0 (Below w.heap.size w w1) := ⟨below_step (by repeat (first | (with_reducible first | exact HB.out | apply below_alloc | apply pw_below_drewN | apply below_drew1) | exact HB.out)) hb⟩; clear HB; have HB := n1_; clear n1_; have hx1 := (Kd.R_celln 0 ho 1 (by decide) (by decide)).1; simp [rdOf] at hx1; clear ho hb) | (go_at_call 19; refine (numP_walk A c l k 2 _ (Kd.C_below HR.out (by repeat (first | (with_reducible first | exact HB.out | apply below_alloc | apply pw_below_drewN | apply below_drew1) | exact HB.out))) HC.out (by omega)).mono ?_; rintro e w2 ⟨v2, rfl, ho, hb⟩; rw [← HP.out] at ho; obtain ⟨A2, c2, rfl⟩ := Kd.R_slice ho; have HR2 := Aside0.mk (Kd.R_reads' ho).2.2; have HC2 := Aside0.mk (Kd.R_reads' ho).2.1; have n1_ : Aside0 (Below w.heap.size w w2) := ⟨below_step (by repeat (first | (with_reducible first | exact HB.out | apply below_alloc | apply pw_below_drewN | apply below_drew1) | exact HB.out)) hb⟩; clear HB; have HB := n1_; clear n1_; clear ho hb) | (go_at_call 26; (with_reducible refine (numG_walk A2 c2 p l.length 2 _ (by first | exact HR2.out | (refine Kd.C_drewN ?_ _; exact HR2.out) | (refine Kd.C_alloc ?_ _; exact HR2.out)) HC2.out (by omega) PB.out).mono ?_); rintro e w' ⟨rfl, ⟨nd, rfl⟩⟩) | (go_at_call 28; refine (numS_walk A c l j k 2 _ (Kd.C_below HR.out (by repeat (first | (with_reducible first | exact HB.out | apply below_alloc | apply pw_below_drewN | apply below_drew1) | exact HB.out))) HC.out (by omega)).mono ?_; rintro e w3 ⟨v3, rfl, ho, hb⟩; rw [← HQ.out] at ho; obtain ⟨A3, c3, rfl⟩ := Kd.R_slice ho; have HR3 := Aside0.mk (Kd.R_reads' ho).2.2; have HC3 := Aside0.mk (Kd.R_reads' ho).2.1; have n1_ : Aside0 (Below w.heap.size w w3) := ⟨below_step (by repeat (first | (with_reducible first | exact HB.out | apply below_alloc | apply pw_below_drewN | apply below_drew1) | exact HB.out)) hb⟩; clear HB; have HB := n1_; clear n1_; clear ho hb) | (go_at_call 26; (with_reducible refine (numG_walk A3 c3 q j 2 _ (by first | exact HR3.out | (refine Kd.C_drewN ?_ _; exact HR3.out) | (refine Kd.C_alloc ?_ _; exact HR3.out)) HC3.out (by have := E2.out; omega) QB.out).mono ?_); rintro e w' ⟨rfl, ⟨nd2, rfl⟩⟩))
  obtain ⟨i5, hi5, hz5⟩ := Option.map_eq_some_iff.1 u8info
  have hz5' : i5.size = 1 := by simp only [Prod.mk.injEq] at hz5; exact hz5.2.1
  obtain ⟨r1, C1, _⟩ := cutTo (P := Try.prog) (Kd.int .u8) 22 5 Try.underlying22 hi5 A3 c3 q j (by have := E2.out; omega) HC3.out
  obtain ⟨r2, C2, _⟩ := cutTo (P := Try.prog) (Kd.int .u8) 22 5 Try.underlying22 hi5 A c l j (by omega) HC.out
  obtain ⟨A4, r3, C3, _⟩ := cutFrom (P := Try.prog) (Kd.int .u8) 22 5 Try.underlying22 hi5 hz5' A3 c3 q (j + 2) (by have := E2.out; omega) HC3.out
  obtain ⟨A5, r4, C4, _⟩ := cutFrom (P := Try.prog) (Kd.int .u8) 22 5 Try.underlying22 hi5 hz5' A c l (j + 2) (by omega) HC.out
  rw [show ((j + 2 : Nat) : Int) = (j : Int) + 2 from by omega] at r3 r4
  have hb8 : ((q.length : Int) == (l.length : Int)) = true := by rw [E2.out]; simp
  have hq8 : j + 2 ≤ q.length := by rw [E2.out]; omega
  have hwj : IntKind.i64.wrap ((j : Int) + 2) = (j : Int) + 2 := by rw [IntKind.wrap_i64]; omega
  refine wp_region_still_tail 44 (by kernel_rfl) (by kernel_rfl) ?_
  simp only [List.take_succ_cons, List.take_zero, List.drop_succ_cons, List.drop_zero]
  repeat still_step
  have HBw : ∀ W : World, W.heap = w3.heap → W.os = w3.os → W.tape = w3.tape → W.output = w3.output → Below w.heap.size w W := fun W h1 h2 h3 h4 => ⟨h2.trans HB.out.os, h3.trans HB.out.tape, h4.trans HB.out.output, by rw [h1]; exact HB.out.size, fun k hk => by rw [h1]; exact HB.out.block k hk⟩
  still_call (bEq_true A3 j c3 (q.take j) A j c (l.take j) _ (C1 _ HR3.out) (C2 _ (Kd.C_below HR.out (HBw _ rfl rfl rfl rfl))) (QB.out.take j) E3.out)
  repeat still_step
  still_call (bEq_true A4 _ _ (q.drop (j + 2)) A5 _ _ (l.drop (j + 2)) _ (C3 _ HR3.out) (C4 _ (Kd.C_below HR.out (HBw _ rfl rfl rfl rfl))) (QB.out.drop _) E4.out)
  repeat still_step
  refine wpStill_nil ?_
  clear HBw C1 C2 C3 C4 r1 r2 r3 r4
  change wpList _ _ _ _ _ (w3.drewN _).drew
  go_wp2_with (go_at_call 15; refine (l01_awake _).mono ?_; rintro e w9 ⟨rfl, hb⟩; have n1_ : Aside0 (Below w.heap.size w w9) := ⟨below_step (by repeat (first | (with_reducible first | exact HB.out | apply below_alloc | apply pw_below_drewN | apply below_drew1) | exact HB.out)) hb⟩; clear HB; have HB := n1_; clear n1_; clear hb)
  go_ret
  exact ⟨by simp, HB.out⟩
set_option maxRecDepth 100000 in
set_option maxHeartbeats 1000000 in
theorem l01_back4 (A : Option Addr) (c : Nat) (l : List Int) (n a wh : Int) (w : World) (hr : Kd.C (Kd.int .u8) w A l.length l) (hc : l.length ≤ c) (hb : Byts l) (h1 : 4 ≤ l.length) (h2 : l.length ≤ 2000) (hn0 : 0 ≤ n) (hn1 : n < 4294967296) (ha0 : 0 ≤ a) (ha1 : a < 65536) (hw0 : 0 ≤ wh) (hw1 : wh < 256) (hw : wh % 3 = 2) :
    Calls Try.prog 6 #[.slice A l.length c, .int .u32 n, .int .u16 a, .int .u8 wh] w fun e w' => e = .returned (.bool true) ∧ Below w.heap.size w w' := by
  have HR := Aside0.mk hr
  have HC := Aside0.mk hc
  have HY := Aside0.mk hb
  have HB := Aside0.mk (Below.refl w.heap.size w)
  obtain ⟨k, hk⟩ : ∃ k, n % 4294967296 = k := ⟨_, rfl⟩
  have hm0 := Int.emod_nonneg a (show ((l.length:Int)-4+1) ≠ 0 by omega)
  have hm1 := Int.emod_lt_of_pos a (show 0 < (l.length:Int)-4+1 by omega)
  obtain ⟨j, hj⟩ : ∃ j : Nat, a % ((l.length:Int)-4+1) = j := ⟨(a % ((l.length:Int)-4+1)).toNat, by omega⟩
  rw [hj] at hm0 hm1
  have hjl : j + 4 ≤ l.length := by omega
  have hR : numR k 4 = true := by
    have : 0 ≤ k ∧ k < 4294967296 := by omega
    unfold numR; simp [numW]; omega
  have hT : numT l j 4 = true := by unfold numT; simp [numW]; omega
  have g1' := numG_put (l := l) hR
  have g2' := numG_set (l := l) hR hT
  have e1 : numS l j k 4 = setAt l j (leB k 4) := by unfold numS; rw [if_pos ⟨hR, hT⟩]; rfl
  have hle : j + (leB k 4).length ≤ l.length := by rw [leB_length]; omega
  have e2 := setAt_length hle
  have e3 := setAt_before l j (leB k 4) hle
  have e4 := setAt_behind l j (leB k 4) hle
  rw [leB_length] at e4
  have hpl := (numP_length l k 4).1
  have hpb := numP_byts hb k 4
  have hcb := numS_byts hb j k 4
  rw [← e1] at e2 e3 e4
  obtain ⟨p, hp⟩ : ∃ p, p = numP l k 4 := ⟨_, rfl⟩
  obtain ⟨q, hq⟩ : ∃ q, q = numS l j k 4 := ⟨_, rfl⟩
  rw [← hp] at g1' hpl hpb
  rw [← hq] at g2' e2 e3 e4 hcb
  have HP := Aside0.mk hp
  have HQ := Aside0.mk hq
  have E2 := Aside0.mk e2
  have E3 := Aside0.mk e3
  have E4 := Aside0.mk e4
  have PB := Aside0.mk hpb
  have QB := Aside0.mk hcb
  clear hr hc hb hp hq e1 e2 e3 e4 hle hR hT hpb hcb
  go_enter Try.func6, Try.ntmps6
  go_wp2_with (first | ((with_reducible refine gate_dst (N := 26) rfl ?_); refine Kd.R_lit (Kd.int .i64) _ 3 ?hg (N := 26) ?hd (xs := ([(1 : Int), (2 : Int), (4 : Int)] : List (Int))) (inner := [.int .i64 1, .int .i64 2, .int .i64 4]) (ok := fun _ => True) (okp := fun _ => True) ?hr ?hp (fun _ hk => hk) trivial (Below.refl _ _) (Nat.le_refl _) (by simp) ?_; (case hd => rfl); (case hg => rfl); (case hr => first | (go_simp; done) | (go_simp; rfl)); (case hp => exact (Reps.one (show Kd.M (Kd.int .i64) _ _ _ (1 : Int) [.int .i64 1] from rfl) (Reps.one (show Kd.M (Kd.int .i64) _ _ _ (2 : Int) [.int .i64 2] from rfl) (Reps.one (show Kd.M (Kd.int .i64) _ _ _ (4 : Int) [.int .i64 4] from rfl) (Reps.none _ _))))); intro v1 w1 ho hb hg_ hnew_; clear hg_ hnew_; obtain ⟨g1, c1, rfl, hg1, hl1, _, _⟩ := Kd.R_form ho (by simp); have HG1 := Aside0.mk hg1; have HGL1 := Aside0.mk hl1; clear hg1 hl1; have HR1 := Aside0.mk (Kd.R_reads' ho).2.2; have HC1 := Aside0.mk (Kd.R_reads' ho).2.1; have n1_ : Aside0 (Below w.heap.size w w1) := ⟨below_step (by repeat (first | (with_reducible first | exact HB.out | apply below_alloc | apply pw_below_drewN | apply below_drew1) | exact HB.out)) hb⟩; clear HB; have HB := n1_; clear n1_; have hx1 := (Kd.R_celln 0 ho 2 (by decide) (by decide)).1; simp [rdOf] at hx1; clear ho hb) | (go_at_call 19; refine (numP_walk A c l k 4 _ (Kd.C_below HR.out (by repeat (first | (with_reducible first | exact HB.out | apply below_alloc | apply pw_below_drewN | apply below_drew1) | exact HB.out))) HC.out (by omega)).mono ?_; rintro e w2 ⟨v2, rfl, ho, hb⟩; rw [← HP.out] at ho; obtain ⟨A2, c2, rfl⟩ := Kd.R_slice ho; have HR2 := Aside0.mk (Kd.R_reads' ho).2.2; have HC2 := Aside0.mk (Kd.R_reads' ho).2.1; have n1_ : Aside0 (Below w.heap.size w w2) := ⟨below_step (by repeat (first | (with_reducible first | exact HB.out | apply below_alloc | apply pw_below_drewN | apply below_drew1) | exact HB.out)) hb⟩; clear HB; have HB := n1_; clear n1_; clear ho hb) | (go_at_call 26; (with_reducible refine (numG_walk A2 c2 p l.length 4 _ (by first | exact HR2.out | (refine Kd.C_drewN ?_ _; exact HR2.out) | (refine Kd.C_alloc ?_ _; exact HR2.out)) HC2.out (by omega) PB.out).mono ?_); rintro e w' ⟨rfl, ⟨nd, rfl⟩⟩) | (go_at_call 28; refine (numS_walk A c l j k 4 _ (Kd.C_below HR.out (by repeat (first | (with_reducible first | exact HB.out | apply below_alloc | apply pw_below_drewN | apply below_drew1) | exact HB.out))) HC.out (by omega)).mono ?_; rintro e w3 ⟨v3, rfl, ho, hb⟩; rw [← HQ.out] at ho; obtain ⟨A3, c3, rfl⟩ := Kd.R_slice ho; have HR3 := Aside0.mk (Kd.R_reads' ho).2.2; have HC3 := Aside0.mk (Kd.R_reads' ho).2.1; have n1_ : Aside0 (Below w.heap.size w w3) := ⟨below_step (by repeat (first | (with_reducible first | exact HB.out | apply below_alloc | apply pw_below_drewN | apply below_drew1) | exact HB.out)) hb⟩; clear HB; have HB := n1_; clear n1_; clear ho hb) | (go_at_call 26; (with_reducible refine (numG_walk A3 c3 q j 4 _ (by first | exact HR3.out | (refine Kd.C_drewN ?_ _; exact HR3.out) | (refine Kd.C_alloc ?_ _; exact HR3.out)) HC3.out (by have := E2.out; omega) QB.out).mono ?_); rintro e w' ⟨rfl, ⟨nd2, rfl⟩⟩))
  obtain ⟨i5, hi5, hz5⟩ := Option.map_eq_some_iff.1 u8info
  have hz5' : i5.size = 1 := by simp only [Prod.mk.injEq] at hz5; exact hz5.2.1
  obtain ⟨r1, C1, _⟩ := cutTo (P := Try.prog) (Kd.int .u8) 22 5 Try.underlying22 hi5 A3 c3 q j (by have := E2.out; omega) HC3.out
  obtain ⟨r2, C2, _⟩ := cutTo (P := Try.prog) (Kd.int .u8) 22 5 Try.underlying22 hi5 A c l j (by omega) HC.out
  obtain ⟨A4, r3, C3, _⟩ := cutFrom (P := Try.prog) (Kd.int .u8) 22 5 Try.underlying22 hi5 hz5' A3 c3 q (j + 4) (by have := E2.out; omega) HC3.out
  obtain ⟨A5, r4, C4, _⟩ := cutFrom (P := Try.prog) (Kd.int .u8) 22 5 Try.underlying22 hi5 hz5' A c l (j + 4) (by omega) HC.out
  rw [show ((j + 4 : Nat) : Int) = (j : Int) + 4 from by omega] at r3 r4
  have hb8 : ((q.length : Int) == (l.length : Int)) = true := by rw [E2.out]; simp
  have hq8 : j + 4 ≤ q.length := by rw [E2.out]; omega
  have hwj : IntKind.i64.wrap ((j : Int) + 4) = (j : Int) + 4 := by rw [IntKind.wrap_i64]; omega
  refine wp_region_still_tail 44 (by kernel_rfl) (by kernel_rfl) ?_
  simp only [List.take_succ_cons, List.take_zero, List.drop_succ_cons, List.drop_zero]
  repeat still_step
  have HBw : ∀ W : World, W.heap = w3.heap → W.os = w3.os → W.tape = w3.tape → W.output = w3.output → Below w.heap.size w W := fun W h1 h2 h3 h4 => ⟨h2.trans HB.out.os, h3.trans HB.out.tape, h4.trans HB.out.output, by rw [h1]; exact HB.out.size, fun k hk => by rw [h1]; exact HB.out.block k hk⟩
  still_call (bEq_true A3 j c3 (q.take j) A j c (l.take j) _ (C1 _ HR3.out) (C2 _ (Kd.C_below HR.out (HBw _ rfl rfl rfl rfl))) (QB.out.take j) E3.out)
  repeat still_step
  still_call (bEq_true A4 _ _ (q.drop (j + 4)) A5 _ _ (l.drop (j + 4)) _ (C3 _ HR3.out) (C4 _ (Kd.C_below HR.out (HBw _ rfl rfl rfl rfl))) (QB.out.drop _) E4.out)
  repeat still_step
  refine wpStill_nil ?_
  clear HBw C1 C2 C3 C4 r1 r2 r3 r4
  change wpList _ _ _ _ _ (w3.drewN _).drew
  go_wp2_with (go_at_call 15; refine (l01_awake _).mono ?_; rintro e w9 ⟨rfl, hb⟩; have n1_ : Aside0 (Below w.heap.size w w9) := ⟨below_step (by repeat (first | (with_reducible first | exact HB.out | apply below_alloc | apply pw_below_drewN | apply below_drew1) | exact HB.out)) hb⟩; clear HB; have HB := n1_; clear n1_; clear hb)
  go_ret
  exact ⟨by simp, HB.out⟩
theorem l01_NumBack (A : Option Addr) (c : Nat) (l : List Int) (n a wh : Int) (w : World) (hr : Kd.C (Kd.int .u8) w A l.length l) (hc : l.length ≤ c) (hb : Byts l) (hn0 : 0 ≤ n) (hn1 : n < 4294967296) (ha0 : 0 ≤ a) (ha1 : a < 65536) (hw0 : 0 ≤ wh) (hw1 : wh < 256) :
    Calls Try.prog 6 #[.slice A l.length c, .int .u32 n, .int .u16 a, .int .u8 wh] w fun e w' => e = .returned (.bool true) ∧ Below w.heap.size w w' := by
  by_cases h : 2000 < l.length ∨ l.length < 4
  · exact l01_few A c l n a wh w h
  rcases (by omega : wh % 3 = 0 ∨ wh % 3 = 1 ∨ wh % 3 = 2) with hw | hw | hw
  · exact l01_back1 A c l n a wh w hr hc hb (by omega) (by omega) hn0 hn1 ha0 ha1 hw0 hw1 hw
  · exact l01_back2 A c l n a wh w hr hc hb (by omega) (by omega) hn0 hn1 ha0 ha1 hw0 hw1 hw
  · exact l01_back4 A c l n a wh w hr hc hb (by omega) (by omega) hn0 hn1 ha0 ha1 hw0 hw1 hw
end Go.Proofs.Ytfbcnmjahpbbeaa.K
