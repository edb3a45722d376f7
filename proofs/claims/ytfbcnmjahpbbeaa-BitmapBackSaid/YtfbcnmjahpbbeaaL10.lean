/- The laws of chapter 10, walked. -/
import Derived.Test.YtfbcnmjahpbbeaaR10
namespace Go.Proofs.Ytfbcnmjahpbbeaa.K
open Go.RowKit Go.Proofs.YtfbcnmjahpbbeaaW.PrintWords Go.Proofs.YtfbcnmjahpbbeaaW.PrintLast Go.Proofs.YtfbcnmjahpbbeaaW.PrintMore
set_option linter.unusedVariables false
set_option linter.unusedSimpArgs false
set_option maxRecDepth 100000 in
theorem l10_awake (w : World) : Calls Try.prog 21 #[] w fun e w' => e = .returned (.bool true) ∧ Below w.heap.size w w' := by
  have HB := Aside0.mk (Below.refl w.heap.size w)
  obtain ⟨p, hp⟩ : ∃ p, p = bmPut [true, false, true] := ⟨_, rfl⟩
  have e0 : p.length = 64 := by rw [hp]; decide +kernel
  have e1 : bmMany p = 2 := by rw [hp]; decide +kernel
  have e2 : bmOk p 4 = true := by rw [hp]; decide +kernel
  have e3 : bmOk p 2 = false := by rw [hp]; decide +kernel
  have E4 : Aside0 (bmGet p 4 = [true, false, true, false]) := ⟨by rw [hp]; decide +kernel⟩
  have E5 : Aside0 (p[0]? = some 5) := ⟨by rw [hp]; decide +kernel⟩
  have E6 : Aside0 (Byts p) := ⟨by rw [hp]; exact bmP_byts _ _⟩
  have HP := Aside0.mk hp
  have E0 := Aside0.mk e0
  have hl64 : ((p.length : Int) == 64) = true := by rw [e0]; rfl
  have hl0 : 0 < p.length := by omega
  clear hp e0
  go_enter Try.func21, Try.ntmps21
  go_wp2_with (first | ((with_reducible refine gate_dst (N := 6) rfl ?_); refine Kd.R_lit Kd.bool _ 4 ?hg (N := 6) ?hd (xs := ([true, false, true] : List (Bool))) (inner := [.bool true, .bool false, .bool true]) (ok := fun _ => True) (okp := fun _ => True) ?hr ?hp (fun _ hk => hk) trivial (Below.refl _ _) (Nat.le_refl _) (by simp) ?_; (case hd => rfl); (case hg => rfl); (case hr => first | (go_simp; done) | (go_simp; rfl)); (case hp => exact (Reps.one (show Kd.M Kd.bool _ _ _ true [.bool true] from rfl) (Reps.one (show Kd.M Kd.bool _ _ _ false [.bool false] from rfl) (Reps.one (show Kd.M Kd.bool _ _ _ true [.bool true] from rfl) (Reps.none _ _))))); intro v1 w1 ho hb hg_ hnew_; clear hg_ hnew_; obtain ⟨A1, c1, rfl⟩ := Kd.R_slice ho; have HR1 := Aside0.mk (Kd.R_reads' ho).2.2; have HC1 := Aside0.mk (Kd.R_reads' ho).2.1; have n1_ : Aside0 (Below w.heap.size w w1) := ⟨below_step (by repeat (first | (with_reducible first | exact HB.out | apply below_alloc | apply pw_below_drewN | apply below_drew1) | exact HB.out)) hb⟩; clear HB; have HB := n1_; clear n1_; clear ho hb) | (go_at_call 22; refine (bmPut_walk A1 c1 [true, false, true] _ (by first | exact HR1.out | (refine Kd.C_drewN ?_ _; exact HR1.out) | (refine Kd.C_alloc ?_ _; exact HR1.out)) HC1.out).mono ?_; rintro e w2 ⟨v2, rfl, ho, hb⟩; rw [← HP.out] at ho; obtain ⟨g2, c2, rfl, hg2, hl2, _, _⟩ := Kd.R_form ho (hl0); have HG2 := Aside0.mk hg2; have HGL2 := Aside0.mk hl2; clear hg2 hl2; have HR2 := Aside0.mk (Kd.R_reads' ho).2.2; have HC2 := Aside0.mk (Kd.R_reads' ho).2.1; have n1_ : Aside0 (Below w.heap.size w w2) := ⟨below_step (by repeat (first | (with_reducible first | exact HB.out | apply below_alloc | apply pw_below_drewN | apply below_drew1) | exact HB.out)) hb⟩; clear HB; have HB := n1_; clear n1_; clear ho hb) | (go_at_call 23; (with_reducible refine (bmGet_walk (some ⟨g2, 0, none⟩) c2 p 4 _ (by first | exact HR2.out | (refine Kd.C_drewN ?_ _; exact HR2.out) | (refine Kd.C_alloc ?_ _; exact HR2.out)) E6.out).mono ?_); rintro e w3 ⟨v3, rfl, ho, hb⟩; rw [E4.out] at ho; obtain ⟨A3, c3, rfl⟩ := Kd.R_slice ho; have HR3 := Aside0.mk (Kd.R_reads' ho).2.2; have HC3 := Aside0.mk (Kd.R_reads' ho).2.1; have n_ := Aside0.mk (Kd.C_below HR2.out (by first | exact hb | exact below_undrew hb)); clear HR2; have HR2 := n_; clear n_; have n1_ : Aside0 (Below w.heap.size w w3) := ⟨below_step (by repeat (first | (with_reducible first | exact HB.out | apply below_alloc | apply pw_below_drewN | apply below_drew1) | exact HB.out)) hb⟩; clear HB; have HB := n1_; clear n1_; clear ho hb) | (go_at_call 23; (with_reducible refine (bmGet_walk (some ⟨g2, 0, none⟩) c2 p 2 _ (by first | exact HR2.out | (refine Kd.C_drewN ?_ _; exact HR2.out) | (refine Kd.C_alloc ?_ _; exact HR2.out)) E6.out).mono ?_); rintro e w4 ⟨v4, rfl, ho, hb⟩; obtain ⟨A4, c4, rfl⟩ := Kd.R_slice ho; have HR4 := Aside0.mk (Kd.R_reads' ho).2.2; have HC4 := Aside0.mk (Kd.R_reads' ho).2.1; have n_ := Aside0.mk (Kd.C_below HR2.out (by first | exact hb | exact below_undrew hb)); clear HR2; have HR2 := n_; clear n_; have n_ := Aside0.mk (Kd.C_below HR3.out (by first | exact hb | exact below_undrew hb)); clear HR3; have HR3 := n_; clear n_; have n1_ : Aside0 (Below w.heap.size w w4) := ⟨below_step (by repeat (first | (with_reducible first | exact HB.out | apply below_alloc | apply pw_below_drewN | apply below_drew1) | exact HB.out)) hb⟩; clear HB; have HB := n1_; clear n1_; clear ho hb; have hx := C_cell HR2.out hl0; rw [show p[0] = 5 from by have := E5.out; rw [List.getElem?_eq_getElem hl0] at this; exact Option.some.inj this] at hx) | (go_at_call 25; refine (bmMany_walk (some ⟨g2, 0, none⟩) c2 p _ (by first | exact HR2.out | (refine Kd.C_drewN ?_ _; exact HR2.out) | (refine Kd.C_alloc ?_ _; exact HR2.out)) (by have := E0.out; omega) E6.out).mono ?_; rintro e w' ⟨rfl, rfl⟩) | ((with_reducible refine gate_dst (N := 34) rfl ?_); (try (refine gate_guard (by rfl) ?_; dsimp only)); refine Kd.R_lit Kd.bool _ 4 ?hg (N := 34) ?hd (xs := ([true, false, true, false] : List (Bool))) (inner := [.bool true, .bool false, .bool true, .bool false]) (ok := fun _ => True) (okp := fun _ => True) ?hr ?hp (fun _ hk => hk) trivial (Below.refl _ _) (Nat.le_refl _) (by simp) ?_; (case hd => rfl); (case hg => rfl); (case hr => first | (go_simp; done) | (go_simp; rfl)); (case hp => exact (Reps.one (show Kd.M Kd.bool _ _ _ true [.bool true] from rfl) (Reps.one (show Kd.M Kd.bool _ _ _ false [.bool false] from rfl) (Reps.one (show Kd.M Kd.bool _ _ _ true [.bool true] from rfl) (Reps.one (show Kd.M Kd.bool _ _ _ false [.bool false] from rfl) (Reps.none _ _)))))); intro v5 w5 ho hb hg_ hnew_; clear hg_ hnew_; obtain ⟨A5, c5, rfl⟩ := Kd.R_slice ho; have HR5 := Aside0.mk (Kd.R_reads' ho).2.2; have HC5 := Aside0.mk (Kd.R_reads' ho).2.1; have n_ := Aside0.mk (Kd.C_below HR2.out (by first | exact hb | exact below_undrew hb)); clear HR2; have HR2 := n_; clear n_; have n_ := Aside0.mk (Kd.C_below HR3.out (by first | exact hb | exact below_undrew hb)); clear HR3; have HR3 := n_; clear n_; have n1_ : Aside0 (Below w.heap.size w w5) := ⟨below_step (by repeat (first | (with_reducible first | exact HB.out | apply below_alloc | apply pw_below_drewN | apply below_drew1) | exact HB.out)) hb⟩; clear HB; have HB := n1_; clear n1_; clear ho hb) | (go_at_call 24; refine (eqB_walk A3 c3 [true, false, true, false] A5 c5 [true, false, true, false] _ (by first | exact HR3.out | (refine Kd.C_drewN ?_ _; exact HR3.out) | (refine Kd.C_alloc ?_ _; exact HR3.out)) (by first | exact HR5.out | (refine Kd.C_drewN ?_ _; exact HR5.out) | (refine Kd.C_alloc ?_ _; exact HR5.out)) (by decide)).mono ?_; rintro e w' ⟨rfl, ⟨nd, rfl⟩⟩; simp only [decide_true]))
  go_ret
  exact ⟨by simp, (by repeat (first | (with_reducible first | exact HB.out | apply below_alloc | apply pw_below_drewN | apply below_drew1) | exact HB.out))⟩
set_option maxRecDepth 100000 in
theorem l10_Tells (A0 : Option Addr) (c0 : Nat) (u : List Bool) (A : Option Addr) (c : Nat) (l : List Int) (n : Int) (w : World) (hr0 : Kd.C Kd.bool w A0 u.length u) (hc0 : u.length ≤ c0) (hr : Kd.C (Kd.int .u8) w A l.length l) (hb : Byts l) :
    Calls Try.prog 7 #[.slice A0 u.length c0, .slice A l.length c, .int .i64 n] w fun e w' => e = .returned (.bool true) ∧ Below w.heap.size w w' := by
  have HR0 := Aside0.mk hr0
  have HC0 := Aside0.mk hc0
  have HR := Aside0.mk hr
  have HY := Aside0.mk hb
  have HB := Aside0.mk (Below.refl w.heap.size w)
  clear hr0 hc0 hr hb
  by_cases h0 : u.length ≤ 2000
  case neg =>
    go_enter Try.func7, Try.ntmps7
    go_wp2_with (go_at_call 21; refine (l10_awake _).mono ?_; rintro e w9 ⟨rfl, hb⟩; have n1_ : Aside0 (Below w.heap.size w w9) := ⟨below_step (by repeat (first | (with_reducible first | exact HB.out | apply below_alloc | apply pw_below_drewN | apply below_drew1) | exact HB.out)) hb⟩; clear HB; have HB := n1_; clear n1_; clear hb)
    go_ret
    exact ⟨rfl, HB.out⟩
  by_cases h1 : l.length ≤ 2000
  case neg =>
    go_enter Try.func7, Try.ntmps7
    go_wp2_with (go_at_call 21; refine (l10_awake _).mono ?_; rintro e w9 ⟨rfl, hb⟩; have n1_ : Aside0 (Below w.heap.size w w9) := ⟨below_step (by repeat (first | (with_reducible first | exact HB.out | apply below_alloc | apply pw_below_drewN | apply below_drew1) | exact HB.out)) hb⟩; clear HB; have HB := n1_; clear n1_; clear hb)
    go_ret
    exact ⟨rfl, HB.out⟩
  have HL1 : Aside0 (bmGet l n = bmGet l n) := ⟨rfl⟩
  have hgl : Aside0 ((bmGet l n).length < 140737488355328) := ⟨by
    unfold bmGet; split
    · next h => rw [bmBits_length]; unfold bmOk at h; simp at h; omega
    · simp⟩
  go_enter Try.func7, Try.ntmps7
  go_wp2_with (first | (go_at_call 23; refine (bmGet_walk A c l n _ (Kd.C_below HR.out (by repeat (first | (with_reducible first | exact HB.out | apply below_alloc | apply pw_below_drewN | apply below_drew1) | exact HB.out))) HY.out).mono ?_; rintro e w2 ⟨v2, rfl, ho, hb⟩; obtain ⟨A2, c2, rfl⟩ := Kd.R_slice ho; have HR2 := Aside0.mk (Kd.R_reads' ho).2.2; have HC2 := Aside0.mk (Kd.R_reads' ho).2.1; have n1_ : Aside0 (Below w.heap.size w w2) := ⟨below_step (by repeat (first | (with_reducible first | exact HB.out | apply below_alloc | apply pw_below_drewN | apply below_drew1) | exact HB.out)) hb⟩; clear HB; have HB := n1_; clear n1_; clear ho hb) | (go_at_call 30; refine (rGet10_walk A c l n _ (Kd.C_below HR.out (by repeat (first | (with_reducible first | exact HB.out | apply below_alloc | apply pw_below_drewN | apply below_drew1) | exact HB.out))) HY.out).mono ?_; rintro e w3 ⟨v3, rfl, ho, hb⟩; obtain ⟨A3, c3, rfl⟩ := Kd.R_slice ho; have HR3 := Aside0.mk (Kd.R_reads' ho).2.2; have HC3 := Aside0.mk (Kd.R_reads' ho).2.1; have n_ := Aside0.mk (Kd.C_below HR2.out (by first | exact hb | exact below_undrew hb)); clear HR2; have HR2 := n_; clear n_; have n1_ : Aside0 (Below w.heap.size w w3) := ⟨below_step (by repeat (first | (with_reducible first | exact HB.out | apply below_alloc | apply pw_below_drewN | apply below_drew1) | exact HB.out)) hb⟩; clear HB; have HB := n1_; clear n1_; clear ho hb) | (go_at_call 22; refine (bmPut_walk A0 c0 u _ (Kd.C_below HR0.out (by repeat (first | (with_reducible first | exact HB.out | apply below_alloc | apply pw_below_drewN | apply below_drew1) | exact HB.out))) HC0.out).mono ?_; rintro e w4 ⟨v4, rfl, ho, hb⟩; obtain ⟨A4, c4, rfl⟩ := Kd.R_slice ho; have HR4 := Aside0.mk (Kd.R_reads' ho).2.2; have HC4 := Aside0.mk (Kd.R_reads' ho).2.1; have n_ := Aside0.mk (Kd.C_below HR2.out (by first | exact hb | exact below_undrew hb)); clear HR2; have HR2 := n_; clear n_; have n_ := Aside0.mk (Kd.C_below HR3.out (by first | exact hb | exact below_undrew hb)); clear HR3; have HR3 := n_; clear n_; have n1_ : Aside0 (Below w.heap.size w w4) := ⟨below_step (by repeat (first | (with_reducible first | exact HB.out | apply below_alloc | apply pw_below_drewN | apply below_drew1) | exact HB.out)) hb⟩; clear HB; have HB := n1_; clear n1_; clear ho hb) | (go_at_call 31; refine (rPut10_walk A0 c0 u _ (Kd.C_below HR0.out (by repeat (first | (with_reducible first | exact HB.out | apply below_alloc | apply pw_below_drewN | apply below_drew1) | exact HB.out))) (by omega)).mono ?_; rintro e w5 ⟨v5, rfl, ho, hb⟩; obtain ⟨A5, c5, rfl⟩ := Kd.R_slice ho; have HR5 := Aside0.mk (Kd.R_reads' ho).2.2; have HC5 := Aside0.mk (Kd.R_reads' ho).2.1; have n_ := Aside0.mk (Kd.C_below HR2.out (by first | exact hb | exact below_undrew hb)); clear HR2; have HR2 := n_; clear n_; have n_ := Aside0.mk (Kd.C_below HR3.out (by first | exact hb | exact below_undrew hb)); clear HR3; have HR3 := n_; clear n_; have n_ := Aside0.mk (Kd.C_below HR4.out (by first | exact hb | exact below_undrew hb)); clear HR4; have HR4 := n_; clear n_; have n1_ : Aside0 (Below w.heap.size w w5) := ⟨below_step (by repeat (first | (with_reducible first | exact HB.out | apply below_alloc | apply pw_below_drewN | apply below_drew1) | exact HB.out)) hb⟩; clear HB; have HB := n1_; clear n1_; clear ho hb) | (go_at_call 18; refine (bEq_walk A4 c4 (bmPut u) A5 c5 (bmPut u) _ (by first | exact HR4.out | (refine Kd.C_drewN ?_ _; exact HR4.out) | (refine Kd.C_alloc ?_ _; exact HR4.out)) (by first | exact HR5.out | (refine Kd.C_drewN ?_ _; exact HR5.out) | (refine Kd.C_alloc ?_ _; exact HR5.out)) (bmP_byts _ _) (bmP_byts _ _)).mono ?_; rintro e w' ⟨rfl, ⟨nd, rfl⟩⟩; simp only [decide_true]) | (go_at_call 24; refine (eqB_walk A2 c2 (bmGet l n) A3 c3 (bmGet l n) _ (by first | exact HR2.out | (refine Kd.C_drewN ?_ _; exact HR2.out) | (refine Kd.C_alloc ?_ _; exact HR2.out)) (by first | exact HR3.out | (refine Kd.C_drewN ?_ _; exact HR3.out) | (refine Kd.C_alloc ?_ _; exact HR3.out)) hgl.out).mono ?_; rintro e w' ⟨rfl, ⟨nd2, rfl⟩⟩; simp only [decide_true]) | (go_at_call 25; refine (bmMany_walk A c l _ (Kd.C_below HR.out (by repeat (first | (with_reducible first | exact HB.out | apply below_alloc | apply pw_below_drewN | apply below_drew1) | exact HB.out))) (by omega) HY.out).mono ?_; rintro e w' ⟨rfl, rfl⟩) | (go_at_call 32; refine (rMany_walk A c l _ (Kd.C_below HR.out (by repeat (first | (with_reducible first | exact HB.out | apply below_alloc | apply pw_below_drewN | apply below_drew1) | exact HB.out))) HY.out (by omega)).mono ?_; rintro e w' ⟨rfl, rfl⟩) | (go_at_call 21; refine (l10_awake _).mono ?_; rintro e w9 ⟨rfl, hb⟩; have n1_ : Aside0 (Below w.heap.size w w9) := ⟨below_step (by repeat (first | (with_reducible first | exact HB.out | apply below_alloc | apply pw_below_drewN | apply below_drew1) | exact HB.out)) hb⟩; clear HB; have HB := n1_; clear n1_; clear hb))
  go_ret
  exact ⟨by simp, (by repeat (first | (with_reducible first | exact HB.out | apply below_alloc | apply pw_below_drewN | apply below_drew1) | exact HB.out))⟩
set_option maxRecDepth 100000 in
theorem l10_Back (A0 : Option Addr) (c0 : Nat) (u : List Bool) (w : World) (hr0 : Kd.C Kd.bool w A0 u.length u) (hc0 : u.length ≤ c0) :
    Calls Try.prog 4 #[.slice A0 u.length c0] w fun e w' => e = .returned (.bool true) ∧ Below w.heap.size w w' := by
  have HR0 := Aside0.mk hr0
  have HC0 := Aside0.mk hc0
  have HB := Aside0.mk (Below.refl w.heap.size w)
  clear hr0 hc0
  by_cases h0 : u.length ≤ 512
  case neg =>
    go_enter Try.func4, Try.ntmps4
    go_wp2_with (go_at_call 21; refine (l10_awake _).mono ?_; rintro e w9 ⟨rfl, hb⟩; have n1_ : Aside0 (Below w.heap.size w w9) := ⟨below_step (by repeat (first | (with_reducible first | exact HB.out | apply below_alloc | apply pw_below_drewN | apply below_drew1) | exact HB.out)) hb⟩; clear HB; have HB := n1_; clear n1_; clear hb)
    go_ret
    exact ⟨rfl, HB.out⟩
  obtain ⟨p, hp⟩ : ∃ p, p = bmPut u := ⟨_, rfl⟩
  obtain ⟨e1, e2, e3⟩ := bmGet_put h0
  rw [← hp] at e1 e2 e3
  have hpl : p.length = 64 := by rw [hp]; exact bmP_length _ _
  have hpb : Byts p := by rw [hp]; exact bmP_byts _ _
  have HP := Aside0.mk hp
  have E2 := Aside0.mk e2
  have E3 := Aside0.mk e3
  have PL := Aside0.mk hpl
  have PB := Aside0.mk hpb
  clear hp e2 e3 hpl hpb
  go_enter Try.func4, Try.ntmps4
  go_wp2_with (first | (go_at_call 22; refine (bmPut_walk A0 c0 u _ (Kd.C_below HR0.out (by repeat (first | (with_reducible first | exact HB.out | apply below_alloc | apply pw_below_drewN | apply below_drew1) | exact HB.out))) HC0.out).mono ?_; rintro e w2 ⟨v2, rfl, ho, hb⟩; rw [← HP.out] at ho; obtain ⟨A2, c2, rfl⟩ := Kd.R_slice ho; have HR2 := Aside0.mk (Kd.R_reads' ho).2.2; have HC2 := Aside0.mk (Kd.R_reads' ho).2.1; have n1_ : Aside0 (Below w.heap.size w w2) := ⟨below_step (by repeat (first | (with_reducible first | exact HB.out | apply below_alloc | apply pw_below_drewN | apply below_drew1) | exact HB.out)) hb⟩; clear HB; have HB := n1_; clear n1_; clear ho hb) | (go_at_call 23; refine (bmGet_walk A2 c2 p u.length _ (by first | exact HR2.out | (refine Kd.C_drewN ?_ _; exact HR2.out) | (refine Kd.C_alloc ?_ _; exact HR2.out)) PB.out).mono ?_; rintro e w3 ⟨v3, rfl, ho, hb⟩; rw [E2.out] at ho; obtain ⟨A3, c3, rfl⟩ := Kd.R_slice ho; have HR3 := Aside0.mk (Kd.R_reads' ho).2.2; have HC3 := Aside0.mk (Kd.R_reads' ho).2.1; have n_ := Aside0.mk (Kd.C_below HR2.out (by first | exact hb | exact below_undrew hb)); clear HR2; have HR2 := n_; clear n_; have n1_ : Aside0 (Below w.heap.size w w3) := ⟨below_step (by repeat (first | (with_reducible first | exact HB.out | apply below_alloc | apply pw_below_drewN | apply below_drew1) | exact HB.out)) hb⟩; clear HB; have HB := n1_; clear n1_; clear ho hb))
  go_loop [6, 24] (fun v6 v24 => ∃ m q : Nat, v6 = .int .i64 q ∧ v24 = .int .i64 m ∧ Aside0 (m ≤ u.length) ∧ Aside0 (q = bmTrue u m)) (fun _ i => u.length - (intOf i).toNat)
  case atStart => exact ⟨0, 0, rfl, rfl, ⟨Nat.zero_le _⟩, ⟨rfl⟩⟩
  case round =>
    obtain ⟨m, q, rfl, rfl, hm, hq⟩ := hrel
    have hm' := hm.out
    by_cases hlt : m < u.length
    · obtain ⟨ad, rfl, hx⟩ := Kd.at_bool (Kd.C_below HR0.out HB.out) (m : Int) (by omega) (by omega)
      rw [rdOf_get (by omega), Int.toNat_natCast] at hx
      have hug : u.getD m false = u[m] := by simp [List.getElem?_eq_getElem hlt]
      have hs : bmTrue u (m + 1) = bmTrue u m + (if u.getD m false = true then 1 else 0) := rfl
      have hle : q ≤ m := by rw [hq.out]; exact bmTrue_le u m
      rw [hug, ← hq.out] at hs
      cases hu : u[m] with
      | true =>
        rw [hu] at hx hs
        have HS := Aside0.mk hs
        clear hug hu hs
        go_wp2
        exact ⟨⟨m + 1, q + 1, rfl, rfl, ⟨by omega⟩, ⟨by rw [HS.out]; rfl⟩⟩, by simp [intOf]; omega⟩
      | false =>
        rw [hu] at hx hs
        have HS := Aside0.mk hs
        clear hug hu hs
        go_wp2
        exact ⟨⟨m + 1, q, rfl, rfl, ⟨by omega⟩, ⟨by rw [HS.out]; rfl⟩⟩, by simp [intOf]; omega⟩
    · have hmn : m = u.length := by omega
      have hqe : ((bmMany p : Int) == (q : Int)) = true := by rw [E3.out, hq.out, hmn]; simp
      clear hmn
      go_wp2_with (first | (go_at_call 24; refine (eqB_walk A3 c3 u A0 c0 u _ (by first | exact HR3.out | (refine Kd.C_drewN ?_ _; exact HR3.out) | (refine Kd.C_alloc ?_ _; exact HR3.out)) (Kd.C_below HR0.out HB.out) (by omega)).mono ?_; rintro e w' ⟨rfl, ⟨nd2, rfl⟩⟩; simp only [decide_true]) | (go_at_call 25; refine (bmMany_walk A2 c2 p _ (by first | exact HR2.out | (refine Kd.C_drewN ?_ _; exact HR2.out) | (refine Kd.C_alloc ?_ _; exact HR2.out)) (by have := PL.out; omega) PB.out).mono ?_; rintro e w' ⟨rfl, rfl⟩) | (go_at_call 21; refine (l10_awake _).mono ?_; rintro e w9 ⟨rfl, hb⟩; have n1_ : Aside0 (Below w.heap.size w w9) := ⟨below_step (by repeat (first | (with_reducible first | exact HB.out | apply below_alloc | apply pw_below_drewN | apply below_drew1) | exact HB.out)) hb⟩; clear HB; have HB := n1_; clear n1_; clear hb))
      go_ret
      exact ⟨by simp, (by repeat (first | (with_reducible first | exact HB.out | apply below_alloc | apply pw_below_drewN | apply below_drew1) | exact HB.out))⟩
end Go.Proofs.Ytfbcnmjahpbbeaa.K
