-- craquelure: laid by this project's xprint (a turned copy of the kit's print): printed functions, and functions proved by hand
import Derived.Test.YtdkbhbolkieeiaaX110
import Derived.Test.YtdkbhbolkieeiaaX111
namespace Go.Proofs.Ytdkbhbolkieeiaa.X11
open Go.RowKit Go.Proofs.YtdkbhbolkieeiaaW.PrintWords Go.Proofs.YtdkbhbolkieeiaaW.PrintLast Go.Proofs.YtdkbhbolkieeiaaW.PrintMore
attribute [local go_sem] max2_int min2_int max_two min_two max_three min_three max_four min_four   -- for this text's walks alone
set_option linter.unusedVariables false
set_option linter.unusedSimpArgs false

/-! ### craquelurelaw11_ClaimTells: function 3 -/
def craquelurelaw11_ClaimTells.j0 : Nat → List (S70) → Int → Bool → Option (Bool)
  | 0, _, _, _ => none
  | k + 1, x0, x1, x72 => if x72 = true then (some false) else (if x1 > 100 then (if x1 ≤ 512 then ((craquelurelaw11_awake.f k).bind fun t163 => (some t163)) else ((claim_Used.f x0 x1).bind fun t164 => ((craquelureref11_Used.f k x0 x1).bind fun t167 => ((slices_Equal_bool_bool.f k t164 t167).bind fun t170 => (if t170 = true then ((craquelurelaw11_awake.f k).bind fun t171 => (some t171)) else (some false)))))) else ((claim_Used.f x0 x1).bind fun t172 => ((craquelureref11_Used.f k x0 x1).bind fun t175 => ((slices_Equal_bool_bool.f k t172 t175).bind fun t178 => (if t178 = true then ((craquelurelaw11_awake.f k).bind fun t179 => (some t179)) else (some false))))))
def craquelurelaw11_ClaimTells.f (k : Nat) (l0 : List (S70)) (a1 : Int) (a2 : Int) (a3 : Int) (a4 : Int) : Option (Bool) := (craquelureplain_Inodes.f l0).bind fun t146 => (if t146 = true then ((claim_Owner.f l0 a1 a4).bind fun bt148 => ((craquelureref11_Owner.f k l0 a1 a4).bind fun bt151 => (if bt148.1 = bt151.1 then (if bt148.2.1 = bt151.2.1 then (if (bt148.2.2 != bt151.2.2) = true then (craquelurelaw11_ClaimTells.j0 k l0 a1 true) else ((claim_Valid.f l0 a1 a2 a3).bind fun t154 => ((craquelureref11_Valid.f l0 a1 a2 a3).bind fun t155 => (if (t154 != t155) = true then (craquelurelaw11_ClaimTells.j0 k l0 a1 true) else ((claim_Bad.f l0 a1).bind fun t156 => ((craquelureref11_Bad.f k l0 a1).bind fun t159 => ((slices_Equal_2_int_2_int.f t156 t159).bind fun t162 => (craquelurelaw11_ClaimTells.j0 k l0 a1 (!t162))))))))) else (craquelurelaw11_ClaimTells.j0 k l0 a1 true)) else (craquelurelaw11_ClaimTells.j0 k l0 a1 true)))) else ((craquelurelaw11_awake.f k).bind fun t147 => (some t147)))
theorem craquelurelaw11_ClaimTells.mono_l : ∀ k, (∀ y0 y1 y2, LeO (craquelurelaw11_ClaimTells.j0 k y0 y1 y2) (craquelurelaw11_ClaimTells.j0 (k + 1) y0 y1 y2))
  | 0 => fun _ _ _ r h => by simp [craquelurelaw11_ClaimTells.j0] at h
  | k + 1 => by
    have ih0 := craquelurelaw11_ClaimTells.mono_l k
    · intro y0 y1 y2
      unfold craquelurelaw11_ClaimTells.j0
      repeat' first
      | (with_reducible exact ih0 _ _ _)
      | (with_reducible exact craquelurelaw11_awake.mono _)
      | (with_reducible exact craquelureref11_Bad.mono _ _ _)
      | (with_reducible exact craquelureref11_Owner.mono _ _ _ _)
      | (with_reducible exact craquelureref11_Used.mono _ _ _)
      | (with_reducible exact slices_Equal_bool_bool.mono _ _ _)
      | (with_reducible exact LeO.refl _)
      | (with_reducible exact LeO.none _)
      | (with_reducible refine LeO.ite ?_ ?_)
      | (with_reducible refine LeO.bind ?_ (fun _ => ?_))
      | exact ih0 _ _ _
      | exact craquelurelaw11_awake.mono _
      | exact craquelureref11_Bad.mono _ _ _
      | exact craquelureref11_Owner.mono _ _ _ _
      | exact craquelureref11_Used.mono _ _ _
      | exact slices_Equal_bool_bool.mono _ _ _
      | exact LeO.none _
      | refine LeO.ite ?_ ?_
      | refine LeO.bind ?_ (fun _ => ?_)
theorem craquelurelaw11_ClaimTells.mono : ∀ a0 a1 a2 a3 a4 k, LeO (craquelurelaw11_ClaimTells.f k a0 a1 a2 a3 a4) (craquelurelaw11_ClaimTells.f (k + 1) a0 a1 a2 a3 a4) := by
  intro a0 a1 a2 a3 a4 k
  have ih0 := craquelurelaw11_ClaimTells.mono_l k
  unfold craquelurelaw11_ClaimTells.f
  repeat' first
      | (with_reducible exact ih0 _ _ _)
      | (with_reducible exact craquelurelaw11_awake.mono _)
      | (with_reducible exact craquelureref11_Bad.mono _ _ _)
      | (with_reducible exact craquelureref11_Owner.mono _ _ _ _)
      | (with_reducible exact craquelureref11_Used.mono _ _ _)
      | (with_reducible exact slices_Equal_bool_bool.mono _ _ _)
      | (with_reducible exact LeO.refl _)
      | (with_reducible exact LeO.none _)
      | (with_reducible refine LeO.ite ?_ ?_)
      | (with_reducible refine LeO.bind ?_ (fun _ => ?_))
      | exact ih0 _ _ _
      | exact craquelurelaw11_awake.mono _
      | exact craquelureref11_Bad.mono _ _ _
      | exact craquelureref11_Owner.mono _ _ _ _
      | exact craquelureref11_Used.mono _ _ _
      | exact slices_Equal_bool_bool.mono _ _ _
      | exact LeO.none _
      | refine LeO.ite ?_ ?_
      | refine LeO.bind ?_ (fun _ => ?_)
set_option maxHeartbeats 8000000 in
set_option maxRecDepth 100000 in
theorem craquelurelaw11_ClaimTells.calls (k : Nat) (A0 : Option Addr) (c0 : Nat) (l0 : List (S70)) (a1 : Int) (a2 : Int) (a3 : Int) (a4 : Int) (r : Bool) (w : World) (hr0 : Kd.C k70 w A0 l0.length l0) (hc0 : l0.length ≤ c0) (h : craquelurelaw11_ClaimTells.f k l0 a1 a2 a3 a4 = some r) :
    Calls Try.prog 3 #[.slice A0 l0.length c0, .int .i64 a1, .int .i64 a2, .int .i64 a3, .int .i64 a4] w fun e w' => e = .returned (.bool r) ∧ Below w.heap.size w w' := by
  have HR0 := Aside0.mk hr0
  have HC0 := Aside0.mk hc0
  clear hr0 hc0
  have HB := Aside0.mk (Below.refl w.heap.size w)
  have H : ((craquelureplain_Inodes.f l0).bind fun t146 => (if t146 = true then ((claim_Owner.f l0 a1 a4).bind fun bt148 => ((craquelureref11_Owner.f k l0 a1 a4).bind fun bt151 => (if bt148.1 = bt151.1 then (if bt148.2.1 = bt151.2.1 then (if (bt148.2.2 != bt151.2.2) = true then (craquelurelaw11_ClaimTells.j0 k l0 a1 true) else ((claim_Valid.f l0 a1 a2 a3).bind fun t154 => ((craquelureref11_Valid.f l0 a1 a2 a3).bind fun t155 => (if (t154 != t155) = true then (craquelurelaw11_ClaimTells.j0 k l0 a1 true) else ((claim_Bad.f l0 a1).bind fun t156 => ((craquelureref11_Bad.f k l0 a1).bind fun t159 => ((slices_Equal_2_int_2_int.f t156 t159).bind fun t162 => (craquelurelaw11_ClaimTells.j0 k l0 a1 (!t162))))))))) else (craquelurelaw11_ClaimTells.j0 k l0 a1 true)) else (craquelurelaw11_ClaimTells.j0 k l0 a1 true)))) else ((craquelurelaw11_awake.f k).bind fun t147 => (some t147)))) = some r := h
  clear h
  replace H := Option.bind_eq_some_iff.mp H
  obtain ⟨t146, A60, H⟩ := H
  replace H : (if t146 = true then ((claim_Owner.f l0 a1 a4).bind fun bt148 => ((craquelureref11_Owner.f k l0 a1 a4).bind fun bt151 => (if bt148.1 = bt151.1 then (if bt148.2.1 = bt151.2.1 then (if (bt148.2.2 != bt151.2.2) = true then (craquelurelaw11_ClaimTells.j0 k l0 a1 true) else ((claim_Valid.f l0 a1 a2 a3).bind fun t154 => ((craquelureref11_Valid.f l0 a1 a2 a3).bind fun t155 => (if (t154 != t155) = true then (craquelurelaw11_ClaimTells.j0 k l0 a1 true) else ((claim_Bad.f l0 a1).bind fun t156 => ((craquelureref11_Bad.f k l0 a1).bind fun t159 => ((slices_Equal_2_int_2_int.f t156 t159).bind fun t162 => (craquelurelaw11_ClaimTells.j0 k l0 a1 (!t162))))))))) else (craquelurelaw11_ClaimTells.j0 k l0 a1 true)) else (craquelurelaw11_ClaimTells.j0 k l0 a1 true)))) else ((craquelurelaw11_awake.f k).bind fun t147 => (some t147))) = some r := H
  have A6 := Aside0.mk A60
  clear A60
  by_cases c7 : t146 = true
  · subst c7
    have H1 : ((claim_Owner.f l0 a1 a4).bind fun bt148 => ((craquelureref11_Owner.f k l0 a1 a4).bind fun bt151 => (if bt148.1 = bt151.1 then (if bt148.2.1 = bt151.2.1 then (if (bt148.2.2 != bt151.2.2) = true then (craquelurelaw11_ClaimTells.j0 k l0 a1 true) else ((claim_Valid.f l0 a1 a2 a3).bind fun t154 => ((craquelureref11_Valid.f l0 a1 a2 a3).bind fun t155 => (if (t154 != t155) = true then (craquelurelaw11_ClaimTells.j0 k l0 a1 true) else ((claim_Bad.f l0 a1).bind fun t156 => ((craquelureref11_Bad.f k l0 a1).bind fun t159 => ((slices_Equal_2_int_2_int.f t156 t159).bind fun t162 => (craquelurelaw11_ClaimTells.j0 k l0 a1 (!t162))))))))) else (craquelurelaw11_ClaimTells.j0 k l0 a1 true)) else (craquelurelaw11_ClaimTells.j0 k l0 a1 true)))) = some r := by rw [if_pos rfl] at H; exact H
    clear H
    have H := H1
    clear H1
    replace H := Option.bind_eq_some_iff.mp H
    obtain ⟨⟨t148, t149, t150⟩, A80, H⟩ := H
    replace H : ((craquelureref11_Owner.f k l0 a1 a4).bind fun bt151 => (if t148 = bt151.1 then (if t149 = bt151.2.1 then (if (t150 != bt151.2.2) = true then (craquelurelaw11_ClaimTells.j0 k l0 a1 true) else ((claim_Valid.f l0 a1 a2 a3).bind fun t154 => ((craquelureref11_Valid.f l0 a1 a2 a3).bind fun t155 => (if (t154 != t155) = true then (craquelurelaw11_ClaimTells.j0 k l0 a1 true) else ((claim_Bad.f l0 a1).bind fun t156 => ((craquelureref11_Bad.f k l0 a1).bind fun t159 => ((slices_Equal_2_int_2_int.f t156 t159).bind fun t162 => (craquelurelaw11_ClaimTells.j0 k l0 a1 (!t162))))))))) else (craquelurelaw11_ClaimTells.j0 k l0 a1 true)) else (craquelurelaw11_ClaimTells.j0 k l0 a1 true))) = some r := H
    have A8 := Aside0.mk A80
    clear A80
    replace H := Option.bind_eq_some_iff.mp H
    obtain ⟨⟨t151, t152, t153⟩, A90, H⟩ := H
    replace H : (if t148 = t151 then (if t149 = t152 then (if (t150 != t153) = true then (craquelurelaw11_ClaimTells.j0 k l0 a1 true) else ((claim_Valid.f l0 a1 a2 a3).bind fun t154 => ((craquelureref11_Valid.f l0 a1 a2 a3).bind fun t155 => (if (t154 != t155) = true then (craquelurelaw11_ClaimTells.j0 k l0 a1 true) else ((claim_Bad.f l0 a1).bind fun t156 => ((craquelureref11_Bad.f k l0 a1).bind fun t159 => ((slices_Equal_2_int_2_int.f t156 t159).bind fun t162 => (craquelurelaw11_ClaimTells.j0 k l0 a1 (!t162))))))))) else (craquelurelaw11_ClaimTells.j0 k l0 a1 true)) else (craquelurelaw11_ClaimTells.j0 k l0 a1 true)) = some r := H
    have A9 := Aside0.mk A90
    clear A90
    have HC10 := Aside0.mk H
    clear H
    go_enter Try.func3, Try.ntmps3
    go_upto_region 5 with (first | ((with_reducible refine gate_callee (f := 10) rfl ?_); refine goesL_ (some 18) rfl rfl Try.func10 (by kernel_rfl) rfl #[.slice A0 l0.length c0] rfl (by (try simp only [List.map_toArray, List.map_cons, List.map_nil]); first | done | rfl | (simp only [List.length_drop, List.length_take]; rfl)) ?_; (with_reducible refine (craquelureplain_Inodes.calls _ _ l0 true _ ?side1 ?side2 A6.out).mono ?_); (case side1 => repeat (first | exact HR0.out | (with_reducible refine Kd.C_alloc ?_ _) | (with_reducible refine Kd.C_drewN ?_ _) | (with_reducible refine Kd.C_drew ?_))); (case side2 => exact HC0.out); rintro e w' ⟨rfl, ⟨nd, rfl⟩⟩; refine ⟨_, rfl, ?_⟩) | ((with_reducible refine gate_callee (f := 12) rfl ?_); refine goesL_ (some 25) rfl rfl Try.func12 (by kernel_rfl) rfl #[.slice A0 l0.length c0, .int .i64 a1, .int .i64 a4] rfl (by (try simp only [List.map_toArray, List.map_cons, List.map_nil]); first | done | rfl | (simp only [List.length_drop, List.length_take]; rfl)) ?_; (with_reducible refine (claim_Owner.calls _ _ l0 a1 a4 t148 t149 t150 _ ?side1 ?side2 A8.out).mono ?_); (case side1 => repeat (first | exact HR0.out | (with_reducible refine Kd.C_alloc ?_ _) | (with_reducible refine Kd.C_drewN ?_ _) | (with_reducible refine Kd.C_drew ?_))); (case side2 => exact HC0.out); rintro e w11 ⟨rfl, hb⟩; refine ⟨_, rfl, ?_⟩; have n0_ := Aside0.mk (below_step (by repeat (first | (with_reducible first | exact HB.out | apply below_alloc | apply pw_below_drewN | apply below_drew1) | exact HB.out)) hb); clear HB; have HB := n0_; clear n0_; (try clear hb); (try clear hb2); (try clear hk); (try clear hi)) | ((with_reducible refine gate_callee (f := 13) rfl ?_); refine goesL_ (some 33) rfl rfl Try.func13 (by kernel_rfl) rfl #[.slice A0 l0.length c0, .int .i64 a1, .int .i64 a4] rfl (by (try simp only [List.map_toArray, List.map_cons, List.map_nil]); first | done | rfl | (simp only [List.length_drop, List.length_take]; rfl)) ?_; (with_reducible refine (craquelureref11_Owner.calls k _ _ l0 a1 a4 t151 t152 t153 _ ?side1 ?side2 A9.out).mono ?_); (case side1 => repeat (first | exact (Kd.C_below HR0.out HB.out) | (with_reducible refine Kd.C_alloc ?_ _) | (with_reducible refine Kd.C_drewN ?_ _) | (with_reducible refine Kd.C_drew ?_))); (case side2 => exact HC0.out); rintro e w12 ⟨rfl, hb⟩; refine ⟨_, rfl, ?_⟩; have n0_ := Aside0.mk (below_step (by repeat (first | (with_reducible first | exact HB.out | apply below_alloc | apply pw_below_drewN | apply below_drew1) | exact HB.out)) hb); clear HB; have HB := n0_; clear n0_; (try clear hb); (try clear hb2); (try clear hk); (try clear hi)))
    (try simp only [Act.put, List.setIfInBounds_toArray, List.set_cons_zero, List.set_cons_succ])
    go_cut [72] (fun v72 wc => ∃ (kq : Nat) (x72_9 : Bool), v72 = .bool x72_9 ∧ Aside0 (craquelurelaw11_ClaimTells.j0 kq l0 a1 x72_9 = some r) ∧ Aside0 (kq ≤ k) ∧ Aside0 (Below w.heap.size w wc))
    case first =>
      have H := HC10.out
      clear HC10
      by_cases c13 : t148 = t151
      · rw [if_pos c13] at H
        have c13b0 : (t148 == t151) = true := beq_iff_eq.mpr c13
        have c13b1 : (t148 != t151) = false := bne_eq_false_iff_eq.mpr c13
        clear c13
        (first | rw [c13b0] | (simp only [i64_w, i32_w]; rw [c13b0]) | skip)
        by_cases c14 : t149 = t152
        · rw [if_pos c14] at H
          have c14b0 : (t149 == t152) = true := beq_iff_eq.mpr c14
          have c14b1 : (t149 != t152) = false := bne_eq_false_iff_eq.mpr c14
          clear c14
          by_cases c15 : (t150 != t153) = true
          · rw [if_pos c15] at H
            have c15b0 : (t150 != t153) = true := c15
            (try (have c15b1 : decide (t150 = t153) = false := by simpa using c15))
            (try (have c15b2 : (t150 == t153) = false := by simpa using c15))
            (try (have c15b3 : ¬ (t150 = t153) := by simpa using c15))
            clear c15
            have H' := Aside0.mk H
            clear H
            go_wp2
            go_meet
            case rel => exact ⟨_, (true), (by first | rfl | (simp; done) | (simp [*]; done)), H', ⟨by first | omega | exact Nat.le_refl _⟩, ⟨by repeat (first | (with_reducible first | exact HB.out | apply below_alloc | apply pw_below_drewN | apply below_drew1) | exact HB.out)⟩⟩
          · rw [if_neg c15] at H
            have c15b0 : (t150 != t153) = false := by simpa using c15
            (try (have c15b1 : decide (t150 = t153) = true := by simpa using c15))
            (try (have c15b2 : (t150 == t153) = true := by simpa using c15))
            clear c15
            replace H := Option.bind_eq_some_iff.mp H
            obtain ⟨t154, A160, H⟩ := H
            replace H : ((craquelureref11_Valid.f l0 a1 a2 a3).bind fun t155 => (if (t154 != t155) = true then (craquelurelaw11_ClaimTells.j0 k l0 a1 true) else ((claim_Bad.f l0 a1).bind fun t156 => ((craquelureref11_Bad.f k l0 a1).bind fun t159 => ((slices_Equal_2_int_2_int.f t156 t159).bind fun t162 => (craquelurelaw11_ClaimTells.j0 k l0 a1 (!t162))))))) = some r := H
            have A16 := Aside0.mk A160
            clear A160
            replace H := Option.bind_eq_some_iff.mp H
            obtain ⟨t155, A170, H⟩ := H
            replace H : (if (t154 != t155) = true then (craquelurelaw11_ClaimTells.j0 k l0 a1 true) else ((claim_Bad.f l0 a1).bind fun t156 => ((craquelureref11_Bad.f k l0 a1).bind fun t159 => ((slices_Equal_2_int_2_int.f t156 t159).bind fun t162 => (craquelurelaw11_ClaimTells.j0 k l0 a1 (!t162)))))) = some r := H
            have A17 := Aside0.mk A170
            clear A170
            by_cases c18 : (t154 != t155) = true
            · rw [if_pos c18] at H
              have c18b0 : (t154 != t155) = true := c18
              (try (have c18b1 : decide (t154 = t155) = false := by simpa using c18))
              (try (have c18b2 : (t154 == t155) = false := by simpa using c18))
              (try (have c18b3 : ¬ (t154 = t155) := by simpa using c18))
              clear c18
              have H' := Aside0.mk H
              clear H
              go_wp2_with (first | (go_at_call 14; (with_reducible refine (claim_Valid.calls _ _ l0 a1 a2 a3 t154 _ ?side1 ?side2 A16.out).mono ?_); (case side1 => repeat (first | exact (Kd.C_below HR0.out HB.out) | (with_reducible refine Kd.C_alloc ?_ _) | (with_reducible refine Kd.C_drewN ?_ _) | (with_reducible refine Kd.C_drew ?_))); (case side2 => exact HC0.out); rintro e w19 ⟨rfl, hb⟩; have n0_ := Aside0.mk (below_step (by repeat (first | (with_reducible first | exact HB.out | apply below_alloc | apply pw_below_drewN | apply below_drew1) | exact HB.out)) hb); clear HB; have HB := n0_; clear n0_; (try clear hb); (try clear hb2); (try clear hk); (try clear hi)) | (go_at_call 15; (with_reducible refine (craquelureref11_Valid.calls _ _ l0 a1 a2 a3 t155 _ ?side1 ?side2 A17.out).mono ?_); (case side1 => repeat (first | exact (Kd.C_below HR0.out HB.out) | (with_reducible refine Kd.C_alloc ?_ _) | (with_reducible refine Kd.C_drewN ?_ _) | (with_reducible refine Kd.C_drew ?_))); (case side2 => exact HC0.out); rintro e w20 ⟨rfl, hb⟩; have n0_ := Aside0.mk (below_step (by repeat (first | (with_reducible first | exact HB.out | apply below_alloc | apply pw_below_drewN | apply below_drew1) | exact HB.out)) hb); clear HB; have HB := n0_; clear n0_; (try clear hb); (try clear hb2); (try clear hk); (try clear hi)))
              go_meet
              case rel => exact ⟨_, (true), (by first | rfl | (simp; done) | (simp [*]; done)), H', ⟨by first | omega | exact Nat.le_refl _⟩, ⟨by repeat (first | (with_reducible first | exact HB.out | apply below_alloc | apply pw_below_drewN | apply below_drew1) | exact HB.out)⟩⟩
            · rw [if_neg c18] at H
              have c18b0 : (t154 != t155) = false := by simpa using c18
              (try (have c18b1 : decide (t154 = t155) = true := by simpa using c18))
              (try (have c18b2 : (t154 == t155) = true := by simpa using c18))
              clear c18
              replace H := Option.bind_eq_some_iff.mp H
              obtain ⟨t156, A210, H⟩ := H
              replace H : ((craquelureref11_Bad.f k l0 a1).bind fun t159 => ((slices_Equal_2_int_2_int.f t156 t159).bind fun t162 => (craquelurelaw11_ClaimTells.j0 k l0 a1 (!t162)))) = some r := H
              have A21 := Aside0.mk A210
              clear A210
              replace H := Option.bind_eq_some_iff.mp H
              obtain ⟨t159, A220, H⟩ := H
              replace H : ((slices_Equal_2_int_2_int.f t156 t159).bind fun t162 => (craquelurelaw11_ClaimTells.j0 k l0 a1 (!t162))) = some r := H
              have A22 := Aside0.mk A220
              clear A220
              replace H := Option.bind_eq_some_iff.mp H
              obtain ⟨t162, A230, H⟩ := H
              replace H : (craquelurelaw11_ClaimTells.j0 k l0 a1 (!t162)) = some r := H
              have A23 := Aside0.mk A230
              clear A230
              have H' := Aside0.mk H
              clear H
              go_wp2_with (first | (go_at_call 14; (with_reducible refine (claim_Valid.calls _ _ l0 a1 a2 a3 t154 _ ?side1 ?side2 A16.out).mono ?_); (case side1 => repeat (first | exact (Kd.C_below HR0.out HB.out) | (with_reducible refine Kd.C_alloc ?_ _) | (with_reducible refine Kd.C_drewN ?_ _) | (with_reducible refine Kd.C_drew ?_))); (case side2 => exact HC0.out); rintro e w24 ⟨rfl, hb⟩; have n0_ := Aside0.mk (below_step (by repeat (first | (with_reducible first | exact HB.out | apply below_alloc | apply pw_below_drewN | apply below_drew1) | exact HB.out)) hb); clear HB; have HB := n0_; clear n0_; (try clear hb); (try clear hb2); (try clear hk); (try clear hi)) | (go_at_call 15; (with_reducible refine (craquelureref11_Valid.calls _ _ l0 a1 a2 a3 t155 _ ?side1 ?side2 A17.out).mono ?_); (case side1 => repeat (first | exact (Kd.C_below HR0.out HB.out) | (with_reducible refine Kd.C_alloc ?_ _) | (with_reducible refine Kd.C_drewN ?_ _) | (with_reducible refine Kd.C_drew ?_))); (case side2 => exact HC0.out); rintro e w25 ⟨rfl, hb⟩; have n0_ := Aside0.mk (below_step (by repeat (first | (with_reducible first | exact HB.out | apply below_alloc | apply pw_below_drewN | apply below_drew1) | exact HB.out)) hb); clear HB; have HB := n0_; clear n0_; (try clear hb); (try clear hb2); (try clear hk); (try clear hi)) | (go_at_call 17; (with_reducible refine (claim_Bad.calls _ _ l0 a1 t156 _ ?side1 ?side2 A21.out).mono ?_); (case side1 => repeat (first | exact (Kd.C_below HR0.out HB.out) | (with_reducible refine Kd.C_alloc ?_ _) | (with_reducible refine Kd.C_drewN ?_ _) | (with_reducible refine Kd.C_drew ?_))); (case side2 => exact HC0.out); rintro e w26 ⟨v157, rfl, ho0, hb⟩; have n0_ := Aside0.mk (Kd.R_lower ho0 (below_size (by repeat (first | (with_reducible first | exact HB.out | apply below_alloc | apply pw_below_drewN | apply below_drew1) | exact HB.out)))); have n1_ := Aside0.mk (below_step (by repeat (first | (with_reducible first | exact HB.out | apply below_alloc | apply pw_below_drewN | apply below_drew1) | exact HB.out)) hb); clear HB; have HO158 := n0_; have HB := n1_; clear n0_ n1_; (try clear hb); (try clear hb2); (try clear hk); (try clear hi); (try clear ho0)) | (go_at_call 18; (with_reducible refine (craquelureref11_Bad.calls k _ _ l0 a1 t159 _ ?side1 ?side2 A22.out).mono ?_); (case side1 => repeat (first | exact (Kd.C_below HR0.out HB.out) | (with_reducible refine Kd.C_alloc ?_ _) | (with_reducible refine Kd.C_drewN ?_ _) | (with_reducible refine Kd.C_drew ?_))); (case side2 => exact HC0.out); rintro e w27 ⟨v160, rfl, ho0, hb⟩; have n0_ := Aside0.mk (Kd.R_elder' (by (with_reducible repeat (first | apply Kd.R_alloc | apply Kd.R_drewN | apply Kd.R_drew)); exact HO158.out) (Kd.R_base ho0) hb); have n1_ := Aside0.mk (Kd.R_lower (Kd.R_new' ho0 (Kd.R_lt (by (with_reducible repeat (first | apply Kd.R_alloc | apply Kd.R_drewN | apply Kd.R_drew)); exact HO158.out))) (below_size (by repeat (first | (with_reducible first | exact HB.out | apply below_alloc | apply pw_below_drewN | apply below_drew1) | exact HB.out)))); have n2_ := Aside0.mk (below_step (by repeat (first | (with_reducible first | exact HB.out | apply below_alloc | apply pw_below_drewN | apply below_drew1) | exact HB.out)) hb); clear HO158; clear HB; have HO158 := n0_; have HO161 := n1_; have HB := n2_; clear n0_ n1_ n2_; (try clear hb); (try clear hb2); (try clear hk); (try clear hi); (try clear ho0); obtain ⟨Ao28, co28, eo28⟩ := Kd.R_slice HO158.out; subst eo28; obtain ⟨Ao29, co29, eo29⟩ := Kd.R_slice HO161.out; subst eo29) | (go_at_call 16; (with_reducible refine (slices_Equal_2_int_2_int.calls _ _ t156 _ _ t159 t162 _ ?side1 ?side2 ?side3 ?side4 A23.out).mono ?_); (case side1 => repeat (first | exact (Kd.R_reads' HO158.out).2.2 | (with_reducible refine Kd.C_alloc ?_ _) | (with_reducible refine Kd.C_drewN ?_ _) | (with_reducible refine Kd.C_drew ?_))); (case side2 => exact (Kd.R_reads' HO158.out).2.1); (case side3 => repeat (first | exact (Kd.R_reads' HO161.out).2.2 | (with_reducible refine Kd.C_alloc ?_ _) | (with_reducible refine Kd.C_drewN ?_ _) | (with_reducible refine Kd.C_drew ?_))); (case side4 => exact (Kd.R_reads' HO161.out).2.1); rintro e w' ⟨rfl, ⟨nd, rfl⟩⟩))
              go_meet
              case rel => exact ⟨_, (!t162), (by first | rfl | (simp; done) | (simp [*]; done)), H', ⟨by first | omega | exact Nat.le_refl _⟩, ⟨by repeat (first | (with_reducible first | exact HB.out | apply below_alloc | apply pw_below_drewN | apply below_drew1) | exact HB.out)⟩⟩
        · rw [if_neg c14] at H
          have c14b0 : (t149 == t152) = false := beq_eq_false_iff_ne.mpr c14
          have c14b1 : (t149 != t152) = true := bne_iff_ne.mpr c14
          have H' := Aside0.mk H
          clear H
          go_wp2
          go_meet
          case rel => exact ⟨_, (true), (by first | rfl | (simp; done) | (simp [*]; done)), H', ⟨by first | omega | exact Nat.le_refl _⟩, ⟨by repeat (first | (with_reducible first | exact HB.out | apply below_alloc | apply pw_below_drewN | apply below_drew1) | exact HB.out)⟩⟩
      · rw [if_neg c13] at H
        have c13b0 : (t148 == t151) = false := beq_eq_false_iff_ne.mpr c13
        have c13b1 : (t148 != t151) = true := bne_iff_ne.mpr c13
        (first | rw [c13b0] | (simp only [i64_w, i32_w]; rw [c13b0]) | skip)
        have H' := Aside0.mk H
        clear H
        go_wp2
        go_meet
        case rel => exact ⟨_, (true), (by first | rfl | (simp; done) | (simp [*]; done)), H', ⟨by first | omega | exact Nat.le_refl _⟩, ⟨by repeat (first | (with_reducible first | exact HB.out | apply below_alloc | apply pw_below_drewN | apply below_drew1) | exact HB.out)⟩⟩
    case rest =>
      clear HC10
      try clear c1
      try clear p2
      try clear c3
      try clear c7
      try clear c10
      try clear c12
      try clear c13
      try clear c13b0
      try clear c13b1
      try clear c14
      try clear c14b0
      try clear c14b1
      try clear c15
      try clear c15b0
      try clear c15b1
      try clear c15b2
      try clear c18
      try clear c18b0
      try clear c18b1
      try clear c18b2
      obtain ⟨kq, x72_9, rfl, HA, HJ9, HB⟩ := hcut
      cases kq with
      | zero => exact absurd HA.out (by simp [craquelurelaw11_ClaimTells.j0])
      | succ kj9 =>
        have H := HA.out
        clear HA
        simp only [craquelurelaw11_ClaimTells.j0] at H
        by_cases c30 : x72_9 = true
        · subst c30
          have H1 : (some false) = some r := by rw [if_pos rfl] at H; exact H
          clear H
          have H := H1
          clear H1
          obtain rfl := Option.some.inj H
          go_wp2
          go_ret
          exact ⟨by first | rfl | (simp [errW_none, errW_some] <;> rfl) | (simp [*, errW_none, errW_some] <;> rfl), by repeat (first | (with_reducible first | exact HB.out | apply below_alloc | apply pw_below_drewN | apply below_drew1) | exact HB.out)⟩
        · replace c30 := Bool.eq_false_iff.mpr c30
          subst c30
          have H1 : (if a1 > 100 then (if a1 ≤ 512 then ((craquelurelaw11_awake.f kj9).bind fun t163 => (some t163)) else ((claim_Used.f l0 a1).bind fun t164 => ((craquelureref11_Used.f kj9 l0 a1).bind fun t167 => ((slices_Equal_bool_bool.f kj9 t164 t167).bind fun t170 => (if t170 = true then ((craquelurelaw11_awake.f kj9).bind fun t171 => (some t171)) else (some false)))))) else ((claim_Used.f l0 a1).bind fun t172 => ((craquelureref11_Used.f kj9 l0 a1).bind fun t175 => ((slices_Equal_bool_bool.f kj9 t172 t175).bind fun t178 => (if t178 = true then ((craquelurelaw11_awake.f kj9).bind fun t179 => (some t179)) else (some false)))))) = some r := by rw [if_neg (show ¬ (false = true) by decide)] at H; exact H
          clear H
          have H := H1
          clear H1
          by_cases c31 : a1 > 100
          · rw [if_pos c31] at H
            have c31b0 : decide (100 < a1) = true := decide_eq_true c31
            clear c31
            by_cases c32 : a1 ≤ 512
            · rw [if_pos c32] at H
              have c32b0 : decide (a1 ≤ 512) = true := decide_eq_true c32
              clear c32
              replace H := Option.bind_eq_some_iff.mp H
              obtain ⟨t163, A330, H⟩ := H
              replace H : (some t163) = some r := H
              have A33 := Aside0.mk A330
              clear A330
              obtain rfl := Option.some.inj H
              go_wp2_with (first | (go_at_call 11; (with_reducible refine (craquelurelaw11_awake.calls kj9  t163 _ A33.out).mono ?_); rintro e w34 ⟨rfl, hb⟩; have n0_ := Aside0.mk (below_step (by repeat (first | (with_reducible first | exact HB.out | apply below_alloc | apply pw_below_drewN | apply below_drew1) | exact HB.out)) hb); clear HB; have HB := n0_; clear n0_; (try clear hb); (try clear hb2); (try clear hk); (try clear hi)))
              go_ret
              exact ⟨by first | rfl | (simp [errW_none, errW_some] <;> rfl) | (simp [*, errW_none, errW_some] <;> rfl), by repeat (first | (with_reducible first | exact HB.out | apply below_alloc | apply pw_below_drewN | apply below_drew1) | exact HB.out)⟩
            · rw [if_neg c32] at H
              have c32b0 : decide (a1 ≤ 512) = false := decide_eq_false c32
              clear c32
              replace H := Option.bind_eq_some_iff.mp H
              obtain ⟨t164, A350, H⟩ := H
              replace H : ((craquelureref11_Used.f kj9 l0 a1).bind fun t167 => ((slices_Equal_bool_bool.f kj9 t164 t167).bind fun t170 => (if t170 = true then ((craquelurelaw11_awake.f kj9).bind fun t171 => (some t171)) else (some false)))) = some r := H
              have A35 := Aside0.mk A350
              clear A350
              replace H := Option.bind_eq_some_iff.mp H
              obtain ⟨t167, A360, H⟩ := H
              replace H : ((slices_Equal_bool_bool.f kj9 t164 t167).bind fun t170 => (if t170 = true then ((craquelurelaw11_awake.f kj9).bind fun t171 => (some t171)) else (some false))) = some r := H
              have A36 := Aside0.mk A360
              clear A360
              replace H := Option.bind_eq_some_iff.mp H
              obtain ⟨t170, A370, H⟩ := H
              replace H : (if t170 = true then ((craquelurelaw11_awake.f kj9).bind fun t171 => (some t171)) else (some false)) = some r := H
              have A37 := Aside0.mk A370
              clear A370
              by_cases c38 : t170 = true
              · subst c38
                have H1 : ((craquelurelaw11_awake.f kj9).bind fun t171 => (some t171)) = some r := by rw [if_pos rfl] at H; exact H
                clear H
                have H := H1
                clear H1
                replace H := Option.bind_eq_some_iff.mp H
                obtain ⟨t171, A390, H⟩ := H
                replace H : (some t171) = some r := H
                have A39 := Aside0.mk A390
                clear A390
                obtain rfl := Option.some.inj H
                go_wp2_with (first | (go_at_call 20; (with_reducible refine (claim_Used.calls _ _ l0 a1 t164 _ ?side1 ?side2 A35.out).mono ?_); (case side1 => repeat (first | exact (Kd.C_below HR0.out HB.out) | (with_reducible refine Kd.C_alloc ?_ _) | (with_reducible refine Kd.C_drewN ?_ _) | (with_reducible refine Kd.C_drew ?_))); (case side2 => exact HC0.out); rintro e w40 ⟨v165, rfl, ho0, hb⟩; have n0_ := Aside0.mk (Kd.R_lower ho0 (below_size (by repeat (first | (with_reducible first | exact HB.out | apply below_alloc | apply pw_below_drewN | apply below_drew1) | exact HB.out)))); have n1_ := Aside0.mk (below_step (by repeat (first | (with_reducible first | exact HB.out | apply below_alloc | apply pw_below_drewN | apply below_drew1) | exact HB.out)) hb); clear HB; have HO166 := n0_; have HB := n1_; clear n0_ n1_; (try clear hb); (try clear hb2); (try clear hk); (try clear hi); (try clear ho0)) | (go_at_call 21; (with_reducible refine (craquelureref11_Used.calls kj9 _ _ l0 a1 t167 _ ?side1 ?side2 A36.out).mono ?_); (case side1 => repeat (first | exact (Kd.C_below HR0.out HB.out) | (with_reducible refine Kd.C_alloc ?_ _) | (with_reducible refine Kd.C_drewN ?_ _) | (with_reducible refine Kd.C_drew ?_))); (case side2 => exact HC0.out); rintro e w41 ⟨v168, rfl, ho0, hb⟩; have n0_ := Aside0.mk (Kd.R_elder' (by (with_reducible repeat (first | apply Kd.R_alloc | apply Kd.R_drewN | apply Kd.R_drew)); exact HO166.out) (Kd.R_base ho0) hb); have n1_ := Aside0.mk (Kd.R_lower (Kd.R_new' ho0 (Kd.R_lt (by (with_reducible repeat (first | apply Kd.R_alloc | apply Kd.R_drewN | apply Kd.R_drew)); exact HO166.out))) (below_size (by repeat (first | (with_reducible first | exact HB.out | apply below_alloc | apply pw_below_drewN | apply below_drew1) | exact HB.out)))); have n2_ := Aside0.mk (below_step (by repeat (first | (with_reducible first | exact HB.out | apply below_alloc | apply pw_below_drewN | apply below_drew1) | exact HB.out)) hb); clear HO166; clear HB; have HO166 := n0_; have HO169 := n1_; have HB := n2_; clear n0_ n1_ n2_; (try clear hb); (try clear hb2); (try clear hk); (try clear hi); (try clear ho0); obtain ⟨Ao42, co42, eo42⟩ := Kd.R_slice HO166.out; subst eo42; obtain ⟨Ao43, co43, eo43⟩ := Kd.R_slice HO169.out; subst eo43) | (go_at_call 19; (with_reducible refine (slices_Equal_bool_bool.calls kj9 _ _ t164 _ _ t167 true _ ?side1 ?side2 ?side3 ?side4 A37.out).mono ?_); (case side1 => repeat (first | exact (Kd.R_reads' HO166.out).2.2 | (with_reducible refine Kd.C_alloc ?_ _) | (with_reducible refine Kd.C_drewN ?_ _) | (with_reducible refine Kd.C_drew ?_))); (case side2 => exact (Kd.R_reads' HO166.out).2.1); (case side3 => repeat (first | exact (Kd.R_reads' HO169.out).2.2 | (with_reducible refine Kd.C_alloc ?_ _) | (with_reducible refine Kd.C_drewN ?_ _) | (with_reducible refine Kd.C_drew ?_))); (case side4 => exact (Kd.R_reads' HO169.out).2.1); rintro e w' ⟨rfl, ⟨nd, rfl⟩⟩) | (go_at_call 11; (with_reducible refine (craquelurelaw11_awake.calls kj9  t171 _ A39.out).mono ?_); rintro e w44 ⟨rfl, hb⟩; have n0_ := Aside0.mk (Kd.R_below (by (with_reducible repeat (first | apply Kd.R_alloc | apply Kd.R_drewN | apply Kd.R_drew)); exact HO166.out) hb); have n1_ := Aside0.mk (Kd.R_below (by (with_reducible repeat (first | apply Kd.R_alloc | apply Kd.R_drewN | apply Kd.R_drew)); exact HO169.out) hb); have n2_ := Aside0.mk (below_step (by repeat (first | (with_reducible first | exact HB.out | apply below_alloc | apply pw_below_drewN | apply below_drew1) | exact HB.out)) hb); clear HO166; clear HO169; clear HB; have HO166 := n0_; have HO169 := n1_; have HB := n2_; clear n0_ n1_ n2_; (try clear hb); (try clear hb2); (try clear hk); (try clear hi)))
                go_ret
                exact ⟨by first | rfl | (simp [errW_none, errW_some] <;> rfl) | (simp [*, errW_none, errW_some] <;> rfl), by repeat (first | (with_reducible first | exact HB.out | apply below_alloc | apply pw_below_drewN | apply below_drew1) | exact HB.out)⟩
              · replace c38 := Bool.eq_false_iff.mpr c38
                subst c38
                have H1 : (some false) = some r := by rw [if_neg (show ¬ (false = true) by decide)] at H; exact H
                clear H
                have H := H1
                clear H1
                obtain rfl := Option.some.inj H
                go_wp2_with (first | (go_at_call 20; (with_reducible refine (claim_Used.calls _ _ l0 a1 t164 _ ?side1 ?side2 A35.out).mono ?_); (case side1 => repeat (first | exact (Kd.C_below HR0.out HB.out) | (with_reducible refine Kd.C_alloc ?_ _) | (with_reducible refine Kd.C_drewN ?_ _) | (with_reducible refine Kd.C_drew ?_))); (case side2 => exact HC0.out); rintro e w45 ⟨v165, rfl, ho0, hb⟩; have n0_ := Aside0.mk (Kd.R_lower ho0 (below_size (by repeat (first | (with_reducible first | exact HB.out | apply below_alloc | apply pw_below_drewN | apply below_drew1) | exact HB.out)))); have n1_ := Aside0.mk (below_step (by repeat (first | (with_reducible first | exact HB.out | apply below_alloc | apply pw_below_drewN | apply below_drew1) | exact HB.out)) hb); clear HB; have HO166 := n0_; have HB := n1_; clear n0_ n1_; (try clear hb); (try clear hb2); (try clear hk); (try clear hi); (try clear ho0)) | (go_at_call 21; (with_reducible refine (craquelureref11_Used.calls kj9 _ _ l0 a1 t167 _ ?side1 ?side2 A36.out).mono ?_); (case side1 => repeat (first | exact (Kd.C_below HR0.out HB.out) | (with_reducible refine Kd.C_alloc ?_ _) | (with_reducible refine Kd.C_drewN ?_ _) | (with_reducible refine Kd.C_drew ?_))); (case side2 => exact HC0.out); rintro e w46 ⟨v168, rfl, ho0, hb⟩; have n0_ := Aside0.mk (Kd.R_elder' (by (with_reducible repeat (first | apply Kd.R_alloc | apply Kd.R_drewN | apply Kd.R_drew)); exact HO166.out) (Kd.R_base ho0) hb); have n1_ := Aside0.mk (Kd.R_lower (Kd.R_new' ho0 (Kd.R_lt (by (with_reducible repeat (first | apply Kd.R_alloc | apply Kd.R_drewN | apply Kd.R_drew)); exact HO166.out))) (below_size (by repeat (first | (with_reducible first | exact HB.out | apply below_alloc | apply pw_below_drewN | apply below_drew1) | exact HB.out)))); have n2_ := Aside0.mk (below_step (by repeat (first | (with_reducible first | exact HB.out | apply below_alloc | apply pw_below_drewN | apply below_drew1) | exact HB.out)) hb); clear HO166; clear HB; have HO166 := n0_; have HO169 := n1_; have HB := n2_; clear n0_ n1_ n2_; (try clear hb); (try clear hb2); (try clear hk); (try clear hi); (try clear ho0); obtain ⟨Ao47, co47, eo47⟩ := Kd.R_slice HO166.out; subst eo47; obtain ⟨Ao48, co48, eo48⟩ := Kd.R_slice HO169.out; subst eo48) | (go_at_call 19; (with_reducible refine (slices_Equal_bool_bool.calls kj9 _ _ t164 _ _ t167 false _ ?side1 ?side2 ?side3 ?side4 A37.out).mono ?_); (case side1 => repeat (first | exact (Kd.R_reads' HO166.out).2.2 | (with_reducible refine Kd.C_alloc ?_ _) | (with_reducible refine Kd.C_drewN ?_ _) | (with_reducible refine Kd.C_drew ?_))); (case side2 => exact (Kd.R_reads' HO166.out).2.1); (case side3 => repeat (first | exact (Kd.R_reads' HO169.out).2.2 | (with_reducible refine Kd.C_alloc ?_ _) | (with_reducible refine Kd.C_drewN ?_ _) | (with_reducible refine Kd.C_drew ?_))); (case side4 => exact (Kd.R_reads' HO169.out).2.1); rintro e w' ⟨rfl, ⟨nd, rfl⟩⟩))
                go_ret
                exact ⟨by first | rfl | (simp [errW_none, errW_some] <;> rfl) | (simp [*, errW_none, errW_some] <;> rfl), by repeat (first | (with_reducible first | exact HB.out | apply below_alloc | apply pw_below_drewN | apply below_drew1) | exact HB.out)⟩
          · rw [if_neg c31] at H
            have c31b0 : decide (100 < a1) = false := decide_eq_false c31
            clear c31
            replace H := Option.bind_eq_some_iff.mp H
            obtain ⟨t172, A490, H⟩ := H
            replace H : ((craquelureref11_Used.f kj9 l0 a1).bind fun t175 => ((slices_Equal_bool_bool.f kj9 t172 t175).bind fun t178 => (if t178 = true then ((craquelurelaw11_awake.f kj9).bind fun t179 => (some t179)) else (some false)))) = some r := H
            have A49 := Aside0.mk A490
            clear A490
            replace H := Option.bind_eq_some_iff.mp H
            obtain ⟨t175, A500, H⟩ := H
            replace H : ((slices_Equal_bool_bool.f kj9 t172 t175).bind fun t178 => (if t178 = true then ((craquelurelaw11_awake.f kj9).bind fun t179 => (some t179)) else (some false))) = some r := H
            have A50 := Aside0.mk A500
            clear A500
            replace H := Option.bind_eq_some_iff.mp H
            obtain ⟨t178, A510, H⟩ := H
            replace H : (if t178 = true then ((craquelurelaw11_awake.f kj9).bind fun t179 => (some t179)) else (some false)) = some r := H
            have A51 := Aside0.mk A510
            clear A510
            by_cases c52 : t178 = true
            · subst c52
              have H1 : ((craquelurelaw11_awake.f kj9).bind fun t179 => (some t179)) = some r := by rw [if_pos rfl] at H; exact H
              clear H
              have H := H1
              clear H1
              replace H := Option.bind_eq_some_iff.mp H
              obtain ⟨t179, A530, H⟩ := H
              replace H : (some t179) = some r := H
              have A53 := Aside0.mk A530
              clear A530
              obtain rfl := Option.some.inj H
              go_wp2_with (first | (go_at_call 20; (with_reducible refine (claim_Used.calls _ _ l0 a1 t172 _ ?side1 ?side2 A49.out).mono ?_); (case side1 => repeat (first | exact (Kd.C_below HR0.out HB.out) | (with_reducible refine Kd.C_alloc ?_ _) | (with_reducible refine Kd.C_drewN ?_ _) | (with_reducible refine Kd.C_drew ?_))); (case side2 => exact HC0.out); rintro e w54 ⟨v173, rfl, ho0, hb⟩; have n0_ := Aside0.mk (Kd.R_lower ho0 (below_size (by repeat (first | (with_reducible first | exact HB.out | apply below_alloc | apply pw_below_drewN | apply below_drew1) | exact HB.out)))); have n1_ := Aside0.mk (below_step (by repeat (first | (with_reducible first | exact HB.out | apply below_alloc | apply pw_below_drewN | apply below_drew1) | exact HB.out)) hb); clear HB; have HO174 := n0_; have HB := n1_; clear n0_ n1_; (try clear hb); (try clear hb2); (try clear hk); (try clear hi); (try clear ho0)) | (go_at_call 21; (with_reducible refine (craquelureref11_Used.calls kj9 _ _ l0 a1 t175 _ ?side1 ?side2 A50.out).mono ?_); (case side1 => repeat (first | exact (Kd.C_below HR0.out HB.out) | (with_reducible refine Kd.C_alloc ?_ _) | (with_reducible refine Kd.C_drewN ?_ _) | (with_reducible refine Kd.C_drew ?_))); (case side2 => exact HC0.out); rintro e w55 ⟨v176, rfl, ho0, hb⟩; have n0_ := Aside0.mk (Kd.R_elder' (by (with_reducible repeat (first | apply Kd.R_alloc | apply Kd.R_drewN | apply Kd.R_drew)); exact HO174.out) (Kd.R_base ho0) hb); have n1_ := Aside0.mk (Kd.R_lower (Kd.R_new' ho0 (Kd.R_lt (by (with_reducible repeat (first | apply Kd.R_alloc | apply Kd.R_drewN | apply Kd.R_drew)); exact HO174.out))) (below_size (by repeat (first | (with_reducible first | exact HB.out | apply below_alloc | apply pw_below_drewN | apply below_drew1) | exact HB.out)))); have n2_ := Aside0.mk (below_step (by repeat (first | (with_reducible first | exact HB.out | apply below_alloc | apply pw_below_drewN | apply below_drew1) | exact HB.out)) hb); clear HO174; clear HB; have HO174 := n0_; have HO177 := n1_; have HB := n2_; clear n0_ n1_ n2_; (try clear hb); (try clear hb2); (try clear hk); (try clear hi); (try clear ho0); obtain ⟨Ao56, co56, eo56⟩ := Kd.R_slice HO174.out; subst eo56; obtain ⟨Ao57, co57, eo57⟩ := Kd.R_slice HO177.out; subst eo57) | (go_at_call 19; (with_reducible refine (slices_Equal_bool_bool.calls kj9 _ _ t172 _ _ t175 true _ ?side1 ?side2 ?side3 ?side4 A51.out).mono ?_); (case side1 => repeat (first | exact (Kd.R_reads' HO174.out).2.2 | (with_reducible refine Kd.C_alloc ?_ _) | (with_reducible refine Kd.C_drewN ?_ _) | (with_reducible refine Kd.C_drew ?_))); (case side2 => exact (Kd.R_reads' HO174.out).2.1); (case side3 => repeat (first | exact (Kd.R_reads' HO177.out).2.2 | (with_reducible refine Kd.C_alloc ?_ _) | (with_reducible refine Kd.C_drewN ?_ _) | (with_reducible refine Kd.C_drew ?_))); (case side4 => exact (Kd.R_reads' HO177.out).2.1); rintro e w' ⟨rfl, ⟨nd, rfl⟩⟩) | (go_at_call 11; (with_reducible refine (craquelurelaw11_awake.calls kj9  t179 _ A53.out).mono ?_); rintro e w58 ⟨rfl, hb⟩; have n0_ := Aside0.mk (Kd.R_below (by (with_reducible repeat (first | apply Kd.R_alloc | apply Kd.R_drewN | apply Kd.R_drew)); exact HO174.out) hb); have n1_ := Aside0.mk (Kd.R_below (by (with_reducible repeat (first | apply Kd.R_alloc | apply Kd.R_drewN | apply Kd.R_drew)); exact HO177.out) hb); have n2_ := Aside0.mk (below_step (by repeat (first | (with_reducible first | exact HB.out | apply below_alloc | apply pw_below_drewN | apply below_drew1) | exact HB.out)) hb); clear HO174; clear HO177; clear HB; have HO174 := n0_; have HO177 := n1_; have HB := n2_; clear n0_ n1_ n2_; (try clear hb); (try clear hb2); (try clear hk); (try clear hi)))
              go_ret
              exact ⟨by first | rfl | (simp [errW_none, errW_some] <;> rfl) | (simp [*, errW_none, errW_some] <;> rfl), by repeat (first | (with_reducible first | exact HB.out | apply below_alloc | apply pw_below_drewN | apply below_drew1) | exact HB.out)⟩
            · replace c52 := Bool.eq_false_iff.mpr c52
              subst c52
              have H1 : (some false) = some r := by rw [if_neg (show ¬ (false = true) by decide)] at H; exact H
              clear H
              have H := H1
              clear H1
              obtain rfl := Option.some.inj H
              go_wp2_with (first | (go_at_call 20; (with_reducible refine (claim_Used.calls _ _ l0 a1 t172 _ ?side1 ?side2 A49.out).mono ?_); (case side1 => repeat (first | exact (Kd.C_below HR0.out HB.out) | (with_reducible refine Kd.C_alloc ?_ _) | (with_reducible refine Kd.C_drewN ?_ _) | (with_reducible refine Kd.C_drew ?_))); (case side2 => exact HC0.out); rintro e w59 ⟨v173, rfl, ho0, hb⟩; have n0_ := Aside0.mk (Kd.R_lower ho0 (below_size (by repeat (first | (with_reducible first | exact HB.out | apply below_alloc | apply pw_below_drewN | apply below_drew1) | exact HB.out)))); have n1_ := Aside0.mk (below_step (by repeat (first | (with_reducible first | exact HB.out | apply below_alloc | apply pw_below_drewN | apply below_drew1) | exact HB.out)) hb); clear HB; have HO174 := n0_; have HB := n1_; clear n0_ n1_; (try clear hb); (try clear hb2); (try clear hk); (try clear hi); (try clear ho0)) | (go_at_call 21; (with_reducible refine (craquelureref11_Used.calls kj9 _ _ l0 a1 t175 _ ?side1 ?side2 A50.out).mono ?_); (case side1 => repeat (first | exact (Kd.C_below HR0.out HB.out) | (with_reducible refine Kd.C_alloc ?_ _) | (with_reducible refine Kd.C_drewN ?_ _) | (with_reducible refine Kd.C_drew ?_))); (case side2 => exact HC0.out); rintro e w60 ⟨v176, rfl, ho0, hb⟩; have n0_ := Aside0.mk (Kd.R_elder' (by (with_reducible repeat (first | apply Kd.R_alloc | apply Kd.R_drewN | apply Kd.R_drew)); exact HO174.out) (Kd.R_base ho0) hb); have n1_ := Aside0.mk (Kd.R_lower (Kd.R_new' ho0 (Kd.R_lt (by (with_reducible repeat (first | apply Kd.R_alloc | apply Kd.R_drewN | apply Kd.R_drew)); exact HO174.out))) (below_size (by repeat (first | (with_reducible first | exact HB.out | apply below_alloc | apply pw_below_drewN | apply below_drew1) | exact HB.out)))); have n2_ := Aside0.mk (below_step (by repeat (first | (with_reducible first | exact HB.out | apply below_alloc | apply pw_below_drewN | apply below_drew1) | exact HB.out)) hb); clear HO174; clear HB; have HO174 := n0_; have HO177 := n1_; have HB := n2_; clear n0_ n1_ n2_; (try clear hb); (try clear hb2); (try clear hk); (try clear hi); (try clear ho0); obtain ⟨Ao61, co61, eo61⟩ := Kd.R_slice HO174.out; subst eo61; obtain ⟨Ao62, co62, eo62⟩ := Kd.R_slice HO177.out; subst eo62) | (go_at_call 19; (with_reducible refine (slices_Equal_bool_bool.calls kj9 _ _ t172 _ _ t175 false _ ?side1 ?side2 ?side3 ?side4 A51.out).mono ?_); (case side1 => repeat (first | exact (Kd.R_reads' HO174.out).2.2 | (with_reducible refine Kd.C_alloc ?_ _) | (with_reducible refine Kd.C_drewN ?_ _) | (with_reducible refine Kd.C_drew ?_))); (case side2 => exact (Kd.R_reads' HO174.out).2.1); (case side3 => repeat (first | exact (Kd.R_reads' HO177.out).2.2 | (with_reducible refine Kd.C_alloc ?_ _) | (with_reducible refine Kd.C_drewN ?_ _) | (with_reducible refine Kd.C_drew ?_))); (case side4 => exact (Kd.R_reads' HO177.out).2.1); rintro e w' ⟨rfl, ⟨nd, rfl⟩⟩))
              go_ret
              exact ⟨by first | rfl | (simp [errW_none, errW_some] <;> rfl) | (simp [*, errW_none, errW_some] <;> rfl), by repeat (first | (with_reducible first | exact HB.out | apply below_alloc | apply pw_below_drewN | apply below_drew1) | exact HB.out)⟩
  · replace c7 := Bool.eq_false_iff.mpr c7
    subst c7
    have H1 : ((craquelurelaw11_awake.f k).bind fun t147 => (some t147)) = some r := by rw [if_neg (show ¬ (false = true) by decide)] at H; exact H
    clear H
    have H := H1
    clear H1
    replace H := Option.bind_eq_some_iff.mp H
    obtain ⟨t147, A630, H⟩ := H
    replace H : (some t147) = some r := H
    have A63 := Aside0.mk A630
    clear A630
    obtain rfl := Option.some.inj H
    go_enter Try.func3, Try.ntmps3
    go_wp2_with (first | ((with_reducible refine gate_callee (f := 10) rfl ?_); refine goesL_ (some 18) rfl rfl Try.func10 (by kernel_rfl) rfl #[.slice A0 l0.length c0] rfl (by (try simp only [List.map_toArray, List.map_cons, List.map_nil]); first | done | rfl | (simp only [List.length_drop, List.length_take]; rfl)) ?_; (with_reducible refine (craquelureplain_Inodes.calls _ _ l0 false _ ?side1 ?side2 A6.out).mono ?_); (case side1 => repeat (first | exact HR0.out | (with_reducible refine Kd.C_alloc ?_ _) | (with_reducible refine Kd.C_drewN ?_ _) | (with_reducible refine Kd.C_drew ?_))); (case side2 => exact HC0.out); rintro e w' ⟨rfl, ⟨nd, rfl⟩⟩; refine ⟨_, rfl, ?_⟩) | ((with_reducible refine gate_callee (f := 11) rfl ?_); refine goesL_ (some 20) rfl rfl Try.func11 (by kernel_rfl) rfl #[] rfl (by (try simp only [List.map_toArray, List.map_cons, List.map_nil]); first | done | rfl | (simp only [List.length_drop, List.length_take]; rfl)) ?_; (with_reducible refine (craquelurelaw11_awake.calls k  t147 _ A63.out).mono ?_); rintro e w64 ⟨rfl, hb⟩; refine ⟨_, rfl, ?_⟩; have n0_ := Aside0.mk (below_step (by repeat (first | (with_reducible first | exact HB.out | apply below_alloc | apply pw_below_drewN | apply below_drew1) | exact HB.out)) hb); clear HB; have HB := n0_; clear n0_; (try clear hb); (try clear hb2); (try clear hk); (try clear hi)))
    go_ret
    exact ⟨by first | rfl | (simp [errW_none, errW_some] <;> rfl) | (simp [*, errW_none, errW_some] <;> rfl), by repeat (first | (with_reducible first | exact HB.out | apply below_alloc | apply pw_below_drewN | apply below_drew1) | exact HB.out)⟩

end Go.Proofs.Ytdkbhbolkieeiaa.X11
