-- craquelure: laid by this project's xprint (a turned copy of the kit's print): printed functions, and functions proved by hand
import Derived.Test.YtdkbhbolkieeiaaY110
import Derived.Test.YtdkbhbolkieeiaaY111
import Derived.Test.YtdkbhbolkieeiaaY112
namespace Go.Proofs.Ytdkbhbolkieeiaa.Y11
open Go.RowKit Go.Proofs.YtdkbhbolkieeiaaW.PrintWords Go.Proofs.YtdkbhbolkieeiaaW.PrintLast Go.Proofs.YtdkbhbolkieeiaaW.PrintMore
attribute [local go_sem] max2_int min2_int max_two min_two max_three min_three max_four min_four   -- for this text's walks alone
set_option linter.unusedVariables false
set_option linter.unusedSimpArgs false

/-! ### craquelurelaw11_ClaimOnce: function 4 -/
mutual
def craquelurelaw11_ClaimOnce.l0 : Nat → List (S70) → Int → List Bool → Int → Int → Int → Option (Bool)
  | 0, _, _, _, _, _, _ => none
  | k + 1, x0, x5, x6, x7, x31, x32 => if x32 < x31 then (craquelurelaw11_ClaimOnce.l1 k x0 x5 x6 x7 x32 x31 x32 0) else (craquelurelaw11_ClaimOnce.l2 k x0 x5 x7 x6 (x6.length : Int) 0)
def craquelurelaw11_ClaimOnce.l1 : Nat → List (S70) → Int → List Bool → Int → Int → Int → Int → Int → Option (Bool)
  | 0, _, _, _, _, _, _, _, _ => none
  | k + 1, x0, x5, x6, x7, x8, x31, x32, x35 => if x35 < 5 then ((claim_Valid.f x0 x5 (wrap64 (x8 + 1)) x35).bind fun t130 => (if t130 = true then (craquelurelaw11_ClaimOnce.l1 k x0 x5 x6 (wrap64 (x7 + 1)) x8 x31 x32 (wrap64 (x35 + 1))) else (craquelurelaw11_ClaimOnce.l1 k x0 x5 x6 x7 x8 x31 x32 (wrap64 (x35 + 1))))) else (craquelurelaw11_ClaimOnce.l0 k x0 x5 x6 x7 x31 (wrap64 (x32 + 1)))
def craquelurelaw11_ClaimOnce.l2 : Nat → List (S70) → Int → Int → List Bool → Int → Int → Option (Bool)
  | 0, _, _, _, _, _, _ => none
  | k + 1, x0, x5, x7, x48, x49, x50 => if x50 < x49 then (if 0 ≤ x50 then (if x50 < (x48.length : Int) then ((claim_Owner.f x0 x5 x50).bind fun bt133 => (if (bt133.2.2 != (rdOf false x48 x50)) = true then (craquelurelaw11_ClaimOnce.j3 k x0 x5 x7 (rdOf false x48 x50) x48 x49 x50 true) else (if bt133.2.2 = true then ((claim_Valid.f x0 x5 bt133.1 bt133.2.1).bind fun t136 => (craquelurelaw11_ClaimOnce.j3 k x0 x5 x7 (rdOf false x48 x50) x48 x49 x50 (!t136))) else (craquelurelaw11_ClaimOnce.j3 k x0 x5 x7 (rdOf false x48 x50) x48 x49 x50 false)))) else (none)) else (none)) else (if x7 = 0 then ((craquelurelaw11_awake.f k).bind fun t131 => (some t131)) else (some false))
def craquelurelaw11_ClaimOnce.j3 : Nat → List (S70) → Int → Int → Bool → List Bool → Int → Int → Bool → Option (Bool)
  | 0, _, _, _, _, _, _, _, _ => none
  | k + 1, x0, x5, x7, x11, x48, x49, x50, x76 => if x76 = true then (some false) else (if x11 = true then (craquelurelaw11_ClaimOnce.l2 k x0 x5 (wrap64 (x7 - 1)) x48 x49 (wrap64 (x50 + 1))) else (craquelurelaw11_ClaimOnce.l2 k x0 x5 x7 x48 x49 (wrap64 (x50 + 1))))
end
def craquelurelaw11_ClaimOnce.f (k : Nat) (l0 : List (S70)) (a1 : Int) : Option (Bool) := (craquelureplain_Inodes.f l0).bind fun t125 => (if t125 = true then ((claim_Used.f l0 (wrap64 (1 + (Int.tmod (wrap64 (a1)) 60)))).bind fun t127 => (if (t127.length : Int) = (wrap64 (1 + (Int.tmod (wrap64 (a1)) 60))) then (craquelurelaw11_ClaimOnce.l0 k l0 (wrap64 (1 + (Int.tmod (wrap64 (a1)) 60))) t127 0 (l0.length : Int) 0) else (some false))) else ((craquelurelaw11_awake.f k).bind fun t126 => (some t126)))
theorem craquelurelaw11_ClaimOnce.mono_l : ∀ k, (∀ y0 y1 y2 y3 y4 y5, LeO (craquelurelaw11_ClaimOnce.l0 k y0 y1 y2 y3 y4 y5) (craquelurelaw11_ClaimOnce.l0 (k + 1) y0 y1 y2 y3 y4 y5)) ∧ (∀ y0 y1 y2 y3 y4 y5 y6 y7, LeO (craquelurelaw11_ClaimOnce.l1 k y0 y1 y2 y3 y4 y5 y6 y7) (craquelurelaw11_ClaimOnce.l1 (k + 1) y0 y1 y2 y3 y4 y5 y6 y7)) ∧ (∀ y0 y1 y2 y3 y4 y5, LeO (craquelurelaw11_ClaimOnce.l2 k y0 y1 y2 y3 y4 y5) (craquelurelaw11_ClaimOnce.l2 (k + 1) y0 y1 y2 y3 y4 y5)) ∧ (∀ y0 y1 y2 y3 y4 y5 y6 y7, LeO (craquelurelaw11_ClaimOnce.j3 k y0 y1 y2 y3 y4 y5 y6 y7) (craquelurelaw11_ClaimOnce.j3 (k + 1) y0 y1 y2 y3 y4 y5 y6 y7))
  | 0 => ⟨fun _ _ _ _ _ _ r h => by simp [craquelurelaw11_ClaimOnce.l0] at h, fun _ _ _ _ _ _ _ _ r h => by simp [craquelurelaw11_ClaimOnce.l1] at h, fun _ _ _ _ _ _ r h => by simp [craquelurelaw11_ClaimOnce.l2] at h, fun _ _ _ _ _ _ _ _ r h => by simp [craquelurelaw11_ClaimOnce.j3] at h⟩
  | k + 1 => by
    obtain ⟨ih0, ih1, ih2, ih3⟩ := craquelurelaw11_ClaimOnce.mono_l k
    refine ⟨?_, ?_, ?_, ?_⟩
    · intro y0 y1 y2 y3 y4 y5
      unfold craquelurelaw11_ClaimOnce.l0
      repeat' first
      | (with_reducible exact ih0 _ _ _ _ _ _)
      | (with_reducible exact ih1 _ _ _ _ _ _ _ _)
      | (with_reducible exact ih2 _ _ _ _ _ _)
      | (with_reducible exact ih3 _ _ _ _ _ _ _ _)
      | (with_reducible exact craquelurelaw11_awake.mono _)
      | (with_reducible exact LeO.refl _)
      | (with_reducible exact LeO.none _)
      | (with_reducible refine LeO.ite ?_ ?_)
      | (with_reducible refine LeO.bind ?_ (fun _ => ?_))
      | exact ih0 _ _ _ _ _ _
      | exact ih1 _ _ _ _ _ _ _ _
      | exact ih2 _ _ _ _ _ _
      | exact ih3 _ _ _ _ _ _ _ _
      | exact craquelurelaw11_awake.mono _
      | exact LeO.none _
      | refine LeO.ite ?_ ?_
      | refine LeO.bind ?_ (fun _ => ?_)
    · intro y0 y1 y2 y3 y4 y5 y6 y7
      unfold craquelurelaw11_ClaimOnce.l1
      repeat' first
      | (with_reducible exact ih0 _ _ _ _ _ _)
      | (with_reducible exact ih1 _ _ _ _ _ _ _ _)
      | (with_reducible exact ih2 _ _ _ _ _ _)
      | (with_reducible exact ih3 _ _ _ _ _ _ _ _)
      | (with_reducible exact craquelurelaw11_awake.mono _)
      | (with_reducible exact LeO.refl _)
      | (with_reducible exact LeO.none _)
      | (with_reducible refine LeO.ite ?_ ?_)
      | (with_reducible refine LeO.bind ?_ (fun _ => ?_))
      | exact ih0 _ _ _ _ _ _
      | exact ih1 _ _ _ _ _ _ _ _
      | exact ih2 _ _ _ _ _ _
      | exact ih3 _ _ _ _ _ _ _ _
      | exact craquelurelaw11_awake.mono _
      | exact LeO.none _
      | refine LeO.ite ?_ ?_
      | refine LeO.bind ?_ (fun _ => ?_)
    · intro y0 y1 y2 y3 y4 y5
      unfold craquelurelaw11_ClaimOnce.l2
      repeat' first
      | (with_reducible exact ih0 _ _ _ _ _ _)
      | (with_reducible exact ih1 _ _ _ _ _ _ _ _)
      | (with_reducible exact ih2 _ _ _ _ _ _)
      | (with_reducible exact ih3 _ _ _ _ _ _ _ _)
      | (with_reducible exact craquelurelaw11_awake.mono _)
      | (with_reducible exact LeO.refl _)
      | (with_reducible exact LeO.none _)
      | (with_reducible refine LeO.ite ?_ ?_)
      | (with_reducible refine LeO.bind ?_ (fun _ => ?_))
      | exact ih0 _ _ _ _ _ _
      | exact ih1 _ _ _ _ _ _ _ _
      | exact ih2 _ _ _ _ _ _
      | exact ih3 _ _ _ _ _ _ _ _
      | exact craquelurelaw11_awake.mono _
      | exact LeO.none _
      | refine LeO.ite ?_ ?_
      | refine LeO.bind ?_ (fun _ => ?_)
    · intro y0 y1 y2 y3 y4 y5 y6 y7
      unfold craquelurelaw11_ClaimOnce.j3
      repeat' first
      | (with_reducible exact ih0 _ _ _ _ _ _)
      | (with_reducible exact ih1 _ _ _ _ _ _ _ _)
      | (with_reducible exact ih2 _ _ _ _ _ _)
      | (with_reducible exact ih3 _ _ _ _ _ _ _ _)
      | (with_reducible exact craquelurelaw11_awake.mono _)
      | (with_reducible exact LeO.refl _)
      | (with_reducible exact LeO.none _)
      | (with_reducible refine LeO.ite ?_ ?_)
      | (with_reducible refine LeO.bind ?_ (fun _ => ?_))
      | exact ih0 _ _ _ _ _ _
      | exact ih1 _ _ _ _ _ _ _ _
      | exact ih2 _ _ _ _ _ _
      | exact ih3 _ _ _ _ _ _ _ _
      | exact craquelurelaw11_awake.mono _
      | exact LeO.none _
      | refine LeO.ite ?_ ?_
      | refine LeO.bind ?_ (fun _ => ?_)
theorem craquelurelaw11_ClaimOnce.mono : ∀ a0 a1 k, LeO (craquelurelaw11_ClaimOnce.f k a0 a1) (craquelurelaw11_ClaimOnce.f (k + 1) a0 a1) := by
  intro a0 a1 k
  obtain ⟨ih0, ih1, ih2, ih3⟩ := craquelurelaw11_ClaimOnce.mono_l k
  unfold craquelurelaw11_ClaimOnce.f
  repeat' first
      | (with_reducible exact ih0 _ _ _ _ _ _)
      | (with_reducible exact ih1 _ _ _ _ _ _ _ _)
      | (with_reducible exact ih2 _ _ _ _ _ _)
      | (with_reducible exact ih3 _ _ _ _ _ _ _ _)
      | (with_reducible exact craquelurelaw11_awake.mono _)
      | (with_reducible exact LeO.refl _)
      | (with_reducible exact LeO.none _)
      | (with_reducible refine LeO.ite ?_ ?_)
      | (with_reducible refine LeO.bind ?_ (fun _ => ?_))
      | exact ih0 _ _ _ _ _ _
      | exact ih1 _ _ _ _ _ _ _ _
      | exact ih2 _ _ _ _ _ _
      | exact ih3 _ _ _ _ _ _ _ _
      | exact craquelurelaw11_awake.mono _
      | exact LeO.none _
      | refine LeO.ite ?_ ?_
      | refine LeO.bind ?_ (fun _ => ?_)
set_option maxHeartbeats 8000000 in
set_option maxRecDepth 100000 in
theorem craquelurelaw11_ClaimOnce.calls (k : Nat) (A0 : Option Addr) (c0 : Nat) (l0 : List (S70)) (a1 : Int) (r : Bool) (w : World) (hr0 : Kd.C k70 w A0 l0.length l0) (hc0 : l0.length ≤ c0) (h : craquelurelaw11_ClaimOnce.f k l0 a1 = some r) :
    Calls Try.prog 4 #[.slice A0 l0.length c0, .int .u8 a1] w fun e w' => e = .returned (.bool r) ∧ Below w.heap.size w w' := by
  have HR0 := Aside0.mk hr0
  have HC0 := Aside0.mk hc0
  clear hr0 hc0
  have HB := Aside0.mk (Below.refl w.heap.size w)
  have H : ((craquelureplain_Inodes.f l0).bind fun t125 => (if t125 = true then ((claim_Used.f l0 (wrap64 (1 + (Int.tmod (wrap64 (a1)) 60)))).bind fun t127 => (if (t127.length : Int) = (wrap64 (1 + (Int.tmod (wrap64 (a1)) 60))) then (craquelurelaw11_ClaimOnce.l0 k l0 (wrap64 (1 + (Int.tmod (wrap64 (a1)) 60))) t127 0 (l0.length : Int) 0) else (some false))) else ((craquelurelaw11_awake.f k).bind fun t126 => (some t126)))) = some r := h
  clear h
  replace H := Option.bind_eq_some_iff.mp H
  obtain ⟨t125, A30, H⟩ := H
  replace H : (if t125 = true then ((claim_Used.f l0 (wrap64 (1 + (Int.tmod (wrap64 (a1)) 60)))).bind fun t127 => (if (t127.length : Int) = (wrap64 (1 + (Int.tmod (wrap64 (a1)) 60))) then (craquelurelaw11_ClaimOnce.l0 k l0 (wrap64 (1 + (Int.tmod (wrap64 (a1)) 60))) t127 0 (l0.length : Int) 0) else (some false))) else ((craquelurelaw11_awake.f k).bind fun t126 => (some t126))) = some r := H
  have A3 := Aside0.mk A30
  clear A30
  by_cases c4 : t125 = true
  · subst c4
    have H1 : ((claim_Used.f l0 (wrap64 (1 + (Int.tmod (wrap64 (a1)) 60)))).bind fun t127 => (if (t127.length : Int) = (wrap64 (1 + (Int.tmod (wrap64 (a1)) 60))) then (craquelurelaw11_ClaimOnce.l0 k l0 (wrap64 (1 + (Int.tmod (wrap64 (a1)) 60))) t127 0 (l0.length : Int) 0) else (some false))) = some r := by rw [if_pos rfl] at H; exact H
    clear H
    have H := H1
    clear H1
    replace H := Option.bind_eq_some_iff.mp H
    obtain ⟨t127, A50, H⟩ := H
    replace H : (if (t127.length : Int) = (wrap64 (1 + (Int.tmod (wrap64 (a1)) 60))) then (craquelurelaw11_ClaimOnce.l0 k l0 (wrap64 (1 + (Int.tmod (wrap64 (a1)) 60))) t127 0 (l0.length : Int) 0) else (some false)) = some r := H
    have A5 := Aside0.mk A50
    clear A50
    by_cases c6 : (t127.length : Int) = (wrap64 (1 + (Int.tmod (wrap64 (a1)) 60)))
    · rw [if_pos c6] at H
      have c6b0 : ((t127.length : Int) == (wrap64 (1 + (Int.tmod (wrap64 (a1)) 60)))) = true := beq_iff_eq.mpr c6
      have c6b1 : ((t127.length : Int) != (wrap64 (1 + (Int.tmod (wrap64 (a1)) 60)))) = false := bne_eq_false_iff_eq.mpr c6
      clear c6
      have H' := Aside0.mk H
      clear H
      go_enter Try.func4, Try.ntmps4
      go_wp2_with (first | ((with_reducible refine gate_callee (f := 10) rfl ?_); refine goesL_ (some 16) rfl rfl Try.func10 (by kernel_rfl) rfl #[.slice A0 l0.length c0] rfl (by (try simp only [List.map_toArray, List.map_cons, List.map_nil]); first | done | rfl | (simp only [List.length_drop, List.length_take]; rfl)) ?_; (with_reducible refine (craquelureplain_Inodes.calls _ _ l0 true _ ?side1 ?side2 A3.out).mono ?_); (case side1 => repeat (first | exact HR0.out | (with_reducible refine Kd.C_alloc ?_ _) | (with_reducible refine Kd.C_drewN ?_ _) | (with_reducible refine Kd.C_drew ?_))); (case side2 => exact HC0.out); rintro e w' ⟨rfl, ⟨nd, rfl⟩⟩; refine ⟨_, rfl, ?_⟩) | ((with_reducible refine gate_callee (f := 20) rfl ?_); refine goesL_ (some 25) rfl rfl Try.func20 (by kernel_rfl) rfl #[.slice A0 l0.length c0, .int .i64 (wrap64 (1 + (Int.tmod (wrap64 (a1)) 60)))] rfl (by (try simp only [List.map_toArray, List.map_cons, List.map_nil]); first | done | rfl | (simp only [List.length_drop, List.length_take]; rfl)) ?_; (with_reducible refine (claim_Used.calls _ _ l0 (wrap64 (1 + (Int.tmod (wrap64 (a1)) 60))) t127 _ ?side1 ?side2 A5.out).mono ?_); (case side1 => repeat (first | exact HR0.out | (with_reducible refine Kd.C_alloc ?_ _) | (with_reducible refine Kd.C_drewN ?_ _) | (with_reducible refine Kd.C_drew ?_))); (case side2 => exact HC0.out); rintro e w7 ⟨v128, rfl, ho0, hb⟩; refine ⟨_, rfl, ?_⟩; have n0_ := Aside0.mk (Kd.R_lower ho0 (below_size (by repeat (first | (with_reducible first | exact HB.out | apply below_alloc | apply pw_below_drewN | apply below_drew1) | exact HB.out)))); have n1_ := Aside0.mk (below_step (by repeat (first | (with_reducible first | exact HB.out | apply below_alloc | apply pw_below_drewN | apply below_drew1) | exact HB.out)) hb); clear HB; have HO129 := n0_; have HB := n1_; clear n0_ n1_; (try clear hb); (try clear hb2); (try clear hk); (try clear hi); (try clear ho0); obtain ⟨Ao8, co8, eo8⟩ := Kd.R_slice HO129.out; subst eo8))
      go_loopg [7, 32] k (fun kq v7 v32 w' => ∃ (x7_1 : Int) (x32_1 : Int), v7 = .int .i64 x7_1 ∧ v32 = .int .i64 x32_1 ∧ Aside0 (craquelurelaw11_ClaimOnce.l0 kq l0 (wrap64 (1 + (Int.tmod (wrap64 (a1)) 60))) t127 x7_1 (l0.length : Int) x32_1 = some r) ∧ Aside0 (kq ≤ k) ∧ Aside0 (Kd.R Kd.bool 4 w' w.heap.size (fun _ => True) (.slice Ao8 t127.length co8) t127) ∧ Aside0 (Below w.heap.size w w'))
      case atStart => exact ⟨(0), (0), (by first | rfl | (simp; done) | (simp [*]; done)), (by first | rfl | (simp; done) | (simp [*]; done)), H', ⟨Nat.le_refl _⟩, ⟨by (with_reducible repeat (first | apply Kd.R_alloc | apply Kd.R_drewN | apply Kd.R_drew)); exact HO129.out⟩, ⟨by repeat (first | (with_reducible first | exact HB.out | apply below_alloc | apply pw_below_drewN | apply below_drew1) | exact HB.out)⟩⟩
      case round =>
        clear H'
        try clear c1
        try clear c2
        try clear p2
        try clear c4
        try clear c6
        try clear c6b0
        try clear c6b1
        try clear p6
        obtain ⟨x7_1, x32_1, rfl, rfl, HA, HK1, HO_6, HB⟩ := hrel
        cases gk with
        | zero => exact absurd HA.out (by simp [craquelurelaw11_ClaimOnce.l0])
        | succ k1 =>
          have H := HA.out
          clear HA
          simp only [craquelurelaw11_ClaimOnce.l0] at H
          by_cases c9 : x32_1 < (l0.length : Int)
          · rw [if_pos c9] at H
            have c9b0 : decide (x32_1 < (l0.length : Int)) = true := decide_eq_true c9
            clear c9
            have H' := Aside0.mk H
            clear H
            go_wp2
            go_loopg [7, 35] k1 (fun kq v7 v35 w' => ∃ (x7_2 : Int) (x35_2 : Int), v7 = .int .i64 x7_2 ∧ v35 = .int .i64 x35_2 ∧ Aside0 (craquelurelaw11_ClaimOnce.l1 kq l0 (wrap64 (1 + (Int.tmod (wrap64 (a1)) 60))) t127 x7_2 x32_1 (l0.length : Int) x32_1 x35_2 = some r) ∧ Aside0 (kq ≤ k1) ∧ Aside0 (Kd.R Kd.bool 4 w' w.heap.size (fun _ => True) (.slice Ao8 t127.length co8) t127) ∧ Aside0 (Below w.heap.size w w'))
            case atStart => exact ⟨(x7_1), (0), (by first | rfl | (simp; done) | (simp [*]; done)), (by first | rfl | (simp; done) | (simp [*]; done)), H', ⟨Nat.le_refl _⟩, ⟨by (with_reducible repeat (first | apply Kd.R_alloc | apply Kd.R_drewN | apply Kd.R_drew)); exact HO_6.out⟩, ⟨by repeat (first | (with_reducible first | exact HB.out | apply below_alloc | apply pw_below_drewN | apply below_drew1) | exact HB.out)⟩⟩
            case round =>
              clear H'
              try clear c1
              try clear c2
              try clear p2
              try clear c4
              try clear c6
              try clear c6b0
              try clear c6b1
              try clear p6
              try clear c9
              try clear c9b0
              try clear p2
              try clear p6
              obtain ⟨x7_2, x35_2, rfl, rfl, HA, HK2, HO_6, HB⟩ := hrel
              cases gk with
              | zero => exact absurd HA.out (by simp [craquelurelaw11_ClaimOnce.l1])
              | succ k2 =>
                have H := HA.out
                clear HA
                simp only [craquelurelaw11_ClaimOnce.l1] at H
                by_cases c10 : x35_2 < 5
                · rw [if_pos c10] at H
                  have c10b0 : decide (x35_2 < 5) = true := decide_eq_true c10
                  clear c10
                  replace H := Option.bind_eq_some_iff.mp H
                  obtain ⟨t130, A110, H⟩ := H
                  replace H : (if t130 = true then (craquelurelaw11_ClaimOnce.l1 k2 l0 (wrap64 (1 + (Int.tmod (wrap64 (a1)) 60))) t127 (wrap64 (x7_2 + 1)) x32_1 (l0.length : Int) x32_1 (wrap64 (x35_2 + 1))) else (craquelurelaw11_ClaimOnce.l1 k2 l0 (wrap64 (1 + (Int.tmod (wrap64 (a1)) 60))) t127 x7_2 x32_1 (l0.length : Int) x32_1 (wrap64 (x35_2 + 1)))) = some r := H
                  have A11 := Aside0.mk A110
                  clear A110
                  by_cases c12 : t130 = true
                  · subst c12
                    have H1 : (craquelurelaw11_ClaimOnce.l1 k2 l0 (wrap64 (1 + (Int.tmod (wrap64 (a1)) 60))) t127 (wrap64 (x7_2 + 1)) x32_1 (l0.length : Int) x32_1 (wrap64 (x35_2 + 1))) = some r := by rw [if_pos rfl] at H; exact H
                    clear H
                    have H := H1
                    clear H1
                    have H' := Aside0.mk H
                    clear H
                    go_wp2_with (first | ((with_reducible refine gate_callee (f := 14) rfl ?_); refine goesL_ (some 43) rfl rfl Try.func14 (by kernel_rfl) rfl #[.slice A0 l0.length c0, .int .i64 (wrap64 (1 + (Int.tmod (wrap64 (a1)) 60))), .int .i64 (wrap64 (x32_1 + 1)), .int .i64 x35_2] rfl (by (try simp only [List.map_toArray, List.map_cons, List.map_nil]); first | done | rfl | (simp only [List.length_drop, List.length_take]; rfl)) ?_; (with_reducible refine (claim_Valid.calls _ _ l0 (wrap64 (1 + (Int.tmod (wrap64 (a1)) 60))) (wrap64 (x32_1 + 1)) x35_2 true _ ?side1 ?side2 A11.out).mono ?_); (case side1 => repeat (first | exact (Kd.C_below HR0.out HB.out) | (with_reducible refine Kd.C_alloc ?_ _) | (with_reducible refine Kd.C_drewN ?_ _) | (with_reducible refine Kd.C_drew ?_))); (case side2 => exact HC0.out); rintro e w13 ⟨rfl, hb⟩; refine ⟨_, rfl, ?_⟩; have n0_ := Aside0.mk (Kd.R_below (by (with_reducible repeat (first | apply Kd.R_alloc | apply Kd.R_drewN | apply Kd.R_drew)); exact HO_6.out) hb); have n1_ := Aside0.mk (below_step (by repeat (first | (with_reducible first | exact HB.out | apply below_alloc | apply pw_below_drewN | apply below_drew1) | exact HB.out)) hb); clear HO_6; clear HB; have HO_6 := n0_; have HB := n1_; clear n0_ n1_; (try clear hb); (try clear hb2); (try clear hk); (try clear hi)))
                    go_roundg k2
                    case measure => have := HK1.out; have := HK2.out; omega
                    case rel => exact ⟨(wrap64 (x7_2 + 1)), (wrap64 (x35_2 + 1)), (by first | rfl | (simp; done) | (simp [*]; done)), (by first | rfl | (simp; done) | (simp [*]; done)), H', ⟨by have := HK1.out; have := HK2.out; omega⟩, ⟨by (with_reducible repeat (first | apply Kd.R_alloc | apply Kd.R_drewN | apply Kd.R_drew)); exact HO_6.out⟩, ⟨by repeat (first | (with_reducible first | exact HB.out | apply below_alloc | apply pw_below_drewN | apply below_drew1) | exact HB.out)⟩⟩
                  · replace c12 := Bool.eq_false_iff.mpr c12
                    subst c12
                    have H1 : (craquelurelaw11_ClaimOnce.l1 k2 l0 (wrap64 (1 + (Int.tmod (wrap64 (a1)) 60))) t127 x7_2 x32_1 (l0.length : Int) x32_1 (wrap64 (x35_2 + 1))) = some r := by rw [if_neg (show ¬ (false = true) by decide)] at H; exact H
                    clear H
                    have H := H1
                    clear H1
                    have H' := Aside0.mk H
                    clear H
                    go_wp2_with (first | ((with_reducible refine gate_callee (f := 14) rfl ?_); refine goesL_ (some 43) rfl rfl Try.func14 (by kernel_rfl) rfl #[.slice A0 l0.length c0, .int .i64 (wrap64 (1 + (Int.tmod (wrap64 (a1)) 60))), .int .i64 (wrap64 (x32_1 + 1)), .int .i64 x35_2] rfl (by (try simp only [List.map_toArray, List.map_cons, List.map_nil]); first | done | rfl | (simp only [List.length_drop, List.length_take]; rfl)) ?_; (with_reducible refine (claim_Valid.calls _ _ l0 (wrap64 (1 + (Int.tmod (wrap64 (a1)) 60))) (wrap64 (x32_1 + 1)) x35_2 false _ ?side1 ?side2 A11.out).mono ?_); (case side1 => repeat (first | exact (Kd.C_below HR0.out HB.out) | (with_reducible refine Kd.C_alloc ?_ _) | (with_reducible refine Kd.C_drewN ?_ _) | (with_reducible refine Kd.C_drew ?_))); (case side2 => exact HC0.out); rintro e w14 ⟨rfl, hb⟩; refine ⟨_, rfl, ?_⟩; have n0_ := Aside0.mk (Kd.R_below (by (with_reducible repeat (first | apply Kd.R_alloc | apply Kd.R_drewN | apply Kd.R_drew)); exact HO_6.out) hb); have n1_ := Aside0.mk (below_step (by repeat (first | (with_reducible first | exact HB.out | apply below_alloc | apply pw_below_drewN | apply below_drew1) | exact HB.out)) hb); clear HO_6; clear HB; have HO_6 := n0_; have HB := n1_; clear n0_ n1_; (try clear hb); (try clear hb2); (try clear hk); (try clear hi)))
                    go_roundg k2
                    case measure => have := HK1.out; have := HK2.out; omega
                    case rel => exact ⟨(x7_2), (wrap64 (x35_2 + 1)), (by first | rfl | (simp; done) | (simp [*]; done)), (by first | rfl | (simp; done) | (simp [*]; done)), H', ⟨by have := HK1.out; have := HK2.out; omega⟩, ⟨by (with_reducible repeat (first | apply Kd.R_alloc | apply Kd.R_drewN | apply Kd.R_drew)); exact HO_6.out⟩, ⟨by repeat (first | (with_reducible first | exact HB.out | apply below_alloc | apply pw_below_drewN | apply below_drew1) | exact HB.out)⟩⟩
                · rw [if_neg c10] at H
                  have c10b0 : decide (x35_2 < 5) = false := decide_eq_false c10
                  clear c10
                  have H' := Aside0.mk H
                  clear H
                  go_wp2
                  go_roundg k2
                  case measure => have := HK1.out; have := HK2.out; omega
                  case rel => exact ⟨(x7_2), (wrap64 (x32_1 + 1)), (by first | rfl | (simp; done) | (simp [*]; done)), (by first | rfl | (simp; done) | (simp [*]; done)), H', ⟨by have := HK1.out; have := HK2.out; omega⟩, ⟨by (with_reducible repeat (first | apply Kd.R_alloc | apply Kd.R_drewN | apply Kd.R_drew)); exact HO_6.out⟩, ⟨by repeat (first | (with_reducible first | exact HB.out | apply below_alloc | apply pw_below_drewN | apply below_drew1) | exact HB.out)⟩⟩
          · rw [if_neg c9] at H
            have c9b0 : decide (x32_1 < (l0.length : Int)) = false := decide_eq_false c9
            clear c9
            have H' := Aside0.mk H
            clear H
            go_wp2
            go_loopg [7, 50] k1 (fun kq v7 v50 w' => ∃ (x7_2 : Int) (x50_2 : Int), v7 = .int .i64 x7_2 ∧ v50 = .int .i64 x50_2 ∧ Aside0 (craquelurelaw11_ClaimOnce.l2 kq l0 (wrap64 (1 + (Int.tmod (wrap64 (a1)) 60))) x7_2 t127 (t127.length : Int) x50_2 = some r) ∧ Aside0 (kq ≤ k1) ∧ Aside0 (Kd.R Kd.bool 4 w' w.heap.size (fun _ => True) (.slice Ao8 t127.length co8) t127) ∧ Aside0 (Below w.heap.size w w'))
            case atStart => exact ⟨(x7_1), (0), (by first | rfl | (simp; done) | (simp [*]; done)), (by first | rfl | (simp; done) | (simp [*]; done)), H', ⟨Nat.le_refl _⟩, ⟨by (with_reducible repeat (first | apply Kd.R_alloc | apply Kd.R_drewN | apply Kd.R_drew)); exact HO_6.out⟩, ⟨by repeat (first | (with_reducible first | exact HB.out | apply below_alloc | apply pw_below_drewN | apply below_drew1) | exact HB.out)⟩⟩
            case round =>
              clear H'
              try clear c1
              try clear c2
              try clear p2
              try clear c4
              try clear c6
              try clear c6b0
              try clear c6b1
              try clear p6
              try clear c9
              try clear c9b0
              try clear c10
              try clear c10b0
              try clear c12
              try clear c14
              try clear p2
              try clear p6
              obtain ⟨x7_2, x50_2, rfl, rfl, HA, HK2, HO_48, HB⟩ := hrel
              cases gk with
              | zero => exact absurd HA.out (by simp [craquelurelaw11_ClaimOnce.l2])
              | succ k2 =>
                have H := HA.out
                clear HA
                simp only [craquelurelaw11_ClaimOnce.l2] at H
                by_cases c15 : x50_2 < (t127.length : Int)
                · rw [if_pos c15] at H
                  have c15b0 : decide (x50_2 < (t127.length : Int)) = true := decide_eq_true c15
                  clear c15
                  by_cases c16 : 0 ≤ x50_2
                  · rw [if_pos c16] at H
                    have c16b0 : decide (0 ≤ x50_2) = true := decide_eq_true c16
                    clear c16
                    by_cases c17 : x50_2 < (t127.length : Int)
                    · rw [if_pos c17] at H
                      have c17b0 : decide (x50_2 < (t127.length : Int)) = true := decide_eq_true c17
                      clear c17
                      replace H := Option.bind_eq_some_iff.mp H
                      obtain ⟨⟨t133, t134, t135⟩, A180, H⟩ := H
                      replace H : (if (t135 != (rdOf false t127 x50_2)) = true then (craquelurelaw11_ClaimOnce.j3 k2 l0 (wrap64 (1 + (Int.tmod (wrap64 (a1)) 60))) x7_2 (rdOf false t127 x50_2) t127 (t127.length : Int) x50_2 true) else (if t135 = true then ((claim_Valid.f l0 (wrap64 (1 + (Int.tmod (wrap64 (a1)) 60))) t133 t134).bind fun t136 => (craquelurelaw11_ClaimOnce.j3 k2 l0 (wrap64 (1 + (Int.tmod (wrap64 (a1)) 60))) x7_2 (rdOf false t127 x50_2) t127 (t127.length : Int) x50_2 (!t136))) else (craquelurelaw11_ClaimOnce.j3 k2 l0 (wrap64 (1 + (Int.tmod (wrap64 (a1)) 60))) x7_2 (rdOf false t127 x50_2) t127 (t127.length : Int) x50_2 false))) = some r := H
                      have A18 := Aside0.mk A180
                      clear A180
                      have HC19 := Aside0.mk H
                      clear H
                      have p132 : 0 ≤ (x50_2 : Int) := of_decide_eq_true (by first | (with_reducible assumption) | assumption)
                      have q132 : x50_2 < (t127.length : Int) := of_decide_eq_true (by first | (with_reducible assumption) | assumption)
                      obtain ⟨ad132, e132, hx132_0⟩ := Kd.at_bool (Kd.R_reads' HO_48.out).2.2 x50_2 p132 q132
                      cases e132
                      replace p132 := eq_true p132
                      replace q132 := eq_true q132
                      go_upto_region 22 with (first | ((with_reducible refine gate_callee (f := 12) rfl ?_); refine goesL_ (some 59) rfl rfl Try.func12 (by kernel_rfl) rfl #[.slice A0 l0.length c0, .int .i64 (wrap64 (1 + (Int.tmod (wrap64 (a1)) 60))), .int .i64 x50_2] rfl (by (try simp only [List.map_toArray, List.map_cons, List.map_nil]); first | done | rfl | (simp only [List.length_drop, List.length_take]; rfl)) ?_; (with_reducible refine (claim_Owner.calls _ _ l0 (wrap64 (1 + (Int.tmod (wrap64 (a1)) 60))) x50_2 t133 t134 t135 _ ?side1 ?side2 A18.out).mono ?_); (case side1 => repeat (first | exact (Kd.C_below HR0.out HB.out) | (with_reducible refine Kd.C_alloc ?_ _) | (with_reducible refine Kd.C_drewN ?_ _) | (with_reducible refine Kd.C_drew ?_))); (case side2 => exact HC0.out); rintro e w20 ⟨rfl, hb⟩; refine ⟨_, rfl, ?_⟩; have n0_ := Aside0.mk (Kd.R_below (by (with_reducible repeat (first | apply Kd.R_alloc | apply Kd.R_drewN | apply Kd.R_drew)); exact HO_48.out) hb); have n1_ := Aside0.mk (below_step (by repeat (first | (with_reducible first | exact HB.out | apply below_alloc | apply pw_below_drewN | apply below_drew1) | exact HB.out)) hb); clear HO_48; clear HB; have HO_48 := n0_; have HB := n1_; clear n0_ n1_; (try clear hb); (try clear hb2); (try clear hk); (try clear hi)))
                      (try simp only [Act.put, List.setIfInBounds_toArray, List.set_cons_zero, List.set_cons_succ])
                      go_cut [76] (fun v76 wc => ∃ (kq : Nat) (x76_18 : Bool), v76 = .bool x76_18 ∧ Aside0 (craquelurelaw11_ClaimOnce.j3 kq l0 (wrap64 (1 + (Int.tmod (wrap64 (a1)) 60))) x7_2 (rdOf false t127 x50_2) t127 (t127.length : Int) x50_2 x76_18 = some r) ∧ Aside0 (kq ≤ k2) ∧ Aside0 (Kd.R Kd.bool 4 wc w.heap.size (fun _ => True) (.slice (some ad132) t127.length co8) t127) ∧ Aside0 (Below w.heap.size w wc))
                      case first =>
                        have H := HC19.out
                        clear HC19
                        by_cases c21 : (t135 != (rdOf false t127 x50_2)) = true
                        · rw [if_pos c21] at H
                          have c21b0 : (t135 != (rdOf false t127 x50_2)) = true := c21
                          (try (have c21b1 : decide (t135 = (rdOf false t127 x50_2)) = false := by simpa using c21))
                          (try (have c21b2 : (t135 == (rdOf false t127 x50_2)) = false := by simpa using c21))
                          (try (have c21b3 : ¬ (t135 = (rdOf false t127 x50_2)) := by simpa using c21))
                          clear c21
                          (first | rw [c21b0] | (simp only [i64_w, i32_w]; rw [c21b0]) | skip)
                          have H' := Aside0.mk H
                          clear H
                          go_wp2
                          go_meet
                          case rel => exact ⟨_, (true), (by first | rfl | (simp; done) | (simp [*]; done)), H', ⟨by have := HK1.out; have := HK2.out; first | omega | exact Nat.le_refl _⟩, ⟨by (with_reducible repeat (first | apply Kd.R_alloc | apply Kd.R_drewN | apply Kd.R_drew)); exact HO_48.out⟩, ⟨by repeat (first | (with_reducible first | exact HB.out | apply below_alloc | apply pw_below_drewN | apply below_drew1) | exact HB.out)⟩⟩
                        · rw [if_neg c21] at H
                          have c21b0 : (t135 != (rdOf false t127 x50_2)) = false := by simpa using c21
                          (try (have c21b1 : decide (t135 = (rdOf false t127 x50_2)) = true := by simpa using c21))
                          (try (have c21b2 : (t135 == (rdOf false t127 x50_2)) = true := by simpa using c21))
                          clear c21
                          (first | rw [c21b0] | (simp only [i64_w, i32_w]; rw [c21b0]) | skip)
                          by_cases c22 : t135 = true
                          · subst c22
                            have H1 : ((claim_Valid.f l0 (wrap64 (1 + (Int.tmod (wrap64 (a1)) 60))) t133 t134).bind fun t136 => (craquelurelaw11_ClaimOnce.j3 k2 l0 (wrap64 (1 + (Int.tmod (wrap64 (a1)) 60))) x7_2 (rdOf false t127 x50_2) t127 (t127.length : Int) x50_2 (!t136))) = some r := by rw [if_pos rfl] at H; exact H
                            clear H
                            have H := H1
                            clear H1
                            replace H := Option.bind_eq_some_iff.mp H
                            obtain ⟨t136, A230, H⟩ := H
                            replace H : (craquelurelaw11_ClaimOnce.j3 k2 l0 (wrap64 (1 + (Int.tmod (wrap64 (a1)) 60))) x7_2 (rdOf false t127 x50_2) t127 (t127.length : Int) x50_2 (!t136)) = some r := H
                            have A23 := Aside0.mk A230
                            clear A230
                            have H' := Aside0.mk H
                            clear H
                            go_wp2_with (first | (go_at_call 14; (with_reducible refine (claim_Valid.calls _ _ l0 (wrap64 (1 + (Int.tmod (wrap64 (a1)) 60))) t133 t134 t136 _ ?side1 ?side2 A23.out).mono ?_); (case side1 => repeat (first | exact (Kd.C_below HR0.out HB.out) | (with_reducible refine Kd.C_alloc ?_ _) | (with_reducible refine Kd.C_drewN ?_ _) | (with_reducible refine Kd.C_drew ?_))); (case side2 => exact HC0.out); rintro e w24 ⟨rfl, hb⟩; have n0_ := Aside0.mk (Kd.R_below (by (with_reducible repeat (first | apply Kd.R_alloc | apply Kd.R_drewN | apply Kd.R_drew)); exact HO_48.out) hb); have n1_ := Aside0.mk (below_step (by repeat (first | (with_reducible first | exact HB.out | apply below_alloc | apply pw_below_drewN | apply below_drew1) | exact HB.out)) hb); clear HO_48; clear HB; have HO_48 := n0_; have HB := n1_; clear n0_ n1_; (try clear hb); (try clear hb2); (try clear hk); (try clear hi)))
                            go_meet
                            case rel => exact ⟨_, (!t136), (by first | rfl | (simp; done) | (simp [*]; done)), H', ⟨by have := HK1.out; have := HK2.out; first | omega | exact Nat.le_refl _⟩, ⟨by (with_reducible repeat (first | apply Kd.R_alloc | apply Kd.R_drewN | apply Kd.R_drew)); exact HO_48.out⟩, ⟨by repeat (first | (with_reducible first | exact HB.out | apply below_alloc | apply pw_below_drewN | apply below_drew1) | exact HB.out)⟩⟩
                          · replace c22 := Bool.eq_false_iff.mpr c22
                            subst c22
                            have H1 : (craquelurelaw11_ClaimOnce.j3 k2 l0 (wrap64 (1 + (Int.tmod (wrap64 (a1)) 60))) x7_2 (rdOf false t127 x50_2) t127 (t127.length : Int) x50_2 false) = some r := by rw [if_neg (show ¬ (false = true) by decide)] at H; exact H
                            clear H
                            have H := H1
                            clear H1
                            have H' := Aside0.mk H
                            clear H
                            go_wp2
                            go_meet
                            case rel => exact ⟨_, (false), (by first | rfl | (simp; done) | (simp [*]; done)), H', ⟨by have := HK1.out; have := HK2.out; first | omega | exact Nat.le_refl _⟩, ⟨by (with_reducible repeat (first | apply Kd.R_alloc | apply Kd.R_drewN | apply Kd.R_drew)); exact HO_48.out⟩, ⟨by repeat (first | (with_reducible first | exact HB.out | apply below_alloc | apply pw_below_drewN | apply below_drew1) | exact HB.out)⟩⟩
                      case rest =>
                        clear HC19
                        try clear c1
                        try clear p1
                        try clear q1
                        try clear hx1
                        try clear c2
                        try clear p2
                        try clear c4
                        try clear c6
                        try clear c6b0
                        try clear c6b1
                        try clear p6
                        try clear c9
                        try clear c9b0
                        try clear c10
                        try clear c10b0
                        try clear c12
                        try clear p13
                        try clear q13
                        try clear hx13
                        try clear c14
                        try clear c15
                        try clear c15b0
                        try clear c16
                        try clear c16b0
                        try clear c17
                        try clear c17b0
                        try clear c20
                        try clear c21
                        try clear c21b0
                        try clear c21b1
                        try clear c21b2
                        try clear c22
                        try clear hx132_0
                        try clear p132
                        try clear p2
                        try clear p6
                        try clear q132
                        obtain ⟨kq, x76_18, rfl, HA, HJ18, HO_48, HB⟩ := hcut
                        cases kq with
                        | zero => exact absurd HA.out (by simp [craquelurelaw11_ClaimOnce.j3])
                        | succ kj18 =>
                          have H := HA.out
                          clear HA
                          simp only [craquelurelaw11_ClaimOnce.j3] at H
                          by_cases c25 : x76_18 = true
                          · subst c25
                            have H1 : (some false) = some r := by rw [if_pos rfl] at H; exact H
                            clear H
                            have H := H1
                            clear H1
                            obtain rfl := Option.some.inj H
                            go_wp2
                            go_ret
                            exact ⟨by first | rfl | (simp [errW_none, errW_some] <;> rfl) | (simp [*, errW_none, errW_some] <;> rfl), by repeat (first | (with_reducible first | exact HB.out | apply below_alloc | apply pw_below_drewN | apply below_drew1) | exact HB.out)⟩
                          · replace c25 := Bool.eq_false_iff.mpr c25
                            subst c25
                            have H1 : (if (rdOf false t127 x50_2) = true then (craquelurelaw11_ClaimOnce.l2 kj18 l0 (wrap64 (1 + (Int.tmod (wrap64 (a1)) 60))) (wrap64 (x7_2 - 1)) t127 (t127.length : Int) (wrap64 (x50_2 + 1))) else (craquelurelaw11_ClaimOnce.l2 kj18 l0 (wrap64 (1 + (Int.tmod (wrap64 (a1)) 60))) x7_2 t127 (t127.length : Int) (wrap64 (x50_2 + 1)))) = some r := by rw [if_neg (show ¬ (false = true) by decide)] at H; exact H
                            clear H
                            have H := H1
                            clear H1
                            obtain ⟨bq26, hbq26⟩ : ∃ b_ : Bool, b_ = (rdOf false t127 x50_2) := ⟨_, rfl⟩
                            replace H : (if (bq26) = true then (craquelurelaw11_ClaimOnce.l2 kj18 l0 (wrap64 (1 + (Int.tmod (wrap64 (a1)) 60))) (wrap64 (x7_2 - 1)) t127 (t127.length : Int) (wrap64 (x50_2 + 1))) else (craquelurelaw11_ClaimOnce.l2 kj18 l0 (wrap64 (1 + (Int.tmod (wrap64 (a1)) 60))) x7_2 t127 (t127.length : Int) (wrap64 (x50_2 + 1)))) = some r := by rw [← hbq26] at H; exact H
                            have Nbq26 := Aside0.mk hbq26
                            clear hbq26
                            by_cases c27 : (bq26) = true
                            · rw [if_pos c27] at H
                              have c27b0 : (bq26) = true := c27
                              have c27r : (rdOf false t127 x50_2) = true := Nbq26.out.symm.trans c27b0
                              try rw [c27r]
                              clear c27
                              have H' := Aside0.mk H
                              clear H
                              go_wp2
                              go_roundg kj18
                              case measure => have := HK1.out; have := HK2.out; have := HJ18.out; omega
                              case rel => exact ⟨(wrap64 (x7_2 - 1)), (wrap64 (x50_2 + 1)), (by first | rfl | (simp; done) | (simp [*]; done)), (by first | rfl | (simp; done) | (simp [*]; done)), H', ⟨by have := HK1.out; have := HK2.out; have := HJ18.out; omega⟩, ⟨by (with_reducible repeat (first | apply Kd.R_alloc | apply Kd.R_drewN | apply Kd.R_drew)); exact HO_48.out⟩, ⟨by repeat (first | (with_reducible first | exact HB.out | apply below_alloc | apply pw_below_drewN | apply below_drew1) | exact HB.out)⟩⟩
                            · rw [if_neg c27] at H
                              have c27b0 : (bq26) = false := by simpa using c27
                              have c27r : (rdOf false t127 x50_2) = false := Nbq26.out.symm.trans c27b0
                              try rw [c27r]
                              clear c27
                              have H' := Aside0.mk H
                              clear H
                              go_wp2
                              go_roundg kj18
                              case measure => have := HK1.out; have := HK2.out; have := HJ18.out; omega
                              case rel => exact ⟨(x7_2), (wrap64 (x50_2 + 1)), (by first | rfl | (simp; done) | (simp [*]; done)), (by first | rfl | (simp; done) | (simp [*]; done)), H', ⟨by have := HK1.out; have := HK2.out; have := HJ18.out; omega⟩, ⟨by (with_reducible repeat (first | apply Kd.R_alloc | apply Kd.R_drewN | apply Kd.R_drew)); exact HO_48.out⟩, ⟨by repeat (first | (with_reducible first | exact HB.out | apply below_alloc | apply pw_below_drewN | apply below_drew1) | exact HB.out)⟩⟩
                    · rw [if_neg c17] at H
                      exact absurd H (by simp)
                  · rw [if_neg c16] at H
                    exact absurd H (by simp)
                · rw [if_neg c15] at H
                  have c15b0 : decide (x50_2 < (t127.length : Int)) = false := decide_eq_false c15
                  clear c15
                  by_cases c28 : x7_2 = 0
                  · rw [if_pos c28] at H
                    have c28b0 : (x7_2 == 0) = true := beq_iff_eq.mpr c28
                    have c28b1 : (x7_2 != 0) = false := bne_eq_false_iff_eq.mpr c28
                    clear c28
                    replace H := Option.bind_eq_some_iff.mp H
                    obtain ⟨t131, A290, H⟩ := H
                    replace H : (some t131) = some r := H
                    have A29 := Aside0.mk A290
                    clear A290
                    obtain rfl := Option.some.inj H
                    go_wp2_with (first | (go_at_call 11; (with_reducible refine (craquelurelaw11_awake.calls k2  t131 _ A29.out).mono ?_); rintro e w30 ⟨rfl, hb⟩; have n0_ := Aside0.mk (Kd.R_below (by (with_reducible repeat (first | apply Kd.R_alloc | apply Kd.R_drewN | apply Kd.R_drew)); exact HO_48.out) hb); have n1_ := Aside0.mk (below_step (by repeat (first | (with_reducible first | exact HB.out | apply below_alloc | apply pw_below_drewN | apply below_drew1) | exact HB.out)) hb); clear HO_48; clear HB; have HO_48 := n0_; have HB := n1_; clear n0_ n1_; (try clear hb); (try clear hb2); (try clear hk); (try clear hi)))
                    go_ret
                    exact ⟨by first | rfl | (simp [errW_none, errW_some] <;> rfl) | (simp [*, errW_none, errW_some] <;> rfl), by repeat (first | (with_reducible first | exact HB.out | apply below_alloc | apply pw_below_drewN | apply below_drew1) | exact HB.out)⟩
                  · rw [if_neg c28] at H
                    have c28b0 : (x7_2 == 0) = false := beq_eq_false_iff_ne.mpr c28
                    have c28b1 : (x7_2 != 0) = true := bne_iff_ne.mpr c28
                    obtain rfl := Option.some.inj H
                    go_wp2
                    go_ret
                    exact ⟨by first | rfl | (simp [errW_none, errW_some] <;> rfl) | (simp [*, errW_none, errW_some] <;> rfl), by repeat (first | (with_reducible first | exact HB.out | apply below_alloc | apply pw_below_drewN | apply below_drew1) | exact HB.out)⟩
    · rw [if_neg c6] at H
      have c6b0 : ((t127.length : Int) == (wrap64 (1 + (Int.tmod (wrap64 (a1)) 60)))) = false := beq_eq_false_iff_ne.mpr c6
      have c6b1 : ((t127.length : Int) != (wrap64 (1 + (Int.tmod (wrap64 (a1)) 60)))) = true := bne_iff_ne.mpr c6
      obtain rfl := Option.some.inj H
      go_enter Try.func4, Try.ntmps4
      go_wp2_with (first | ((with_reducible refine gate_callee (f := 10) rfl ?_); refine goesL_ (some 16) rfl rfl Try.func10 (by kernel_rfl) rfl #[.slice A0 l0.length c0] rfl (by (try simp only [List.map_toArray, List.map_cons, List.map_nil]); first | done | rfl | (simp only [List.length_drop, List.length_take]; rfl)) ?_; (with_reducible refine (craquelureplain_Inodes.calls _ _ l0 true _ ?side1 ?side2 A3.out).mono ?_); (case side1 => repeat (first | exact HR0.out | (with_reducible refine Kd.C_alloc ?_ _) | (with_reducible refine Kd.C_drewN ?_ _) | (with_reducible refine Kd.C_drew ?_))); (case side2 => exact HC0.out); rintro e w' ⟨rfl, ⟨nd, rfl⟩⟩; refine ⟨_, rfl, ?_⟩) | ((with_reducible refine gate_callee (f := 20) rfl ?_); refine goesL_ (some 25) rfl rfl Try.func20 (by kernel_rfl) rfl #[.slice A0 l0.length c0, .int .i64 (wrap64 (1 + (Int.tmod (wrap64 (a1)) 60)))] rfl (by (try simp only [List.map_toArray, List.map_cons, List.map_nil]); first | done | rfl | (simp only [List.length_drop, List.length_take]; rfl)) ?_; (with_reducible refine (claim_Used.calls _ _ l0 (wrap64 (1 + (Int.tmod (wrap64 (a1)) 60))) t127 _ ?side1 ?side2 A5.out).mono ?_); (case side1 => repeat (first | exact HR0.out | (with_reducible refine Kd.C_alloc ?_ _) | (with_reducible refine Kd.C_drewN ?_ _) | (with_reducible refine Kd.C_drew ?_))); (case side2 => exact HC0.out); rintro e w31 ⟨v128, rfl, ho0, hb⟩; refine ⟨_, rfl, ?_⟩; have n0_ := Aside0.mk (Kd.R_lower ho0 (below_size (by repeat (first | (with_reducible first | exact HB.out | apply below_alloc | apply pw_below_drewN | apply below_drew1) | exact HB.out)))); have n1_ := Aside0.mk (below_step (by repeat (first | (with_reducible first | exact HB.out | apply below_alloc | apply pw_below_drewN | apply below_drew1) | exact HB.out)) hb); clear HB; have HO129 := n0_; have HB := n1_; clear n0_ n1_; (try clear hb); (try clear hb2); (try clear hk); (try clear hi); (try clear ho0); obtain ⟨Ao32, co32, eo32⟩ := Kd.R_slice HO129.out; subst eo32))
      go_ret
      exact ⟨by first | rfl | (simp [errW_none, errW_some] <;> rfl) | (simp [*, errW_none, errW_some] <;> rfl), by repeat (first | (with_reducible first | exact HB.out | apply below_alloc | apply pw_below_drewN | apply below_drew1) | exact HB.out)⟩
  · replace c4 := Bool.eq_false_iff.mpr c4
    subst c4
    have H1 : ((craquelurelaw11_awake.f k).bind fun t126 => (some t126)) = some r := by rw [if_neg (show ¬ (false = true) by decide)] at H; exact H
    clear H
    have H := H1
    clear H1
    replace H := Option.bind_eq_some_iff.mp H
    obtain ⟨t126, A330, H⟩ := H
    replace H : (some t126) = some r := H
    have A33 := Aside0.mk A330
    clear A330
    obtain rfl := Option.some.inj H
    go_enter Try.func4, Try.ntmps4
    go_wp2_with (first | ((with_reducible refine gate_callee (f := 10) rfl ?_); refine goesL_ (some 16) rfl rfl Try.func10 (by kernel_rfl) rfl #[.slice A0 l0.length c0] rfl (by (try simp only [List.map_toArray, List.map_cons, List.map_nil]); first | done | rfl | (simp only [List.length_drop, List.length_take]; rfl)) ?_; (with_reducible refine (craquelureplain_Inodes.calls _ _ l0 false _ ?side1 ?side2 A3.out).mono ?_); (case side1 => repeat (first | exact HR0.out | (with_reducible refine Kd.C_alloc ?_ _) | (with_reducible refine Kd.C_drewN ?_ _) | (with_reducible refine Kd.C_drew ?_))); (case side2 => exact HC0.out); rintro e w' ⟨rfl, ⟨nd, rfl⟩⟩; refine ⟨_, rfl, ?_⟩) | ((with_reducible refine gate_callee (f := 11) rfl ?_); refine goesL_ (some 18) rfl rfl Try.func11 (by kernel_rfl) rfl #[] rfl (by (try simp only [List.map_toArray, List.map_cons, List.map_nil]); first | done | rfl | (simp only [List.length_drop, List.length_take]; rfl)) ?_; (with_reducible refine (craquelurelaw11_awake.calls k  t126 _ A33.out).mono ?_); rintro e w34 ⟨rfl, hb⟩; refine ⟨_, rfl, ?_⟩; have n0_ := Aside0.mk (below_step (by repeat (first | (with_reducible first | exact HB.out | apply below_alloc | apply pw_below_drewN | apply below_drew1) | exact HB.out)) hb); clear HB; have HB := n0_; clear n0_; (try clear hb); (try clear hb2); (try clear hk); (try clear hi)))
    go_ret
    exact ⟨by first | rfl | (simp [errW_none, errW_some] <;> rfl) | (simp [*, errW_none, errW_some] <;> rfl), by repeat (first | (with_reducible first | exact HB.out | apply below_alloc | apply pw_below_drewN | apply below_drew1) | exact HB.out)⟩

end Go.Proofs.Ytdkbhbolkieeiaa.Y11
