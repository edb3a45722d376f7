/- Walks and plain laws of this claim, merged: R27c, L27b. -/
import Derived.Test.YtdkbhbolkieeiaaCG
import Derived.Test.YtdkbhbolkieeiaaCC
import Derived.Test.YtdkbhbolkieeiaaCD
namespace Go.Proofs.Ytdkbhbolkieeiaa.K
open Go.RowKit Go.Proofs.YtdkbhbolkieeiaaW.PrintWords Go.Proofs.YtdkbhbolkieeiaaW.PrintLast Go.Proofs.YtdkbhbolkieeiaaW.PrintMore
set_option linter.unusedVariables false
set_option linter.unusedSimpArgs false
theorem take_succ_eq {α : Type} [DecidableEq α] {a b : List α} {m : Nat} (h1 : m < a.length) (h2 : m < b.length) : a.take (m + 1) = b.take (m + 1) ↔ a.take m = b.take m ∧ a[m] = b[m] := by
  rw [List.take_succ_eq_append_getElem h1, List.take_succ_eq_append_getElem h2]
  constructor
  · intro h
    have := List.append_inj h (by rw [List.length_take, List.length_take]; omega)
    exact ⟨this.1, by simpa using this.2⟩
  · rintro ⟨h, k⟩; rw [h, k]
set_option maxHeartbeats 2000000 in
set_option maxRecDepth 100000 in
theorem rSame27_walk (A1 A2 : Option Addr) (c1 c2 : Nat) (l1 l2 : List Wr) (w : World) (h1 : Kd.C kWr w A1 l1.length l1) (h2 : Kd.C kWr w A2 l2.length l2) (hs1 : ∀ x ∈ l1, x.s.l.length < 140737488355328) (hl : l1.length ≤ 9223372036854775807) :
    Calls Try.prog 37 #[.slice A1 l1.length c1, .slice A2 l2.length c2] w fun e w' => e = .returned (.bool (decide (l1.map wrP = l2.map wrP))) ∧ Drawn0 w w' := by
  have HR1 := Aside0.mk h1
  have HR2 := Aside0.mk h2
  have HS1 := Aside0.mk hs1
  obtain ⟨n, hn⟩ : ∃ n, n = l1.length := ⟨_, rfl⟩
  obtain ⟨k, hk⟩ : ∃ n, n = l2.length := ⟨_, rfl⟩
  rw [← hn] at HR1 ⊢
  rw [← hk] at HR2 ⊢
  have HN := Aside0.mk hn
  have HK := Aside0.mk hk
  have hnl : n ≤ 9223372036854775807 := by omega
  clear h1 h2 hs1 hn hk hl
  obtain ⟨R, hR⟩ : ∃ R, R = decide (l1.map wrP = l2.map wrP) := ⟨_, rfl⟩
  have ER := Aside0.mk hR
  rw [← hR]
  clear hR
  by_cases hnk : n = k
  case neg =>
    have E0 : Aside0 (R = false) := ⟨by rw [ER.out, decide_eq_false_iff_not]; intro h; have := congrArg List.length h; simp only [List.length_map] at this; have h1_ := HN.out; have h2_ := HK.out; omega⟩
    have hi : ((n : Int) != k) = true := by simp; omega
    clear hnk
    go_enter Try.func37, Try.ntmps37
    go_wp2
    go_ret
    exact ⟨by rw [E0.out]; rfl, (by repeat (first | exact Drawn0.refl _ | apply Drawn0.step))⟩
  subst hnk
  have hi : ((n : Int) != n) = false := by simp
  have ET : Aside0 (R = decide ((l1.map wrP).take n = (l2.map wrP).take n)) := ⟨by rw [ER.out, decide_eq_decide, List.take_of_length_le (l := l1.map wrP) (by rw [List.length_map]; have := HN.out; omega), List.take_of_length_le (l := l2.map wrP) (by rw [List.length_map]; have := HK.out; omega)]⟩
  go_enter Try.func37, Try.ntmps37
  go_wp2
  go_loopw [5] (fun v5 w' => ∃ m : Nat, v5 = .int .i64 m ∧ Aside0 (m ≤ n) ∧ Aside0 ((l1.map wrP).take m = (l2.map wrP).take m) ∧ Aside0 (Drawn0 w w')) (fun v5 _ => n - (intOf v5).toNat)
  case atStart => exact ⟨0, rfl, ⟨by omega⟩, ⟨rfl⟩, ⟨(by repeat (first | exact Drawn0.refl _ | apply Drawn0.step))⟩⟩
  case round =>
    obtain ⟨m, rfl, hm, HT, HD⟩ := hrel
    have hm' := hm.out
    by_cases hlt : m < n
    · have hm1 : m < l1.length := by rw [← HN.out]; exact hlt
      have hm2 : m < l2.length := by rw [← HK.out]; exact hlt
      have hlt' : (m : Int) < n := by omega
      have hm0 : (0 : Int) ≤ m := by omega
      have hc1 : Kd.C kWr wr A1 n l1 := Kd.C_below HR1.out HD.out.below
      have hc2 : Kd.C kWr wr A2 n l2 := Kd.C_below HR2.out HD.out.below
      have EN : Aside0 ((l1.map wrP).take (m + 1) = (l2.map wrP).take (m + 1) ↔ wrP l1[m] = wrP l2[m]) := ⟨by
        rw [take_succ_eq (by rw [List.length_map]; exact hm1) (by rw [List.length_map]; exact hm2), List.getElem_map, List.getElem_map]
        exact ⟨fun h => h.2, fun h => ⟨HT.out, h⟩⟩⟩
      have EX : Aside0 (wrP l1[m] ≠ wrP l2[m] → R = false) := ⟨fun h => by
        rw [ER.out, decide_eq_false_iff_not]
        intro h2
        exact h (EN.out.1 (by rw [h2]))⟩
      obtain ⟨a1, rfl, hx, hxs⟩ := at_wrA hc1 hm1
      obtain ⟨a2, rfl, hy, hys⟩ := at_wrA hc2 hm2
      have HCX := Aside0.mk (at_wr hc1 hm1).choose_spec.2.2.1
      have HCY := Aside0.mk (at_wr hc2 hm2).choose_spec.2.2.1
      have HSX := Aside0.mk (HS1.out l1[m] (List.getElem_mem hm1))
      obtain ⟨x, hxx⟩ : ∃ x, x = l1[m] := ⟨_, rfl⟩
      obtain ⟨y, hyy⟩ : ∃ x, x = l2[m] := ⟨_, rfl⟩
      rw [← hxx] at hx hxs HCX EN EX HSX
      rw [← hyy] at hy hys HCY EN EX
      obtain ⟨xn, hxn⟩ : ∃ xn, xn = x.s.l.length := ⟨_, rfl⟩
      obtain ⟨yn, hyn⟩ : ∃ xn, xn = y.s.l.length := ⟨_, rfl⟩
      have x0 := hx _ rfl
      have x1 := hxs 0 (.slice x.s.A xn x.s.c) (by rw [hxn]; rfl)
      have y0 := hy _ rfl
      have y1 := hys 0 (.slice y.s.A yn y.s.c) (by rw [hyn]; rfl)
      have WS : Aside0 (∀ W, Kd.C (Kd.int .u8) W x.s.A x.s.l.length x.s.l → Kd.C (Kd.int .u8) W y.s.A y.s.l.length y.s.l → Calls Try.prog 76 #[.slice x.s.A xn x.s.c, .slice y.s.A yn y.s.c] W fun e w' => e = .returned (.bool (decide (x.s.l = y.s.l))) ∧ Drawn0 W w') := ⟨fun W h1 h2 => by rw [hxn, hyn]; exact rSame_walk _ _ _ _ _ _ W h1 h2 HSX.out⟩
      have hdx : Aside0 (∀ n, Drawn0 w (wr.drewN n)) := ⟨fun n => HD.out.step n⟩
      clear hx hxs hy hys hxx hyy hxn hyn hc1 hc2
      by_cases hat : x.at_ = y.at_
      case neg =>
        have hib : (x.at_ != y.at_) = true := by simp [hat]
        have E0 : Aside0 (R = false) := ⟨EX.out (fun h => hat (congrArg Prod.fst h))⟩
        clear hat
        go_wp2
        refine start_ (n := 25) (S := fun w' => w'.cell? (a1.add (m * 2)) = some (.int .i64 x.at_) ∧ w'.cell? (a2.add (m * 2)) = some (.int .i64 y.at_)) (ds := []) #[false, false, false, false, false, false, false, false, false, false, false, false, false, false, false, false, false, false, false, false, false, false, false, false, false] (by kernel_rfl) rfl rfl ⟨(show (wr.drew).cell? _ = _ from x0), (show (wr.drew).cell? _ = _ from y0)⟩ (fun hHeld => ?_)
        refine pure_ (i := 0) (N := some 17) (v := ?_) (a' := ?_) #[true, false, false, false, false, false, false, false, false, false, false, false, false, false, false, false, false, false, false, false, false, false, false, false, false] rfl rfl (by kernel_rfl) (fun _ _ _ h => h) (Or.inl ⟨by rfl, ?_⟩) ?_ ?_
        rotate_left
        · intro w'
          go_simp
          with_reducible rfl
        rotate_left
        · simp only [Act.put, List.setIfInBounds_toArray, List.set_cons_zero, List.set_cons_succ, i64_w, i32_w]
          rfl
        refine pure_ (i := 1) (N := some 18) (v := ?_) (a' := ?_) #[true, true, false, false, false, false, false, false, false, false, false, false, false, false, false, false, false, false, false, false, false, false, false, false, false] rfl rfl (by kernel_rfl) (fun _ _ _ h => h) (Or.inl ⟨by rfl, ?_⟩) ?_ ?_
        rotate_left
        · intro w'
          go_simp
          with_reducible rfl
        rotate_left
        · simp only [Act.put, List.setIfInBounds_toArray, List.set_cons_zero, List.set_cons_succ, i64_w, i32_w]
          rfl
        refine pure_ (i := 2) (N := some 19) (v := ?_) (a' := ?_) #[true, true, true, false, false, false, false, false, false, false, false, false, false, false, false, false, false, false, false, false, false, false, false, false, false] rfl rfl (by kernel_rfl) (fun _ _ _ h => h) (Or.inl ⟨by rfl, ?_⟩) ?_ ?_
        rotate_left
        · intro w'
          go_simp
          with_reducible rfl
        rotate_left
        · simp only [Act.put, List.setIfInBounds_toArray, List.set_cons_zero, List.set_cons_succ, i64_w, i32_w]
          rfl
        refine pure_ (i := 3) (N := some 20) (v := ?_) (a' := ?_) #[true, true, true, true, false, false, false, false, false, false, false, false, false, false, false, false, false, false, false, false, false, false, false, false, false] rfl rfl (by kernel_rfl) (fun _ _ _ h => h) (Or.inl ⟨by rfl, ?_⟩) ?_ ?_
        rotate_left
        · intro w'
          go_simp
          with_reducible rfl
        rotate_left
        · simp only [Act.put, List.setIfInBounds_toArray, List.set_cons_zero, List.set_cons_succ, i64_w, i32_w]
          rfl
        refine pure_ (i := 5) (N := some 22) (v := ?_) (a' := ?_) #[true, true, true, true, false, true, false, false, false, false, false, false, false, false, false, false, false, false, false, false, false, false, false, false, false] rfl rfl (by kernel_rfl) (fun _ _ _ h => h) (Or.inl ⟨by rfl, ?_⟩) ?_ ?_
        rotate_left
        · intro w'
          go_simp
          with_reducible rfl
        rotate_left
        · simp only [Act.put, List.setIfInBounds_toArray, List.set_cons_zero, List.set_cons_succ, i64_w, i32_w]
          rfl
        refine pure_ (i := 6) (N := some 23) (v := ?_) (a' := ?_) #[true, true, true, true, false, true, true, false, false, false, false, false, false, false, false, false, false, false, false, false, false, false, false, false, false] rfl rfl (by kernel_rfl) (fun _ _ _ h => h) (Or.inl ⟨by rfl, ?_⟩) ?_ ?_
        rotate_left
        · intro w'
          go_simp
          with_reducible rfl
        rotate_left
        · simp only [Act.put, List.setIfInBounds_toArray, List.set_cons_zero, List.set_cons_succ, i64_w, i32_w]
          rfl
        refine pure_ (i := 7) (N := some 24) (v := ?_) (a' := ?_) #[true, true, true, true, false, true, true, true, false, false, false, false, false, false, false, false, false, false, false, false, false, false, false, false, false] rfl rfl (by kernel_rfl) (fun _ _ _ h => h) (Or.inl ⟨by rfl, ?_⟩) ?_ ?_
        rotate_left
        · intro w'
          go_simp
          with_reducible rfl
        rotate_left
        · simp only [Act.put, List.setIfInBounds_toArray, List.set_cons_zero, List.set_cons_succ, i64_w, i32_w]
          rfl
        refine pure_ (i := 8) (N := some 25) (v := ?_) (a' := ?_) #[true, true, true, true, false, true, true, true, true, false, false, false, false, false, false, false, false, false, false, false, false, false, false, false, false] rfl rfl (by kernel_rfl) (fun _ _ _ h => h) (Or.inl ⟨by rfl, ?_⟩) ?_ ?_
        rotate_left
        · intro w'
          go_simp
          with_reducible rfl
        rotate_left
        · simp only [Act.put, List.setIfInBounds_toArray, List.set_cons_zero, List.set_cons_succ, i64_w, i32_w]
          rfl
        refine take_ (i := 4) (N := some 21) (v := ?_) (a' := ?_) #[true, true, true, true, true, true, true, true, true, false, false, false, false, false, false, false, false, false, false, false, false, false, false, false, false] rfl rfl (by kernel_rfl) (fun _ _ _ h => h) (Or.inl ⟨by rfl, ?_⟩) hHeld ?_ ?_
        rotate_left
        · rintro w' ⟨s0, s1⟩
          go_simp
          with_reducible rfl
        rotate_left
        · simp only [Act.put, List.setIfInBounds_toArray, List.set_cons_zero, List.set_cons_succ, i64_w, i32_w]
          rfl
        refine take_ (i := 9) (N := some 26) (v := ?_) (a' := ?_) #[true, true, true, true, true, true, true, true, true, true, false, false, false, false, false, false, false, false, false, false, false, false, false, false, false] rfl rfl (by kernel_rfl) (fun _ _ _ h => h) (Or.inl ⟨by rfl, ?_⟩) hHeld ?_ ?_
        rotate_left
        · rintro w' ⟨s0, s1⟩
          go_simp
          with_reducible rfl
        rotate_left
        · simp only [Act.put, List.setIfInBounds_toArray, List.set_cons_zero, List.set_cons_succ, i64_w, i32_w]
          rfl
        refine pure_ (i := 10) (N := some 27) (v := ?_) (a' := ?_) #[true, true, true, true, true, true, true, true, true, true, true, false, false, false, false, false, false, false, false, false, false, false, false, false, false] rfl rfl (by kernel_rfl) (fun _ _ _ h => h) (Or.inl ⟨by rfl, ?_⟩) ?_ ?_
        rotate_left
        · intro w'
          go_simp
          with_reducible rfl
        rotate_left
        · simp only [Act.put, List.setIfInBounds_toArray, List.set_cons_zero, List.set_cons_succ, i64_w, i32_w]
          rfl
        refine pure_ (i := 11) (N := some 28) (v := ?_) (a' := ?_) #[true, true, true, true, true, true, true, true, true, true, true, true, false, false, false, false, false, false, false, false, false, false, false, false, false] rfl rfl (by kernel_rfl) (fun _ _ _ h => h) (Or.inl ⟨by rfl, ?_⟩) ?_ ?_
        rotate_left
        · intro w'
          go_simp
          with_reducible rfl
        rotate_left
        · simp only [Act.put, List.setIfInBounds_toArray, List.set_cons_zero, List.set_cons_succ, i64_w, i32_w]
          rfl
        refine pure_ (i := 12) (N := some 29) (v := undef) (a' := ?_) #[true, true, true, true, true, true, true, true, true, true, true, true, true, false, false, false, false, false, false, false, false, false, false, false, false] rfl rfl (by kernel_rfl) (fun _ _ _ h => h) (Or.inr ⟨by rfl, rfl⟩) ?_ ?_
        rotate_left
        · simp only [Act.put, List.setIfInBounds_toArray, List.set_cons_zero, List.set_cons_succ, i64_w, i32_w]
          rfl
        refine pure_ (i := 13) (N := some 30) (v := undef) (a' := ?_) #[true, true, true, true, true, true, true, true, true, true, true, true, true, true, false, false, false, false, false, false, false, false, false, false, false] rfl rfl (by kernel_rfl) (fun _ _ _ h => h) (Or.inr ⟨by rfl, rfl⟩) ?_ ?_
        rotate_left
        · simp only [Act.put, List.setIfInBounds_toArray, List.set_cons_zero, List.set_cons_succ, i64_w, i32_w]
          rfl
        refine pure_ (i := 14) (N := some 31) (v := undef) (a' := ?_) #[true, true, true, true, true, true, true, true, true, true, true, true, true, true, true, false, false, false, false, false, false, false, false, false, false] rfl rfl (by kernel_rfl) (fun _ _ _ h => h) (Or.inr ⟨by rfl, rfl⟩) ?_ ?_
        rotate_left
        · simp only [Act.put, List.setIfInBounds_toArray, List.set_cons_zero, List.set_cons_succ, i64_w, i32_w]
          rfl
        refine pure_ (i := 15) (N := some 32) (v := undef) (a' := ?_) #[true, true, true, true, true, true, true, true, true, true, true, true, true, true, true, true, false, false, false, false, false, false, false, false, false] rfl rfl (by kernel_rfl) (fun _ _ _ h => h) (Or.inr ⟨by rfl, rfl⟩) ?_ ?_
        rotate_left
        · simp only [Act.put, List.setIfInBounds_toArray, List.set_cons_zero, List.set_cons_succ, i64_w, i32_w]
          rfl
        refine pure_ (i := 16) (N := some 33) (v := undef) (a' := ?_) #[true, true, true, true, true, true, true, true, true, true, true, true, true, true, true, true, true, false, false, false, false, false, false, false, false] rfl rfl (by kernel_rfl) (fun _ _ _ h => h) (Or.inr ⟨by rfl, rfl⟩) ?_ ?_
        rotate_left
        · simp only [Act.put, List.setIfInBounds_toArray, List.set_cons_zero, List.set_cons_succ, i64_w, i32_w]
          rfl
        refine pure_ (i := 17) (N := some 34) (v := undef) (a' := ?_) #[true, true, true, true, true, true, true, true, true, true, true, true, true, true, true, true, true, true, false, false, false, false, false, false, false] rfl rfl (by kernel_rfl) (fun _ _ _ h => h) (Or.inr ⟨by rfl, rfl⟩) ?_ ?_
        rotate_left
        · simp only [Act.put, List.setIfInBounds_toArray, List.set_cons_zero, List.set_cons_succ, i64_w, i32_w]
          rfl
        refine pure_ (i := 18) (N := some 35) (v := undef) (a' := ?_) #[true, true, true, true, true, true, true, true, true, true, true, true, true, true, true, true, true, true, true, false, false, false, false, false, false] rfl rfl (by kernel_rfl) (fun _ _ _ h => h) (Or.inr ⟨by rfl, rfl⟩) ?_ ?_
        rotate_left
        · simp only [Act.put, List.setIfInBounds_toArray, List.set_cons_zero, List.set_cons_succ, i64_w, i32_w]
          rfl
        refine pure_ (i := 19) (N := some 36) (v := undef) (a' := ?_) #[true, true, true, true, true, true, true, true, true, true, true, true, true, true, true, true, true, true, true, true, false, false, false, false, false] rfl rfl (by kernel_rfl) (fun _ _ _ h => h) (Or.inr ⟨by rfl, rfl⟩) ?_ ?_
        rotate_left
        · simp only [Act.put, List.setIfInBounds_toArray, List.set_cons_zero, List.set_cons_succ, i64_w, i32_w]
          rfl
        refine pure_ (i := 20) (N := some 37) (v := undef) (a' := ?_) #[true, true, true, true, true, true, true, true, true, true, true, true, true, true, true, true, true, true, true, true, true, false, false, false, false] rfl rfl (by kernel_rfl) (fun _ _ _ h => h) (Or.inr ⟨by rfl, rfl⟩) ?_ ?_
        rotate_left
        · simp only [Act.put, List.setIfInBounds_toArray, List.set_cons_zero, List.set_cons_succ, i64_w, i32_w]
          rfl
        refine pure_ (i := 21) (N := some 38) (v := undef) (a' := ?_) #[true, true, true, true, true, true, true, true, true, true, true, true, true, true, true, true, true, true, true, true, true, true, false, false, false] rfl rfl (by kernel_rfl) (fun _ _ _ h => h) (Or.inr ⟨by rfl, rfl⟩) ?_ ?_
        rotate_left
        · simp only [Act.put, List.setIfInBounds_toArray, List.set_cons_zero, List.set_cons_succ, i64_w, i32_w]
          rfl
        refine pure_ (i := 22) (N := some 39) (v := undef) (a' := ?_) #[true, true, true, true, true, true, true, true, true, true, true, true, true, true, true, true, true, true, true, true, true, true, true, false, false] rfl rfl (by kernel_rfl) (fun _ _ _ h => h) (Or.inr ⟨by rfl, rfl⟩) ?_ ?_
        rotate_left
        · simp only [Act.put, List.setIfInBounds_toArray, List.set_cons_zero, List.set_cons_succ, i64_w, i32_w]
          rfl
        refine pure_ (i := 23) (N := some 40) (v := undef) (a' := ?_) #[true, true, true, true, true, true, true, true, true, true, true, true, true, true, true, true, true, true, true, true, true, true, true, true, false] rfl rfl (by kernel_rfl) (fun _ _ _ h => h) (Or.inr ⟨by rfl, rfl⟩) ?_ ?_
        rotate_left
        · simp only [Act.put, List.setIfInBounds_toArray, List.set_cons_zero, List.set_cons_succ, i64_w, i32_w]
          rfl
        refine pure_ (i := 24) (N := some 41) (v := ?_) (a' := ?_) #[true, true, true, true, true, true, true, true, true, true, true, true, true, true, true, true, true, true, true, true, true, true, true, true, true] rfl rfl (by kernel_rfl) (fun _ _ _ h => h) (Or.inl ⟨by rfl, ?_⟩) ?_ ?_
        rotate_left
        · intro w'
          go_simp
          with_reducible rfl
        rotate_left
        · simp only [Act.put, List.setIfInBounds_toArray, List.set_cons_zero, List.set_cons_succ, i64_w, i32_w]
          rfl
        refine done_ (by kernel_rfl) ?_
        clear hHeld
        refine go_on40 ?_
        go_wp2
        go_ret
        exact ⟨by rw [E0.out]; rfl, hdx.out 1⟩
      have hib : (x.at_ != y.at_) = false := by simp [hat]
      rw [← hat] at y0
      by_cases hl : x.s.l = y.s.l
      case neg =>
        have E0 : Aside0 (R = false) := ⟨EX.out (fun h => hl (congrArg Prod.snd h))⟩
        rw [decide_eq_false hl] at WS
        clear hat hl
        go_wp2
        refine start_ (n := 25) (S := fun w' => w'.cell? (a1.add (m * 2)) = some (.int .i64 x.at_) ∧ w'.cell? (a2.add (m * 2)) = some (.int .i64 x.at_) ∧ w'.cell? ⟨(a1.add (m * 2)).block, (a1.add (m * 2)).off + 1, none⟩ = some (.slice x.s.A xn x.s.c) ∧ w'.cell? ⟨(a2.add (m * 2)).block, (a2.add (m * 2)).off + 1, none⟩ = some (.slice y.s.A yn y.s.c)) (ds := []) #[false, false, false, false, false, false, false, false, false, false, false, false, false, false, false, false, false, false, false, false, false, false, false, false, false] (by kernel_rfl) rfl rfl ⟨(show (wr.drew).cell? _ = _ from x0), (show (wr.drew).cell? _ = _ from y0), (show (wr.drew).cell? _ = _ from x1), (show (wr.drew).cell? _ = _ from y1)⟩ (fun hHeld => ?_)
        refine pure_ (i := 0) (N := some 17) (v := ?_) (a' := ?_) #[true, false, false, false, false, false, false, false, false, false, false, false, false, false, false, false, false, false, false, false, false, false, false, false, false] rfl rfl (by kernel_rfl) (fun _ _ _ h => h) (Or.inl ⟨by rfl, ?_⟩) ?_ ?_
        rotate_left
        · intro w'
          go_simp
          with_reducible rfl
        rotate_left
        · simp only [Act.put, List.setIfInBounds_toArray, List.set_cons_zero, List.set_cons_succ, i64_w, i32_w]
          rfl
        refine pure_ (i := 1) (N := some 18) (v := ?_) (a' := ?_) #[true, true, false, false, false, false, false, false, false, false, false, false, false, false, false, false, false, false, false, false, false, false, false, false, false] rfl rfl (by kernel_rfl) (fun _ _ _ h => h) (Or.inl ⟨by rfl, ?_⟩) ?_ ?_
        rotate_left
        · intro w'
          go_simp
          with_reducible rfl
        rotate_left
        · simp only [Act.put, List.setIfInBounds_toArray, List.set_cons_zero, List.set_cons_succ, i64_w, i32_w]
          rfl
        refine pure_ (i := 2) (N := some 19) (v := ?_) (a' := ?_) #[true, true, true, false, false, false, false, false, false, false, false, false, false, false, false, false, false, false, false, false, false, false, false, false, false] rfl rfl (by kernel_rfl) (fun _ _ _ h => h) (Or.inl ⟨by rfl, ?_⟩) ?_ ?_
        rotate_left
        · intro w'
          go_simp
          with_reducible rfl
        rotate_left
        · simp only [Act.put, List.setIfInBounds_toArray, List.set_cons_zero, List.set_cons_succ, i64_w, i32_w]
          rfl
        refine pure_ (i := 3) (N := some 20) (v := ?_) (a' := ?_) #[true, true, true, true, false, false, false, false, false, false, false, false, false, false, false, false, false, false, false, false, false, false, false, false, false] rfl rfl (by kernel_rfl) (fun _ _ _ h => h) (Or.inl ⟨by rfl, ?_⟩) ?_ ?_
        rotate_left
        · intro w'
          go_simp
          with_reducible rfl
        rotate_left
        · simp only [Act.put, List.setIfInBounds_toArray, List.set_cons_zero, List.set_cons_succ, i64_w, i32_w]
          rfl
        refine pure_ (i := 5) (N := some 22) (v := ?_) (a' := ?_) #[true, true, true, true, false, true, false, false, false, false, false, false, false, false, false, false, false, false, false, false, false, false, false, false, false] rfl rfl (by kernel_rfl) (fun _ _ _ h => h) (Or.inl ⟨by rfl, ?_⟩) ?_ ?_
        rotate_left
        · intro w'
          go_simp
          with_reducible rfl
        rotate_left
        · simp only [Act.put, List.setIfInBounds_toArray, List.set_cons_zero, List.set_cons_succ, i64_w, i32_w]
          rfl
        refine pure_ (i := 6) (N := some 23) (v := ?_) (a' := ?_) #[true, true, true, true, false, true, true, false, false, false, false, false, false, false, false, false, false, false, false, false, false, false, false, false, false] rfl rfl (by kernel_rfl) (fun _ _ _ h => h) (Or.inl ⟨by rfl, ?_⟩) ?_ ?_
        rotate_left
        · intro w'
          go_simp
          with_reducible rfl
        rotate_left
        · simp only [Act.put, List.setIfInBounds_toArray, List.set_cons_zero, List.set_cons_succ, i64_w, i32_w]
          rfl
        refine pure_ (i := 7) (N := some 24) (v := ?_) (a' := ?_) #[true, true, true, true, false, true, true, true, false, false, false, false, false, false, false, false, false, false, false, false, false, false, false, false, false] rfl rfl (by kernel_rfl) (fun _ _ _ h => h) (Or.inl ⟨by rfl, ?_⟩) ?_ ?_
        rotate_left
        · intro w'
          go_simp
          with_reducible rfl
        rotate_left
        · simp only [Act.put, List.setIfInBounds_toArray, List.set_cons_zero, List.set_cons_succ, i64_w, i32_w]
          rfl
        refine pure_ (i := 8) (N := some 25) (v := ?_) (a' := ?_) #[true, true, true, true, false, true, true, true, true, false, false, false, false, false, false, false, false, false, false, false, false, false, false, false, false] rfl rfl (by kernel_rfl) (fun _ _ _ h => h) (Or.inl ⟨by rfl, ?_⟩) ?_ ?_
        rotate_left
        · intro w'
          go_simp
          with_reducible rfl
        rotate_left
        · simp only [Act.put, List.setIfInBounds_toArray, List.set_cons_zero, List.set_cons_succ, i64_w, i32_w]
          rfl
        refine take_ (i := 4) (N := some 21) (v := ?_) (a' := ?_) #[true, true, true, true, true, true, true, true, true, false, false, false, false, false, false, false, false, false, false, false, false, false, false, false, false] rfl rfl (by kernel_rfl) (fun _ _ _ h => h) (Or.inl ⟨by rfl, ?_⟩) hHeld ?_ ?_
        rotate_left
        · rintro w' ⟨s0, s1, s2, s3⟩
          go_simp
          with_reducible rfl
        rotate_left
        · simp only [Act.put, List.setIfInBounds_toArray, List.set_cons_zero, List.set_cons_succ, i64_w, i32_w]
          rfl
        refine take_ (i := 9) (N := some 26) (v := ?_) (a' := ?_) #[true, true, true, true, true, true, true, true, true, true, false, false, false, false, false, false, false, false, false, false, false, false, false, false, false] rfl rfl (by kernel_rfl) (fun _ _ _ h => h) (Or.inl ⟨by rfl, ?_⟩) hHeld ?_ ?_
        rotate_left
        · rintro w' ⟨s0, s1, s2, s3⟩
          go_simp
          with_reducible rfl
        rotate_left
        · simp only [Act.put, List.setIfInBounds_toArray, List.set_cons_zero, List.set_cons_succ, i64_w, i32_w]
          rfl
        refine pure_ (i := 10) (N := some 27) (v := ?_) (a' := ?_) #[true, true, true, true, true, true, true, true, true, true, true, false, false, false, false, false, false, false, false, false, false, false, false, false, false] rfl rfl (by kernel_rfl) (fun _ _ _ h => h) (Or.inl ⟨by rfl, ?_⟩) ?_ ?_
        rotate_left
        · intro w'
          go_simp
          with_reducible rfl
        rotate_left
        · simp only [Act.put, List.setIfInBounds_toArray, List.set_cons_zero, List.set_cons_succ, i64_w, i32_w]
          rfl
        refine pure_ (i := 11) (N := some 28) (v := ?_) (a' := ?_) #[true, true, true, true, true, true, true, true, true, true, true, true, false, false, false, false, false, false, false, false, false, false, false, false, false] rfl rfl (by kernel_rfl) (fun _ _ _ h => h) (Or.inl ⟨by rfl, ?_⟩) ?_ ?_
        rotate_left
        · intro w'
          go_simp
          with_reducible rfl
        rotate_left
        · simp only [Act.put, List.setIfInBounds_toArray, List.set_cons_zero, List.set_cons_succ, i64_w, i32_w]
          rfl
        refine pure_ (i := 12) (N := some 29) (v := ?_) (a' := ?_) #[true, true, true, true, true, true, true, true, true, true, true, true, true, false, false, false, false, false, false, false, false, false, false, false, false] rfl rfl (by kernel_rfl) (fun _ _ _ h => h) (Or.inl ⟨by rfl, ?_⟩) ?_ ?_
        rotate_left
        · intro w'
          go_simp
          with_reducible rfl
        rotate_left
        · simp only [Act.put, List.setIfInBounds_toArray, List.set_cons_zero, List.set_cons_succ, i64_w, i32_w]
          rfl
        refine pure_ (i := 13) (N := some 30) (v := ?_) (a' := ?_) #[true, true, true, true, true, true, true, true, true, true, true, true, true, true, false, false, false, false, false, false, false, false, false, false, false] rfl rfl (by kernel_rfl) (fun _ _ _ h => h) (Or.inl ⟨by rfl, ?_⟩) ?_ ?_
        rotate_left
        · intro w'
          go_simp
          with_reducible rfl
        rotate_left
        · simp only [Act.put, List.setIfInBounds_toArray, List.set_cons_zero, List.set_cons_succ, i64_w, i32_w]
          rfl
        refine pure_ (i := 14) (N := some 31) (v := ?_) (a' := ?_) #[true, true, true, true, true, true, true, true, true, true, true, true, true, true, true, false, false, false, false, false, false, false, false, false, false] rfl rfl (by kernel_rfl) (fun _ _ _ h => h) (Or.inl ⟨by rfl, ?_⟩) ?_ ?_
        rotate_left
        · intro w'
          go_simp
          with_reducible rfl
        rotate_left
        · simp only [Act.put, List.setIfInBounds_toArray, List.set_cons_zero, List.set_cons_succ, i64_w, i32_w]
          rfl
        refine pure_ (i := 15) (N := some 32) (v := ?_) (a' := ?_) #[true, true, true, true, true, true, true, true, true, true, true, true, true, true, true, true, false, false, false, false, false, false, false, false, false] rfl rfl (by kernel_rfl) (fun _ _ _ h => h) (Or.inl ⟨by rfl, ?_⟩) ?_ ?_
        rotate_left
        · intro w'
          go_simp
          with_reducible rfl
        rotate_left
        · simp only [Act.put, List.setIfInBounds_toArray, List.set_cons_zero, List.set_cons_succ, i64_w, i32_w]
          rfl
        refine pure_ (i := 17) (N := some 34) (v := ?_) (a' := ?_) #[true, true, true, true, true, true, true, true, true, true, true, true, true, true, true, true, false, true, false, false, false, false, false, false, false] rfl rfl (by kernel_rfl) (fun _ _ _ h => h) (Or.inl ⟨by rfl, ?_⟩) ?_ ?_
        rotate_left
        · intro w'
          go_simp
          with_reducible rfl
        rotate_left
        · simp only [Act.put, List.setIfInBounds_toArray, List.set_cons_zero, List.set_cons_succ, i64_w, i32_w]
          rfl
        refine pure_ (i := 18) (N := some 35) (v := ?_) (a' := ?_) #[true, true, true, true, true, true, true, true, true, true, true, true, true, true, true, true, false, true, true, false, false, false, false, false, false] rfl rfl (by kernel_rfl) (fun _ _ _ h => h) (Or.inl ⟨by rfl, ?_⟩) ?_ ?_
        rotate_left
        · intro w'
          go_simp
          with_reducible rfl
        rotate_left
        · simp only [Act.put, List.setIfInBounds_toArray, List.set_cons_zero, List.set_cons_succ, i64_w, i32_w]
          rfl
        refine pure_ (i := 19) (N := some 36) (v := ?_) (a' := ?_) #[true, true, true, true, true, true, true, true, true, true, true, true, true, true, true, true, false, true, true, true, false, false, false, false, false] rfl rfl (by kernel_rfl) (fun _ _ _ h => h) (Or.inl ⟨by rfl, ?_⟩) ?_ ?_
        rotate_left
        · intro w'
          go_simp
          with_reducible rfl
        rotate_left
        · simp only [Act.put, List.setIfInBounds_toArray, List.set_cons_zero, List.set_cons_succ, i64_w, i32_w]
          rfl
        refine pure_ (i := 20) (N := some 37) (v := ?_) (a' := ?_) #[true, true, true, true, true, true, true, true, true, true, true, true, true, true, true, true, false, true, true, true, true, false, false, false, false] rfl rfl (by kernel_rfl) (fun _ _ _ h => h) (Or.inl ⟨by rfl, ?_⟩) ?_ ?_
        rotate_left
        · intro w'
          go_simp
          with_reducible rfl
        rotate_left
        · simp only [Act.put, List.setIfInBounds_toArray, List.set_cons_zero, List.set_cons_succ, i64_w, i32_w]
          rfl
        refine take_ (i := 16) (N := some 33) (v := ?_) (a' := ?_) #[true, true, true, true, true, true, true, true, true, true, true, true, true, true, true, true, true, true, true, true, true, false, false, false, false] rfl rfl (by kernel_rfl) (fun _ _ _ h => h) (Or.inl ⟨by rfl, ?_⟩) hHeld ?_ ?_
        rotate_left
        · rintro w' ⟨s0, s1, s2, s3⟩
          go_simp
          with_reducible rfl
        rotate_left
        · simp only [Act.put, List.setIfInBounds_toArray, List.set_cons_zero, List.set_cons_succ, i64_w, i32_w]
          rfl
        refine take_ (i := 21) (N := some 38) (v := ?_) (a' := ?_) #[true, true, true, true, true, true, true, true, true, true, true, true, true, true, true, true, true, true, true, true, true, true, false, false, false] rfl rfl (by kernel_rfl) (fun _ _ _ h => h) (Or.inl ⟨by rfl, ?_⟩) hHeld ?_ ?_
        rotate_left
        · rintro w' ⟨s0, s1, s2, s3⟩
          go_simp
          with_reducible rfl
        rotate_left
        · simp only [Act.put, List.setIfInBounds_toArray, List.set_cons_zero, List.set_cons_succ, i64_w, i32_w]
          rfl
        refine one_ (i := 22) (N := some 39) #[true, true, true, true, true, true, true, true, true, true, true, true, true, true, true, true, true, true, true, true, true, true, true, false, false] rfl rfl (by kernel_rfl) (by decide) (fun K hK => ?_)
        refine goes_ Try.func76 (by kernel_rfl) rfl #[.slice x.s.A xn x.s.c, .slice y.s.A yn y.s.c] (by rfl) rfl rfl (by simp only [List.map_toArray, List.map_cons, List.map_nil]; rfl) ?_
        with_reducible refine (WS.out wr.drew (Kd.C_drew HCX.out) (Kd.C_drew HCY.out)).mono ?_
        rintro e w5 ⟨rfl, ⟨nd, rfl⟩⟩
        refine ⟨_, rfl, ?_⟩
        refine hK.out _ _ ⟨(show (wr.drew).cell? _ = _ from x0), (show (wr.drew).cell? _ = _ from y0), (show (wr.drew).cell? _ = _ from x1), (show (wr.drew).cell? _ = _ from y1)⟩ (fun hHeld => ?_)
        clear hK K
        refine norm_ (a' := ?_) ?_ ?_
        rotate_left
        · show Act.put _ (some 39) _ = _
          simp only [Act.put, List.setIfInBounds_toArray, List.set_cons_zero, List.set_cons_succ, i64_w, i32_w]
          rfl
        refine pure_ (i := 23) (N := some 40) (v := ?_) (a' := ?_) #[true, true, true, true, true, true, true, true, true, true, true, true, true, true, true, true, true, true, true, true, true, true, true, true, false] rfl rfl (by kernel_rfl) (fun _ _ _ h => h) (Or.inl ⟨by rfl, ?_⟩) ?_ ?_
        rotate_left
        · intro w'
          go_simp
          with_reducible rfl
        rotate_left
        · simp only [Act.put, List.setIfInBounds_toArray, List.set_cons_zero, List.set_cons_succ, i64_w, i32_w]
          rfl
        refine pure_ (i := 24) (N := some 41) (v := ?_) (a' := ?_) #[true, true, true, true, true, true, true, true, true, true, true, true, true, true, true, true, true, true, true, true, true, true, true, true, true] rfl rfl (by kernel_rfl) (fun _ _ _ h => h) (Or.inl ⟨by rfl, ?_⟩) ?_ ?_
        rotate_left
        · intro w'
          go_simp
          with_reducible rfl
        rotate_left
        · simp only [Act.put, List.setIfInBounds_toArray, List.set_cons_zero, List.set_cons_succ, i64_w, i32_w]
          rfl
        refine done_ (by kernel_rfl) ?_
        clear hHeld
        refine go_on40 ?_
        go_wp2
        go_ret
        exact ⟨by rw [E0.out]; rfl, (hdx.out 1).step nd⟩
      have HT2 : Aside0 ((l1.map wrP).take (m + 1) = (l2.map wrP).take (m + 1)) := ⟨EN.out.2 (by show (x.at_, x.s.l) = (y.at_, y.s.l); rw [hat, hl])⟩
      rw [decide_eq_true hl] at WS
      clear hat hl
      go_wp2
      refine start_ (n := 25) (S := fun w' => w'.cell? (a1.add (m * 2)) = some (.int .i64 x.at_) ∧ w'.cell? (a2.add (m * 2)) = some (.int .i64 x.at_) ∧ w'.cell? ⟨(a1.add (m * 2)).block, (a1.add (m * 2)).off + 1, none⟩ = some (.slice x.s.A xn x.s.c) ∧ w'.cell? ⟨(a2.add (m * 2)).block, (a2.add (m * 2)).off + 1, none⟩ = some (.slice y.s.A yn y.s.c)) (ds := []) #[false, false, false, false, false, false, false, false, false, false, false, false, false, false, false, false, false, false, false, false, false, false, false, false, false] (by kernel_rfl) rfl rfl ⟨(show (wr.drew).cell? _ = _ from x0), (show (wr.drew).cell? _ = _ from y0), (show (wr.drew).cell? _ = _ from x1), (show (wr.drew).cell? _ = _ from y1)⟩ (fun hHeld => ?_)
      refine pure_ (i := 0) (N := some 17) (v := ?_) (a' := ?_) #[true, false, false, false, false, false, false, false, false, false, false, false, false, false, false, false, false, false, false, false, false, false, false, false, false] rfl rfl (by kernel_rfl) (fun _ _ _ h => h) (Or.inl ⟨by rfl, ?_⟩) ?_ ?_
      rotate_left
      · intro w'
        go_simp
        with_reducible rfl
      rotate_left
      · simp only [Act.put, List.setIfInBounds_toArray, List.set_cons_zero, List.set_cons_succ, i64_w, i32_w]
        rfl
      refine pure_ (i := 1) (N := some 18) (v := ?_) (a' := ?_) #[true, true, false, false, false, false, false, false, false, false, false, false, false, false, false, false, false, false, false, false, false, false, false, false, false] rfl rfl (by kernel_rfl) (fun _ _ _ h => h) (Or.inl ⟨by rfl, ?_⟩) ?_ ?_
      rotate_left
      · intro w'
        go_simp
        with_reducible rfl
      rotate_left
      · simp only [Act.put, List.setIfInBounds_toArray, List.set_cons_zero, List.set_cons_succ, i64_w, i32_w]
        rfl
      refine pure_ (i := 2) (N := some 19) (v := ?_) (a' := ?_) #[true, true, true, false, false, false, false, false, false, false, false, false, false, false, false, false, false, false, false, false, false, false, false, false, false] rfl rfl (by kernel_rfl) (fun _ _ _ h => h) (Or.inl ⟨by rfl, ?_⟩) ?_ ?_
      rotate_left
      · intro w'
        go_simp
        with_reducible rfl
      rotate_left
      · simp only [Act.put, List.setIfInBounds_toArray, List.set_cons_zero, List.set_cons_succ, i64_w, i32_w]
        rfl
      refine pure_ (i := 3) (N := some 20) (v := ?_) (a' := ?_) #[true, true, true, true, false, false, false, false, false, false, false, false, false, false, false, false, false, false, false, false, false, false, false, false, false] rfl rfl (by kernel_rfl) (fun _ _ _ h => h) (Or.inl ⟨by rfl, ?_⟩) ?_ ?_
      rotate_left
      · intro w'
        go_simp
        with_reducible rfl
      rotate_left
      · simp only [Act.put, List.setIfInBounds_toArray, List.set_cons_zero, List.set_cons_succ, i64_w, i32_w]
        rfl
      refine pure_ (i := 5) (N := some 22) (v := ?_) (a' := ?_) #[true, true, true, true, false, true, false, false, false, false, false, false, false, false, false, false, false, false, false, false, false, false, false, false, false] rfl rfl (by kernel_rfl) (fun _ _ _ h => h) (Or.inl ⟨by rfl, ?_⟩) ?_ ?_
      rotate_left
      · intro w'
        go_simp
        with_reducible rfl
      rotate_left
      · simp only [Act.put, List.setIfInBounds_toArray, List.set_cons_zero, List.set_cons_succ, i64_w, i32_w]
        rfl
      refine pure_ (i := 6) (N := some 23) (v := ?_) (a' := ?_) #[true, true, true, true, false, true, true, false, false, false, false, false, false, false, false, false, false, false, false, false, false, false, false, false, false] rfl rfl (by kernel_rfl) (fun _ _ _ h => h) (Or.inl ⟨by rfl, ?_⟩) ?_ ?_
      rotate_left
      · intro w'
        go_simp
        with_reducible rfl
      rotate_left
      · simp only [Act.put, List.setIfInBounds_toArray, List.set_cons_zero, List.set_cons_succ, i64_w, i32_w]
        rfl
      refine pure_ (i := 7) (N := some 24) (v := ?_) (a' := ?_) #[true, true, true, true, false, true, true, true, false, false, false, false, false, false, false, false, false, false, false, false, false, false, false, false, false] rfl rfl (by kernel_rfl) (fun _ _ _ h => h) (Or.inl ⟨by rfl, ?_⟩) ?_ ?_
      rotate_left
      · intro w'
        go_simp
        with_reducible rfl
      rotate_left
      · simp only [Act.put, List.setIfInBounds_toArray, List.set_cons_zero, List.set_cons_succ, i64_w, i32_w]
        rfl
      refine pure_ (i := 8) (N := some 25) (v := ?_) (a' := ?_) #[true, true, true, true, false, true, true, true, true, false, false, false, false, false, false, false, false, false, false, false, false, false, false, false, false] rfl rfl (by kernel_rfl) (fun _ _ _ h => h) (Or.inl ⟨by rfl, ?_⟩) ?_ ?_
      rotate_left
      · intro w'
        go_simp
        with_reducible rfl
      rotate_left
      · simp only [Act.put, List.setIfInBounds_toArray, List.set_cons_zero, List.set_cons_succ, i64_w, i32_w]
        rfl
      refine take_ (i := 4) (N := some 21) (v := ?_) (a' := ?_) #[true, true, true, true, true, true, true, true, true, false, false, false, false, false, false, false, false, false, false, false, false, false, false, false, false] rfl rfl (by kernel_rfl) (fun _ _ _ h => h) (Or.inl ⟨by rfl, ?_⟩) hHeld ?_ ?_
      rotate_left
      · rintro w' ⟨s0, s1, s2, s3⟩
        go_simp
        with_reducible rfl
      rotate_left
      · simp only [Act.put, List.setIfInBounds_toArray, List.set_cons_zero, List.set_cons_succ, i64_w, i32_w]
        rfl
      refine take_ (i := 9) (N := some 26) (v := ?_) (a' := ?_) #[true, true, true, true, true, true, true, true, true, true, false, false, false, false, false, false, false, false, false, false, false, false, false, false, false] rfl rfl (by kernel_rfl) (fun _ _ _ h => h) (Or.inl ⟨by rfl, ?_⟩) hHeld ?_ ?_
      rotate_left
      · rintro w' ⟨s0, s1, s2, s3⟩
        go_simp
        with_reducible rfl
      rotate_left
      · simp only [Act.put, List.setIfInBounds_toArray, List.set_cons_zero, List.set_cons_succ, i64_w, i32_w]
        rfl
      refine pure_ (i := 10) (N := some 27) (v := ?_) (a' := ?_) #[true, true, true, true, true, true, true, true, true, true, true, false, false, false, false, false, false, false, false, false, false, false, false, false, false] rfl rfl (by kernel_rfl) (fun _ _ _ h => h) (Or.inl ⟨by rfl, ?_⟩) ?_ ?_
      rotate_left
      · intro w'
        go_simp
        with_reducible rfl
      rotate_left
      · simp only [Act.put, List.setIfInBounds_toArray, List.set_cons_zero, List.set_cons_succ, i64_w, i32_w]
        rfl
      refine pure_ (i := 11) (N := some 28) (v := ?_) (a' := ?_) #[true, true, true, true, true, true, true, true, true, true, true, true, false, false, false, false, false, false, false, false, false, false, false, false, false] rfl rfl (by kernel_rfl) (fun _ _ _ h => h) (Or.inl ⟨by rfl, ?_⟩) ?_ ?_
      rotate_left
      · intro w'
        go_simp
        with_reducible rfl
      rotate_left
      · simp only [Act.put, List.setIfInBounds_toArray, List.set_cons_zero, List.set_cons_succ, i64_w, i32_w]
        rfl
      refine pure_ (i := 12) (N := some 29) (v := ?_) (a' := ?_) #[true, true, true, true, true, true, true, true, true, true, true, true, true, false, false, false, false, false, false, false, false, false, false, false, false] rfl rfl (by kernel_rfl) (fun _ _ _ h => h) (Or.inl ⟨by rfl, ?_⟩) ?_ ?_
      rotate_left
      · intro w'
        go_simp
        with_reducible rfl
      rotate_left
      · simp only [Act.put, List.setIfInBounds_toArray, List.set_cons_zero, List.set_cons_succ, i64_w, i32_w]
        rfl
      refine pure_ (i := 13) (N := some 30) (v := ?_) (a' := ?_) #[true, true, true, true, true, true, true, true, true, true, true, true, true, true, false, false, false, false, false, false, false, false, false, false, false] rfl rfl (by kernel_rfl) (fun _ _ _ h => h) (Or.inl ⟨by rfl, ?_⟩) ?_ ?_
      rotate_left
      · intro w'
        go_simp
        with_reducible rfl
      rotate_left
      · simp only [Act.put, List.setIfInBounds_toArray, List.set_cons_zero, List.set_cons_succ, i64_w, i32_w]
        rfl
      refine pure_ (i := 14) (N := some 31) (v := ?_) (a' := ?_) #[true, true, true, true, true, true, true, true, true, true, true, true, true, true, true, false, false, false, false, false, false, false, false, false, false] rfl rfl (by kernel_rfl) (fun _ _ _ h => h) (Or.inl ⟨by rfl, ?_⟩) ?_ ?_
      rotate_left
      · intro w'
        go_simp
        with_reducible rfl
      rotate_left
      · simp only [Act.put, List.setIfInBounds_toArray, List.set_cons_zero, List.set_cons_succ, i64_w, i32_w]
        rfl
      refine pure_ (i := 15) (N := some 32) (v := ?_) (a' := ?_) #[true, true, true, true, true, true, true, true, true, true, true, true, true, true, true, true, false, false, false, false, false, false, false, false, false] rfl rfl (by kernel_rfl) (fun _ _ _ h => h) (Or.inl ⟨by rfl, ?_⟩) ?_ ?_
      rotate_left
      · intro w'
        go_simp
        with_reducible rfl
      rotate_left
      · simp only [Act.put, List.setIfInBounds_toArray, List.set_cons_zero, List.set_cons_succ, i64_w, i32_w]
        rfl
      refine pure_ (i := 17) (N := some 34) (v := ?_) (a' := ?_) #[true, true, true, true, true, true, true, true, true, true, true, true, true, true, true, true, false, true, false, false, false, false, false, false, false] rfl rfl (by kernel_rfl) (fun _ _ _ h => h) (Or.inl ⟨by rfl, ?_⟩) ?_ ?_
      rotate_left
      · intro w'
        go_simp
        with_reducible rfl
      rotate_left
      · simp only [Act.put, List.setIfInBounds_toArray, List.set_cons_zero, List.set_cons_succ, i64_w, i32_w]
        rfl
      refine pure_ (i := 18) (N := some 35) (v := ?_) (a' := ?_) #[true, true, true, true, true, true, true, true, true, true, true, true, true, true, true, true, false, true, true, false, false, false, false, false, false] rfl rfl (by kernel_rfl) (fun _ _ _ h => h) (Or.inl ⟨by rfl, ?_⟩) ?_ ?_
      rotate_left
      · intro w'
        go_simp
        with_reducible rfl
      rotate_left
      · simp only [Act.put, List.setIfInBounds_toArray, List.set_cons_zero, List.set_cons_succ, i64_w, i32_w]
        rfl
      refine pure_ (i := 19) (N := some 36) (v := ?_) (a' := ?_) #[true, true, true, true, true, true, true, true, true, true, true, true, true, true, true, true, false, true, true, true, false, false, false, false, false] rfl rfl (by kernel_rfl) (fun _ _ _ h => h) (Or.inl ⟨by rfl, ?_⟩) ?_ ?_
      rotate_left
      · intro w'
        go_simp
        with_reducible rfl
      rotate_left
      · simp only [Act.put, List.setIfInBounds_toArray, List.set_cons_zero, List.set_cons_succ, i64_w, i32_w]
        rfl
      refine pure_ (i := 20) (N := some 37) (v := ?_) (a' := ?_) #[true, true, true, true, true, true, true, true, true, true, true, true, true, true, true, true, false, true, true, true, true, false, false, false, false] rfl rfl (by kernel_rfl) (fun _ _ _ h => h) (Or.inl ⟨by rfl, ?_⟩) ?_ ?_
      rotate_left
      · intro w'
        go_simp
        with_reducible rfl
      rotate_left
      · simp only [Act.put, List.setIfInBounds_toArray, List.set_cons_zero, List.set_cons_succ, i64_w, i32_w]
        rfl
      refine take_ (i := 16) (N := some 33) (v := ?_) (a' := ?_) #[true, true, true, true, true, true, true, true, true, true, true, true, true, true, true, true, true, true, true, true, true, false, false, false, false] rfl rfl (by kernel_rfl) (fun _ _ _ h => h) (Or.inl ⟨by rfl, ?_⟩) hHeld ?_ ?_
      rotate_left
      · rintro w' ⟨s0, s1, s2, s3⟩
        go_simp
        with_reducible rfl
      rotate_left
      · simp only [Act.put, List.setIfInBounds_toArray, List.set_cons_zero, List.set_cons_succ, i64_w, i32_w]
        rfl
      refine take_ (i := 21) (N := some 38) (v := ?_) (a' := ?_) #[true, true, true, true, true, true, true, true, true, true, true, true, true, true, true, true, true, true, true, true, true, true, false, false, false] rfl rfl (by kernel_rfl) (fun _ _ _ h => h) (Or.inl ⟨by rfl, ?_⟩) hHeld ?_ ?_
      rotate_left
      · rintro w' ⟨s0, s1, s2, s3⟩
        go_simp
        with_reducible rfl
      rotate_left
      · simp only [Act.put, List.setIfInBounds_toArray, List.set_cons_zero, List.set_cons_succ, i64_w, i32_w]
        rfl
      refine one_ (i := 22) (N := some 39) #[true, true, true, true, true, true, true, true, true, true, true, true, true, true, true, true, true, true, true, true, true, true, true, false, false] rfl rfl (by kernel_rfl) (by decide) (fun K hK => ?_)
      refine goes_ Try.func76 (by kernel_rfl) rfl #[.slice x.s.A xn x.s.c, .slice y.s.A yn y.s.c] (by rfl) rfl rfl (by simp only [List.map_toArray, List.map_cons, List.map_nil]; rfl) ?_
      with_reducible refine (WS.out wr.drew (Kd.C_drew HCX.out) (Kd.C_drew HCY.out)).mono ?_
      rintro e w5 ⟨rfl, ⟨nd, rfl⟩⟩
      refine ⟨_, rfl, ?_⟩
      refine hK.out _ _ ⟨(show (wr.drew).cell? _ = _ from x0), (show (wr.drew).cell? _ = _ from y0), (show (wr.drew).cell? _ = _ from x1), (show (wr.drew).cell? _ = _ from y1)⟩ (fun hHeld => ?_)
      clear hK K
      refine norm_ (a' := ?_) ?_ ?_
      rotate_left
      · show Act.put _ (some 39) _ = _
        simp only [Act.put, List.setIfInBounds_toArray, List.set_cons_zero, List.set_cons_succ, i64_w, i32_w]
        rfl
      refine pure_ (i := 23) (N := some 40) (v := ?_) (a' := ?_) #[true, true, true, true, true, true, true, true, true, true, true, true, true, true, true, true, true, true, true, true, true, true, true, true, false] rfl rfl (by kernel_rfl) (fun _ _ _ h => h) (Or.inl ⟨by rfl, ?_⟩) ?_ ?_
      rotate_left
      · intro w'
        go_simp
        with_reducible rfl
      rotate_left
      · simp only [Act.put, List.setIfInBounds_toArray, List.set_cons_zero, List.set_cons_succ, i64_w, i32_w]
        rfl
      refine pure_ (i := 24) (N := some 41) (v := ?_) (a' := ?_) #[true, true, true, true, true, true, true, true, true, true, true, true, true, true, true, true, true, true, true, true, true, true, true, true, true] rfl rfl (by kernel_rfl) (fun _ _ _ h => h) (Or.inl ⟨by rfl, ?_⟩) ?_ ?_
      rotate_left
      · intro w'
        go_simp
        with_reducible rfl
      rotate_left
      · simp only [Act.put, List.setIfInBounds_toArray, List.set_cons_zero, List.set_cons_succ, i64_w, i32_w]
        rfl
      refine done_ (by kernel_rfl) ?_
      clear hHeld
      have HD2 : Aside0 (Drawn0 w (wr.drewN (1 + nd))) := ⟨hdx.out _⟩
      clear x0 x1 y0 y1 HCX HCY WS EN EX hdx hib HSX
      refine go_on40 ?_
      go_wp2
      exact ⟨⟨m + 1, rfl, ⟨by omega⟩, HT2, HD2⟩, by simp [intOf]; omega⟩
    · have hmn : m = n := by omega
      subst hmn
      have E0 : Aside0 (R = true) := ⟨by rw [ET.out, decide_eq_true_eq]; exact HT.out⟩
      go_wp2
      go_ret
      exact ⟨by rw [E0.out]; rfl, HD.out⟩
end Go.Proofs.Ytdkbhbolkieeiaa.K
namespace Go.Proofs.Ytdkbhbolkieeiaa.K
open Go.RowKit Go.Proofs.YtdkbhbolkieeiaaW.PrintWords Go.Proofs.YtdkbhbolkieeiaaW.PrintLast Go.Proofs.YtdkbhbolkieeiaaW.PrintMore
set_option linter.unusedVariables false
set_option linter.unusedSimpArgs false
theorem C_oneWr {W : World} {g : Nat} {at_ : Int} {A : Option Addr} {c : Nat} {l : List Int} {n : Nat} (h : W.heap[g]? = some (.cells #[.int .i64 at_, .slice A n c] 82 (0, 0))) (hn : n = l.length) (hC : Kd.C (Kd.int .u8) W A l.length l) (hc : l.length ≤ c) : Kd.C kWr W (some ⟨g, 0, none⟩) 1 [⟨at_, ⟨A, c, l⟩⟩] := by
  refine ⟨rfl, by decide, fun _ => ⟨⟨g, 0, none⟩, rfl, fun j p hp => ?_⟩⟩
  have hj : j = 0 := by
    have := (List.getElem?_eq_some_iff.1 hp).1
    simpa using this
  subst hj
  obtain rfl : ⟨at_, ⟨A, c, l⟩⟩ = p := by simpa using hp
  refine ⟨[.int .i64 at_, .slice A n c], rfl, ⟨by rw [hn]; rfl, hC, hc⟩, fun i u hu => ?_⟩
  rw [show (0 * kWr.sz + i) = i by omega, add_plain, blk_cell h]
  simpa using hu
theorem oneW_right : rightW (capJ 1 5 6 5) (geoUp 1 5 6 5) [⟨14, ⟨none, 0, List.replicate 64 7⟩⟩] = true := by decide +kernel
theorem rightW_one (A : Option Addr) (c : Nat) : rightW (capJ 1 5 6 5) (geoUp 1 5 6 5) [⟨14, ⟨A, c, List.replicate 64 7⟩⟩] = true := oneW_right
theorem cap_base : capJ 1 5 6 5 = 2 := by decide +kernel
def isOne (x : Wr) : Prop := x.at_ = 14 ∧ x.s.l = List.replicate 64 7
theorem isOne_map {x : Wr} (h : isOne x) : [x].map wrP = oneW := by show [(x.at_, x.s.l)] = _; rw [h.1, h.2]; rfl
theorem laidB_walk (A : Option Addr) (c : Nat) (Al : Option Addr) (cl : Nat) (x : Wr) (hx : isOne x) (w : World) (hr : Kd.C (Kd.int .u8) w A 1920 baseImg) (hc : 1920 ≤ c) (hw : Kd.C kWr w Al 1 [x]) :
    Calls Try.prog 40 #[.slice A 1920 c, .slice Al 1 cl] w fun e w' => ∃ (A' : Option Addr) (c' : Nat), e = .returned (.slice A' 1920 c') ∧ (Kd.C (Kd.int .u8) w' A' 1920 laidB ∧ 1920 ≤ c') ∧ Below w.heap.size w w' := by
  have h := laid_walk A c baseImg Al cl [x] w (by rw [base_length]; exact hr) (by rw [base_length]; exact hc) (by rw [base_length]; decide) base_byts (by rw [base_geo]) hw (by simp) (fun y hy => by
    obtain rfl := List.mem_singleton.1 hy
    rw [hx.2]; intro z hz; rw [(List.mem_replicate.1 hz).2]; decide)
  rw [base_length] at h
  refine h.mono ?_
  rintro e w' ⟨g, co, cs, rfl, ⟨h1, h2, h3, h4, h5⟩, hb⟩
  refine ⟨_, _, rfl, ⟨?_, h2⟩, hb⟩
  rw [isOne_map hx] at h5
  have h6 := Kd.C_blkJ (k := .u8) (xs := laidB) h4 (by rw [laidB_length]; exact h5) (by rw [laidB_length]; decide)
  rwa [laidB_length] at h6
theorem readL_walk (A : Option Addr) (c : Nat) (w : World) (hr : Kd.C (Kd.int .u8) w A 1920 laidB) (hc : 1920 ≤ c) :
    Calls Try.prog 35 #[.slice A 1920 c] w fun e w' => ∃ (A' : Option Addr) (c' : Nat), e = .returned (.tuple #[.slice A' 1 c', .bool true]) ∧ Kd.C kWP w' A' 1 oneW ∧ Below w.heap.size w w' := by
  have h := jRead_walk A c laidB w (by rw [laidB_length]; exact hr) (by rw [laidB_length]; exact hc) (by rw [laidB_length]; decide) laidB_byts
  rw [laidB_length, laid_read] at h
  refine h.mono ?_
  rintro e w' ⟨v, rfl, hR, hb⟩
  obtain ⟨A', c', rfl⟩ := Kd.R_slice hR
  exact ⟨_, _, rfl, (Kd.R_reads' hR).2.2, hb⟩
theorem readB_walk (A : Option Addr) (c : Nat) (w : World) (hr : Kd.C (Kd.int .u8) w A 1920 baseImg) (hc : 1920 ≤ c) :
    Calls Try.prog 35 #[.slice A 1920 c] w fun e w' => ∃ v : Value, e = .returned (.tuple #[v, .bool false]) ∧ Below w.heap.size w w' := by
  have h := jRead_walk A c baseImg w (by rw [base_length]; exact hr) (by rw [base_length]; exact hc) (by rw [base_length]; decide) base_byts
  rw [base_length, base_read] at h
  refine h.mono ?_
  rintro e w' ⟨v, rfl, hR, hb⟩
  exact ⟨_, rfl, hb⟩
theorem getB_walk (A : Option Addr) (c : Nat) (w : World) (hr : Kd.C (Kd.int .u8) w A 1920 baseImg) (hc : 1920 ≤ c) :
    Calls Try.prog 38 #[.slice A 1920 c] w fun e w' => e = .returned (.tuple #[.agg #[.int .i64 1, .int .i64 5, .int .i64 6, .int .i64 5], .int .i64 0]) ∧ Below w.heap.size w w' := by
  have h := geoGet_walk A c baseImg w (by rw [base_length]; exact hr) (by rw [base_length]; exact hc) (by rw [base_length]; decide) base_byts
  rw [base_length, base_geo] at h
  exact h
theorem rightB1_walk (Al : Option Addr) (cl : Nat) (x : Wr) (hx : isOne x) (w : World) (hw : Kd.C kWr w Al 1 [x]) :
    Calls Try.prog 26 #[.agg #[.int .i64 1, .int .i64 5, .int .i64 6, .int .i64 5], .slice Al 1 cl] w fun e w' => e = .returned (.bool true) ∧ Below w.heap.size w w' := by
  have h := jRight_walk 1 5 6 5 (capJ 1 5 6 5) (geoUp 1 5 6 5) Al cl [x] w hw (by simp) (fun x _ W => geoUp_walk 1 5 6 5 x.at_ W) (fun W => capJ_walk 1 5 6 5 W)
  have e : rightW (capJ 1 5 6 5) (geoUp 1 5 6 5) [x] = true := by
    rw [← oneW_right]
    unfold rightW
    congr 2
    show ((!decide (x.s.l.length = 64) || !geoUp 1 5 6 5 x.at_) || false) = _
    rw [hx.1, hx.2]; rfl
  rw [e] at h
  exact h
theorem sameB_walk (A7 : Option Addr) (c7 : Nat) (Al : Option Addr) (cl : Nat) (x : Wr) (hx : isOne x) (w : World) (h7 : Kd.C kWP w A7 1 oneW) (hw : Kd.C kWr w Al 1 [x]) :
    Calls Try.prog 37 #[.slice A7 1 c7, .slice Al 1 cl] w fun e w' => e = .returned (.bool true) ∧ Below w.heap.size w w' := by
  obtain ⟨ys, hC, hm⟩ := turnP h7
  have hl : ys.length = 1 := by have := congrArg List.length hm; simpa [oneW] using this
  have h := rSame27_walk A7 Al c7 cl ys [x] w (by rw [hl]; exact hC) hw (fun y hy => by
    have : wrP y ∈ oneW := by rw [← hm]; exact List.mem_map.2 ⟨y, hy, rfl⟩
    have h2 : wrP y = (14, List.replicate 64 7) := by simpa [oneW] using this
    have h3 : y.s.l = List.replicate 64 7 := congrArg Prod.snd h2
    rw [h3]; decide) (by omega)
  rw [hl, hm, isOne_map hx] at h
  refine h.mono ?_
  rintro e w' ⟨rfl, hd⟩
  exact ⟨by simp, hd.below⟩
set_option maxHeartbeats 4000000 in
set_option maxRecDepth 100000 in
theorem awake27_walk (w : World) : Calls Try.prog 23 #[] w fun e w' => e = .returned (.bool true) ∧ Below w.heap.size w w' := by
  have HB := Aside0.mk (Below.refl w.heap.size w)
  have WB := Aside0.mk base_walk
  go_enter Try.func23, Try.ntmps23
  go_upto_region 3 with (first | (go_at_call 57; go_loud ((with_reducible refine (WB.out _).mono ?_); rintro e w1 ⟨gu, gl, gn, ge, gd, rfl, hM, hb⟩; have HM := Aside0.mk hM; have n1_ : Aside0 (Below w.heap.size w w1) := ⟨below_step (by repeat (first | (with_reducible first | exact HB.out | apply below_alloc | apply pw_below_drewN | apply below_drew1) | exact HB.out)) hb⟩; clear HB; have HB := n1_; clear n1_; clear hM hb)) | (go_at_call 56; go_loud ((with_reducible refine (baseBytes_walk HM.out).mono ?_); rintro e w2 ⟨v2, rfl, ho, hb⟩; obtain ⟨A2, c2, hv_⟩ := Kd.R_slice ho; subst hv_; rw [base_length]; have HC2 := Aside0.mk (Kd.R_reads' ho).2.2; have HQ2 := Aside0.mk (Kd.R_reads' ho).2.1; have n1_ : Aside0 (Below w.heap.size w w2) := ⟨below_step (by repeat (first | (with_reducible first | exact HB.out | apply below_alloc | apply pw_below_drewN | apply below_drew1) | exact HB.out)) hb⟩; clear HB; have HB := n1_; clear n1_; clear ho hb)) | ((with_reducible refine gate_dst (N := 11) rfl ?_); refine Kd.R_lit (Kd.int .u8) _ 5 ?hg (N := 11) ?hd (xs := ([(7 : Int)] : List (Int))) (inner := [.int .u8 7]) (ok := fun _ => True) (okp := fun _ => True) ?hr ?hp (fun _ hk => hk) trivial (Below.refl _ _) (Nat.le_refl _) (by simp) ?_; (case hd => rfl); (case hg => rfl); (case hr => first | (go_simp; done) | (go_simp; rfl)); (case hp => exact (Reps.one (show Kd.M (Kd.int .u8) _ _ _ (7 : Int) [.int .u8 7] from rfl) (Reps.none _ _))); intro v3 w3 ho hb hg_ hnew_; clear hg_ hnew_; obtain ⟨A3, c3, rfl⟩ := Kd.R_slice ho; have HR3 := Aside0.mk (Kd.R_reads' ho).2.2; have HC3 := Aside0.mk (Kd.R_reads' ho).2.1; have n1_ : Aside0 (Below w.heap.size w w3) := ⟨below_step (by repeat (first | (with_reducible first | exact HB.out | apply below_alloc | apply pw_below_drewN | apply below_drew1) | exact HB.out)) hb⟩; clear HB; have HB := n1_; clear n1_; have n_ := Aside0.mk (Kd.C_below (by first | exact HC2.out | exact Kd.C_alloc HC2.out _) hb); clear HC2; have HC2 := n_; clear n_; clear ho hb) | (go_at_call 58; go_loud ((with_reducible refine (repeat_walk _ _ 7 _ HR3.out).mono ?_); rintro e w4 ⟨g4, cs4, rfl, _, bk4, ht4, hb⟩; have BK4 := Aside0.mk bk4; have HT4 := Aside0.mk ht4; have n_ := Aside0.mk (Kd.C_below (by first | exact HC2.out | exact Kd.C_alloc HC2.out _) hb); clear HC2; have HC2 := n_; clear n_; have n1_ : Aside0 (Below w.heap.size w w4) := ⟨below_step (by repeat (first | (with_reducible first | exact HB.out | apply below_alloc | apply pw_below_drewN | apply below_drew1) | exact HB.out)) hb⟩; clear HB; have HB := n1_; clear n1_; clear bk4 ht4 hb)))
  obtain ⟨w5, hw5⟩ : ∃ w5, w5 = w4.alloc (.cells #[.int .i64 14, .slice (some ⟨g4, 0, none⟩) 64 64] 82) := ⟨_, rfl⟩
  refine go_on40 ?_
  rw [← hw5]
  obtain ⟨x, hxe⟩ : ∃ x : Wr, x = ⟨14, ⟨some ⟨g4, 0, none⟩, 64, List.replicate 64 7⟩⟩ := ⟨_, rfl⟩
  have HX : Aside0 (isOne x) := ⟨by rw [hxe]; exact ⟨rfl, rfl⟩⟩
  have HC4 : Aside0 (Kd.C (Kd.int .u8) w4 (some ⟨g4, 0, none⟩) 64 (List.replicate 64 7)) := ⟨by
    have h6 := Kd.C_blkJ (k := .u8) (xs := List.replicate 64 7) BK4.out (by rw [List.length_replicate, HT4.out, List.map_replicate]) (by decide)
    rwa [List.length_replicate] at h6⟩
  have HL : Aside0 (Kd.C kWr w5 (some ⟨w4.heap.size, 0, none⟩) 1 [x]) := ⟨by rw [hxe, hw5]; exact C_oneWr (heap_alloc_new _ _) (by simp) (by rw [List.length_replicate]; exact Kd.C_alloc HC4.out _) (by simp)⟩
  have n_ : Aside0 (Kd.C (Kd.int .u8) w5 A2 1920 baseImg) := ⟨by rw [hw5]; exact Kd.C_alloc HC2.out _⟩
  have m_ : Aside0 (Below w.heap.size w w5) := ⟨by rw [hw5]; exact below_alloc HB.out _⟩
  have HQ : Aside0 (1920 ≤ c2) := ⟨by have := HQ2.out; rwa [base_length] at this⟩
  clear HC2 HB hw5 hxe BK4 HT4 HC4 HR3 HC3 HM HQ2
  have HC2 := n_
  have HB := m_
  clear n_ m_
  have HE : Aside0 (∀ W, Calls Try.prog 29 #[] W fun e w' => ∃ (A : Option Addr) (c : Nat), e = .returned (.slice A 64 c) ∧ Below W.heap.size W w') := ⟨fun W => (journalEmpty_walk W).mono (by
    rintro e w' ⟨v, rfl, hR, hb⟩
    obtain ⟨A', c', rfl⟩ := Kd.R_slice hR
    exact ⟨A', c', by rw [sealS_length], hb⟩)⟩
  have HK : Aside0 (∀ W, Calls Try.prog 24 #[.agg #[.int .i64 1, .int .i64 5, .int .i64 6, .int .i64 5]] W fun e w' => e = .returned (.int .i64 2) ∧ Below W.heap.size W w') := ⟨fun W => capJ_walk 1 5 6 5 W⟩
  go_wp2_with (first | (go_at_call 40; go_loud ((with_reducible refine (laidB_walk _ _ _ _ _ HX.out _ HC2.out HQ.out HL.out).mono ?_); rintro e w6 ⟨A6, c6, rfl, ⟨hC6, hq6⟩, hb⟩; have HC6 := Aside0.mk hC6; have HQ6 := Aside0.mk hq6; have n_ := Aside0.mk (Kd.C_below (by first | exact HC2.out | exact Kd.C_alloc HC2.out _) hb); clear HC2; have HC2 := n_; clear n_; have n_ := Aside0.mk (Kd.C_below (by first | exact HL.out | exact Kd.C_alloc HL.out _) hb); clear HL; have HL := n_; clear n_; have n1_ : Aside0 (Below w.heap.size w w6) := ⟨below_step (by repeat (first | (with_reducible first | exact HB.out | apply below_alloc | apply pw_below_drewN | apply below_drew1) | exact HB.out)) hb⟩; clear HB; have HB := n1_; clear n1_; clear hC6 hq6 hb)) | (go_at_call 35; go_loud ((with_reducible refine (readL_walk _ _ _ HC6.out HQ6.out).mono ?_); rintro e w7 ⟨A7, c7, rfl, hC7, hb⟩; have HC7 := Aside0.mk hC7; have n_ := Aside0.mk (Kd.C_below (by first | exact HC2.out | exact Kd.C_alloc HC2.out _) hb); clear HC2; have HC2 := n_; clear n_; have n_ := Aside0.mk (Kd.C_below (by first | exact HL.out | exact Kd.C_alloc HL.out _) hb); clear HL; have HL := n_; clear n_; have n1_ : Aside0 (Below w.heap.size w w7) := ⟨below_step (by repeat (first | (with_reducible first | exact HB.out | apply below_alloc | apply pw_below_drewN | apply below_drew1) | exact HB.out)) hb⟩; clear HB; have HB := n1_; clear n1_; clear hC7 hb HC6)) | (go_at_call 35; go_loud ((with_reducible refine (readB_walk _ _ _ HC2.out HQ.out).mono ?_); rintro e w8 ⟨v8, rfl, hb⟩; have n_ := Aside0.mk (Kd.C_below (by first | exact HC2.out | exact Kd.C_alloc HC2.out _) hb); clear HC2; have HC2 := n_; clear n_; have n_ := Aside0.mk (Kd.C_below (by first | exact HL.out | exact Kd.C_alloc HL.out _) hb); clear HL; have HL := n_; clear n_; have n_ := Aside0.mk (Kd.C_below (by first | exact HC7.out | exact Kd.C_alloc HC7.out _) hb); clear HC7; have HC7 := n_; clear n_; have n1_ : Aside0 (Below w.heap.size w w8) := ⟨below_step (by repeat (first | (with_reducible first | exact HB.out | apply below_alloc | apply pw_below_drewN | apply below_drew1) | exact HB.out)) hb⟩; clear HB; have HB := n1_; clear n1_; clear hb)) | (go_at_call 38; go_loud ((with_reducible refine (getB_walk _ _ _ HC2.out HQ.out).mono ?_); rintro e w9 ⟨rfl, hb⟩; have n_ := Aside0.mk (Kd.C_below (by first | exact HL.out | exact Kd.C_alloc HL.out _) hb); clear HL; have HL := n_; clear n_; have n_ := Aside0.mk (Kd.C_below (by first | exact HC7.out | exact Kd.C_alloc HC7.out _) hb); clear HC7; have HC7 := n_; clear n_; have n1_ : Aside0 (Below w.heap.size w w9) := ⟨below_step (by repeat (first | (with_reducible first | exact HB.out | apply below_alloc | apply pw_below_drewN | apply below_drew1) | exact HB.out)) hb⟩; clear HB; have HB := n1_; clear n1_; clear hb HC2)) | ((with_reducible refine gate_store (p := 7) rfl ?_); go_loud (refine wpList_store_newL (w0 := w9) rfl rfl 38 (.tmp 7) (.tmp 30) rfl #[.int .i64 1, .int .i64 5, .int .i64 6, .int .i64 5] 38 #[.int .i64 0, .int .i64 0, .int .i64 0, .int .i64 0] rfl (by rfl) (by rfl) (by kernel_rfl) rfl (by simp [Value.oneCell']) ?_; intro w10 bk_ hb; have BK10 := Aside0.mk bk_; clear bk_; have n_ := Aside0.mk (Kd.C_below (by first | exact HL.out | exact Kd.C_alloc HL.out _) hb); clear HL; have HL := n_; clear n_; have n_ := Aside0.mk (Kd.C_below (by first | exact HC7.out | exact Kd.C_alloc HC7.out _) hb); clear HC7; have HC7 := n_; clear n_; have n1_ : Aside0 (Below w.heap.size w w10) := ⟨below_step (by repeat (first | (with_reducible first | exact HB.out | apply below_alloc | apply pw_below_drewN | apply below_drew1) | exact HB.out)) hb⟩; clear HB; have HB := n1_; clear n1_; clear hb; have k0 : w10.cell? ⟨w9.heap.size, 0, none⟩ = some (.int .i64 1) := (blk_cell BK10.out 0).trans rfl; have k1 : w10.cell? ⟨w9.heap.size, 1, none⟩ = some (.int .i64 5) := (blk_cell BK10.out 1).trans rfl; have k2 : w10.cell? ⟨w9.heap.size, 2, none⟩ = some (.int .i64 6) := (blk_cell BK10.out 2).trans rfl; have k3 : w10.cell? ⟨w9.heap.size, 3, none⟩ = some (.int .i64 5) := (blk_cell BK10.out 3).trans rfl)) | (go_at_call 24; go_loud ((with_reducible refine (HK.out _).mono ?_); rintro e w11 ⟨rfl, hb⟩; have n_ := Aside0.mk (Kd.C_below (by first | exact HL.out | exact Kd.C_alloc HL.out _) hb); clear HL; have HL := n_; clear n_; have n_ := Aside0.mk (Kd.C_below (by first | exact HC7.out | exact Kd.C_alloc HC7.out _) hb); clear HC7; have HC7 := n_; clear n_; have BK11 := Aside0.mk (blk_below BK10.out hb); have m0 : w11.cell? ⟨w9.heap.size, 0, none⟩ = some (.int .i64 1) := (blk_cell BK11.out 0).trans rfl; have m1 : w11.cell? ⟨w9.heap.size, 1, none⟩ = some (.int .i64 5) := (blk_cell BK11.out 1).trans rfl; have m2 : w11.cell? ⟨w9.heap.size, 2, none⟩ = some (.int .i64 6) := (blk_cell BK11.out 2).trans rfl; have m3 : w11.cell? ⟨w9.heap.size, 3, none⟩ = some (.int .i64 5) := (blk_cell BK11.out 3).trans rfl; have n1_ : Aside0 (Below w.heap.size w w11) := ⟨below_step (by repeat (first | (with_reducible first | exact HB.out | apply below_alloc | apply pw_below_drewN | apply below_drew1) | exact HB.out)) hb⟩; clear HB; have HB := n1_; clear n1_; clear hb)) | (go_at_call 26; go_loud ((with_reducible refine (rightB1_walk _ _ _ HX.out _ HL.out).mono ?_); rintro e w12 ⟨rfl, hb⟩; have n_ := Aside0.mk (Kd.C_below (by first | exact HL.out | exact Kd.C_alloc HL.out _) hb); clear HL; have HL := n_; clear n_; have n_ := Aside0.mk (Kd.C_below (by first | exact HC7.out | exact Kd.C_alloc HC7.out _) hb); clear HC7; have HC7 := n_; clear n_; have n1_ : Aside0 (Below w.heap.size w w12) := ⟨below_step (by repeat (first | (with_reducible first | exact HB.out | apply below_alloc | apply pw_below_drewN | apply below_drew1) | exact HB.out)) hb⟩; clear HB; have HB := n1_; clear n1_; clear hb)) | (go_at_call 37; go_loud ((with_reducible refine (sameB_walk _ _ _ _ _ HX.out _ HC7.out HL.out).mono ?_); rintro e w13 ⟨rfl, hb⟩; have n1_ : Aside0 (Below w.heap.size w w13) := ⟨below_step (by repeat (first | (with_reducible first | exact HB.out | apply below_alloc | apply pw_below_drewN | apply below_drew1) | exact HB.out)) hb⟩; clear HB; have HB := n1_; clear n1_; clear hb)) | (go_at_call 29; go_loud ((with_reducible refine (HE.out _).mono ?_); rintro e w14 ⟨A14, c14, rfl, hb⟩; have n1_ : Aside0 (Below w.heap.size w w14) := ⟨below_step (by repeat (first | (with_reducible first | exact HB.out | apply below_alloc | apply pw_below_drewN | apply below_drew1) | exact HB.out)) hb⟩; clear HB; have HB := n1_; clear n1_; clear hb)))
  go_ret
  exact ⟨rfl, HB.out⟩
end Go.Proofs.Ytdkbhbolkieeiaa.K
