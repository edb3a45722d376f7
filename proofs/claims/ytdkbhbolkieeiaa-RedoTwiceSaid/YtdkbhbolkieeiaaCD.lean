/- Walks and plain laws of this claim, merged: R06g, KDev, KDev2, KDev3, KDev4, KDev5. -/
import Derived.Test.YtdkbhbolkieeiaaCC
import Derived.Test.YtdkbhbolkieeiaaCB
import Derived.Test.YtdkbhbolkieeiaaKSec
import Derived.Great.FillDense
import Derived.Great.BuildSlice
namespace Go.Proofs.Ytdkbhbolkieeiaa.K
open Go.RowKit Go.Proofs.YtdkbhbolkieeiaaW.PrintWords Go.Proofs.YtdkbhbolkieeiaaW.PrintLast Go.Proofs.YtdkbhbolkieeiaaW.PrintMore
set_option linter.unusedVariables false
set_option linter.unusedSimpArgs false
set_option maxRecDepth 100000 in
theorem rBy06_walk (a b c d : Int) (w : World) : Calls Try.prog 79 #[.agg #[.int .i64 a, .int .i64 b, .int .i64 c, .int .i64 d]] w fun e w' => ∃ v : Value, e = .returned v ∧ Kd.R (Kd.int .u8) 5 w' w.heap.size (fun _ => True) v (sealS (geoHead a b c d)) ∧ Below w.heap.size w w' := by
  have WS : Aside0 (∀ A c' W, Kd.C (Kd.int .u8) W A 9 ([82, 84, 66, 76, 1, (a % 256), (b % 256), (c % 256), (d % 256)] : List Int) → Calls Try.prog 65 #[.slice A 9 c'] W fun e w' => ∃ v : Value, e = .returned v ∧ Kd.R (Kd.int .u8) 5 w' W.heap.size (fun _ => True) v (sealS (geoHead a b c d)) ∧ Below W.heap.size W w') := ⟨fun A c' W h => rSeal_walk A c' (geoHead a b c d) W h (geoHead_byts a b c d) (by simp [geoHead])⟩
  have HB := Aside0.mk (Below.refl w.heap.size w)
  go_enter Try.func79, Try.ntmps79
  go_wp2_with (first | ((with_reducible refine gate_dst (N := 15) rfl ?_); refine Kd.R_lit (Kd.int .u8) _ 5 ?hg (N := 15) ?hd (xs := ([(82 : Int), (84 : Int), (66 : Int), (76 : Int), (1 : Int), (a % 256), (b % 256), (c % 256), (d % 256)] : List (Int))) (inner := [.int .u8 82, .int .u8 84, .int .u8 66, .int .u8 76, .int .u8 1, .int .u8 (a % 256), .int .u8 (b % 256), .int .u8 (c % 256), .int .u8 (d % 256)]) (ok := fun _ => True) (okp := fun _ => True) ?hr ?hp (fun _ hk => hk) trivial (Below.refl _ _) (Nat.le_refl _) (by simp) ?_; (case hd => rfl); (case hg => rfl); (case hr => first | (go_simp; done) | (go_simp; rfl)); (case hp => exact (Reps.one (show Kd.M (Kd.int .u8) _ _ _ (82 : Int) [.int .u8 82] from rfl) (Reps.one (show Kd.M (Kd.int .u8) _ _ _ (84 : Int) [.int .u8 84] from rfl) (Reps.one (show Kd.M (Kd.int .u8) _ _ _ (66 : Int) [.int .u8 66] from rfl) (Reps.one (show Kd.M (Kd.int .u8) _ _ _ (76 : Int) [.int .u8 76] from rfl) (Reps.one (show Kd.M (Kd.int .u8) _ _ _ (1 : Int) [.int .u8 1] from rfl) (Reps.one (show Kd.M (Kd.int .u8) _ _ _ (a % 256) [.int .u8 (a % 256)] from rfl) (Reps.one (show Kd.M (Kd.int .u8) _ _ _ (b % 256) [.int .u8 (b % 256)] from rfl) (Reps.one (show Kd.M (Kd.int .u8) _ _ _ (c % 256) [.int .u8 (c % 256)] from rfl) (Reps.one (show Kd.M (Kd.int .u8) _ _ _ (d % 256) [.int .u8 (d % 256)] from rfl) (Reps.none _ _))))))))))); intro v1 w1 ho hb hg_ hnew_; clear hg_ hnew_; obtain ⟨A1, c1, rfl⟩ := Kd.R_slice ho; have HR1 := Aside0.mk (Kd.R_reads' ho).2.2; have HC1 := Aside0.mk (Kd.R_reads' ho).2.1; have n1_ : Aside0 (Below w.heap.size w w1) := ⟨below_step (by repeat (first | (with_reducible first | exact HB.out | apply below_alloc | apply pw_below_drewN | apply below_drew1) | exact HB.out)) hb⟩; clear HB; have HB := n1_; clear n1_; clear ho hb) | (go_at_call 65; go_loud ((with_reducible refine (WS.out _ _ _ HR1.out).mono ?_); rintro e w5 ⟨v5, rfl, ho, hb⟩; have HO := Aside0.mk (Kd.R_lower ho (below_size (by repeat (first | (with_reducible first | exact HB.out | apply below_alloc | apply pw_below_drewN | apply below_drew1) | exact HB.out)))); have n1_ : Aside0 (Below w.heap.size w w5) := ⟨below_step (by repeat (first | (with_reducible first | exact HB.out | apply below_alloc | apply pw_below_drewN | apply below_drew1) | exact HB.out)) hb⟩; clear HB; have HB := n1_; clear n1_; clear ho hb)))
  go_ret
  exact ⟨_, rfl, HO.out, HB.out⟩
set_option maxHeartbeats 4000000 in
set_option maxRecDepth 100000 in
theorem rGet06_walk (A : Option Addr) (c : Nat) (l : List Int) (w0 : World) (hr : Kd.C (Kd.int .u8) w0 A l.length l) (hc : l.length ≤ c) (hl : l.length < 140737488355320) (hb : Byts l) :
    Calls Try.prog 39 #[.slice A l.length c] w0 fun e w' => e = .returned (.tuple #[.agg #[.int .i64 (geoG l).1.1, .int .i64 (geoG l).1.2.1, .int .i64 (geoG l).1.2.2.1, .int .i64 (geoG l).1.2.2.2], .int .i64 (geoG l).2]) ∧ Below w0.heap.size w0 w' := by
  have HR := Aside0.mk hr
  have HY := Aside0.mk hb
  have HC := Aside0.mk hc
  have HL := Aside0.mk hl
  have EG : Aside0 (geoG l = if geoGok l = true then ((byN l 5, byN l 6, byN l 7, byN l 8), 0) else ((0, 0, 0, 0), 2)) := ⟨rfl⟩
  have EO : Aside0 (geoGok l = (decide (64 ≤ l.length) && (geoOk (byN l 5) (byN l 6) (byN l 7) (byN l 8) && (decide (l.take 64 = sealS (geoHead (byN l 5) (byN l 6) (byN l 7) (byN l 8))) && decide ((l.length : Int) = 64 * geoT (byN l 5) (byN l 6) (byN l 7) (byN l 8)))))) := ⟨rfl⟩
  obtain ⟨G, hG⟩ : ∃ G, G = geoG l := ⟨_, rfl⟩
  rw [← hG] at EG
  rw [← hG]
  clear hr hb hc hl hG
  by_cases h64 : 64 ≤ l.length
  case neg =>
    have E0 : Aside0 (G = ((0, 0, 0, 0), 2)) := ⟨by rw [EG.out, EO.out]; simp [h64]⟩
    have hlt : (l.length : Int) < 64 := by omega
    go_enter Try.func39, Try.ntmps39
    go_wp2
    refine bodyPost_ret (resRow2 rfl _ _ w0.heap.size 38 #[.int .i64 0, .int .i64 0, .int .i64 0, .int .i64 0] (0, 0) _ (.int .i64 2) rfl rfl (heap_alloc_new _ _) Try.underlying38 rfl (by kernel_rfl)) rfl ?_
    exact ⟨by rw [E0.out], below_alloc (Below.refl _ _) _⟩
  obtain ⟨ad, hA, x5⟩ := Kd.at_int HR.out 5 (by omega) (by omega)
  obtain ⟨ad2, hA2, x6⟩ := Kd.at_int HR.out 6 (by omega) (by omega)
  obtain ⟨ad3, hA3, x7⟩ := Kd.at_int HR.out 7 (by omega) (by omega)
  obtain ⟨ad4, hA4, x8⟩ := Kd.at_int HR.out 8 (by omega) (by omega)
  subst hA
  cases hA2
  cases hA3
  cases hA4
  have hcc : l.length ≤ c := HC.out
  have hge : ¬ (l.length : Int) < 64 := by omega
  obtain ⟨a, ha⟩ : ∃ a, a = byN l 5 := ⟨_, rfl⟩
  obtain ⟨b, hb⟩ : ∃ b, b = byN l 6 := ⟨_, rfl⟩
  obtain ⟨d, hd⟩ : ∃ d, d = byN l 7 := ⟨_, rfl⟩
  obtain ⟨h, hh⟩ : ∃ h, h = byN l 8 := ⟨_, rfl⟩
  have z5 : w0.cell? ⟨ad.block, ad.off + 5, none⟩ = some (.int .u8 a) := by rw [ha]; exact x5
  have z6 : w0.cell? ⟨ad.block, ad.off + 6, none⟩ = some (.int .u8 b) := by rw [hb]; exact x6
  have z7 : w0.cell? ⟨ad.block, ad.off + 7, none⟩ = some (.int .u8 d) := by rw [hd]; exact x7
  have z8 : w0.cell? ⟨ad.block, ad.off + 8, none⟩ = some (.int .u8 h) := by rw [hh]; exact x8
  have HA : Aside0 ((0 ≤ a ∧ a < 256) ∧ (0 ≤ b ∧ b < 256) ∧ (0 ≤ d ∧ d < 256) ∧ 0 ≤ h ∧ h < 256) := ⟨by
    rw [ha, hb, hd, hh, byN_get (by omega), byN_get (by omega), byN_get (by omega), byN_get (by omega)]
    exact ⟨HY.out _ (List.getElem_mem _), HY.out _ (List.getElem_mem _), HY.out _ (List.getElem_mem _), HY.out _ (List.getElem_mem _)⟩⟩
  rw [← ha, ← hb, ← hd, ← hh] at EG EO
  clear x5 x6 x7 x8 ha hb hd hh
  go_enter Try.func39, Try.ntmps39
  go_wp2
  obtain ⟨w1, hw1⟩ : ∃ w1, w1 = w0.alloc (.cells #[.int .i64 0, .int .i64 0, .int .i64 0, .int .i64 0] 38) := ⟨_, rfl⟩
  have hb1 : Below w0.heap.size w0 w1 := by rw [hw1]; exact below_alloc (Below.refl _ _) _
  have BR : w1.heap[w0.heap.size]? = some (.cells #[.int .i64 0, .int .i64 0, .int .i64 0, .int .i64 0] 38 (0, 0)) := by rw [hw1]; exact heap_alloc_new _ _
  have y5 := pw_cell_below hb1 z5
  have y6 := pw_cell_below hb1 z6
  have y7 := pw_cell_below hb1 z7
  have y8 := pw_cell_below hb1 z8
  have HB1 := Aside0.mk hb1
  have BR1 := Aside0.mk BR
  rw [← hw1]
  clear hw1 z5 z6 z7 z8 hb1 BR
  have q0 : (5 : Int) < (l.length : Int) := by omega
  have q1 : (6 : Int) < (l.length : Int) := by omega
  have q2 : (7 : Int) < (l.length : Int) := by omega
  have q3 : (8 : Int) < (l.length : Int) := by omega
  have wa : RowKit.wrap64 a = a := by have := HA.out; unfold RowKit.wrap64; omega
  have wb : RowKit.wrap64 b = b := by have := HA.out; unfold RowKit.wrap64; omega
  have wd : RowKit.wrap64 d = d := by have := HA.out; unfold RowKit.wrap64; omega
  have wh : RowKit.wrap64 h = h := by have := HA.out; unfold RowKit.wrap64; omega
  refine start_ (n := 19) (S := fun w' => w'.cell? ⟨ad.block, ad.off + 5, none⟩ = some (.int .u8 a) ∧ w'.cell? ⟨ad.block, ad.off + 6, none⟩ = some (.int .u8 b) ∧ w'.cell? ⟨ad.block, ad.off + 7, none⟩ = some (.int .u8 d) ∧ w'.cell? ⟨ad.block, ad.off + 8, none⟩ = some (.int .u8 h)) (ds := [18]) #[false, false, false, false, false, false, false, false, false, false, false, false, false, false, false, false, false, false, false] (by kernel_rfl) rfl rfl ⟨(pw_cell_below (below_drew1 (Below.refl w1.heap.size w1)) y5), (pw_cell_below (below_drew1 (Below.refl w1.heap.size w1)) y6), (pw_cell_below (below_drew1 (Below.refl w1.heap.size w1)) y7), (pw_cell_below (below_drew1 (Below.refl w1.heap.size w1)) y8)⟩ (fun hHeld => ?_)
  refine pure_ (i := 0) (N := some 9) (v := ?_) (a' := ?_) #[true, false, false, false, false, false, false, false, false, false, false, false, false, false, false, false, false, false, false] rfl rfl (by kernel_rfl) (fun _ _ _ h => h) (Or.inl ⟨by rfl, ?_⟩) ?_ ?_
  rotate_left
  · intro w'
    go_simp
    with_reducible rfl
  rotate_left
  · simp only [Act.put, List.setIfInBounds_toArray, List.set_cons_zero, List.set_cons_succ, i64_w, i32_w]
    rfl
  refine pure_ (i := 1) (N := some 10) (v := ?_) (a' := ?_) #[true, true, false, false, false, false, false, false, false, false, false, false, false, false, false, false, false, false, false] rfl rfl (by kernel_rfl) (fun _ _ _ h => h) (Or.inl ⟨by rfl, ?_⟩) ?_ ?_
  rotate_left
  · intro w'
    go_simp
    with_reducible rfl
  rotate_left
  · simp only [Act.put, List.setIfInBounds_toArray, List.set_cons_zero, List.set_cons_succ, i64_w, i32_w]
    rfl
  refine pure_ (i := 4) (N := some 13) (v := ?_) (a' := ?_) #[true, true, false, false, true, false, false, false, false, false, false, false, false, false, false, false, false, false, false] rfl rfl (by kernel_rfl) (fun _ _ _ h => h) (Or.inl ⟨by rfl, ?_⟩) ?_ ?_
  rotate_left
  · intro w'
    go_simp
    with_reducible rfl
  rotate_left
  · simp only [Act.put, List.setIfInBounds_toArray, List.set_cons_zero, List.set_cons_succ, i64_w, i32_w]
    rfl
  refine pure_ (i := 5) (N := some 14) (v := ?_) (a' := ?_) #[true, true, false, false, true, true, false, false, false, false, false, false, false, false, false, false, false, false, false] rfl rfl (by kernel_rfl) (fun _ _ _ h => h) (Or.inl ⟨by rfl, ?_⟩) ?_ ?_
  rotate_left
  · intro w'
    go_simp
    with_reducible rfl
  rotate_left
  · simp only [Act.put, List.setIfInBounds_toArray, List.set_cons_zero, List.set_cons_succ, i64_w, i32_w]
    rfl
  refine pure_ (i := 8) (N := some 17) (v := ?_) (a' := ?_) #[true, true, false, false, true, true, false, false, true, false, false, false, false, false, false, false, false, false, false] rfl rfl (by kernel_rfl) (fun _ _ _ h => h) (Or.inl ⟨by rfl, ?_⟩) ?_ ?_
  rotate_left
  · intro w'
    go_simp
    with_reducible rfl
  rotate_left
  · simp only [Act.put, List.setIfInBounds_toArray, List.set_cons_zero, List.set_cons_succ, i64_w, i32_w]
    rfl
  refine pure_ (i := 9) (N := some 18) (v := ?_) (a' := ?_) #[true, true, false, false, true, true, false, false, true, true, false, false, false, false, false, false, false, false, false] rfl rfl (by kernel_rfl) (fun _ _ _ h => h) (Or.inl ⟨by rfl, ?_⟩) ?_ ?_
  rotate_left
  · intro w'
    go_simp
    with_reducible rfl
  rotate_left
  · simp only [Act.put, List.setIfInBounds_toArray, List.set_cons_zero, List.set_cons_succ, i64_w, i32_w]
    rfl
  refine pure_ (i := 12) (N := some 21) (v := ?_) (a' := ?_) #[true, true, false, false, true, true, false, false, true, true, false, false, true, false, false, false, false, false, false] rfl rfl (by kernel_rfl) (fun _ _ _ h => h) (Or.inl ⟨by rfl, ?_⟩) ?_ ?_
  rotate_left
  · intro w'
    go_simp
    with_reducible rfl
  rotate_left
  · simp only [Act.put, List.setIfInBounds_toArray, List.set_cons_zero, List.set_cons_succ, i64_w, i32_w]
    rfl
  refine pure_ (i := 13) (N := some 22) (v := ?_) (a' := ?_) #[true, true, false, false, true, true, false, false, true, true, false, false, true, true, false, false, false, false, false] rfl rfl (by kernel_rfl) (fun _ _ _ h => h) (Or.inl ⟨by rfl, ?_⟩) ?_ ?_
  rotate_left
  · intro w'
    go_simp
    with_reducible rfl
  rotate_left
  · simp only [Act.put, List.setIfInBounds_toArray, List.set_cons_zero, List.set_cons_succ, i64_w, i32_w]
    rfl
  refine take_ (i := 2) (N := some 11) (v := ?_) (a' := ?_) #[true, true, true, false, true, true, false, false, true, true, false, false, true, true, false, false, false, false, false] rfl rfl (by kernel_rfl) (fun _ _ _ h => h) (Or.inl ⟨by rfl, ?_⟩) hHeld ?_ ?_
  rotate_left
  · rintro w' ⟨s0, s1, s2, s3⟩
    go_simp
    with_reducible rfl
  rotate_left
  · simp only [Act.put, List.setIfInBounds_toArray, List.set_cons_zero, List.set_cons_succ, i64_w, i32_w]
    rfl
  refine pure_ (i := 3) (N := some 12) (v := ?_) (a' := ?_) #[true, true, true, true, true, true, false, false, true, true, false, false, true, true, false, false, false, false, false] rfl rfl (by kernel_rfl) (fun _ _ _ h => h) (Or.inl ⟨by rfl, ?_⟩) ?_ ?_
  rotate_left
  · intro w'
    go_simp
    with_reducible rfl
  rotate_left
  · simp only [Act.put, List.setIfInBounds_toArray, List.set_cons_zero, List.set_cons_succ, i64_w, i32_w]
    rfl
  refine take_ (i := 6) (N := some 15) (v := ?_) (a' := ?_) #[true, true, true, true, true, true, true, false, true, true, false, false, true, true, false, false, false, false, false] rfl rfl (by kernel_rfl) (fun _ _ _ h => h) (Or.inl ⟨by rfl, ?_⟩) hHeld ?_ ?_
  rotate_left
  · rintro w' ⟨s0, s1, s2, s3⟩
    go_simp
    with_reducible rfl
  rotate_left
  · simp only [Act.put, List.setIfInBounds_toArray, List.set_cons_zero, List.set_cons_succ, i64_w, i32_w]
    rfl
  refine pure_ (i := 7) (N := some 16) (v := ?_) (a' := ?_) #[true, true, true, true, true, true, true, true, true, true, false, false, true, true, false, false, false, false, false] rfl rfl (by kernel_rfl) (fun _ _ _ h => h) (Or.inl ⟨by rfl, ?_⟩) ?_ ?_
  rotate_left
  · intro w'
    go_simp
    with_reducible rfl
  rotate_left
  · simp only [Act.put, List.setIfInBounds_toArray, List.set_cons_zero, List.set_cons_succ, i64_w, i32_w]
    rfl
  refine take_ (i := 10) (N := some 19) (v := ?_) (a' := ?_) #[true, true, true, true, true, true, true, true, true, true, true, false, true, true, false, false, false, false, false] rfl rfl (by kernel_rfl) (fun _ _ _ h => h) (Or.inl ⟨by rfl, ?_⟩) hHeld ?_ ?_
  rotate_left
  · rintro w' ⟨s0, s1, s2, s3⟩
    go_simp
    with_reducible rfl
  rotate_left
  · simp only [Act.put, List.setIfInBounds_toArray, List.set_cons_zero, List.set_cons_succ, i64_w, i32_w]
    rfl
  refine pure_ (i := 11) (N := some 20) (v := ?_) (a' := ?_) #[true, true, true, true, true, true, true, true, true, true, true, true, true, true, false, false, false, false, false] rfl rfl (by kernel_rfl) (fun _ _ _ h => h) (Or.inl ⟨by rfl, ?_⟩) ?_ ?_
  rotate_left
  · intro w'
    go_simp
    with_reducible rfl
  rotate_left
  · simp only [Act.put, List.setIfInBounds_toArray, List.set_cons_zero, List.set_cons_succ, i64_w, i32_w]
    rfl
  refine take_ (i := 14) (N := some 23) (v := ?_) (a' := ?_) #[true, true, true, true, true, true, true, true, true, true, true, true, true, true, true, false, false, false, false] rfl rfl (by kernel_rfl) (fun _ _ _ h => h) (Or.inl ⟨by rfl, ?_⟩) hHeld ?_ ?_
  rotate_left
  · rintro w' ⟨s0, s1, s2, s3⟩
    go_simp
    with_reducible rfl
  rotate_left
  · simp only [Act.put, List.setIfInBounds_toArray, List.set_cons_zero, List.set_cons_succ, i64_w, i32_w]
    rfl
  refine pure_ (i := 15) (N := some 24) (v := ?_) (a' := ?_) #[true, true, true, true, true, true, true, true, true, true, true, true, true, true, true, true, false, false, false] rfl rfl (by kernel_rfl) (fun _ _ _ h => h) (Or.inl ⟨by rfl, ?_⟩) ?_ ?_
  rotate_left
  · intro w'
    go_simp
    with_reducible rfl
  rotate_left
  · simp only [Act.put, List.setIfInBounds_toArray, List.set_cons_zero, List.set_cons_succ, i64_w, i32_w]
    rfl
  refine pure_ (i := 16) (N := some 25) (v := ?_) (a' := ?_) #[true, true, true, true, true, true, true, true, true, true, true, true, true, true, true, true, true, false, false] rfl rfl (by kernel_rfl) (fun _ _ _ h => h) (Or.inl ⟨by rfl, ?_⟩) ?_ ?_
  rotate_left
  · intro w'
    go_simp
    with_reducible rfl
  rotate_left
  · simp only [Act.put, List.setIfInBounds_toArray, List.set_cons_zero, List.set_cons_succ, i64_w, i32_w]
    rfl
  refine one_ (i := 17) (N := some 4) #[true, true, true, true, true, true, true, true, true, true, true, true, true, true, true, true, true, true, false] rfl rfl (by kernel_rfl) (by decide) (fun K hK => ?_)
  obtain ⟨w2, hw2⟩ : ∃ w2, w2 = w1.drew := ⟨_, rfl⟩
  rw [← hw2] at hHeld ⊢
  have hb2 : Below w1.heap.size w1 w2 := by rw [hw2]; exact below_drew1 (Below.refl _ _)
  clear hw2 hHeld
  refine value_ (w1 := ?_) (v := ?_) (by rfl) rfl ?_ ?_
  rotate_left 2
  · go_simp
    constructor
    · rfl
    · rfl
  refine hK.out _ _ ⟨(pw_cell_below (below_alloc hb2 _) y5), (pw_cell_below (below_alloc hb2 _) y6), (pw_cell_below (below_alloc hb2 _) y7), (pw_cell_below (below_alloc hb2 _) y8)⟩ (fun hHeld => ?_)
  clear hK K
  refine norm_ (a' := ?_) ?_ ?_
  rotate_left
  · show Act.put _ (some 4) _ = _
    simp only [Act.put, List.setIfInBounds_toArray, List.set_cons_zero, List.set_cons_succ, i64_w, i32_w]
    rfl
  refine last_ (i := 18) (N := none) #[true, true, true, true, true, true, true, true, true, true, true, true, true, true, true, true, true, true, true] rfl rfl (by kernel_rfl) (by decide) (fun K hK => ?_)
  clear hHeld
  obtain ⟨w5, hrun, bk5, hg5⟩ := run_store_let (P := Try.prog) (ty := 38) (w2.alloc (.cells #[.int .i64 0, .int .i64 0, .int .i64 0, .int .i64 0] 38)) w2.heap.size #[.int .i64 a, .int .i64 b, .int .i64 d, .int .i64 h] 38 #[.int .i64 0, .int .i64 0, .int .i64 0, .int .i64 0] (heap_alloc_new _ _) rfl (by kernel_rfl) (by simp [Value.oneCell'])
  refine skip_ (w1 := w5) (by rfl) rfl ?_ ?_
  · exact exec_storeG (x := .tmp 4) (y := .tmp 25) rfl rfl rfl hrun
  refine hK.out _ _ ?_
  clear hK K
  refine done_ (by kernel_rfl) ?_
  have hb5 : Below w1.heap.size w1 w5 := (below_alloc hb2 _).grown hg5 (by have := hb2.size; simp; omega) (fun k e => by cases e; exact hb2.size)
  have BK5 := Aside0.mk bk5
  have BR5 := Aside0.mk (blk_below BR1.out hb5)
  have HB5 := Aside0.mk (below_step HB1.out hb5)
  have HR5 := Aside0.mk (Kd.C_below HR.out HB5.out)
  have c0 : w5.cell? ⟨w2.heap.size, 0, none⟩ = some (.int .i64 a) := (blk_cell BK5.out 0).trans rfl
  have c1 : w5.cell? ⟨w2.heap.size, 1, none⟩ = some (.int .i64 b) := (blk_cell BK5.out 1).trans rfl
  have c2 : w5.cell? ⟨w2.heap.size, 2, none⟩ = some (.int .i64 d) := (blk_cell BK5.out 2).trans rfl
  have c3 : w5.cell? ⟨w2.heap.size, 3, none⟩ = some (.int .i64 h) := (blk_cell BK5.out 3).trans rfl
  clear bk5 hg5 hb5 hb2 HB1 BR1 y5 y6 y7 y8 q0 q1 q2 q3 wa wb wd wh
  have WK : Aside0 (∀ W, Calls Try.prog 60 #[.agg #[.int .i64 a, .int .i64 b, .int .i64 d, .int .i64 h]] W fun e w' => e = .returned (.int .i64 (geoE a b d h)) ∧ Below W.heap.size W w') := ⟨fun W => (rCheck_walk a b d h W).mono fun e w' h => ⟨h.1, by rw [h.2]; exact below_alloc (Below.refl _ _) _⟩⟩
  have WP : Aside0 (∀ W, Calls Try.prog 79 #[.agg #[.int .i64 a, .int .i64 b, .int .i64 d, .int .i64 h]] W fun e w' => ∃ v : Value, e = .returned v ∧ Kd.R (Kd.int .u8) 5 w' W.heap.size (fun _ => True) v (sealS (geoHead a b d h)) ∧ Below W.heap.size W w') := ⟨fun W => rBy06_walk a b d h W⟩
  have WT : Aside0 (∀ W, Calls Try.prog 80 #[.agg #[.int .i64 a, .int .i64 b, .int .i64 d, .int .i64 h]] W fun e w' => e = .returned (.int .i64 (geoT a b d h)) ∧ Below W.heap.size W w') := ⟨fun W => rTotal_walk a b d h W⟩
  clear c0 c1 c2 c3
  have hc64 : (64 : Int) ≤ (c : Int) := by omega
  go_wp2
  by_cases hok : geoOk a b d h = true
  case neg =>
    have E0 : Aside0 (G = ((0, 0, 0, 0), 2)) := ⟨by rw [EG.out, EO.out]; simp [hok]⟩
    rw [geoE_bad hok] at WK
    clear hok
    refine start_ (n := 19) (S := fun w' => w'.cell? ⟨w2.heap.size, 0, none⟩ = some (.int .i64 a) ∧ w'.cell? ⟨w2.heap.size, 1, none⟩ = some (.int .i64 b) ∧ w'.cell? ⟨w2.heap.size, 2, none⟩ = some (.int .i64 d) ∧ w'.cell? ⟨w2.heap.size, 3, none⟩ = some (.int .i64 h)) (ds := []) #[false, false, false, false, false, false, false, false, false, false, false, false, false, false, false, false, false, false, false] (by kernel_rfl) rfl rfl ⟨((blk_cell (blk_drew BK5.out) 0).trans rfl), ((blk_cell (blk_drew BK5.out) 1).trans rfl), ((blk_cell (blk_drew BK5.out) 2).trans rfl), ((blk_cell (blk_drew BK5.out) 3).trans rfl)⟩ (fun hHeld => ?_)
    refine take_ (i := 0) (N := some 26) (v := ?_) (a' := ?_) #[true, false, false, false, false, false, false, false, false, false, false, false, false, false, false, false, false, false, false] rfl rfl (by kernel_rfl) (fun _ _ _ h => h) (Or.inl ⟨by rfl, ?_⟩) hHeld ?_ ?_
    rotate_left
    · rintro w' ⟨s0, s1, s2, s3⟩
      go_simp
      with_reducible rfl
    rotate_left
    · simp only [Act.put, List.setIfInBounds_toArray, List.set_cons_zero, List.set_cons_succ, i64_w, i32_w]
      rfl
    refine one_ (i := 1) (N := some 27) #[true, true, false, false, false, false, false, false, false, false, false, false, false, false, false, false, false, false, false] rfl rfl (by kernel_rfl) (by decide) (fun K hK => ?_)
    clear hHeld
    refine goes_ Try.func60 (by kernel_rfl) rfl #[.agg #[.int .i64 a, .int .i64 b, .int .i64 d, .int .i64 h]] (by rfl) rfl rfl (by simp only [List.map_toArray, List.map_cons, List.map_nil]; rfl) ?_
    with_reducible refine (WK.out _).mono ?_
    rintro e w6 ⟨rfl, hb6⟩
    refine ⟨_, rfl, ?_⟩
    have BK6 := Aside0.mk (blk_below (blk_drew BK5.out) hb6)
    have BR6 := Aside0.mk (blk_below (blk_drew BR5.out) hb6)
    have HB6 := Aside0.mk (below_step (below_drew1 HB5.out) hb6)
    have HR6 := Aside0.mk (Kd.C_below (Kd.C_drew HR5.out) hb6)
    clear BK5 BR5 HB5 HR5
    refine hK.out _ _ ⟨((blk_cell BK6.out 0).trans rfl), ((blk_cell BK6.out 1).trans rfl), ((blk_cell BK6.out 2).trans rfl), ((blk_cell BK6.out 3).trans rfl)⟩ (fun hHeld => ?_)
    clear hK K
    refine norm_ (a' := ?_) ?_ ?_
    rotate_left
    · show Act.put _ (some 27) _ = _
      simp only [Act.put, List.setIfInBounds_toArray, List.set_cons_zero, List.set_cons_succ, i64_w, i32_w]
      rfl
    refine pure_ (i := 2) (N := some 28) (v := ?_) (a' := ?_) #[true, true, true, false, false, false, false, false, false, false, false, false, false, false, false, false, false, false, false] rfl rfl (by kernel_rfl) (fun _ _ _ h => h) (Or.inl ⟨by rfl, ?_⟩) ?_ ?_
    rotate_left
    · intro w'
      go_simp
      with_reducible rfl
    rotate_left
    · simp only [Act.put, List.setIfInBounds_toArray, List.set_cons_zero, List.set_cons_succ, i64_w, i32_w]
      rfl
    refine pure_ (i := 3) (N := some 29) (v := ?_) (a' := ?_) #[true, true, true, true, false, false, false, false, false, false, false, false, false, false, false, false, false, false, false] rfl rfl (by kernel_rfl) (fun _ _ _ h => h) (Or.inl ⟨by rfl, ?_⟩) ?_ ?_
    rotate_left
    · intro w'
      go_simp
      with_reducible rfl
    rotate_left
    · simp only [Act.put, List.setIfInBounds_toArray, List.set_cons_zero, List.set_cons_succ, i64_w, i32_w]
      rfl
    refine pure_ (i := 4) (N := some 30) (v := undef) (a' := ?_) #[true, true, true, true, true, false, false, false, false, false, false, false, false, false, false, false, false, false, false] rfl rfl (by kernel_rfl) (fun _ _ _ h => h) (Or.inr ⟨by rfl, rfl⟩) ?_ ?_
    rotate_left
    · simp only [Act.put, List.setIfInBounds_toArray, List.set_cons_zero, List.set_cons_succ, i64_w, i32_w]
      rfl
    refine pure_ (i := 5) (N := some 31) (v := undef) (a' := ?_) #[true, true, true, true, true, true, false, false, false, false, false, false, false, false, false, false, false, false, false] rfl rfl (by kernel_rfl) (fun _ _ _ h => h) (Or.inr ⟨by rfl, rfl⟩) ?_ ?_
    rotate_left
    · simp only [Act.put, List.setIfInBounds_toArray, List.set_cons_zero, List.set_cons_succ, i64_w, i32_w]
      rfl
    refine pure_ (i := 6) (N := some 32) (v := undef) (a' := ?_) #[true, true, true, true, true, true, true, false, false, false, false, false, false, false, false, false, false, false, false] rfl rfl (by kernel_rfl) (fun _ _ _ h => h) (Or.inr ⟨by rfl, rfl⟩) ?_ ?_
    rotate_left
    · simp only [Act.put, List.setIfInBounds_toArray, List.set_cons_zero, List.set_cons_succ, i64_w, i32_w]
      rfl
    refine pure_ (i := 7) (N := some 33) (v := undef) (a' := ?_) #[true, true, true, true, true, true, true, true, false, false, false, false, false, false, false, false, false, false, false] rfl rfl (by kernel_rfl) (fun _ _ _ h => h) (Or.inr ⟨by rfl, rfl⟩) ?_ ?_
    rotate_left
    · simp only [Act.put, List.setIfInBounds_toArray, List.set_cons_zero, List.set_cons_succ, i64_w, i32_w]
      rfl
    refine pure_ (i := 8) (N := some 34) (v := undef) (a' := ?_) #[true, true, true, true, true, true, true, true, true, false, false, false, false, false, false, false, false, false, false] rfl rfl (by kernel_rfl) (fun _ _ _ h => h) (Or.inr ⟨by rfl, rfl⟩) ?_ ?_
    rotate_left
    · simp only [Act.put, List.setIfInBounds_toArray, List.set_cons_zero, List.set_cons_succ, i64_w, i32_w]
      rfl
    refine pure_ (i := 9) (N := some 35) (v := undef) (a' := ?_) #[true, true, true, true, true, true, true, true, true, true, false, false, false, false, false, false, false, false, false] rfl rfl (by kernel_rfl) (fun _ _ _ h => h) (Or.inr ⟨by rfl, rfl⟩) ?_ ?_
    rotate_left
    · simp only [Act.put, List.setIfInBounds_toArray, List.set_cons_zero, List.set_cons_succ, i64_w, i32_w]
      rfl
    refine pure_ (i := 10) (N := some 36) (v := ?_) (a' := ?_) #[true, true, true, true, true, true, true, true, true, true, true, false, false, false, false, false, false, false, false] rfl rfl (by kernel_rfl) (fun _ _ _ h => h) (Or.inl ⟨by rfl, ?_⟩) ?_ ?_
    rotate_left
    · intro w'
      go_simp
      with_reducible rfl
    rotate_left
    · simp only [Act.put, List.setIfInBounds_toArray, List.set_cons_zero, List.set_cons_succ, i64_w, i32_w]
      rfl
    refine pure_ (i := 11) (N := some 37) (v := ?_) (a' := ?_) #[true, true, true, true, true, true, true, true, true, true, true, true, false, false, false, false, false, false, false] rfl rfl (by kernel_rfl) (fun _ _ _ h => h) (Or.inl ⟨by rfl, ?_⟩) ?_ ?_
    rotate_left
    · intro w'
      go_simp
      with_reducible rfl
    rotate_left
    · simp only [Act.put, List.setIfInBounds_toArray, List.set_cons_zero, List.set_cons_succ, i64_w, i32_w]
      rfl
    refine pure_ (i := 12) (N := some 38) (v := undef) (a' := ?_) #[true, true, true, true, true, true, true, true, true, true, true, true, true, false, false, false, false, false, false] rfl rfl (by kernel_rfl) (fun _ _ _ h => h) (Or.inr ⟨by rfl, rfl⟩) ?_ ?_
    rotate_left
    · simp only [Act.put, List.setIfInBounds_toArray, List.set_cons_zero, List.set_cons_succ, i64_w, i32_w]
      rfl
    refine pure_ (i := 13) (N := some 39) (v := undef) (a' := ?_) #[true, true, true, true, true, true, true, true, true, true, true, true, true, true, false, false, false, false, false] rfl rfl (by kernel_rfl) (fun _ _ _ h => h) (Or.inr ⟨by rfl, rfl⟩) ?_ ?_
    rotate_left
    · simp only [Act.put, List.setIfInBounds_toArray, List.set_cons_zero, List.set_cons_succ, i64_w, i32_w]
      rfl
    refine pure_ (i := 14) (N := some 40) (v := undef) (a' := ?_) #[true, true, true, true, true, true, true, true, true, true, true, true, true, true, true, false, false, false, false] rfl rfl (by kernel_rfl) (fun _ _ _ h => h) (Or.inr ⟨by rfl, rfl⟩) ?_ ?_
    rotate_left
    · simp only [Act.put, List.setIfInBounds_toArray, List.set_cons_zero, List.set_cons_succ, i64_w, i32_w]
      rfl
    refine pure_ (i := 15) (N := some 41) (v := undef) (a' := ?_) #[true, true, true, true, true, true, true, true, true, true, true, true, true, true, true, true, false, false, false] rfl rfl (by kernel_rfl) (fun _ _ _ h => h) (Or.inr ⟨by rfl, rfl⟩) ?_ ?_
    rotate_left
    · simp only [Act.put, List.setIfInBounds_toArray, List.set_cons_zero, List.set_cons_succ, i64_w, i32_w]
      rfl
    refine pure_ (i := 16) (N := some 42) (v := undef) (a' := ?_) #[true, true, true, true, true, true, true, true, true, true, true, true, true, true, true, true, true, false, false] rfl rfl (by kernel_rfl) (fun _ _ _ h => h) (Or.inr ⟨by rfl, rfl⟩) ?_ ?_
    rotate_left
    · simp only [Act.put, List.setIfInBounds_toArray, List.set_cons_zero, List.set_cons_succ, i64_w, i32_w]
      rfl
    refine pure_ (i := 17) (N := some 43) (v := undef) (a' := ?_) #[true, true, true, true, true, true, true, true, true, true, true, true, true, true, true, true, true, true, false] rfl rfl (by kernel_rfl) (fun _ _ _ h => h) (Or.inr ⟨by rfl, rfl⟩) ?_ ?_
    rotate_left
    · simp only [Act.put, List.setIfInBounds_toArray, List.set_cons_zero, List.set_cons_succ, i64_w, i32_w]
      rfl
    refine pure_ (i := 18) (N := some 44) (v := ?_) (a' := ?_) #[true, true, true, true, true, true, true, true, true, true, true, true, true, true, true, true, true, true, true] rfl rfl (by kernel_rfl) (fun _ _ _ h => h) (Or.inl ⟨by rfl, ?_⟩) ?_ ?_
    rotate_left
    · intro w'
      go_simp
      with_reducible rfl
    rotate_left
    · simp only [Act.put, List.setIfInBounds_toArray, List.set_cons_zero, List.set_cons_succ, i64_w, i32_w]
      rfl
    refine done_ (by kernel_rfl) ?_
    have e0 : w6.cell? ⟨w2.heap.size, 0, none⟩ = some (.int .i64 a) := (blk_cell BK6.out 0).trans rfl
    have e1 : w6.cell? ⟨w2.heap.size, 1, none⟩ = some (.int .i64 b) := (blk_cell BK6.out 1).trans rfl
    have e2 : w6.cell? ⟨w2.heap.size, 2, none⟩ = some (.int .i64 d) := (blk_cell BK6.out 2).trans rfl
    have e3 : w6.cell? ⟨w2.heap.size, 3, none⟩ = some (.int .i64 h) := (blk_cell BK6.out 3).trans rfl
    go_wp2_with (first | ((with_reducible refine gate_store (p := 2) rfl ?_); go_loud (refine wpList_store_rowL rfl rfl 38 (.tmp 2) (.tmp 45) rfl (w0.heap.size) #[.int .i64 0, .int .i64 0, .int .i64 0, .int .i64 0] rfl rfl 38 #[.int .i64 0, .int .i64 0, .int .i64 0, .int .i64 0] (BR6.out) (by kernel_rfl) rfl (by simp [Value.oneCell']) ?_; intro wz bk_ hg_)))
    refine bodyPost_ret (resRow2 rfl _ _ w0.heap.size 38 #[.int .i64 0, .int .i64 0, .int .i64 0, .int .i64 0] (0, 0) _ (.int .i64 2) rfl rfl bk_ Try.underlying38 rfl (by kernel_rfl)) rfl ?_
    exact ⟨by rw [E0.out], (HB6.out).grown hg_ (below_size HB6.out) (fun k e => by cases e; exact Nat.le_refl _)⟩
  have HTB : Aside0 (0 ≤ geoT a b d h ∧ geoT a b d h ≤ 10000) := ⟨by
    obtain ⟨⟨a0, a1⟩, ⟨b0, b1⟩, ⟨d0, d1⟩, h0, h1⟩ := geoOk_parts hok
    unfold geoT
    rw [if_pos hok]
    have := small_log a0 a1 b0 b1 d0 d1
    omega⟩
  have EO2 : Aside0 (geoGok l = (decide (l.take 64 = sealS (geoHead a b d h)) && decide ((l.length : Int) = 64 * geoT a b d h))) := ⟨by rw [EO.out]; simp [hok, h64]⟩
  have HFL : Aside0 ((sealS (geoHead a b d h)).length = 64) := ⟨sealS_length _⟩
  rw [geoE_ok hok] at WK
  obtain ⟨F, hF⟩ : ∃ F, F = sealS (geoHead a b d h) := ⟨_, rfl⟩
  obtain ⟨tt, htt⟩ : ∃ tt, tt = geoT a b d h := ⟨_, rfl⟩
  rw [← hF] at WP EO2 HFL
  rw [← htt] at WT EO2 HTB
  have hwt : RowKit.wrap64 (64 * tt) = 64 * tt := by have := HTB.out; unfold RowKit.wrap64; omega
  obtain ⟨f, hf⟩ : ∃ f, f = decide (l.take 64 = F) := ⟨_, rfl⟩
  have WE : Aside0 (∀ A c2 W, Kd.C (Kd.int .u8) W (some ad) l.length l → Kd.C (Kd.int .u8) W A F.length F → Calls Try.prog 76 #[.slice (some ad) 64 c, .slice A F.length c2] W fun e w' => e = .returned (.bool f) ∧ Below W.heap.size W w') := ⟨fun A c2 W h1 h2 => by
    have := rSame_walk (some ad) c (l.take 64) A c2 F W (Kd.C_take h1 h64) h2 (by rw [List.length_take]; omega)
    rw [List.length_take, Nat.min_eq_left h64, ← hf] at this
    exact this.mono fun e w' h => ⟨h.1, by obtain ⟨nd, rfl⟩ := h.2; exact pw_below_drewN (Below.refl _ _) _⟩⟩
  clear hok hF htt EO
  cases f with
  | false =>
    have E0 : Aside0 (G = ((0, 0, 0, 0), 2)) := ⟨by rw [EG.out, EO2.out]; have := of_decide_eq_false hf.symm; rw [if_neg]; simp; intro h1; exact absurd h1 this⟩
    clear hf
    refine start_ (n := 19) (S := fun w' => w'.cell? ⟨w2.heap.size, 0, none⟩ = some (.int .i64 a) ∧ w'.cell? ⟨w2.heap.size, 1, none⟩ = some (.int .i64 b) ∧ w'.cell? ⟨w2.heap.size, 2, none⟩ = some (.int .i64 d) ∧ w'.cell? ⟨w2.heap.size, 3, none⟩ = some (.int .i64 h)) (ds := []) #[false, false, false, false, false, false, false, false, false, false, false, false, false, false, false, false, false, false, false] (by kernel_rfl) rfl rfl ⟨((blk_cell (blk_drew BK5.out) 0).trans rfl), ((blk_cell (blk_drew BK5.out) 1).trans rfl), ((blk_cell (blk_drew BK5.out) 2).trans rfl), ((blk_cell (blk_drew BK5.out) 3).trans rfl)⟩ (fun hHeld => ?_)
    refine take_ (i := 0) (N := some 26) (v := ?_) (a' := ?_) #[true, false, false, false, false, false, false, false, false, false, false, false, false, false, false, false, false, false, false] rfl rfl (by kernel_rfl) (fun _ _ _ h => h) (Or.inl ⟨by rfl, ?_⟩) hHeld ?_ ?_
    rotate_left
    · rintro w' ⟨s0, s1, s2, s3⟩
      go_simp
      with_reducible rfl
    rotate_left
    · simp only [Act.put, List.setIfInBounds_toArray, List.set_cons_zero, List.set_cons_succ, i64_w, i32_w]
      rfl
    refine one_ (i := 1) (N := some 27) #[true, true, false, false, false, false, false, false, false, false, false, false, false, false, false, false, false, false, false] rfl rfl (by kernel_rfl) (by decide) (fun K hK => ?_)
    clear hHeld
    refine goes_ Try.func60 (by kernel_rfl) rfl #[.agg #[.int .i64 a, .int .i64 b, .int .i64 d, .int .i64 h]] (by rfl) rfl rfl (by simp only [List.map_toArray, List.map_cons, List.map_nil]; rfl) ?_
    with_reducible refine (WK.out _).mono ?_
    rintro e w6 ⟨rfl, hb6⟩
    refine ⟨_, rfl, ?_⟩
    have BK6 := Aside0.mk (blk_below (blk_drew BK5.out) hb6)
    have BR6 := Aside0.mk (blk_below (blk_drew BR5.out) hb6)
    have HB6 := Aside0.mk (below_step (below_drew1 HB5.out) hb6)
    have HR6 := Aside0.mk (Kd.C_below (Kd.C_drew HR5.out) hb6)
    clear BK5 BR5 HB5 HR5
    refine hK.out _ _ ⟨((blk_cell BK6.out 0).trans rfl), ((blk_cell BK6.out 1).trans rfl), ((blk_cell BK6.out 2).trans rfl), ((blk_cell BK6.out 3).trans rfl)⟩ (fun hHeld => ?_)
    clear hK K
    refine norm_ (a' := ?_) ?_ ?_
    rotate_left
    · show Act.put _ (some 27) _ = _
      simp only [Act.put, List.setIfInBounds_toArray, List.set_cons_zero, List.set_cons_succ, i64_w, i32_w]
      rfl
    refine pure_ (i := 2) (N := some 28) (v := ?_) (a' := ?_) #[true, true, true, false, false, false, false, false, false, false, false, false, false, false, false, false, false, false, false] rfl rfl (by kernel_rfl) (fun _ _ _ h => h) (Or.inl ⟨by rfl, ?_⟩) ?_ ?_
    rotate_left
    · intro w'
      go_simp
      with_reducible rfl
    rotate_left
    · simp only [Act.put, List.setIfInBounds_toArray, List.set_cons_zero, List.set_cons_succ, i64_w, i32_w]
      rfl
    refine pure_ (i := 3) (N := some 29) (v := ?_) (a' := ?_) #[true, true, true, true, false, false, false, false, false, false, false, false, false, false, false, false, false, false, false] rfl rfl (by kernel_rfl) (fun _ _ _ h => h) (Or.inl ⟨by rfl, ?_⟩) ?_ ?_
    rotate_left
    · intro w'
      go_simp
      with_reducible rfl
    rotate_left
    · simp only [Act.put, List.setIfInBounds_toArray, List.set_cons_zero, List.set_cons_succ, i64_w, i32_w]
      rfl
    refine pure_ (i := 4) (N := some 30) (v := ?_) (a' := ?_) #[true, true, true, true, true, false, false, false, false, false, false, false, false, false, false, false, false, false, false] rfl rfl (by kernel_rfl) (fun _ _ _ h => h) (Or.inl ⟨by rfl, ?_⟩) ?_ ?_
    rotate_left
    · intro w'
      go_simp
      with_reducible rfl
    rotate_left
    · simp only [Act.put, List.setIfInBounds_toArray, List.set_cons_zero, List.set_cons_succ, i64_w, i32_w]
      rfl
    refine pure_ (i := 5) (N := some 31) (v := ?_) (a' := ?_) #[true, true, true, true, true, true, false, false, false, false, false, false, false, false, false, false, false, false, false] rfl rfl (by kernel_rfl) (fun _ _ _ h => h) (Or.inl ⟨by rfl, ?_⟩) ?_ ?_
    rotate_left
    · intro w'
      go_simp
      with_reducible rfl
    rotate_left
    · simp only [Act.put, List.setIfInBounds_toArray, List.set_cons_zero, List.set_cons_succ, i64_w, i32_w]
      rfl
    refine take_ (i := 6) (N := some 32) (v := ?_) (a' := ?_) #[true, true, true, true, true, true, true, false, false, false, false, false, false, false, false, false, false, false, false] rfl rfl (by kernel_rfl) (fun _ _ _ h => h) (Or.inl ⟨by rfl, ?_⟩) hHeld ?_ ?_
    rotate_left
    · rintro w' ⟨s0, s1, s2, s3⟩
      go_simp
      with_reducible rfl
    rotate_left
    · simp only [Act.put, List.setIfInBounds_toArray, List.set_cons_zero, List.set_cons_succ, i64_w, i32_w]
      rfl
    refine one_ (i := 7) (N := some 33) #[true, true, true, true, true, true, true, true, false, false, false, false, false, false, false, false, false, false, false] rfl rfl (by kernel_rfl) (by decide) (fun K hK => ?_)
    clear hHeld
    refine goes_ Try.func79 (by kernel_rfl) rfl #[.agg #[.int .i64 a, .int .i64 b, .int .i64 d, .int .i64 h]] (by rfl) rfl rfl (by simp only [List.map_toArray, List.map_cons, List.map_nil]; rfl) ?_
    with_reducible refine (WP.out _).mono ?_
    rintro e w7 ⟨v7, rfl, ho7, hb7⟩
    refine ⟨_, rfl, ?_⟩
    obtain ⟨A7, c7, hv7⟩ := Kd.R_slice ho7
    subst hv7
    have HF7 := Aside0.mk (Kd.R_reads' ho7).2.2
    have BK7 := Aside0.mk (blk_below BK6.out hb7)
    have BR7 := Aside0.mk (blk_below BR6.out hb7)
    have HB7 := Aside0.mk (below_step HB6.out hb7)
    have HR7 := Aside0.mk (Kd.C_below HR6.out hb7)
    clear BK6 BR6 HB6 HR6
    clear ho7
    refine hK.out _ _ ⟨((blk_cell BK7.out 0).trans rfl), ((blk_cell BK7.out 1).trans rfl), ((blk_cell BK7.out 2).trans rfl), ((blk_cell BK7.out 3).trans rfl)⟩ (fun hHeld => ?_)
    clear hK K
    refine norm_ (a' := ?_) ?_ ?_
    rotate_left
    · show Act.put _ (some 33) _ = _
      simp only [Act.put, List.setIfInBounds_toArray, List.set_cons_zero, List.set_cons_succ, i64_w, i32_w]
      rfl
    refine one_ (i := 8) (N := some 34) #[true, true, true, true, true, true, true, true, true, false, false, false, false, false, false, false, false, false, false] rfl rfl (by kernel_rfl) (by decide) (fun K hK => ?_)
    clear hHeld
    refine goes_ Try.func76 (by kernel_rfl) rfl #[.slice (some ad) 64 c, .slice A7 F.length c7] (by rfl) rfl rfl (by simp only [List.map_toArray, List.map_cons, List.map_nil]; rfl) ?_
    with_reducible refine (WE.out _ _ _ HR7.out HF7.out).mono ?_
    rintro e w8 ⟨rfl, hb8⟩
    refine ⟨_, rfl, ?_⟩
    have BK8 := Aside0.mk (blk_below BK7.out hb8)
    have BR8 := Aside0.mk (blk_below BR7.out hb8)
    have HB8 := Aside0.mk (below_step HB7.out hb8)
    have HR8 := Aside0.mk (Kd.C_below HR7.out hb8)
    clear BK7 BR7 HB7 HR7
    refine hK.out _ _ ⟨((blk_cell BK8.out 0).trans rfl), ((blk_cell BK8.out 1).trans rfl), ((blk_cell BK8.out 2).trans rfl), ((blk_cell BK8.out 3).trans rfl)⟩ (fun hHeld => ?_)
    clear hK K
    refine norm_ (a' := ?_) ?_ ?_
    rotate_left
    · show Act.put _ (some 34) _ = _
      simp only [Act.put, List.setIfInBounds_toArray, List.set_cons_zero, List.set_cons_succ, i64_w, i32_w]
      rfl
    refine pure_ (i := 9) (N := some 35) (v := ?_) (a' := ?_) #[true, true, true, true, true, true, true, true, true, true, false, false, false, false, false, false, false, false, false] rfl rfl (by kernel_rfl) (fun _ _ _ h => h) (Or.inl ⟨by rfl, ?_⟩) ?_ ?_
    rotate_left
    · intro w'
      go_simp
      with_reducible rfl
    rotate_left
    · simp only [Act.put, List.setIfInBounds_toArray, List.set_cons_zero, List.set_cons_succ, i64_w, i32_w]
      rfl
    refine pure_ (i := 10) (N := some 36) (v := ?_) (a' := ?_) #[true, true, true, true, true, true, true, true, true, true, true, false, false, false, false, false, false, false, false] rfl rfl (by kernel_rfl) (fun _ _ _ h => h) (Or.inl ⟨by rfl, ?_⟩) ?_ ?_
    rotate_left
    · intro w'
      go_simp
      with_reducible rfl
    rotate_left
    · simp only [Act.put, List.setIfInBounds_toArray, List.set_cons_zero, List.set_cons_succ, i64_w, i32_w]
      rfl
    refine pure_ (i := 11) (N := some 37) (v := ?_) (a' := ?_) #[true, true, true, true, true, true, true, true, true, true, true, true, false, false, false, false, false, false, false] rfl rfl (by kernel_rfl) (fun _ _ _ h => h) (Or.inl ⟨by rfl, ?_⟩) ?_ ?_
    rotate_left
    · intro w'
      go_simp
      with_reducible rfl
    rotate_left
    · simp only [Act.put, List.setIfInBounds_toArray, List.set_cons_zero, List.set_cons_succ, i64_w, i32_w]
      rfl
    refine pure_ (i := 12) (N := some 38) (v := undef) (a' := ?_) #[true, true, true, true, true, true, true, true, true, true, true, true, true, false, false, false, false, false, false] rfl rfl (by kernel_rfl) (fun _ _ _ h => h) (Or.inr ⟨by rfl, rfl⟩) ?_ ?_
    rotate_left
    · simp only [Act.put, List.setIfInBounds_toArray, List.set_cons_zero, List.set_cons_succ, i64_w, i32_w]
      rfl
    refine pure_ (i := 13) (N := some 39) (v := undef) (a' := ?_) #[true, true, true, true, true, true, true, true, true, true, true, true, true, true, false, false, false, false, false] rfl rfl (by kernel_rfl) (fun _ _ _ h => h) (Or.inr ⟨by rfl, rfl⟩) ?_ ?_
    rotate_left
    · simp only [Act.put, List.setIfInBounds_toArray, List.set_cons_zero, List.set_cons_succ, i64_w, i32_w]
      rfl
    refine pure_ (i := 14) (N := some 40) (v := undef) (a' := ?_) #[true, true, true, true, true, true, true, true, true, true, true, true, true, true, true, false, false, false, false] rfl rfl (by kernel_rfl) (fun _ _ _ h => h) (Or.inr ⟨by rfl, rfl⟩) ?_ ?_
    rotate_left
    · simp only [Act.put, List.setIfInBounds_toArray, List.set_cons_zero, List.set_cons_succ, i64_w, i32_w]
      rfl
    refine pure_ (i := 15) (N := some 41) (v := undef) (a' := ?_) #[true, true, true, true, true, true, true, true, true, true, true, true, true, true, true, true, false, false, false] rfl rfl (by kernel_rfl) (fun _ _ _ h => h) (Or.inr ⟨by rfl, rfl⟩) ?_ ?_
    rotate_left
    · simp only [Act.put, List.setIfInBounds_toArray, List.set_cons_zero, List.set_cons_succ, i64_w, i32_w]
      rfl
    refine pure_ (i := 16) (N := some 42) (v := undef) (a' := ?_) #[true, true, true, true, true, true, true, true, true, true, true, true, true, true, true, true, true, false, false] rfl rfl (by kernel_rfl) (fun _ _ _ h => h) (Or.inr ⟨by rfl, rfl⟩) ?_ ?_
    rotate_left
    · simp only [Act.put, List.setIfInBounds_toArray, List.set_cons_zero, List.set_cons_succ, i64_w, i32_w]
      rfl
    refine pure_ (i := 17) (N := some 43) (v := undef) (a' := ?_) #[true, true, true, true, true, true, true, true, true, true, true, true, true, true, true, true, true, true, false] rfl rfl (by kernel_rfl) (fun _ _ _ h => h) (Or.inr ⟨by rfl, rfl⟩) ?_ ?_
    rotate_left
    · simp only [Act.put, List.setIfInBounds_toArray, List.set_cons_zero, List.set_cons_succ, i64_w, i32_w]
      rfl
    refine pure_ (i := 18) (N := some 44) (v := ?_) (a' := ?_) #[true, true, true, true, true, true, true, true, true, true, true, true, true, true, true, true, true, true, true] rfl rfl (by kernel_rfl) (fun _ _ _ h => h) (Or.inl ⟨by rfl, ?_⟩) ?_ ?_
    rotate_left
    · intro w'
      go_simp
      with_reducible rfl
    rotate_left
    · simp only [Act.put, List.setIfInBounds_toArray, List.set_cons_zero, List.set_cons_succ, i64_w, i32_w]
      rfl
    refine done_ (by kernel_rfl) ?_
    have e0 : w8.cell? ⟨w2.heap.size, 0, none⟩ = some (.int .i64 a) := (blk_cell BK8.out 0).trans rfl
    have e1 : w8.cell? ⟨w2.heap.size, 1, none⟩ = some (.int .i64 b) := (blk_cell BK8.out 1).trans rfl
    have e2 : w8.cell? ⟨w2.heap.size, 2, none⟩ = some (.int .i64 d) := (blk_cell BK8.out 2).trans rfl
    have e3 : w8.cell? ⟨w2.heap.size, 3, none⟩ = some (.int .i64 h) := (blk_cell BK8.out 3).trans rfl
    go_wp2_with (first | ((with_reducible refine gate_store (p := 2) rfl ?_); go_loud (refine wpList_store_rowL rfl rfl 38 (.tmp 2) (.tmp 45) rfl (w0.heap.size) #[.int .i64 0, .int .i64 0, .int .i64 0, .int .i64 0] rfl rfl 38 #[.int .i64 0, .int .i64 0, .int .i64 0, .int .i64 0] (BR8.out) (by kernel_rfl) rfl (by simp [Value.oneCell']) ?_; intro wz bk_ hg_)))
    refine bodyPost_ret (resRow2 rfl _ _ w0.heap.size 38 #[.int .i64 0, .int .i64 0, .int .i64 0, .int .i64 0] (0, 0) _ (.int .i64 2) rfl rfl bk_ Try.underlying38 rfl (by kernel_rfl)) rfl ?_
    exact ⟨by rw [E0.out], (HB8.out).grown hg_ (below_size HB8.out) (fun k e => by cases e; exact Nat.le_refl _)⟩
  | true =>
    have hF2 := of_decide_eq_true hf.symm
    by_cases hlen : (l.length : Int) = 64 * tt
    · have E0 : Aside0 (G = ((a, b, d, h), 0)) := ⟨by rw [EG.out, EO2.out, if_pos]; simp [hF2, hlen]⟩
      have hlb : ((l.length : Int) != 64 * tt) = false := by simpa using hlen
      clear hf hF2 hlen
      refine start_ (n := 19) (S := fun w' => w'.cell? ⟨w2.heap.size, 0, none⟩ = some (.int .i64 a) ∧ w'.cell? ⟨w2.heap.size, 1, none⟩ = some (.int .i64 b) ∧ w'.cell? ⟨w2.heap.size, 2, none⟩ = some (.int .i64 d) ∧ w'.cell? ⟨w2.heap.size, 3, none⟩ = some (.int .i64 h)) (ds := []) #[false, false, false, false, false, false, false, false, false, false, false, false, false, false, false, false, false, false, false] (by kernel_rfl) rfl rfl ⟨((blk_cell (blk_drew BK5.out) 0).trans rfl), ((blk_cell (blk_drew BK5.out) 1).trans rfl), ((blk_cell (blk_drew BK5.out) 2).trans rfl), ((blk_cell (blk_drew BK5.out) 3).trans rfl)⟩ (fun hHeld => ?_)
      refine take_ (i := 0) (N := some 26) (v := ?_) (a' := ?_) #[true, false, false, false, false, false, false, false, false, false, false, false, false, false, false, false, false, false, false] rfl rfl (by kernel_rfl) (fun _ _ _ h => h) (Or.inl ⟨by rfl, ?_⟩) hHeld ?_ ?_
      rotate_left
      · rintro w' ⟨s0, s1, s2, s3⟩
        go_simp
        with_reducible rfl
      rotate_left
      · simp only [Act.put, List.setIfInBounds_toArray, List.set_cons_zero, List.set_cons_succ, i64_w, i32_w]
        rfl
      refine one_ (i := 1) (N := some 27) #[true, true, false, false, false, false, false, false, false, false, false, false, false, false, false, false, false, false, false] rfl rfl (by kernel_rfl) (by decide) (fun K hK => ?_)
      clear hHeld
      refine goes_ Try.func60 (by kernel_rfl) rfl #[.agg #[.int .i64 a, .int .i64 b, .int .i64 d, .int .i64 h]] (by rfl) rfl rfl (by simp only [List.map_toArray, List.map_cons, List.map_nil]; rfl) ?_
      with_reducible refine (WK.out _).mono ?_
      rintro e w6 ⟨rfl, hb6⟩
      refine ⟨_, rfl, ?_⟩
      have BK6 := Aside0.mk (blk_below (blk_drew BK5.out) hb6)
      have BR6 := Aside0.mk (blk_below (blk_drew BR5.out) hb6)
      have HB6 := Aside0.mk (below_step (below_drew1 HB5.out) hb6)
      have HR6 := Aside0.mk (Kd.C_below (Kd.C_drew HR5.out) hb6)
      clear BK5 BR5 HB5 HR5
      refine hK.out _ _ ⟨((blk_cell BK6.out 0).trans rfl), ((blk_cell BK6.out 1).trans rfl), ((blk_cell BK6.out 2).trans rfl), ((blk_cell BK6.out 3).trans rfl)⟩ (fun hHeld => ?_)
      clear hK K
      refine norm_ (a' := ?_) ?_ ?_
      rotate_left
      · show Act.put _ (some 27) _ = _
        simp only [Act.put, List.setIfInBounds_toArray, List.set_cons_zero, List.set_cons_succ, i64_w, i32_w]
        rfl
      refine pure_ (i := 2) (N := some 28) (v := ?_) (a' := ?_) #[true, true, true, false, false, false, false, false, false, false, false, false, false, false, false, false, false, false, false] rfl rfl (by kernel_rfl) (fun _ _ _ h => h) (Or.inl ⟨by rfl, ?_⟩) ?_ ?_
      rotate_left
      · intro w'
        go_simp
        with_reducible rfl
      rotate_left
      · simp only [Act.put, List.setIfInBounds_toArray, List.set_cons_zero, List.set_cons_succ, i64_w, i32_w]
        rfl
      refine pure_ (i := 3) (N := some 29) (v := ?_) (a' := ?_) #[true, true, true, true, false, false, false, false, false, false, false, false, false, false, false, false, false, false, false] rfl rfl (by kernel_rfl) (fun _ _ _ h => h) (Or.inl ⟨by rfl, ?_⟩) ?_ ?_
      rotate_left
      · intro w'
        go_simp
        with_reducible rfl
      rotate_left
      · simp only [Act.put, List.setIfInBounds_toArray, List.set_cons_zero, List.set_cons_succ, i64_w, i32_w]
        rfl
      refine pure_ (i := 4) (N := some 30) (v := ?_) (a' := ?_) #[true, true, true, true, true, false, false, false, false, false, false, false, false, false, false, false, false, false, false] rfl rfl (by kernel_rfl) (fun _ _ _ h => h) (Or.inl ⟨by rfl, ?_⟩) ?_ ?_
      rotate_left
      · intro w'
        go_simp
        with_reducible rfl
      rotate_left
      · simp only [Act.put, List.setIfInBounds_toArray, List.set_cons_zero, List.set_cons_succ, i64_w, i32_w]
        rfl
      refine pure_ (i := 5) (N := some 31) (v := ?_) (a' := ?_) #[true, true, true, true, true, true, false, false, false, false, false, false, false, false, false, false, false, false, false] rfl rfl (by kernel_rfl) (fun _ _ _ h => h) (Or.inl ⟨by rfl, ?_⟩) ?_ ?_
      rotate_left
      · intro w'
        go_simp
        with_reducible rfl
      rotate_left
      · simp only [Act.put, List.setIfInBounds_toArray, List.set_cons_zero, List.set_cons_succ, i64_w, i32_w]
        rfl
      refine take_ (i := 6) (N := some 32) (v := ?_) (a' := ?_) #[true, true, true, true, true, true, true, false, false, false, false, false, false, false, false, false, false, false, false] rfl rfl (by kernel_rfl) (fun _ _ _ h => h) (Or.inl ⟨by rfl, ?_⟩) hHeld ?_ ?_
      rotate_left
      · rintro w' ⟨s0, s1, s2, s3⟩
        go_simp
        with_reducible rfl
      rotate_left
      · simp only [Act.put, List.setIfInBounds_toArray, List.set_cons_zero, List.set_cons_succ, i64_w, i32_w]
        rfl
      refine one_ (i := 7) (N := some 33) #[true, true, true, true, true, true, true, true, false, false, false, false, false, false, false, false, false, false, false] rfl rfl (by kernel_rfl) (by decide) (fun K hK => ?_)
      clear hHeld
      refine goes_ Try.func79 (by kernel_rfl) rfl #[.agg #[.int .i64 a, .int .i64 b, .int .i64 d, .int .i64 h]] (by rfl) rfl rfl (by simp only [List.map_toArray, List.map_cons, List.map_nil]; rfl) ?_
      with_reducible refine (WP.out _).mono ?_
      rintro e w7 ⟨v7, rfl, ho7, hb7⟩
      refine ⟨_, rfl, ?_⟩
      obtain ⟨A7, c7, hv7⟩ := Kd.R_slice ho7
      subst hv7
      have HF7 := Aside0.mk (Kd.R_reads' ho7).2.2
      have BK7 := Aside0.mk (blk_below BK6.out hb7)
      have BR7 := Aside0.mk (blk_below BR6.out hb7)
      have HB7 := Aside0.mk (below_step HB6.out hb7)
      have HR7 := Aside0.mk (Kd.C_below HR6.out hb7)
      clear BK6 BR6 HB6 HR6
      clear ho7
      refine hK.out _ _ ⟨((blk_cell BK7.out 0).trans rfl), ((blk_cell BK7.out 1).trans rfl), ((blk_cell BK7.out 2).trans rfl), ((blk_cell BK7.out 3).trans rfl)⟩ (fun hHeld => ?_)
      clear hK K
      refine norm_ (a' := ?_) ?_ ?_
      rotate_left
      · show Act.put _ (some 33) _ = _
        simp only [Act.put, List.setIfInBounds_toArray, List.set_cons_zero, List.set_cons_succ, i64_w, i32_w]
        rfl
      refine one_ (i := 8) (N := some 34) #[true, true, true, true, true, true, true, true, true, false, false, false, false, false, false, false, false, false, false] rfl rfl (by kernel_rfl) (by decide) (fun K hK => ?_)
      clear hHeld
      refine goes_ Try.func76 (by kernel_rfl) rfl #[.slice (some ad) 64 c, .slice A7 F.length c7] (by rfl) rfl rfl (by simp only [List.map_toArray, List.map_cons, List.map_nil]; rfl) ?_
      with_reducible refine (WE.out _ _ _ HR7.out HF7.out).mono ?_
      rintro e w8 ⟨rfl, hb8⟩
      refine ⟨_, rfl, ?_⟩
      have BK8 := Aside0.mk (blk_below BK7.out hb8)
      have BR8 := Aside0.mk (blk_below BR7.out hb8)
      have HB8 := Aside0.mk (below_step HB7.out hb8)
      have HR8 := Aside0.mk (Kd.C_below HR7.out hb8)
      clear BK7 BR7 HB7 HR7
      refine hK.out _ _ ⟨((blk_cell BK8.out 0).trans rfl), ((blk_cell BK8.out 1).trans rfl), ((blk_cell BK8.out 2).trans rfl), ((blk_cell BK8.out 3).trans rfl)⟩ (fun hHeld => ?_)
      clear hK K
      refine norm_ (a' := ?_) ?_ ?_
      rotate_left
      · show Act.put _ (some 34) _ = _
        simp only [Act.put, List.setIfInBounds_toArray, List.set_cons_zero, List.set_cons_succ, i64_w, i32_w]
        rfl
      refine pure_ (i := 9) (N := some 35) (v := ?_) (a' := ?_) #[true, true, true, true, true, true, true, true, true, true, false, false, false, false, false, false, false, false, false] rfl rfl (by kernel_rfl) (fun _ _ _ h => h) (Or.inl ⟨by rfl, ?_⟩) ?_ ?_
      rotate_left
      · intro w'
        go_simp
        with_reducible rfl
      rotate_left
      · simp only [Act.put, List.setIfInBounds_toArray, List.set_cons_zero, List.set_cons_succ, i64_w, i32_w]
        rfl
      refine pure_ (i := 10) (N := some 36) (v := ?_) (a' := ?_) #[true, true, true, true, true, true, true, true, true, true, true, false, false, false, false, false, false, false, false] rfl rfl (by kernel_rfl) (fun _ _ _ h => h) (Or.inl ⟨by rfl, ?_⟩) ?_ ?_
      rotate_left
      · intro w'
        go_simp
        with_reducible rfl
      rotate_left
      · simp only [Act.put, List.setIfInBounds_toArray, List.set_cons_zero, List.set_cons_succ, i64_w, i32_w]
        rfl
      refine pure_ (i := 11) (N := some 37) (v := ?_) (a' := ?_) #[true, true, true, true, true, true, true, true, true, true, true, true, false, false, false, false, false, false, false] rfl rfl (by kernel_rfl) (fun _ _ _ h => h) (Or.inl ⟨by rfl, ?_⟩) ?_ ?_
      rotate_left
      · intro w'
        go_simp
        with_reducible rfl
      rotate_left
      · simp only [Act.put, List.setIfInBounds_toArray, List.set_cons_zero, List.set_cons_succ, i64_w, i32_w]
        rfl
      refine pure_ (i := 12) (N := some 38) (v := ?_) (a' := ?_) #[true, true, true, true, true, true, true, true, true, true, true, true, true, false, false, false, false, false, false] rfl rfl (by kernel_rfl) (fun _ _ _ h => h) (Or.inl ⟨by rfl, ?_⟩) ?_ ?_
      rotate_left
      · intro w'
        go_simp
        with_reducible rfl
      rotate_left
      · simp only [Act.put, List.setIfInBounds_toArray, List.set_cons_zero, List.set_cons_succ, i64_w, i32_w]
        rfl
      refine pure_ (i := 13) (N := some 39) (v := ?_) (a' := ?_) #[true, true, true, true, true, true, true, true, true, true, true, true, true, true, false, false, false, false, false] rfl rfl (by kernel_rfl) (fun _ _ _ h => h) (Or.inl ⟨by rfl, ?_⟩) ?_ ?_
      rotate_left
      · intro w'
        go_simp
        with_reducible rfl
      rotate_left
      · simp only [Act.put, List.setIfInBounds_toArray, List.set_cons_zero, List.set_cons_succ, i64_w, i32_w]
        rfl
      refine take_ (i := 14) (N := some 40) (v := ?_) (a' := ?_) #[true, true, true, true, true, true, true, true, true, true, true, true, true, true, true, false, false, false, false] rfl rfl (by kernel_rfl) (fun _ _ _ h => h) (Or.inl ⟨by rfl, ?_⟩) hHeld ?_ ?_
      rotate_left
      · rintro w' ⟨s0, s1, s2, s3⟩
        go_simp
        with_reducible rfl
      rotate_left
      · simp only [Act.put, List.setIfInBounds_toArray, List.set_cons_zero, List.set_cons_succ, i64_w, i32_w]
        rfl
      refine one_ (i := 15) (N := some 41) #[true, true, true, true, true, true, true, true, true, true, true, true, true, true, true, true, false, false, false] rfl rfl (by kernel_rfl) (by decide) (fun K hK => ?_)
      clear hHeld
      refine goes_ Try.func80 (by kernel_rfl) rfl #[.agg #[.int .i64 a, .int .i64 b, .int .i64 d, .int .i64 h]] (by rfl) rfl rfl (by simp only [List.map_toArray, List.map_cons, List.map_nil]; rfl) ?_
      with_reducible refine (WT.out _).mono ?_
      rintro e w9 ⟨rfl, hb9⟩
      refine ⟨_, rfl, ?_⟩
      have BK9 := Aside0.mk (blk_below BK8.out hb9)
      have BR9 := Aside0.mk (blk_below BR8.out hb9)
      have HB9 := Aside0.mk (below_step HB8.out hb9)
      have HR9 := Aside0.mk (Kd.C_below HR8.out hb9)
      clear BK8 BR8 HB8 HR8
      refine hK.out _ _ ⟨((blk_cell BK9.out 0).trans rfl), ((blk_cell BK9.out 1).trans rfl), ((blk_cell BK9.out 2).trans rfl), ((blk_cell BK9.out 3).trans rfl)⟩ (fun hHeld => ?_)
      clear hK K
      refine norm_ (a' := ?_) ?_ ?_
      rotate_left
      · show Act.put _ (some 41) _ = _
        simp only [Act.put, List.setIfInBounds_toArray, List.set_cons_zero, List.set_cons_succ, i64_w, i32_w]
        rfl
      refine pure_ (i := 16) (N := some 42) (v := ?_) (a' := ?_) #[true, true, true, true, true, true, true, true, true, true, true, true, true, true, true, true, true, false, false] rfl rfl (by kernel_rfl) (fun _ _ _ h => h) (Or.inl ⟨by rfl, ?_⟩) ?_ ?_
      rotate_left
      · intro w'
        go_simp
        with_reducible rfl
      rotate_left
      · simp only [Act.put, List.setIfInBounds_toArray, List.set_cons_zero, List.set_cons_succ, i64_w, i32_w]
        rfl
      refine pure_ (i := 17) (N := some 43) (v := ?_) (a' := ?_) #[true, true, true, true, true, true, true, true, true, true, true, true, true, true, true, true, true, true, false] rfl rfl (by kernel_rfl) (fun _ _ _ h => h) (Or.inl ⟨by rfl, ?_⟩) ?_ ?_
      rotate_left
      · intro w'
        go_simp
        with_reducible rfl
      rotate_left
      · simp only [Act.put, List.setIfInBounds_toArray, List.set_cons_zero, List.set_cons_succ, i64_w, i32_w]
        rfl
      refine pure_ (i := 18) (N := some 44) (v := ?_) (a' := ?_) #[true, true, true, true, true, true, true, true, true, true, true, true, true, true, true, true, true, true, true] rfl rfl (by kernel_rfl) (fun _ _ _ h => h) (Or.inl ⟨by rfl, ?_⟩) ?_ ?_
      rotate_left
      · intro w'
        go_simp
        with_reducible rfl
      rotate_left
      · simp only [Act.put, List.setIfInBounds_toArray, List.set_cons_zero, List.set_cons_succ, i64_w, i32_w]
        rfl
      refine done_ (by kernel_rfl) ?_
      have e0 : w9.cell? ⟨w2.heap.size, 0, none⟩ = some (.int .i64 a) := (blk_cell BK9.out 0).trans rfl
      have e1 : w9.cell? ⟨w2.heap.size, 1, none⟩ = some (.int .i64 b) := (blk_cell BK9.out 1).trans rfl
      have e2 : w9.cell? ⟨w2.heap.size, 2, none⟩ = some (.int .i64 d) := (blk_cell BK9.out 2).trans rfl
      have e3 : w9.cell? ⟨w2.heap.size, 3, none⟩ = some (.int .i64 h) := (blk_cell BK9.out 3).trans rfl
      go_wp2_with (first | ((with_reducible refine gate_store (p := 2) rfl ?_); go_loud (refine wpList_store_rowL rfl rfl 38 (.tmp 2) (.tmp 46) rfl (w0.heap.size) #[.int .i64 a, .int .i64 b, .int .i64 d, .int .i64 h] rfl rfl 38 #[.int .i64 0, .int .i64 0, .int .i64 0, .int .i64 0] (BR9.out) (by kernel_rfl) rfl (by simp [Value.oneCell']) ?_; intro wz bk_ hg_)))
      refine bodyPost_ret (resRow2 rfl _ _ w0.heap.size 38 #[.int .i64 a, .int .i64 b, .int .i64 d, .int .i64 h] (0, 0) _ (.int .i64 0) rfl rfl bk_ Try.underlying38 rfl (by kernel_rfl)) rfl ?_
      exact ⟨by rw [E0.out], (HB9.out).grown hg_ (below_size HB9.out) (fun k e => by cases e; exact Nat.le_refl _)⟩
    · have E0 : Aside0 (G = ((0, 0, 0, 0), 2)) := ⟨by rw [EG.out, EO2.out, if_neg]; simp [hlen]⟩
      have hlb : ((l.length : Int) != 64 * tt) = true := by simpa using hlen
      clear hf hF2 hlen
      refine start_ (n := 19) (S := fun w' => w'.cell? ⟨w2.heap.size, 0, none⟩ = some (.int .i64 a) ∧ w'.cell? ⟨w2.heap.size, 1, none⟩ = some (.int .i64 b) ∧ w'.cell? ⟨w2.heap.size, 2, none⟩ = some (.int .i64 d) ∧ w'.cell? ⟨w2.heap.size, 3, none⟩ = some (.int .i64 h)) (ds := []) #[false, false, false, false, false, false, false, false, false, false, false, false, false, false, false, false, false, false, false] (by kernel_rfl) rfl rfl ⟨((blk_cell (blk_drew BK5.out) 0).trans rfl), ((blk_cell (blk_drew BK5.out) 1).trans rfl), ((blk_cell (blk_drew BK5.out) 2).trans rfl), ((blk_cell (blk_drew BK5.out) 3).trans rfl)⟩ (fun hHeld => ?_)
      refine take_ (i := 0) (N := some 26) (v := ?_) (a' := ?_) #[true, false, false, false, false, false, false, false, false, false, false, false, false, false, false, false, false, false, false] rfl rfl (by kernel_rfl) (fun _ _ _ h => h) (Or.inl ⟨by rfl, ?_⟩) hHeld ?_ ?_
      rotate_left
      · rintro w' ⟨s0, s1, s2, s3⟩
        go_simp
        with_reducible rfl
      rotate_left
      · simp only [Act.put, List.setIfInBounds_toArray, List.set_cons_zero, List.set_cons_succ, i64_w, i32_w]
        rfl
      refine one_ (i := 1) (N := some 27) #[true, true, false, false, false, false, false, false, false, false, false, false, false, false, false, false, false, false, false] rfl rfl (by kernel_rfl) (by decide) (fun K hK => ?_)
      clear hHeld
      refine goes_ Try.func60 (by kernel_rfl) rfl #[.agg #[.int .i64 a, .int .i64 b, .int .i64 d, .int .i64 h]] (by rfl) rfl rfl (by simp only [List.map_toArray, List.map_cons, List.map_nil]; rfl) ?_
      with_reducible refine (WK.out _).mono ?_
      rintro e w6 ⟨rfl, hb6⟩
      refine ⟨_, rfl, ?_⟩
      have BK6 := Aside0.mk (blk_below (blk_drew BK5.out) hb6)
      have BR6 := Aside0.mk (blk_below (blk_drew BR5.out) hb6)
      have HB6 := Aside0.mk (below_step (below_drew1 HB5.out) hb6)
      have HR6 := Aside0.mk (Kd.C_below (Kd.C_drew HR5.out) hb6)
      clear BK5 BR5 HB5 HR5
      refine hK.out _ _ ⟨((blk_cell BK6.out 0).trans rfl), ((blk_cell BK6.out 1).trans rfl), ((blk_cell BK6.out 2).trans rfl), ((blk_cell BK6.out 3).trans rfl)⟩ (fun hHeld => ?_)
      clear hK K
      refine norm_ (a' := ?_) ?_ ?_
      rotate_left
      · show Act.put _ (some 27) _ = _
        simp only [Act.put, List.setIfInBounds_toArray, List.set_cons_zero, List.set_cons_succ, i64_w, i32_w]
        rfl
      refine pure_ (i := 2) (N := some 28) (v := ?_) (a' := ?_) #[true, true, true, false, false, false, false, false, false, false, false, false, false, false, false, false, false, false, false] rfl rfl (by kernel_rfl) (fun _ _ _ h => h) (Or.inl ⟨by rfl, ?_⟩) ?_ ?_
      rotate_left
      · intro w'
        go_simp
        with_reducible rfl
      rotate_left
      · simp only [Act.put, List.setIfInBounds_toArray, List.set_cons_zero, List.set_cons_succ, i64_w, i32_w]
        rfl
      refine pure_ (i := 3) (N := some 29) (v := ?_) (a' := ?_) #[true, true, true, true, false, false, false, false, false, false, false, false, false, false, false, false, false, false, false] rfl rfl (by kernel_rfl) (fun _ _ _ h => h) (Or.inl ⟨by rfl, ?_⟩) ?_ ?_
      rotate_left
      · intro w'
        go_simp
        with_reducible rfl
      rotate_left
      · simp only [Act.put, List.setIfInBounds_toArray, List.set_cons_zero, List.set_cons_succ, i64_w, i32_w]
        rfl
      refine pure_ (i := 4) (N := some 30) (v := ?_) (a' := ?_) #[true, true, true, true, true, false, false, false, false, false, false, false, false, false, false, false, false, false, false] rfl rfl (by kernel_rfl) (fun _ _ _ h => h) (Or.inl ⟨by rfl, ?_⟩) ?_ ?_
      rotate_left
      · intro w'
        go_simp
        with_reducible rfl
      rotate_left
      · simp only [Act.put, List.setIfInBounds_toArray, List.set_cons_zero, List.set_cons_succ, i64_w, i32_w]
        rfl
      refine pure_ (i := 5) (N := some 31) (v := ?_) (a' := ?_) #[true, true, true, true, true, true, false, false, false, false, false, false, false, false, false, false, false, false, false] rfl rfl (by kernel_rfl) (fun _ _ _ h => h) (Or.inl ⟨by rfl, ?_⟩) ?_ ?_
      rotate_left
      · intro w'
        go_simp
        with_reducible rfl
      rotate_left
      · simp only [Act.put, List.setIfInBounds_toArray, List.set_cons_zero, List.set_cons_succ, i64_w, i32_w]
        rfl
      refine take_ (i := 6) (N := some 32) (v := ?_) (a' := ?_) #[true, true, true, true, true, true, true, false, false, false, false, false, false, false, false, false, false, false, false] rfl rfl (by kernel_rfl) (fun _ _ _ h => h) (Or.inl ⟨by rfl, ?_⟩) hHeld ?_ ?_
      rotate_left
      · rintro w' ⟨s0, s1, s2, s3⟩
        go_simp
        with_reducible rfl
      rotate_left
      · simp only [Act.put, List.setIfInBounds_toArray, List.set_cons_zero, List.set_cons_succ, i64_w, i32_w]
        rfl
      refine one_ (i := 7) (N := some 33) #[true, true, true, true, true, true, true, true, false, false, false, false, false, false, false, false, false, false, false] rfl rfl (by kernel_rfl) (by decide) (fun K hK => ?_)
      clear hHeld
      refine goes_ Try.func79 (by kernel_rfl) rfl #[.agg #[.int .i64 a, .int .i64 b, .int .i64 d, .int .i64 h]] (by rfl) rfl rfl (by simp only [List.map_toArray, List.map_cons, List.map_nil]; rfl) ?_
      with_reducible refine (WP.out _).mono ?_
      rintro e w7 ⟨v7, rfl, ho7, hb7⟩
      refine ⟨_, rfl, ?_⟩
      obtain ⟨A7, c7, hv7⟩ := Kd.R_slice ho7
      subst hv7
      have HF7 := Aside0.mk (Kd.R_reads' ho7).2.2
      have BK7 := Aside0.mk (blk_below BK6.out hb7)
      have BR7 := Aside0.mk (blk_below BR6.out hb7)
      have HB7 := Aside0.mk (below_step HB6.out hb7)
      have HR7 := Aside0.mk (Kd.C_below HR6.out hb7)
      clear BK6 BR6 HB6 HR6
      clear ho7
      refine hK.out _ _ ⟨((blk_cell BK7.out 0).trans rfl), ((blk_cell BK7.out 1).trans rfl), ((blk_cell BK7.out 2).trans rfl), ((blk_cell BK7.out 3).trans rfl)⟩ (fun hHeld => ?_)
      clear hK K
      refine norm_ (a' := ?_) ?_ ?_
      rotate_left
      · show Act.put _ (some 33) _ = _
        simp only [Act.put, List.setIfInBounds_toArray, List.set_cons_zero, List.set_cons_succ, i64_w, i32_w]
        rfl
      refine one_ (i := 8) (N := some 34) #[true, true, true, true, true, true, true, true, true, false, false, false, false, false, false, false, false, false, false] rfl rfl (by kernel_rfl) (by decide) (fun K hK => ?_)
      clear hHeld
      refine goes_ Try.func76 (by kernel_rfl) rfl #[.slice (some ad) 64 c, .slice A7 F.length c7] (by rfl) rfl rfl (by simp only [List.map_toArray, List.map_cons, List.map_nil]; rfl) ?_
      with_reducible refine (WE.out _ _ _ HR7.out HF7.out).mono ?_
      rintro e w8 ⟨rfl, hb8⟩
      refine ⟨_, rfl, ?_⟩
      have BK8 := Aside0.mk (blk_below BK7.out hb8)
      have BR8 := Aside0.mk (blk_below BR7.out hb8)
      have HB8 := Aside0.mk (below_step HB7.out hb8)
      have HR8 := Aside0.mk (Kd.C_below HR7.out hb8)
      clear BK7 BR7 HB7 HR7
      refine hK.out _ _ ⟨((blk_cell BK8.out 0).trans rfl), ((blk_cell BK8.out 1).trans rfl), ((blk_cell BK8.out 2).trans rfl), ((blk_cell BK8.out 3).trans rfl)⟩ (fun hHeld => ?_)
      clear hK K
      refine norm_ (a' := ?_) ?_ ?_
      rotate_left
      · show Act.put _ (some 34) _ = _
        simp only [Act.put, List.setIfInBounds_toArray, List.set_cons_zero, List.set_cons_succ, i64_w, i32_w]
        rfl
      refine pure_ (i := 9) (N := some 35) (v := ?_) (a' := ?_) #[true, true, true, true, true, true, true, true, true, true, false, false, false, false, false, false, false, false, false] rfl rfl (by kernel_rfl) (fun _ _ _ h => h) (Or.inl ⟨by rfl, ?_⟩) ?_ ?_
      rotate_left
      · intro w'
        go_simp
        with_reducible rfl
      rotate_left
      · simp only [Act.put, List.setIfInBounds_toArray, List.set_cons_zero, List.set_cons_succ, i64_w, i32_w]
        rfl
      refine pure_ (i := 10) (N := some 36) (v := ?_) (a' := ?_) #[true, true, true, true, true, true, true, true, true, true, true, false, false, false, false, false, false, false, false] rfl rfl (by kernel_rfl) (fun _ _ _ h => h) (Or.inl ⟨by rfl, ?_⟩) ?_ ?_
      rotate_left
      · intro w'
        go_simp
        with_reducible rfl
      rotate_left
      · simp only [Act.put, List.setIfInBounds_toArray, List.set_cons_zero, List.set_cons_succ, i64_w, i32_w]
        rfl
      refine pure_ (i := 11) (N := some 37) (v := ?_) (a' := ?_) #[true, true, true, true, true, true, true, true, true, true, true, true, false, false, false, false, false, false, false] rfl rfl (by kernel_rfl) (fun _ _ _ h => h) (Or.inl ⟨by rfl, ?_⟩) ?_ ?_
      rotate_left
      · intro w'
        go_simp
        with_reducible rfl
      rotate_left
      · simp only [Act.put, List.setIfInBounds_toArray, List.set_cons_zero, List.set_cons_succ, i64_w, i32_w]
        rfl
      refine pure_ (i := 12) (N := some 38) (v := ?_) (a' := ?_) #[true, true, true, true, true, true, true, true, true, true, true, true, true, false, false, false, false, false, false] rfl rfl (by kernel_rfl) (fun _ _ _ h => h) (Or.inl ⟨by rfl, ?_⟩) ?_ ?_
      rotate_left
      · intro w'
        go_simp
        with_reducible rfl
      rotate_left
      · simp only [Act.put, List.setIfInBounds_toArray, List.set_cons_zero, List.set_cons_succ, i64_w, i32_w]
        rfl
      refine pure_ (i := 13) (N := some 39) (v := ?_) (a' := ?_) #[true, true, true, true, true, true, true, true, true, true, true, true, true, true, false, false, false, false, false] rfl rfl (by kernel_rfl) (fun _ _ _ h => h) (Or.inl ⟨by rfl, ?_⟩) ?_ ?_
      rotate_left
      · intro w'
        go_simp
        with_reducible rfl
      rotate_left
      · simp only [Act.put, List.setIfInBounds_toArray, List.set_cons_zero, List.set_cons_succ, i64_w, i32_w]
        rfl
      refine take_ (i := 14) (N := some 40) (v := ?_) (a' := ?_) #[true, true, true, true, true, true, true, true, true, true, true, true, true, true, true, false, false, false, false] rfl rfl (by kernel_rfl) (fun _ _ _ h => h) (Or.inl ⟨by rfl, ?_⟩) hHeld ?_ ?_
      rotate_left
      · rintro w' ⟨s0, s1, s2, s3⟩
        go_simp
        with_reducible rfl
      rotate_left
      · simp only [Act.put, List.setIfInBounds_toArray, List.set_cons_zero, List.set_cons_succ, i64_w, i32_w]
        rfl
      refine one_ (i := 15) (N := some 41) #[true, true, true, true, true, true, true, true, true, true, true, true, true, true, true, true, false, false, false] rfl rfl (by kernel_rfl) (by decide) (fun K hK => ?_)
      clear hHeld
      refine goes_ Try.func80 (by kernel_rfl) rfl #[.agg #[.int .i64 a, .int .i64 b, .int .i64 d, .int .i64 h]] (by rfl) rfl rfl (by simp only [List.map_toArray, List.map_cons, List.map_nil]; rfl) ?_
      with_reducible refine (WT.out _).mono ?_
      rintro e w9 ⟨rfl, hb9⟩
      refine ⟨_, rfl, ?_⟩
      have BK9 := Aside0.mk (blk_below BK8.out hb9)
      have BR9 := Aside0.mk (blk_below BR8.out hb9)
      have HB9 := Aside0.mk (below_step HB8.out hb9)
      have HR9 := Aside0.mk (Kd.C_below HR8.out hb9)
      clear BK8 BR8 HB8 HR8
      refine hK.out _ _ ⟨((blk_cell BK9.out 0).trans rfl), ((blk_cell BK9.out 1).trans rfl), ((blk_cell BK9.out 2).trans rfl), ((blk_cell BK9.out 3).trans rfl)⟩ (fun hHeld => ?_)
      clear hK K
      refine norm_ (a' := ?_) ?_ ?_
      rotate_left
      · show Act.put _ (some 41) _ = _
        simp only [Act.put, List.setIfInBounds_toArray, List.set_cons_zero, List.set_cons_succ, i64_w, i32_w]
        rfl
      refine pure_ (i := 16) (N := some 42) (v := ?_) (a' := ?_) #[true, true, true, true, true, true, true, true, true, true, true, true, true, true, true, true, true, false, false] rfl rfl (by kernel_rfl) (fun _ _ _ h => h) (Or.inl ⟨by rfl, ?_⟩) ?_ ?_
      rotate_left
      · intro w'
        go_simp
        with_reducible rfl
      rotate_left
      · simp only [Act.put, List.setIfInBounds_toArray, List.set_cons_zero, List.set_cons_succ, i64_w, i32_w]
        rfl
      refine pure_ (i := 17) (N := some 43) (v := ?_) (a' := ?_) #[true, true, true, true, true, true, true, true, true, true, true, true, true, true, true, true, true, true, false] rfl rfl (by kernel_rfl) (fun _ _ _ h => h) (Or.inl ⟨by rfl, ?_⟩) ?_ ?_
      rotate_left
      · intro w'
        go_simp
        with_reducible rfl
      rotate_left
      · simp only [Act.put, List.setIfInBounds_toArray, List.set_cons_zero, List.set_cons_succ, i64_w, i32_w]
        rfl
      refine pure_ (i := 18) (N := some 44) (v := ?_) (a' := ?_) #[true, true, true, true, true, true, true, true, true, true, true, true, true, true, true, true, true, true, true] rfl rfl (by kernel_rfl) (fun _ _ _ h => h) (Or.inl ⟨by rfl, ?_⟩) ?_ ?_
      rotate_left
      · intro w'
        go_simp
        with_reducible rfl
      rotate_left
      · simp only [Act.put, List.setIfInBounds_toArray, List.set_cons_zero, List.set_cons_succ, i64_w, i32_w]
        rfl
      refine done_ (by kernel_rfl) ?_
      have e0 : w9.cell? ⟨w2.heap.size, 0, none⟩ = some (.int .i64 a) := (blk_cell BK9.out 0).trans rfl
      have e1 : w9.cell? ⟨w2.heap.size, 1, none⟩ = some (.int .i64 b) := (blk_cell BK9.out 1).trans rfl
      have e2 : w9.cell? ⟨w2.heap.size, 2, none⟩ = some (.int .i64 d) := (blk_cell BK9.out 2).trans rfl
      have e3 : w9.cell? ⟨w2.heap.size, 3, none⟩ = some (.int .i64 h) := (blk_cell BK9.out 3).trans rfl
      go_wp2_with (first | ((with_reducible refine gate_store (p := 2) rfl ?_); go_loud (refine wpList_store_rowL rfl rfl 38 (.tmp 2) (.tmp 45) rfl (w0.heap.size) #[.int .i64 0, .int .i64 0, .int .i64 0, .int .i64 0] rfl rfl 38 #[.int .i64 0, .int .i64 0, .int .i64 0, .int .i64 0] (BR9.out) (by kernel_rfl) rfl (by simp [Value.oneCell']) ?_; intro wz bk_ hg_)))
      refine bodyPost_ret (resRow2 rfl _ _ w0.heap.size 38 #[.int .i64 0, .int .i64 0, .int .i64 0, .int .i64 0] (0, 0) _ (.int .i64 2) rfl rfl bk_ Try.underlying38 rfl (by kernel_rfl)) rfl ?_
      exact ⟨by rw [E0.out], (HB9.out).grown hg_ (below_size HB9.out) (fun k e => by cases e; exact Nat.le_refl _)⟩
end Go.Proofs.Ytdkbhbolkieeiaa.K
namespace Go.Proofs.Ytdkbhbolkieeiaa.K
open Go.RowKit Go.Proofs.YtdkbhbolkieeiaaW.PrintWords Go.Proofs.YtdkbhbolkieeiaaW.PrintLast Go.Proofs.YtdkbhbolkieeiaaW.PrintMore
set_option linter.unusedVariables false
set_option linter.unusedSimpArgs false
/-- A disk, plainly. -/
structure DiskS where
  safe : List Sec
  now : List Sec
  wait : List Pen
  left : Int
  off : Bool
  wr : Int
  fl : Int
abbrev TDisk : TypeId := 110
abbrev TSec : TypeId := 95
abbrev TPen : TypeId := 117
abbrev diskA (s : DiskS) (vs vn vw : Value) : Array Value := #[vs, vn, vw, .int .i64 s.left, .bool s.off, .int .i64 s.wr, .int .i64 s.fl]
/-- The disk s lies at block p; all that is its own lies at or beyond base. -/
structure DiskR (W : World) (base p : Nat) (s : DiskS) (vs vn vw : Value) : Prop where
  blk : W.heap[p]? = some (.cells (diskA s vs vn vw) TDisk (0, 0))
  hp : base ≤ p
  safe : Kd.R kSec TSec W base (fun _ => True) vs s.safe
  now : Kd.R kSec TSec W base (fun _ => True) vn s.now
  wait : Kd.R kPen TPen W base (fun _ => True) vw s.wait
  apart : ∀ b, vs.ownBlock = some b → vn.ownBlock ≠ some b
def DiskOk (W : World) (base p : Nat) (s : DiskS) : Prop := ∃ vs vn vw, DiskR W base p s vs vn vw
/-- The types of a disk's own blocks. -/
def DT (t : TypeId) : Prop := t = TDisk ∨ t = TSec ∨ t = TPen
instance (t : TypeId) : Decidable (DT t) := by unfold DT; infer_instance
/-- What a disk's methods leave as it was. -/
structure DFrame (base : Nat) (W W' : World) : Prop where
  below : Below base W W'
  keep : ∀ (k : Nat) (cs : Array Value) (t : TypeId) (fr : Nat × Nat), W.heap[k]? = some (Obj.cells cs t fr) → ¬ DT t → W'.heap[k]? = some (Obj.cells cs t fr)
theorem DFrame.refl (base : Nat) (W : World) : DFrame base W W := ⟨Below.refl _ _, fun _ _ _ _ h _ => h⟩
theorem DFrame.trans {base : Nat} {A B C : World} (h : DFrame base A B) (k : DFrame base B C) : DFrame base A C := ⟨h.below.trans k.below, fun i cs t fr hi ht => k.keep i cs t fr (h.keep i cs t fr hi ht) ht⟩
theorem DFrame.of_below {base : Nat} {W W' : World} (hb : base ≤ W.heap.size) (h : Below W.heap.size W W') : DFrame base W W' := ⟨h.mono hb, fun k cs t fr hk _ => (h.block k (Array.getElem?_eq_some_iff.1 hk).1).trans hk⟩
/-- A store into a block of the disk's. -/
theorem DFrame.set {base : Nat} {W : World} {g i : Nat} {cs : Array Value} {t : TypeId} (hg : base ≤ g) (bk : W.heap[g]? = some (.cells cs t (0, 0))) (ht : DT t) (u : Value) : DFrame base W (W.setCell ⟨g, i, none⟩ u) :=
  ⟨(Below.refl base W).setCell (p := ⟨g, i, none⟩) hg _, fun k cs' t' fr hk hn => by
    have hne : k ≠ g := fun e => by
      subst e
      rw [bk] at hk
      cases hk
      exact hn ht
    exact (Below.heap_setCell W ⟨g, i, none⟩ u k hne).trans hk⟩
/-- A step that turns one block of the disk's. -/
theorem DFrame.grown {base : Nat} {W W' : World} {row : Option Nat} (hs : base ≤ W.heap.size) (hg : W.grownBy W' row) (hr : ∀ g, row = some g → base ≤ g ∧ ∃ cs t, W.heap[g]? = some (.cells cs t (0, 0)) ∧ DT t) : DFrame base W W' :=
  ⟨(Below.refl base W).grown hg hs (fun k e => (hr k e).1), fun k cs t fr hk hn => (hg.block k (Array.getElem?_eq_some_iff.1 hk).1 (fun e => by
    obtain ⟨_, cs', t', hc, ht⟩ := hr k e.symm
    rw [hk] at hc
    cases hc
    exact hn ht)).trans hk⟩
theorem DiskR.size {W : World} {base p : Nat} {s : DiskS} {vs vn vw : Value} (h : DiskR W base p s vs vn vw) : base ≤ W.heap.size := Nat.le_of_lt (Nat.lt_of_le_of_lt h.hp (Array.getElem?_eq_some_iff.1 h.blk).1)
theorem DiskR.below {W W' : World} {base p : Nat} {s : DiskS} {vs vn vw : Value} (h : DiskR W base p s vs vn vw) (hb : Below W.heap.size W W') : DiskR W' base p s vs vn vw :=
  ⟨blk_below h.blk hb, h.hp, Kd.R_below h.safe hb, Kd.R_below h.now hb, Kd.R_below h.wait hb, h.apart⟩
/-- A store into one of the disk's own cells, the rows as they were. -/
theorem DiskR.set {W : World} {base p : Nat} {s : DiskS} {vs vn vw : Value} (h : DiskR W base p s vs vn vw) (i : Nat) (u : Value) {s' : DiskS} (hs : s'.safe = s.safe) (hn : s'.now = s.now) (hw : s'.wait = s.wait)
    (hc : (diskA s vs vn vw).setIfInBounds i u = diskA s' vs vn vw) : DiskR (W.setCell ⟨p, i, none⟩ u) base p s' vs vn vw := by
  have hb := blk_set h.blk i u
  refine ⟨by rw [← hc]; exact hb, h.hp, ?_, ?_, ?_, h.apart⟩
  · rw [hs]; exact Kd.R_set h.safe h.blk (by decide) i u
  · rw [hn]; exact Kd.R_set h.now h.blk (by decide) i u
  · rw [hw]; exact Kd.R_set h.wait h.blk (by decide) i u
/-- What a call costs that changes something. -/
def burnS (s : DiskS) : DiskS := if s.left = 0 then { s with off := true } else if s.off then s else { s with left := max (s.left - 1) (-1) }
def burnE (s : DiskS) : Int := if s.left = 0 ∨ s.off = true then 4 else 0
set_option maxRecDepth 100000 in
theorem burn_walk (base p : Nat) (s : DiskS) (vs vn vw : Value) (W : World) (h : DiskR W base p s vs vn vw) (hl0 : -1 ≤ s.left) (hl1 : s.left ≤ 9223372036854775807) :
    Calls Try.prog 128 #[.pointer (some ⟨p, 0, none⟩)] W fun e w' => e = .returned (.int .i64 (burnE s)) ∧ DiskR w' base p (burnS s) vs vn vw ∧ DFrame base W w' := by
  have HD := Aside0.mk h
  have b3 : W.cell? ⟨p, 3, none⟩ = some (.int .i64 s.left) := (blk_cell h.blk 3).trans rfl
  have b4 : W.cell? ⟨p, 4, none⟩ = some (.bool s.off) := (blk_cell h.blk 4).trans rfl
  have z3 := blk_frozen h.blk 3
  have z4 := blk_frozen h.blk 4
  obtain ⟨safe, now, wait, left, off, wr, fl⟩ := s
  simp only at b3 b4 hl0 hl1
  clear h
  by_cases h0 : left = 0
  · have E0 : Aside0 (burnE ⟨safe, now, wait, left, off, wr, fl⟩ = 4) := ⟨by simp [burnE, h0]⟩
    have E1 : Aside0 (burnS ⟨safe, now, wait, left, off, wr, fl⟩ = ⟨safe, now, wait, left, true, wr, fl⟩) := ⟨by simp [burnS, h0]⟩
    have FR : Aside0 (DFrame base W (W.setCell ⟨p, 4, none⟩ (.bool true))) := ⟨DFrame.set HD.out.hp HD.out.blk (by decide) _⟩
    have FD : Aside0 (DiskR (W.setCell ⟨p, 4, none⟩ (.bool true)) base p ⟨safe, now, wait, left, true, wr, fl⟩ vs vn vw) := ⟨HD.out.set 4 _ rfl rfl rfl rfl⟩
    have hb0 : (left == 0) = true := by simpa using h0
    clear h0
    go_enter Try.func128, Try.ntmps128
    go_wp2
    go_ret
    rw [E0.out, E1.out]
    exact ⟨rfl, FD.out, FR.out⟩
  · have hb0 : (left == 0) = false := by simpa using h0
    cases off with
    | true =>
      have E0 : Aside0 (burnE ⟨safe, now, wait, left, true, wr, fl⟩ = 4) := ⟨by simp [burnE]⟩
      have E1 : Aside0 (burnS ⟨safe, now, wait, left, true, wr, fl⟩ = ⟨safe, now, wait, left, true, wr, fl⟩) := ⟨by simp [burnS, h0]⟩
      clear h0
      go_enter Try.func128, Try.ntmps128
      go_wp2
      go_ret
      rw [E0.out, E1.out]
      exact ⟨rfl, HD.out, DFrame.refl _ _⟩
    | false =>
      rcases (by omega : left = -1 ∨ 1 ≤ left) with rfl | hge
      · have E0 : Aside0 (burnE ⟨safe, now, wait, -1, false, wr, fl⟩ = 0) := ⟨by simp [burnE]⟩
        have E1 : Aside0 (burnS ⟨safe, now, wait, -1, false, wr, fl⟩ = ⟨safe, now, wait, -1, false, wr, fl⟩) := ⟨by simp [burnS]; rfl⟩
        have FR : Aside0 (DFrame base W (W.setCell ⟨p, 3, none⟩ (.int .i64 (-1)))) := ⟨DFrame.set HD.out.hp HD.out.blk (by decide) _⟩
        have FD : Aside0 (DiskR (W.setCell ⟨p, 3, none⟩ (.int .i64 (-1))) base p ⟨safe, now, wait, -1, false, wr, fl⟩ vs vn vw) := ⟨HD.out.set 3 _ rfl rfl rfl rfl⟩
        clear h0
        go_enter Try.func128, Try.ntmps128
        go_wp2
        go_ret
        rw [E0.out, E1.out]
        exact ⟨rfl, FD.out, FR.out⟩
      · have E0 : Aside0 (burnE ⟨safe, now, wait, left, false, wr, fl⟩ = 0) := ⟨by simp [burnE, h0]⟩
        have E1 : Aside0 (burnS ⟨safe, now, wait, left, false, wr, fl⟩ = ⟨safe, now, wait, left - 1, false, wr, fl⟩) := ⟨by simp [burnS, h0]; omega⟩
        have FR : Aside0 (DFrame base W (W.setCell ⟨p, 3, none⟩ (.int .i64 (left - 1)))) := ⟨DFrame.set HD.out.hp HD.out.blk (by decide) _⟩
        have FD : Aside0 (DiskR (W.setCell ⟨p, 3, none⟩ (.int .i64 (left - 1))) base p ⟨safe, now, wait, left - 1, false, wr, fl⟩ vs vn vw) := ⟨HD.out.set 3 _ rfl rfl rfl rfl⟩
        have hw : RowKit.wrap64 (left - 1) = left - 1 := by unfold RowKit.wrap64; omega
        have hlt : ¬ left - 1 < -1 := by omega
        have hle : ¬ left - 1 ≤ -1 := by omega
        clear h0
        go_enter Try.func128, Try.ntmps128
        go_wp2
        go_ret
        rw [E0.out, E1.out]
        exact ⟨rfl, FD.out, FR.out⟩
set_option maxRecDepth 100000 in
theorem devSize_nil (W : World) : Calls Try.prog 113 #[.pointer none] W fun e w' => e = .returned (.int .i64 0) ∧ w' = W := by
  go_enter Try.func113, Try.ntmps113
  go_wp2
  go_ret
  exact ⟨rfl, rfl⟩
set_option maxRecDepth 100000 in
theorem devSize_walk (base p : Nat) (s : DiskS) (vs vn vw : Value) (W : World) (h : DiskR W base p s vs vn vw) :
    Calls Try.prog 113 #[.pointer (some ⟨p, 0, none⟩)] W fun e w' => e = .returned (.int .i64 s.safe.length) ∧ w' = W := by
  obtain ⟨A, c, hvs⟩ := Kd.R_slice h.safe
  have b0 : W.cell? ⟨p, 0, none⟩ = some vs := (blk_cell h.blk 0).trans rfl
  have b4 : W.cell? ⟨p, 4, none⟩ = some (.bool s.off) := (blk_cell h.blk 4).trans rfl
  have b5 : W.cell? ⟨p, 5, none⟩ = some (.int .i64 s.wr) := (blk_cell h.blk 5).trans rfl
  have b6 : W.cell? ⟨p, 6, none⟩ = some (.int .i64 s.fl) := (blk_cell h.blk 6).trans rfl
  subst hvs
  clear h
  go_enter Try.func113, Try.ntmps113
  go_wp2
  go_ret
  exact ⟨rfl, rfl⟩
set_option maxRecDepth 100000 in
theorem devWrites_nil (W : World) : Calls Try.prog 84 #[.pointer none] W fun e w' => e = .returned (.int .i64 0) ∧ w' = W := by
  go_enter Try.func84, Try.ntmps84
  go_wp2
  go_ret
  exact ⟨rfl, rfl⟩
set_option maxRecDepth 100000 in
theorem devWrites_walk (base p : Nat) (s : DiskS) (vs vn vw : Value) (W : World) (h : DiskR W base p s vs vn vw) :
    Calls Try.prog 84 #[.pointer (some ⟨p, 0, none⟩)] W fun e w' => e = .returned (.int .i64 s.wr) ∧ w' = W := by
  obtain ⟨A, c, hvs⟩ := Kd.R_slice h.safe
  have b0 : W.cell? ⟨p, 0, none⟩ = some vs := (blk_cell h.blk 0).trans rfl
  have b4 : W.cell? ⟨p, 4, none⟩ = some (.bool s.off) := (blk_cell h.blk 4).trans rfl
  have b5 : W.cell? ⟨p, 5, none⟩ = some (.int .i64 s.wr) := (blk_cell h.blk 5).trans rfl
  have b6 : W.cell? ⟨p, 6, none⟩ = some (.int .i64 s.fl) := (blk_cell h.blk 6).trans rfl
  subst hvs
  clear h
  go_enter Try.func84, Try.ntmps84
  go_wp2
  go_ret
  exact ⟨rfl, rfl⟩
end Go.Proofs.Ytdkbhbolkieeiaa.K
namespace Go.Proofs.Ytdkbhbolkieeiaa.K
open Go.RowKit Go.Proofs.YtdkbhbolkieeiaaW.PrintWords Go.Proofs.YtdkbhbolkieeiaaW.PrintLast Go.Proofs.YtdkbhbolkieeiaaW.PrintMore
set_option linter.unusedVariables false
set_option linter.unusedSimpArgs false
def atE (s : DiskS) (i : Int) : Int := if 0 ≤ i ∧ i < s.safe.length then 0 else 3
def armS (s : DiskS) (n : Int) : DiskS := { s with left := max n (-1) }
set_option maxRecDepth 100000 in
theorem devAt_nil (i : Int) (W : World) : Calls Try.prog 127 #[.pointer none, .int .i64 i] W fun e w' => e = .returned (.int .i64 7) ∧ w' = W := by
  go_enter Try.func127, Try.ntmps127
  go_wp2
  go_ret
  exact ⟨rfl, rfl⟩
set_option maxRecDepth 100000 in
theorem devAt_walk (base p : Nat) (s : DiskS) (vs vn vw : Value) (i : Int) (W : World) (h : DiskR W base p s vs vn vw) :
    Calls Try.prog 127 #[.pointer (some ⟨p, 0, none⟩), .int .i64 i] W fun e w' => e = .returned (.int .i64 (atE s i)) ∧ w' = W := by
  obtain ⟨A, c, hvs⟩ := Kd.R_slice h.safe
  have b0 : W.cell? ⟨p, 0, none⟩ = some vs := (blk_cell h.blk 0).trans rfl
  subst hvs
  obtain ⟨n, hn⟩ : ∃ n, n = s.safe.length := ⟨_, rfl⟩
  have EA : Aside0 (atE s i = if 0 ≤ i ∧ i < n then 0 else 3) := ⟨by rw [hn]; rfl⟩
  rw [← hn] at b0
  clear h hn
  by_cases h0 : 0 ≤ i
  · by_cases h1 : i < n
    · have E0 : Aside0 (atE s i = 0) := ⟨by rw [EA.out, if_pos ⟨h0, h1⟩]⟩
      have h0' : ¬ i < 0 := by omega
      have h1' : ¬ (n : Int) ≤ i := by omega
      go_enter Try.func127, Try.ntmps127
      go_wp2
      go_ret
      exact ⟨by rw [E0.out]; rfl, rfl⟩
    · have E0 : Aside0 (atE s i = 3) := ⟨by rw [EA.out, if_neg (by omega)]⟩
      have h0' : ¬ i < 0 := by omega
      have h1' : (n : Int) ≤ i := by omega
      clear h1
      go_enter Try.func127, Try.ntmps127
      go_wp2
      go_ret
      exact ⟨by rw [E0.out]; rfl, rfl⟩
  · have E0 : Aside0 (atE s i = 3) := ⟨by rw [EA.out, if_neg (by omega)]⟩
    have h0' : i < 0 := by omega
    clear h0
    go_enter Try.func127, Try.ntmps127
    go_wp2
    go_ret
    exact ⟨by rw [E0.out]; rfl, rfl⟩
set_option maxRecDepth 100000 in
theorem devArm_nil (n : Int) (W : World) : Calls Try.prog 49 #[.pointer none, .int .i64 n] W fun e w' => (∃ v, e = .returned v) ∧ w' = W := by
  go_enter Try.func49, Try.ntmps49
  go_wp2
  refine ⟨rfl, _, results_none rfl _ _ _, ⟨_, rfl⟩, rfl⟩
set_option maxRecDepth 100000 in
theorem devArm_walk (base p : Nat) (s : DiskS) (vs vn vw : Value) (n : Int) (W : World) (h : DiskR W base p s vs vn vw) :
    Calls Try.prog 49 #[.pointer (some ⟨p, 0, none⟩), .int .i64 n] W fun e w' => (∃ v, e = .returned v) ∧ DiskR w' base p (armS s n) vs vn vw ∧ DFrame base W w' := by
  have HD := Aside0.mk h
  have b3 : W.cell? ⟨p, 3, none⟩ = some (.int .i64 s.left) := (blk_cell h.blk 3).trans rfl
  have z3 := blk_frozen h.blk 3
  clear h
  have FR : Aside0 (∀ u, DFrame base W (W.setCell ⟨p, 3, none⟩ u)) := ⟨fun u => DFrame.set HD.out.hp HD.out.blk (by decide) u⟩
  have FD : Aside0 (DiskR (W.setCell ⟨p, 3, none⟩ (.int .i64 (max n (-1)))) base p (armS s n) vs vn vw) := ⟨HD.out.set 3 _ rfl rfl rfl rfl⟩
  rcases (by omega : n < -1 ∨ n = -1 ∨ -1 < n) with hn | rfl | hn
  · rw [show max n (-1) = -1 by omega] at FD
    go_enter Try.func49, Try.ntmps49
    go_wp2
    refine ⟨rfl, _, results_none rfl _ _ _, ⟨_, rfl⟩, FD.out, FR.out _⟩
  · rw [show max (-1 : Int) (-1) = -1 by omega] at FD
    go_enter Try.func49, Try.ntmps49
    go_wp2
    refine ⟨rfl, _, results_none rfl _ _ _, ⟨_, rfl⟩, FD.out, FR.out _⟩
  · rw [show max n (-1) = n by omega] at FD
    have hn2 : ¬ n < -1 := by omega
    have hn3 : ¬ n ≤ -1 := by omega
    go_enter Try.func49, Try.ntmps49
    go_wp2
    refine ⟨rfl, _, results_none rfl _ _ _, ⟨_, rfl⟩, FD.out, FR.out _⟩
end Go.Proofs.Ytdkbhbolkieeiaa.K
namespace Go.Proofs.Ytdkbhbolkieeiaa.K
open Go.RowKit Go.Proofs.YtdkbhbolkieeiaaW.PrintWords Go.Proofs.YtdkbhbolkieeiaaW.PrintLast Go.Proofs.YtdkbhbolkieeiaaW.PrintMore
set_option linter.unusedVariables false
set_option linter.unusedSimpArgs false
def sliceLen : Value → Nat
  | .slice _ n _ => n
  | _ => 0
/-- A whole array read where it lies, at whatever address. -/
theorem load_sec {W : World} {ad : Addr} {n : Nat} {l : List Int} (h : Kd.C (Kd.int .u8) W (some ad) n l) (hl : 64 ≤ l.length) : (Instr.loadAt TSec (.pointer (some ad))).run Try.prog W = .ok (.agg (toSec l).enc.toArray) W := by
  have hc : ∀ j v, (toSec l).enc[j]? = some v → W.cell? (ad.add j) = some v := by
    intro j v hv
    have hj : j < 64 := by have := (List.getElem?_eq_some_iff.1 hv).1; rw [Sec.len] at this; exact this
    have hn := h.1
    obtain ⟨ad', he, hx⟩ := Kd.at_int h (j : Int) (by omega) (by omega)
    obtain rfl := Option.some.inj he
    rw [Int.toNat_natCast] at hx
    rw [hx, ← hv]
    unfold Sec.enc
    rw [toSec_take hl, List.getElem?_map, List.getElem?_take_of_lt hj]
    unfold rd
    rw [Int.toNat_natCast, List.getD_eq_getElem?_getD, List.getElem?_eq_getElem (by omega)]
    rfl
  have hlc := run_loadCells_list (P := Try.prog) W ad (toSec l).enc hc
  have hu : Try.prog.underlying TSec = some (.array 64 5) := Try.underlying95
  have hagg : (isAgg TSec).run Try.prog W = .ok true W := by
    unfold isAgg
    rw [Sem.run_bind, run_underlying hu W]
    rfl
  obtain ⟨i, hi, hs⟩ := Option.map_eq_some_iff.1 secsize
  rw [Sec.len] at hlc
  simp [Instr.loadAt, Instr.sureAddr, loadVar, Sem.run_bind, hagg, sizeOf, typeInfo, hi, hs, hlc]
theorem secinfo2 : (Try.prog.info? TSec).map (fun i => (i.zero, i.size)) = some (some (.agg (List.replicate 64 (Value.int .u8 0)).toArray), 64) := by kernel_rfl
/-- A literal of one element that has many cells. -/
theorem run_build1 {P : Program} {W : World} {t e : TypeId} {cs : List Value} {s : Nat} {z : Value} (hu : P.underlying t = some (.slice e)) (hinfo : (P.info? e).map (fun i => (i.zero, i.size)) = some (some z, s)) (hl : cs.length = s) (hs : 0 < s) (hs2 : s ≤ 16777216) :
    (Instr.buildSlice t 1 #[(0, .agg cs.toArray)]).run P W = .ok (.slice (some ⟨W.heap.size, 0, none⟩) 1 1) (W.alloc (.cells cs.toArray e)) := by
  obtain ⟨i, hi, hz⟩ := Option.map_eq_some_iff.1 hinfo
  simp only [Prod.mk.injEq] at hz
  have hf := Go.Great.fill_whole hs [Value.agg cs.toArray] ((Array.range (1 * s)).map (z.cells[· % z.cells.size]!)) (by intro v hv; simp at hv; subst hv; simpa [Value.cells] using hl) (by simp)
  simp only [List.zipIdx_cons, List.zipIdx_nil, List.map_cons, List.map_nil, List.flatMap_cons, List.flatMap_nil, List.append_nil] at hf
  have hc : (Value.agg cs.toArray).cells.toList.toArray = cs.toArray := by simp [Value.cells]
  rw [hc] at hf
  refine run_buildSlice W t e 1 #[(0, .agg cs.toArray)] cs.toArray i z hu hi hz.1 (by rw [hz.2]; omega) (by rw [hz.2]; omega) ?_
  rw [hz.2]
  exact hf
theorem exec_load {P : Program} {o : Oper} {a : Act} {W : World} {ty : TypeId} {x : Operand} {v u : Value} (ho : o.op = .load ty x) (hx : a.eval x = v) (h : (Instr.loadAt ty v).run P W = .ok u W) : (execOp a.eval o).run P W = .ok (.value u) W := by
  unfold execOp
  simp only [ho, hx, Sem.run_bind, h, Result.andThen_ok, Sem.run_pure]
theorem exec_build {P : Program} {o : Oper} {a : Act} {W W' : World} {t : TypeId} {len : Nat} {parts : Array (Nat × Operand)} {vs : Array (Nat × Value)} {u : Value} (ho : o.op = .buildSlice t len parts) (hp : parts.map (fun x => (x.1, a.eval x.2)) = vs) (h : (Instr.buildSlice t len vs).run P W = .ok u W') : (execOp a.eval o).run P W = .ok (.value u) W' := by
  unfold execOp
  subst hp
  simp only [ho, Sem.run_bind, h, Result.andThen_ok, Sem.run_pure]
theorem DiskR.drew {W : World} {base p : Nat} {s : DiskS} {vs vn vw : Value} (h : DiskR W base p s vs vn vw) : DiskR W.drew base p s vs vn vw := h.below (below_drew1 (Below.refl _ _))
theorem secs_take {l : List Int} {m : Nat} (h : 64 * m + 64 ≤ l.length) : (secs l).take (m + 1) = (secs l).take m ++ [toSec (l.drop (64 * m))] := by
  have hm : m < (secs l).length := by rw [secs_length]; omega
  rw [List.take_succ_eq_append_getElem hm]
  simp [secs]
set_option maxRecDepth 100000 in
theorem cloneSec_walk (A : Option Addr) (c : Nat) (l : List Sec) (w : World) (hr : Kd.C kSec w A l.length l) (hl : l.length ≤ 1000000) :
    Calls Try.prog 86 #[.slice A l.length c] w fun e w' => ∃ v : Value, e = .returned v ∧ Kd.R kSec TSec w' w.heap.size (fun _ => True) v l ∧ Below w.heap.size w w' := by
  have HR := Aside0.mk hr
  have HL := Aside0.mk hl
  clear hr hl
  have HB := Aside0.mk (Below.refl w.heap.size w)
  cases A with
  | none =>
    have e0 := C_nil_len HR.out
    subst e0
    clear HL HR
    have heq := fun W => Lib.run_eql_slice_nil (P := Try.prog) W 107 95 none 0 c 0 0 Try.underlying107
    go_enter Try.func86, Try.ntmps86
    go_wp2
    go_ret
    exact ⟨_, rfl, Kd.R_nil _ _ _ _ _, HB.out⟩
  | some a0 =>
    have heq := fun W => Lib.run_eql_slice_nil (P := Try.prog) W 107 95 (some a0) l.length c 0 0 Try.underlying107
    go_enter Try.func86, Try.ntmps86
    go_wp2_with (first | ((with_reducible refine gate_dst (N := 5) rfl ?_); refine Kd.R_lit kSec _ 95 ?hg (N := 5) ?hd (xs := ([] : List Sec)) (inner := []) (ok := fun _ => True) (okp := fun _ => True) ?hr ?hp (fun _ hk => hk) trivial (Below.refl _ _) (Nat.le_refl _) (by simp) ?_; (case hd => rfl); (case hg => rfl); (case hr => first | (go_simp; done) | (go_simp; rfl)); (case hp => exact (Reps.none _ _)); intro v114 w3 ho4 hb hg_ hnew_; clear hg_ hnew_; have n0_ := Aside0.mk (Kd.R_lower ho4 (below_size (by repeat (first | (with_reducible first | exact HB.out | apply below_alloc | apply pw_below_drewN | apply below_drew1) | exact HB.out)))); have n1_ := Aside0.mk (below_step (by repeat (first | (with_reducible first | exact HB.out | apply below_alloc | apply pw_below_drewN | apply below_drew1) | exact HB.out)) hb); clear HB; have HO1 := n0_; have HB := n1_; clear n0_ n1_; clear hb ho4) | ((with_reducible refine gate_builtin (b := .append) (xs := #[.tmp 5, .tmp 6]) rfl ?_); at_builtin; refine Kd.R_append_rows kSec (w0 := w) w.heap.size rfl (.tmp 5) (.tmp 6) 107 95 (.agg (List.replicate 64 (Value.int .u8 0)).toArray) 64 rfl Try.underlying107 secinfo rfl (by decide) (by omega) v114 [] l _ _ _ (fun _ => True) (fun _ => False) rfl rfl ?aO ?aR (fun _ _ h => h) (fun _ h => h.elim) ?aF ?aB ?aS ?aL ?_; (case aR => exact (Kd.C_below HR.out (by repeat (first | (with_reducible first | exact HB.out | apply below_alloc | apply pw_below_drewN | apply below_drew1) | exact HB.out)))); (case aB => exact (by repeat (first | (with_reducible first | exact HB.out | apply below_alloc | apply pw_below_drewN | apply below_drew1) | exact HB.out))); (case aF => exact (fun _ _ => trivial)); (case aO => exact (by (with_reducible repeat (first | apply Kd.R_alloc | apply Kd.R_drewN | apply Kd.R_drew)); exact HO1.out)); (case aS => exact (below_size (by repeat (first | (with_reducible first | exact HB.out | apply below_alloc | apply pw_below_drewN | apply below_drew1) | exact HB.out)))); (case aL => have := HL.out; simp; omega); intro v123 w11 ho hb hg hat; have n0_ := Aside0.mk (hb); have n1_ := Aside0.mk (ho); clear HB; clear HO1; have HB := n0_; have HO2 := n1_; clear n0_ n1_; clear ho hb hg hat))
    go_ret
    exact ⟨_, rfl, HO2.out, HB.out⟩
def newS (l : List Int) (m : Nat) : DiskS := ⟨(secs l).take m, [], [], -1, false, 0, 0⟩
set_option maxHeartbeats 4000000 in
set_option maxRecDepth 100000 in
theorem new_walk (A : Option Addr) (c : Nat) (l : List Int) (w : World) (hr : Kd.C (Kd.int .u8) w A l.length l) (hc : l.length ≤ c) (hl : l.length ≤ 1000000) :
    Calls Try.prog 44 #[.slice A l.length c] w fun e w' => e = .returned (.pointer (some ⟨w.heap.size, 0, none⟩)) ∧ DiskOk w' w.heap.size w.heap.size ⟨secs l, secs l, [], -1, false, 0, 0⟩ ∧ Below w.heap.size w w' := by
  have HR := Aside0.mk hr
  have HB := Aside0.mk (Below.refl w.heap.size w)
  have HL := Aside0.mk hl
  have HC := Aside0.mk hc
  clear hr hc hl
  go_enter Try.func44, Try.ntmps44
  go_wp2
  go_loopw [0] (fun v0 w' => ∃ (m : Nat) (Am : Option Addr) (cm n : Nat) (vs : Value), v0 = .slice Am n cm ∧ Aside0 (64 * m + n = l.length) ∧ Aside0 (n ≤ cm) ∧ Aside0 (Kd.C (Kd.int .u8) w Am n (l.drop (64 * m))) ∧ Aside0 (DiskR w' w.heap.size w.heap.size (newS l m) vs (.slice none 0 0) (.slice none 0 0)) ∧ Aside0 (Below w.heap.size w w')) (fun v0 _ => sliceLen v0)
  case atStart =>
    refine ⟨0, A, c, l.length, .slice none 0 0, rfl, ⟨by omega⟩, HC, HR, ⟨?_⟩, ⟨below_alloc HB.out _⟩⟩
    exact ⟨heap_alloc_new _ _, Nat.le_refl _, Kd.R_nil _ _ _ _ _, Kd.R_nil _ _ _ _ _, Kd.R_nil _ _ _ _ _, fun b h => by cases h⟩
  case round =>
    clear HB
    obtain ⟨m, Am, cm, n, vs, rfl, hmn, hcm, HRm, HD, HB⟩ := hrel
    by_cases h64 : 64 ≤ n
    · have hn := HRm.out.1
      obtain ⟨ad, rfl, _⟩ := Kd.at_int HRm.out 0 (by omega) (by omega)
      have hcm' := hcm.out
      have hap := fun W => run_arrayAt (P := Try.prog) W 95 5 64 (some ad) n cm Try.underlying95 h64
      obtain ⟨lm, hlm⟩ : ∃ lm, lm = l.drop (64 * m) := ⟨_, rfl⟩
      have hlm64 : 64 ≤ lm.length := by rw [hlm]; omega
      have hld : ∀ W, Kd.C (Kd.int .u8) W (some ad) n lm → (Instr.loadAt 95 (.pointer (some ad))).run Try.prog W = .ok (.agg (toSec lm).enc.toArray) W := fun W h => load_sec h hlm64
      have hbs : ∀ W : World, (Instr.buildSlice 107 1 #[(0, .agg (toSec lm).enc.toArray)]).run Try.prog W = .ok (.slice (some ⟨W.heap.size, 0, none⟩) 1 1) (W.alloc (.cells (toSec lm).enc.toArray TSec)) := fun W => run_build1 Try.underlying107 secinfo2 (Sec.len _) (by decide) (by decide)
      have HM : Aside0 (Kd.C (Kd.int .u8) wr (some ad) n lm) := ⟨by rw [hlm]; exact Kd.C_below HRm.out HB.out⟩
      have HLM := Aside0.mk hlm
      obtain ⟨sM, hsM⟩ : ∃ sM, sM = newS l m := ⟨_, rfl⟩
      rw [← hsM] at HD
      have HSM := Aside0.mk hsM
      have HLIM : Aside0 ((sM.safe.length + 1) * 64 ≤ 140737488355328) := ⟨by rw [hsM]; have := HL.out; have := secs_length l; simp [newS]; omega⟩
      clear hn hlm hlm64 hsM
      go_wp2
      refine start_ (n := 13) (S := fun w' => w'.cell? ⟨w.heap.size, 0, none⟩ = some vs ∧ Kd.C (Kd.int .u8) w' (some ad) n lm) (ds := [9, 12]) #[false, false, false, false, false, false, false, false, false, false, false, false, false] (by kernel_rfl) rfl rfl ⟨(blk_cell (blk_drew HD.out.blk) 0).trans rfl, Kd.C_drew HM.out⟩ (fun hHeld => ?_)
      refine pure_ (i := 0) (N := some 9) (v := ?_) (a' := ?_) #[true, false, false, false, false, false, false, false, false, false, false, false, false] rfl rfl (by kernel_rfl) (fun _ _ _ h => h) (Or.inl ⟨by rfl, ?_⟩) ?_ ?_
      rotate_left
      · intro w'
        go_simp
        with_reducible rfl
      rotate_left
      · simp only [Act.put, List.setIfInBounds_toArray, List.set_cons_zero, List.set_cons_succ, i64_w, i32_w]
        rfl
      refine pure_ (i := 1) (N := some 10) (v := ?_) (a' := ?_) #[true, true, false, false, false, false, false, false, false, false, false, false, false] rfl rfl (by kernel_rfl) (fun _ _ _ h => h) (Or.inl ⟨by rfl, ?_⟩) ?_ ?_
      rotate_left
      · intro w'
        go_simp
        with_reducible rfl
      rotate_left
      · simp only [Act.put, List.setIfInBounds_toArray, List.set_cons_zero, List.set_cons_succ, i64_w, i32_w]
        rfl
      refine pure_ (i := 2) (N := some 11) (v := ?_) (a' := ?_) #[true, true, true, false, false, false, false, false, false, false, false, false, false] rfl rfl (by kernel_rfl) (fun _ _ _ h => h) (Or.inl ⟨by rfl, ?_⟩) ?_ ?_
      rotate_left
      · intro w'
        go_simp
        with_reducible rfl
      rotate_left
      · simp only [Act.put, List.setIfInBounds_toArray, List.set_cons_zero, List.set_cons_succ, i64_w, i32_w]
        rfl
      refine pure_ (i := 3) (N := some 12) (v := ?_) (a' := ?_) #[true, true, true, true, false, false, false, false, false, false, false, false, false] rfl rfl (by kernel_rfl) (fun _ _ _ h => h) (Or.inl ⟨by rfl, ?_⟩) ?_ ?_
      rotate_left
      · intro w'
        go_simp
        with_reducible rfl
      rotate_left
      · simp only [Act.put, List.setIfInBounds_toArray, List.set_cons_zero, List.set_cons_succ, i64_w, i32_w]
        rfl
      refine pure_ (i := 5) (N := some 14) (v := ?_) (a' := ?_) #[true, true, true, true, false, true, false, false, false, false, false, false, false] rfl rfl (by kernel_rfl) (fun _ _ _ h => h) (Or.inl ⟨by rfl, ?_⟩) ?_ ?_
      rotate_left
      · intro w'
        go_simp
        with_reducible rfl
      rotate_left
      · simp only [Act.put, List.setIfInBounds_toArray, List.set_cons_zero, List.set_cons_succ, i64_w, i32_w]
        rfl
      refine pure_ (i := 6) (N := some 15) (v := ?_) (a' := ?_) #[true, true, true, true, false, true, true, false, false, false, false, false, false] rfl rfl (by kernel_rfl) (fun _ _ _ h => h) (Or.inl ⟨by rfl, ?_⟩) ?_ ?_
      rotate_left
      · intro w'
        go_simp
        with_reducible rfl
      rotate_left
      · simp only [Act.put, List.setIfInBounds_toArray, List.set_cons_zero, List.set_cons_succ, i64_w, i32_w]
        rfl
      refine take_ (i := 4) (N := some 13) (v := ?_) (a' := ?_) #[true, true, true, true, true, true, true, false, false, false, false, false, false] rfl rfl (by kernel_rfl) (fun _ _ _ h => h) (Or.inl ⟨by rfl, ?_⟩) hHeld ?_ ?_
      rotate_left
      · rintro w' ⟨s0, s1⟩
        go_simp
        with_reducible rfl
      rotate_left
      · simp only [Act.put, List.setIfInBounds_toArray, List.set_cons_zero, List.set_cons_succ, i64_w, i32_w]
        rfl
      refine take_ (i := 7) (N := some 16) (v := ?_) (a' := ?_) #[true, true, true, true, true, true, true, true, false, false, false, false, false] rfl rfl (by kernel_rfl) (fun _ _ _ h => h) (Or.inl ⟨by rfl, ?_⟩) hHeld ?_ ?_
      rotate_left
      · rintro w' ⟨s0, s1⟩
        rw [exec_load rfl (show _ = Value.pointer (some ad) from rfl) (hld w' s1)]
      rotate_left
      · simp only [Act.put, List.setIfInBounds_toArray, List.set_cons_zero, List.set_cons_succ, i64_w, i32_w]
        rfl
      refine one_ (i := 8) (N := some 17) #[true, true, true, true, true, true, true, true, true, false, false, false, false] rfl rfl (by kernel_rfl) (by decide) (fun K hK => ?_)
      obtain ⟨w6, hw6⟩ : ∃ w6, w6 = wr.drew := ⟨_, rfl⟩
      rw [← hw6] at hHeld ⊢
      have D6 : Aside0 (DiskR w6 w.heap.size w.heap.size sM vs (.slice none 0 0) (.slice none 0 0)) := ⟨by rw [hw6]; exact HD.out.drew⟩
      have HM6 : Aside0 (Kd.C (Kd.int .u8) w6 (some ad) n lm) := ⟨by rw [hw6]; exact Kd.C_drew HM.out⟩
      have HB6 : Aside0 (Below w.heap.size w w6) := ⟨by rw [hw6]; exact below_drew1 HB.out⟩
      clear hw6 HD HM HB hHeld
      refine value_ (w1 := w6.alloc (.cells (toSec lm).enc.toArray TSec)) (v := .slice (some ⟨w6.heap.size, 0, none⟩) 1 1) (by rfl) rfl ?_ ?_
      · exact exec_build rfl (by simp only [List.map_toArray, List.map_cons, List.map_nil]; rfl) (hbs w6)
      refine hK.out _ _ ⟨(blk_cell (blk_alloc D6.out.blk _) 0).trans rfl, Kd.C_alloc HM6.out _⟩ (fun hHeld => ?_)
      clear hK K
      refine norm_ (a' := ?_) ?_ ?_
      rotate_left
      · show Act.put _ (some 17) _ = _
        simp only [Act.put, List.setIfInBounds_toArray, List.set_cons_zero, List.set_cons_succ, i64_w, i32_w]
        rfl
      refine last_ (i := 9) (N := some 18) #[true, true, true, true, true, true, true, true, true, true, false, false, false] rfl rfl (by kernel_rfl) (by decide) (fun K hK => ?_)
      refine Kd.R_append_step kSec (w0 := w) w.heap.size (by rfl) (.tmp 13) (.tmp 17) 107 TSec (.agg (List.replicate 64 (Value.int .u8 0)).toArray) 64 (by rfl) Try.underlying107 secinfo rfl (by decide) (by omega) vs sM.safe (toSec lm) (toSec lm).enc (fun _ => True) (fun _ => False) (by rfl) (by rfl) rfl (fun _ hk => hk.elim) (fun _ _ => trivial) D6.out.safe HB6.out HB6.out.size HLIM.out ?_
      intro v9 w9 ho9 hb9 hg9 hat9
      have BK9 := Aside0.mk (blk_grown D6.out.blk hg9 (Kd.R_ne D6.out.safe D6.out.blk (by decide)))
      have R9 := Aside0.mk ho9
      have HB9 := Aside0.mk hb9
      clear D6 HM6 HB6 ho9 hb9 hg9 hat9
      have c9 : w9.cell? ⟨w.heap.size, 0, none⟩ = some vs := (blk_cell BK9.out 0).trans rfl
      have f9 := blk_frozen BK9.out 0
      obtain ⟨A9, n9, q9, hv9⟩ : ∃ A n c, v9 = .slice A n c := by obtain ⟨A, c, h⟩ := Kd.R_slice R9.out; exact ⟨_, _, _, h⟩
      subst hv9
      refine hK.out _ _ ?_
      clear hK K
      refine norm_ (a' := ?_) ?_ ?_
      rotate_left
      · show Act.put _ (some 18) _ = _
        simp only [Act.put, List.setIfInBounds_toArray, List.set_cons_zero, List.set_cons_succ, i64_w, i32_w]
        rfl
      refine pure_ (i := 10) (N := some 19) (v := ?_) (a' := ?_) #[true, true, true, true, true, true, true, true, true, true, true, false, false] rfl rfl (by kernel_rfl) (fun _ _ _ h => h) (Or.inl ⟨by rfl, ?_⟩) ?_ ?_
      rotate_left
      · intro w'
        go_simp
        with_reducible rfl
      rotate_left
      · simp only [Act.put, List.setIfInBounds_toArray, List.set_cons_zero, List.set_cons_succ, i64_w, i32_w]
        rfl
      refine pure_ (i := 11) (N := some 20) (v := ?_) (a' := ?_) #[true, true, true, true, true, true, true, true, true, true, true, true, false] rfl rfl (by kernel_rfl) (fun _ _ _ h => h) (Or.inl ⟨by rfl, ?_⟩) ?_ ?_
      rotate_left
      · intro w'
        go_simp
        with_reducible rfl
      rotate_left
      · simp only [Act.put, List.setIfInBounds_toArray, List.set_cons_zero, List.set_cons_succ, i64_w, i32_w]
        rfl
      refine last_ (i := 12) (N := none) #[true, true, true, true, true, true, true, true, true, true, true, true, true] rfl rfl (by kernel_rfl) (by decide) (fun K hK => ?_)
      refine skip_ (w1 := ?_) (by rfl) rfl ?_ ?_
      rotate_left
      · go_simp
        rfl
      refine hK.out _ _ ?_
      clear hK K
      refine done_ (by kernel_rfl) ?_
      have hn : lm.length = n := by rw [HLM.out]; have h1 := hmn.out; rw [List.length_drop]; omega
      obtain ⟨i0, hi0, hz0⟩ := Option.map_eq_some_iff.1 u8info
      obtain ⟨A', hcut, hC', hle⟩ := cutFrom (P := Try.prog) (Kd.int .u8) 44 5 Try.underlying44 hi0 (show i0.size = 1 by simpa using congrArg (fun x => x.2.1) hz0) (some ad) cm lm 64 (by omega) (by omega)
      rw [hn] at hcut hC' hle
      have HC' := Aside0.mk hC'
      clear hap hld hbs hC' hi0 hz0 c9 f9
      have hcut' : ∀ W : World, (Instr.slice 44 (.slice (some ad) n cm) (some (.int .i64 64)) none none).run Try.prog W = .ok (.slice A' (n - 64) (cm - 64)) W := fun W => hcut W
      clear hcut
      go_wp2
      have hm1 := hmn.out
      have h1m : 64 * m + 64 ≤ l.length := by omega
      refine ⟨⟨m + 1, A', cm - 64, n - 64, .slice A9 n9 q9, rfl, ⟨by omega⟩, ⟨by omega⟩, ⟨?_⟩, ⟨?_⟩, ⟨below_set HB9.out (Nat.le_refl _)⟩⟩, by simp [sliceLen]; omega⟩
      · have h2 := HC'.out w (by have := HRm.out; rw [← HLM.out] at this; exact this)
        rw [HLM.out, List.drop_drop] at h2
        rw [show 64 * (m + 1) = 64 * m + 64 by omega]
        exact h2
      · have hs : (newS l (m + 1)).safe = sM.safe ++ [toSec lm] := by rw [HSM.out, HLM.out]; exact secs_take h1m
        refine ⟨?_, Nat.le_refl _, ?_, Kd.R_nil _ _ _ _ _, Kd.R_nil _ _ _ _ _, fun b _ h => by cases h⟩
        · have h3 := blk_set BK9.out 0 (.slice A9 n9 q9)
          rw [HSM.out] at h3
          exact h3
        · rw [hs]; exact Kd.R_set R9.out BK9.out (by decide) 0 _
    · have h1 := hmn.out
      have hm0 : (secs l).take m = secs l := List.take_of_length_le (by rw [secs_length]; omega)
      have HD0 : Aside0 (DiskR wr w.heap.size w.heap.size ⟨secs l, [], [], -1, false, 0, 0⟩ vs (.slice none 0 0) (.slice none 0 0)) := ⟨by have := HD.out; unfold newS at this; rw [hm0] at this; exact this⟩
      obtain ⟨Av, cv, hvs⟩ := Kd.R_slice HD0.out.safe
      subst hvs
      have b0 : wr.cell? ⟨w.heap.size, 0, none⟩ = some (.slice Av (secs l).length cv) := (blk_cell HD0.out.blk 0).trans rfl
      have WCL := Aside0.mk (cloneSec_walk Av cv (secs l) wr (Kd.R_reads' HD0.out.safe).2.2 (by rw [secs_length]; have := HL.out; omega))
      have h64' : (n : Int) < 64 := by omega
      obtain ⟨nS, hnS⟩ : ∃ nS, nS = (secs l).length := ⟨_, rfl⟩
      clear h1 hm0 HD h64 hnS
      go_wp2_with (go_at_call 86; (with_reducible refine WCL.out.mono ?_); rintro e w5 ⟨v5, rfl, ho, hb⟩; have D5 := Aside0.mk (HD0.out.below hb); have R5 := Aside0.mk (Kd.R_lower ho (below_size HB.out)); have N5 : Aside0 (∀ b, v5.ownBlock = some b → wr.heap.size ≤ b) := ⟨fun b e => ((Kd.R_bound ho).1 b e).2.1⟩; have HB5 := Aside0.mk (below_step HB.out hb); have c1 : w5.cell? ⟨w.heap.size, 1, none⟩ = some (.slice none 0 0) := (blk_cell D5.out.blk 1).trans rfl; have f1 := blk_frozen D5.out.blk 1; obtain ⟨A5, n5, q5, hv5⟩ : ∃ A n c, v5 = .slice A n c := (by obtain ⟨A, c, h⟩ := Kd.R_slice ho; exact ⟨_, _, _, h⟩); subst hv5; clear ho hb)
      go_ret
      refine ⟨rfl, ⟨.slice Av (secs l).length cv, .slice A5 n5 q5, .slice none 0 0, ⟨?_, Nat.le_refl _, ?_, ?_, Kd.R_nil _ _ _ _ _, fun b e1 e2 => ?_⟩⟩, below_set HB5.out (Nat.le_refl _)⟩
      · exact blk_set D5.out.blk 1 _
      · exact Kd.R_set D5.out.safe D5.out.blk (by decide) 1 _
      · exact Kd.R_set R5.out D5.out.blk (by decide) 1 _
      · have h2 := N5.out b e2
        have h3 := ((Kd.R_bound HD0.out.safe).1 b e1).2.2.1
        omega
end Go.Proofs.Ytdkbhbolkieeiaa.K
namespace Go.Proofs.Ytdkbhbolkieeiaa.K
open Go.RowKit Go.Proofs.YtdkbhbolkieeiaaW.PrintWords Go.Proofs.YtdkbhbolkieeiaaW.PrintLast Go.Proofs.YtdkbhbolkieeiaaW.PrintMore
set_option linter.unusedVariables false
set_option linter.unusedSimpArgs false
/-- make([]byte, 0, n): room of one's own. -/
theorem R_room (W : World) (Zc : Array Value) (n : Nat) (hn : Zc.size = n) (hm : n ≤ 9223372036854775807) : Kd.R (Kd.int .u8) 5 (W.alloc (.cells Zc 5)) W.heap.size (fun _ => True) (.slice (some ⟨W.heap.size, 0, none⟩) 0 n) [] :=
  Kd.R_of_own ⟨by simp [encs], .inr ⟨W.heap.size, n, Zc, rfl, Nat.le_refl _, heap_alloc_new _ _, Nat.zero_le _, by simpa [maxLen] using hm, by omega, by simp [encs]⟩⟩ (fun _ _ => trivial)
/-- A sector of a row, as bytes. -/
theorem C_sec {W : World} {A : Option Addr} {n m : Nat} {xs : List Sec} (h : Kd.C kSec W A n xs) (hm : m < xs.length) : ∃ ad, A = some ad ∧ Kd.C (Kd.int .u8) W (some (ad.add (m * 64))) 64 xs[m].1 := by
  obtain ⟨ad, he, hx⟩ := Kd.at_flat h hm
  refine ⟨ad, he, xs[m].2, by decide, fun _ => ⟨_, rfl, fun j p hp => ?_⟩⟩
  obtain ⟨hj, rfl⟩ := List.getElem?_eq_some_iff.1 hp
  refine ⟨[.int .u8 xs[m].1[j]], rfl, rfl, fun i u hu => ?_⟩
  have hi : i = 0 := by have := (List.getElem?_eq_some_iff.1 hu).1; simp at this; exact this
  subst hi
  have h2 := hx j (.int .u8 xs[m].1[j]) (by unfold Sec.enc; rw [List.getElem?_map, List.getElem?_eq_getElem hj]; rfl)
  rw [addr_add_add]
  have e : u = .int .u8 xs[m].1[j] := by simpa using hu.symm
  rw [e, show m * 64 + (j * (Kd.int .u8).sz + 0) = m * 64 + j by show m * 64 + (j * 1 + 0) = _; omega]
  exact h2
def flatN (l : List Sec) : List Int := l.flatMap (·.1)
theorem flatN_length : ∀ l : List Sec, (flatN l).length = 64 * l.length
  | [] => rfl
  | x :: l => by
    have := flatN_length l
    unfold flatN at this ⊢
    rw [List.flatMap_cons, List.length_append, this, x.2, List.length_cons]; omega
theorem flatN_take {l : List Sec} {m : Nat} (h : m < l.length) : flatN (l.take (m + 1)) = flatN (l.take m) ++ l[m].1 := by
  rw [List.take_succ_eq_append_getElem h]
  simp only [flatN, List.flatMap_append, List.flatMap_cons, List.flatMap_nil, List.append_nil]
set_option maxHeartbeats 4000000 in
set_option maxRecDepth 100000 in
theorem flat_walk (A : Option Addr) (c : Nat) (l : List Sec) (w : World) (hr : Kd.C kSec w A l.length l) (hl : l.length ≤ 1000000) :
    Calls Try.prog 88 #[.slice A l.length c] w fun e w' => ∃ v : Value, e = .returned v ∧ Kd.R (Kd.int .u8) 5 w' w.heap.size (fun _ => True) v (flatN l) ∧ Below w.heap.size w w' := by
  have HR := Aside0.mk hr
  have HB := Aside0.mk (Below.refl w.heap.size w)
  have HL := Aside0.mk hl
  obtain ⟨n, hn⟩ : ∃ n, n = l.length := ⟨_, rfl⟩
  rw [← hn] at HR ⊢
  have HN := Aside0.mk hn
  have hn1 : n ≤ 1000000 := by omega
  have hw : RowKit.wrap64 (64 * (n : Int)) = 64 * (n : Int) := by unfold RowKit.wrap64; omega
  obtain ⟨Zc, hzs, hmk⟩ : ∃ Zc : Array Value, Zc.size = 64 * n ∧ ∀ W : World, (Instr.makeSlice 44 (.int .i64 0) (.int .i64 (64 * (n : Int)))).run Try.prog W = .ok (.slice (some ⟨W.heap.size, 0, none⟩) 0 (64 * n)) (W.alloc (.cells Zc 5)) := by
    obtain ⟨i0, hi, hzz⟩ := Option.map_eq_some_iff.1 u8info
    simp only [Prod.mk.injEq] at hzz
    obtain ⟨hz0, hz1, hz2⟩ := hzz
    refine ⟨madeCells (Value.int .u8 0).cells (64 * n), by simp [size_madeCells], fun W => ?_⟩
    have hr := run_make (P := Try.prog) W 44 5 i0 (.int .u8 0) Try.underlying44 hi hz0 .i64 .i64 0 (64 * (n : Int)) (by omega) (by omega) (by rw [hz2]; omega) (by omega)
    have e : (64 * (n : Int)).toNat = 64 * n := by omega
    simpa [hz1, e] using hr
  have HO : Aside0 (Kd.R (Kd.int .u8) 5 (w.alloc (.cells Zc 5)) w.heap.size (fun _ => True) (.slice (some ⟨w.heap.size, 0, none⟩) 0 (64 * n)) (flatN (l.take 0))) := ⟨R_room w Zc (64 * n) hzs (by omega)⟩
  clear hr hl hn hzs
  go_enter Try.func88, Try.ntmps88
  go_wp2
  go_loopw [3, 11] (fun v3 v11 w' => ∃ (m : Nat) (Av : Option Addr) (nv cv : Nat), v11 = .int .i64 m ∧ v3 = .slice Av nv cv ∧ Aside0 (m ≤ n) ∧ Aside0 (Kd.R (Kd.int .u8) 5 w' w.heap.size (fun _ => True) (.slice Av nv cv) (flatN (l.take m))) ∧ Aside0 (Below w.heap.size w w')) (fun _ i _ => n - (intOf i).toNat)
  case atStart => exact ⟨0, _, _, _, rfl, rfl, ⟨Nat.zero_le _⟩, HO, ⟨below_alloc HB.out _⟩⟩
  case round =>
    clear HB HO
    obtain ⟨m, Av, nv, cv, rfl, rfl, hm, HO, HB⟩ := hrel
    have hm' := hm.out
    by_cases hlt : m < n
    · have hml : m < l.length := by rw [← HN.out]; exact hlt
      obtain ⟨ad, rfl, hS⟩ := C_sec (Kd.C_below HR.out HB.out) hml
      have HS := Aside0.mk hS
      have HT := Aside0.mk (flatN_take hml)
      obtain ⟨x, hxx⟩ : ∃ x, x = l[m] := ⟨_, rfl⟩
      rw [← hxx] at HS HT
      have HLX : Aside0 (((flatN (l.take m)).length + 64) * 1 ≤ 140737488355328) := ⟨by rw [flatN_length, List.length_take]; have := HL.out; omega⟩
      clear hS hxx hml
      go_wp2_with ((with_reducible refine gate_builtin (b := .append) (xs := #[.tmp 14, .tmp 18]) rfl ?_); at_builtin; go_loud (refine Kd.R_append_rows (Kd.int .u8) (w0 := w) w.heap.size rfl (.tmp 14) (.tmp 18) 44 5 (.int .u8 0) 1 rfl Try.underlying44 u8info rfl (by decide) (by omega) (.slice Av nv cv) (flatN (l.take m)) x.1 _ _ _ (fun _ => True) (fun _ => False) rfl rfl ?aO ?aR (fun _ _ h => h) (fun _ h => h.elim) ?aF ?aB ?aS ?aL ?_); (case aR => exact HS.out); (case aB => exact (by repeat (first | (with_reducible first | exact HB.out | apply below_alloc | apply pw_below_drewN | apply below_drew1) | exact HB.out))); (case aF => exact (fun _ _ => trivial)); (case aO => exact (by (with_reducible repeat (first | apply Kd.R_alloc | apply Kd.R_drewN | apply Kd.R_drew)); exact HO.out)); (case aS => exact (below_size (by repeat (first | (with_reducible first | exact HB.out | apply below_alloc | apply pw_below_drewN | apply below_drew1) | exact HB.out)))); (case aL => have h_ := HLX.out; first | exact h_ | (rw [x.2]; exact h_) | (have := x.2; omega)); intro v1 w11 ho hb hg hat; have n0_ := Aside0.mk (hb); have n1_ := Aside0.mk (ho); clear HB; clear HO; have HB := n0_; have HO1 := n1_; clear n0_ n1_; clear ho hb hg hat)
      obtain ⟨A1, c1, hv1⟩ := Kd.R_slice HO1.out
      subst hv1
      refine ⟨⟨m + 1, A1, _, c1, rfl, rfl, ⟨by omega⟩, ⟨by rw [HT.out]; exact HO1.out⟩, HB⟩, by simp [intOf]; omega⟩
    · have hmn : m = n := by omega
      subst hmn
      have e0 : l.take m = l := List.take_of_length_le (by rw [← HN.out]; exact Nat.le_refl _)
      rw [e0] at HO
      go_wp2
      go_ret
      exact ⟨_, rfl, HO.out, HB.out⟩
set_option maxRecDepth 100000 in
theorem devSafe_nil (W : World) : Calls Try.prog 47 #[.pointer none] W fun e w' => e = .returned (.slice none 0 0) ∧ w' = W := by
  go_enter Try.func47, Try.ntmps47
  go_wp2
  go_ret
  exact ⟨rfl, rfl⟩
set_option maxRecDepth 100000 in
theorem devSafe_walk (base p : Nat) (s : DiskS) (vs vn vw : Value) (W : World) (h : DiskR W base p s vs vn vw) (hl : s.safe.length ≤ 1000000) :
    Calls Try.prog 47 #[.pointer (some ⟨p, 0, none⟩)] W fun e w' => ∃ v : Value, e = .returned v ∧ Kd.R (Kd.int .u8) 5 w' W.heap.size (fun _ => True) v (flatN s.safe) ∧ Below W.heap.size W w' := by
  have HR := h.safe
  have b0 : W.cell? ⟨p, 0, none⟩ = some vs := (blk_cell h.blk 0).trans rfl
  obtain ⟨A, c, hv⟩ := Kd.R_slice HR
  subst hv
  have WF := Aside0.mk (flat_walk A c s.safe W (Kd.R_reads' HR).2.2 hl)
  clear h HR
  go_enter Try.func47, Try.ntmps47
  go_wp2_with (go_at_call 88; (with_reducible refine WF.out.mono ?_); rintro e w1 ⟨v1, rfl, ho, hb⟩; have HO := Aside0.mk ho; have HB := Aside0.mk hb; clear ho hb)
  go_ret
  exact ⟨_, rfl, HO.out, HB.out⟩
set_option maxRecDepth 100000 in
theorem devBytes_nil (W : World) : Calls Try.prog 46 #[.pointer none] W fun e w' => e = .returned (.slice none 0 0) ∧ w' = W := by
  go_enter Try.func46, Try.ntmps46
  go_wp2
  go_ret
  exact ⟨rfl, rfl⟩
set_option maxRecDepth 100000 in
theorem devBytes_walk (base p : Nat) (s : DiskS) (vs vn vw : Value) (W : World) (h : DiskR W base p s vs vn vw) (hl : s.now.length ≤ 1000000) :
    Calls Try.prog 46 #[.pointer (some ⟨p, 0, none⟩)] W fun e w' => ∃ v : Value, e = .returned v ∧ Kd.R (Kd.int .u8) 5 w' W.heap.size (fun _ => True) v (flatN s.now) ∧ Below W.heap.size W w' := by
  have HR := h.now
  have b0 : W.cell? ⟨p, 1, none⟩ = some vn := (blk_cell h.blk 1).trans rfl
  obtain ⟨A, c, hv⟩ := Kd.R_slice HR
  subst hv
  have WF := Aside0.mk (flat_walk A c s.now W (Kd.R_reads' HR).2.2 hl)
  clear h HR
  go_enter Try.func46, Try.ntmps46
  go_wp2_with (go_at_call 88; (with_reducible refine WF.out.mono ?_); rintro e w1 ⟨v1, rfl, ho, hb⟩; have HO := Aside0.mk ho; have HB := Aside0.mk hb; clear ho hb)
  go_ret
  exact ⟨_, rfl, HO.out, HB.out⟩
end Go.Proofs.Ytdkbhbolkieeiaa.K
namespace Go.Proofs.Ytdkbhbolkieeiaa.K
open Go.RowKit Go.Proofs.YtdkbhbolkieeiaaW.PrintWords Go.Proofs.YtdkbhbolkieeiaaW.PrintLast Go.Proofs.YtdkbhbolkieeiaaW.PrintMore
set_option linter.unusedVariables false
set_option linter.unusedSimpArgs false
/-- A pen of a row, whole. -/
theorem load_pen {W : World} {A : Option Addr} {n m : Nat} {xs : List Pen} (h : Kd.C kPen W A n xs) (hm : m < xs.length) : ∃ ad, A = some ad ∧ (Instr.loadAt TPen (.pointer (some (ad.add (m * 65))))).run Try.prog W = .ok (.agg xs[m].enc.toArray) W := by
  obtain ⟨ad, he, hx⟩ := Kd.at_flat h hm
  refine ⟨ad, he, ?_⟩
  have hlc := run_loadCells_list (P := Try.prog) W (ad.add (m * 65)) xs[m].enc (fun j v hv => by rw [addr_add_add]; exact hx j v hv)
  obtain ⟨d, hu, hd⟩ : ∃ d, Try.prog.underlying TPen = some d ∧ d.isRow = true := ⟨_, Try.underlying117, rfl⟩
  have hagg : (isAgg TPen).run Try.prog W = .ok true W := by
    unfold isAgg
    rw [Sem.run_bind, run_underlying hu W]
    cases d <;> simp_all
  obtain ⟨i, hi, hs⟩ := Option.map_eq_some_iff.1 pensize
  rw [Pen.len] at hlc
  simp [Instr.loadAt, Instr.sureAddr, loadVar, Sem.run_bind, hagg, sizeOf, typeInfo, hi, hs, hlc]
theorem intinfo : (Try.prog.info? 3).map (fun i => (i.zero, i.size, i.bytes)) = some (some (.int .i64 0), 1, 8) := by kernel_rfl
theorem wpList_load_run {P : Program} {ops : Array Oper} {rest : List Oper} {op : Oper} {a : Act} {W : World} {Q : Exit → Act → World → Prop} {v u : Value} (hgd : op.guard = none) (ty : TypeId) (x : Operand) (ho : op.op = .load ty x) (hx : a.eval x = v)
    (h : (Instr.loadAt ty v).run P W = .ok u W) (hk : wpList P ops Q rest (a.put op.dst u) W) : wpList P ops Q (op :: rest) a W :=
  wpList_plain hgd fun _ hK => by
    unfold Oper.wp
    rw [exec_load ho hx h]
    exact hK _ _ hk
end Go.Proofs.Ytdkbhbolkieeiaa.K
