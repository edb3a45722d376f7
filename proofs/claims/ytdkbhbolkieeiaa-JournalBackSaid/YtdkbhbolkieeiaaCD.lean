/- Walks and plain laws of this claim, merged: R06g, KRep. -/
import Derived.Test.YtdkbhbolkieeiaaCC
import Derived.Test.YtdkbhbolkieeiaaCB
import Derived.Test.YtdkbhbolkieeiaaKCopyB
import Derived.Test.YtdkbhbolkieeiaaKSl
import Derived.Lib.MakeNoZero
namespace Go.Proofs.Ytdkbhbolkieeiaa.K
open Go.RowKit Go.Proofs.YtdkbhbolkieeiaaW.PrintWords Go.Proofs.YtdkbhbolkieeiaaW.PrintLast Go.Proofs.YtdkbhbolkieeiaaW.PrintMore
set_option linter.unusedVariables false
set_option linter.unusedSimpArgs false
set_option maxRecDepth 100000 in
theorem rBy06_walk (a b c d : Int) (w : World) : Calls Try.prog 79 #[.agg #[.int .i64 a, .int .i64 b, .int .i64 c, .int .i64 d]] w fun e w' => ∃ v : Value, e = .returned v ∧ Kd.R (Kd.int .u8) 5 w' w.heap.size (fun _ => True) v (sealS (geoHead a b c d)) ∧ Below w.heap.size w w' := by
  have WS : Aside0 (∀ A c' W, Kd.C (Kd.int .u8) W A 9 ([82, 84, 66, 76, 1, (a % 256), (b % 256), (c % 256), (d % 256)] : List Int) → Calls Try.prog 65 #[.slice A 9 c'] W fun e w' => ∃ v : Value, e = .returned v ∧ Kd.R (Kd.int .u8) 5 w' W.heap.size (fun _ => True) v (sealS (geoHead a b c d)) ∧ Below W.heap.size W w') := ⟨fun A c' W h => rSeal_walk A c' (geoHead a b c d) W h (geoHead_byts a b c d) (by simp [geoHead])⟩
  have HB := Aside0.mk (Below.refl w.heap.size w)
  go_enter Try.func79, Try.ntmps79
  go_wp2_with (first | ((with_reducible refine gate_dst (N := 15) rfl ?_); refine Kd.R_lit (Kd.int .u8) _ 5 ?hg (N := 15) ?hd (xs := ([(82 : Int), (84 : Int), (66 : Int), (76 : Int), (1 : Int), (a % 256), (b % 256), (c % 256), (d % 256)] : List (Int))) (inner := [.int .u8 82, .int .u8 84, .int .u8 66, .int .u8 76, .int .u8 1, .int .u8 (a % 256), .int .u8 (b % 256), .int .u8 (c % 256), .int .u8 (d % 256)]) (ok := fun _ => True) (okp := fun _ => True) ?hr ?hp (fun _ hk => hk) trivial (Below.refl _ _) (Nat.le_refl _) (by simp) ?_; (case hd => rfl); (case hg => rfl); (case hr => first | (go_simp; done) | (go_simp; rfl)); (case hp => exact (Reps.one (show Kd.M (Kd.int .u8) _ _ _ (82 : Int) [.int .u8 82] from rfl) (Reps.one (show Kd.M (Kd.int .u8) _ _ _ (84 : Int) [.int .u8 84] from rfl) (Reps.one (show Kd.M (Kd.int .u8) _ _ _ (66 : Int) [.int .u8 66] from rfl) (Reps.one (show Kd.M (Kd.int .u8) _ _ _ (76 : Int) [.int .u8 76] from rfl) (Reps.one (show Kd.M (Kd.int .u8) _ _ _ (1 : Int) [.int .u8 1] from rfl) (Reps.one (show Kd.M (Kd.int .u8) _ _ _ (a % 256) [.int .u8 (a % 256)] from rfl) (Reps.one (show Kd.M (Kd.int .u8) _ _ _ (b % 256) [.int .u8 (b % 256)] from rfl) (Reps.one (show Kd.M (Kd.int .u8) _ _ _ (c % 256) [.int .u8 (c % 256)] from rfl) (Reps.one (show Kd.M (Kd.int .u8) _ _ _ (d % 256) [.int .u8 (d % 256)] from rfl) (Reps.none _ _))))))))))); intro v1 w1 ho hb hg_ hnew_; clear hg_ hnew_; obtain ⟨A1, c1, rfl⟩ := Kd.R_slice ho; have HR1 := Aside0.mk (Kd.R_reads' ho).2.2; have HC1 := Aside0.mk (Kd.R_reads' ho).2.1; have n1_ : Aside0 (Below w.heap.size w w1) := ⟨below_step (by repeat (first | (with_reducible first | exact HB.out | apply below_alloc | apply pw_below_drewN | apply below_drew1) | exact HB.out)) hb⟩; clear HB; have HB := n1_; clear n1_; clear ho hb) | (go_at_call 65; go_loud ((with_reducible refine (WS.out _ _ _ HR1.out).mono ?_); rintro e w5 ⟨v5, rfl, ho, hb⟩; have HO := Aside0.mk (Kd.R_lower ho (below_size (by repeat (first | (with_reducible first | exact HB.out | apply below_alloc | apply pw_below_drewN | apply below_drew1) | exact HB.out)))); have n1_ : Aside0 (Below w.heap.size w w5) := ⟨below_step (by repeat (first | (with_reducible first | exact HB.out | apply below_alloc | apply pw_below_drewN | apply below_drew1) | exact HB.out)) hb⟩; clear HB; have HB := n1_; clear n1_; clear ho hb)))
  go_ret
  exact ⟨_, rfl, HO.out, HB.out⟩
set_option maxHeartbeats 4000000 in
set_option maxRecDepth 100000 in
theorem rGet06_walk (A : Option Addr) (c : Nat) (l : List Int) (w0 : World) (hr : Kd.C (Kd.int .u8) w0 A l.length l) (hc : l.length ≤ c) (hl : l.length < 140737488355320) (hb : Byts l) :
    Calls Try.prog 39 #[.slice A l.length c] w0 fun e w' => e = .returned (.tuple #[.agg #[.int .i64 (geoG l).1.1, .int .i64 (geoG l).1.2.1, .int .i64 (geoG l).1.2.2.1, .int .i64 (geoG l).1.2.2.2], .int .i64 (geoG l).2]) ∧ Below w0.heap.size w0 w' := by
  have HR := Aside0.mk hr
  have HY := Aside0.mk hb
  have HC := Aside0.mk hc
  have HL := Aside0.mk hl
  have EG : Aside0 (geoG l = if geoGok l = true then ((byN l 5, byN l 6, byN l 7, byN l 8), 0) else ((0, 0, 0, 0), 2)) := ⟨rfl⟩
  have EO : Aside0 (geoGok l = (decide (64 ≤ l.length) && (geoOk (byN l 5) (byN l 6) (byN l 7) (byN l 8) && (decide (l.take 64 = sealS (geoHead (byN l 5) (byN l 6) (byN l 7) (byN l 8))) && decide ((l.length : Int) = 64 * geoT (byN l 5) (byN l 6) (byN l 7) (byN l 8)))))) := ⟨rfl⟩
  obtain ⟨G, hG⟩ : ∃ G, G = geoG l := ⟨_, rfl⟩
  rw [← hG] at EG
  rw [← hG]
  clear hr hb hc hl hG
  by_cases h64 : 64 ≤ l.length
  case neg =>
    have E0 : Aside0 (G = ((0, 0, 0, 0), 2)) := ⟨by rw [EG.out, EO.out]; simp [h64]⟩
    have hlt : (l.length : Int) < 64 := by omega
    go_enter Try.func39, Try.ntmps39
    go_wp2
    refine bodyPost_ret (resRow2 rfl _ _ w0.heap.size 38 #[.int .i64 0, .int .i64 0, .int .i64 0, .int .i64 0] (0, 0) _ (.int .i64 2) rfl rfl (heap_alloc_new _ _) Try.underlying38 rfl (by kernel_rfl)) rfl ?_
    exact ⟨by rw [E0.out], below_alloc (Below.refl _ _) _⟩
  obtain ⟨ad, hA, x5⟩ := Kd.at_int HR.out 5 (by omega) (by omega)
  obtain ⟨ad2, hA2, x6⟩ := Kd.at_int HR.out 6 (by omega) (by omega)
  obtain ⟨ad3, hA3, x7⟩ := Kd.at_int HR.out 7 (by omega) (by omega)
  obtain ⟨ad4, hA4, x8⟩ := Kd.at_int HR.out 8 (by omega) (by omega)
  subst hA
  cases hA2
  cases hA3
  cases hA4
  have hcc : l.length ≤ c := HC.out
  have hge : ¬ (l.length : Int) < 64 := by omega
  obtain ⟨a, ha⟩ : ∃ a, a = byN l 5 := ⟨_, rfl⟩
  obtain ⟨b, hb⟩ : ∃ b, b = byN l 6 := ⟨_, rfl⟩
  obtain ⟨d, hd⟩ : ∃ d, d = byN l 7 := ⟨_, rfl⟩
  obtain ⟨h, hh⟩ : ∃ h, h = byN l 8 := ⟨_, rfl⟩
  have z5 : w0.cell? ⟨ad.block, ad.off + 5, none⟩ = some (.int .u8 a) := by rw [ha]; exact x5
  have z6 : w0.cell? ⟨ad.block, ad.off + 6, none⟩ = some (.int .u8 b) := by rw [hb]; exact x6
  have z7 : w0.cell? ⟨ad.block, ad.off + 7, none⟩ = some (.int .u8 d) := by rw [hd]; exact x7
  have z8 : w0.cell? ⟨ad.block, ad.off + 8, none⟩ = some (.int .u8 h) := by rw [hh]; exact x8
  have HA : Aside0 ((0 ≤ a ∧ a < 256) ∧ (0 ≤ b ∧ b < 256) ∧ (0 ≤ d ∧ d < 256) ∧ 0 ≤ h ∧ h < 256) := ⟨by
    rw [ha, hb, hd, hh, byN_get (by omega), byN_get (by omega), byN_get (by omega), byN_get (by omega)]
    exact ⟨HY.out _ (List.getElem_mem _), HY.out _ (List.getElem_mem _), HY.out _ (List.getElem_mem _), HY.out _ (List.getElem_mem _)⟩⟩
  rw [← ha, ← hb, ← hd, ← hh] at EG EO
  clear x5 x6 x7 x8 ha hb hd hh
  go_enter Try.func39, Try.ntmps39
  go_wp2
  obtain ⟨w1, hw1⟩ : ∃ w1, w1 = w0.alloc (.cells #[.int .i64 0, .int .i64 0, .int .i64 0, .int .i64 0] 38) := ⟨_, rfl⟩
  have hb1 : Below w0.heap.size w0 w1 := by rw [hw1]; exact below_alloc (Below.refl _ _) _
  have BR : w1.heap[w0.heap.size]? = some (.cells #[.int .i64 0, .int .i64 0, .int .i64 0, .int .i64 0] 38 (0, 0)) := by rw [hw1]; exact heap_alloc_new _ _
  have y5 := pw_cell_below hb1 z5
  have y6 := pw_cell_below hb1 z6
  have y7 := pw_cell_below hb1 z7
  have y8 := pw_cell_below hb1 z8
  have HB1 := Aside0.mk hb1
  have BR1 := Aside0.mk BR
  rw [← hw1]
  clear hw1 z5 z6 z7 z8 hb1 BR
  have q0 : (5 : Int) < (l.length : Int) := by omega
  have q1 : (6 : Int) < (l.length : Int) := by omega
  have q2 : (7 : Int) < (l.length : Int) := by omega
  have q3 : (8 : Int) < (l.length : Int) := by omega
  have wa : RowKit.wrap64 a = a := by have := HA.out; unfold RowKit.wrap64; omega
  have wb : RowKit.wrap64 b = b := by have := HA.out; unfold RowKit.wrap64; omega
  have wd : RowKit.wrap64 d = d := by have := HA.out; unfold RowKit.wrap64; omega
  have wh : RowKit.wrap64 h = h := by have := HA.out; unfold RowKit.wrap64; omega
  refine start_ (n := 19) (S := fun w' => w'.cell? ⟨ad.block, ad.off + 5, none⟩ = some (.int .u8 a) ∧ w'.cell? ⟨ad.block, ad.off + 6, none⟩ = some (.int .u8 b) ∧ w'.cell? ⟨ad.block, ad.off + 7, none⟩ = some (.int .u8 d) ∧ w'.cell? ⟨ad.block, ad.off + 8, none⟩ = some (.int .u8 h)) (ds := [18]) #[false, false, false, false, false, false, false, false, false, false, false, false, false, false, false, false, false, false, false] (by kernel_rfl) rfl rfl ⟨(pw_cell_below (below_drew1 (Below.refl w1.heap.size w1)) y5), (pw_cell_below (below_drew1 (Below.refl w1.heap.size w1)) y6), (pw_cell_below (below_drew1 (Below.refl w1.heap.size w1)) y7), (pw_cell_below (below_drew1 (Below.refl w1.heap.size w1)) y8)⟩ (fun hHeld => ?_)
  refine pure_ (i := 0) (N := some 9) (v := ?_) (a' := ?_) #[true, false, false, false, false, false, false, false, false, false, false, false, false, false, false, false, false, false, false] rfl rfl (by kernel_rfl) (fun _ _ _ h => h) (Or.inl ⟨by rfl, ?_⟩) ?_ ?_
  rotate_left
  · intro w'
    go_simp
    with_reducible rfl
  rotate_left
  · simp only [Act.put, List.setIfInBounds_toArray, List.set_cons_zero, List.set_cons_succ, i64_w, i32_w]
    rfl
  refine pure_ (i := 1) (N := some 10) (v := ?_) (a' := ?_) #[true, true, false, false, false, false, false, false, false, false, false, false, false, false, false, false, false, false, false] rfl rfl (by kernel_rfl) (fun _ _ _ h => h) (Or.inl ⟨by rfl, ?_⟩) ?_ ?_
  rotate_left
  · intro w'
    go_simp
    with_reducible rfl
  rotate_left
  · simp only [Act.put, List.setIfInBounds_toArray, List.set_cons_zero, List.set_cons_succ, i64_w, i32_w]
    rfl
  refine pure_ (i := 4) (N := some 13) (v := ?_) (a' := ?_) #[true, true, false, false, true, false, false, false, false, false, false, false, false, false, false, false, false, false, false] rfl rfl (by kernel_rfl) (fun _ _ _ h => h) (Or.inl ⟨by rfl, ?_⟩) ?_ ?_
  rotate_left
  · intro w'
    go_simp
    with_reducible rfl
  rotate_left
  · simp only [Act.put, List.setIfInBounds_toArray, List.set_cons_zero, List.set_cons_succ, i64_w, i32_w]
    rfl
  refine pure_ (i := 5) (N := some 14) (v := ?_) (a' := ?_) #[true, true, false, false, true, true, false, false, false, false, false, false, false, false, false, false, false, false, false] rfl rfl (by kernel_rfl) (fun _ _ _ h => h) (Or.inl ⟨by rfl, ?_⟩) ?_ ?_
  rotate_left
  · intro w'
    go_simp
    with_reducible rfl
  rotate_left
  · simp only [Act.put, List.setIfInBounds_toArray, List.set_cons_zero, List.set_cons_succ, i64_w, i32_w]
    rfl
  refine pure_ (i := 8) (N := some 17) (v := ?_) (a' := ?_) #[true, true, false, false, true, true, false, false, true, false, false, false, false, false, false, false, false, false, false] rfl rfl (by kernel_rfl) (fun _ _ _ h => h) (Or.inl ⟨by rfl, ?_⟩) ?_ ?_
  rotate_left
  · intro w'
    go_simp
    with_reducible rfl
  rotate_left
  · simp only [Act.put, List.setIfInBounds_toArray, List.set_cons_zero, List.set_cons_succ, i64_w, i32_w]
    rfl
  refine pure_ (i := 9) (N := some 18) (v := ?_) (a' := ?_) #[true, true, false, false, true, true, false, false, true, true, false, false, false, false, false, false, false, false, false] rfl rfl (by kernel_rfl) (fun _ _ _ h => h) (Or.inl ⟨by rfl, ?_⟩) ?_ ?_
  rotate_left
  · intro w'
    go_simp
    with_reducible rfl
  rotate_left
  · simp only [Act.put, List.setIfInBounds_toArray, List.set_cons_zero, List.set_cons_succ, i64_w, i32_w]
    rfl
  refine pure_ (i := 12) (N := some 21) (v := ?_) (a' := ?_) #[true, true, false, false, true, true, false, false, true, true, false, false, true, false, false, false, false, false, false] rfl rfl (by kernel_rfl) (fun _ _ _ h => h) (Or.inl ⟨by rfl, ?_⟩) ?_ ?_
  rotate_left
  · intro w'
    go_simp
    with_reducible rfl
  rotate_left
  · simp only [Act.put, List.setIfInBounds_toArray, List.set_cons_zero, List.set_cons_succ, i64_w, i32_w]
    rfl
  refine pure_ (i := 13) (N := some 22) (v := ?_) (a' := ?_) #[true, true, false, false, true, true, false, false, true, true, false, false, true, true, false, false, false, false, false] rfl rfl (by kernel_rfl) (fun _ _ _ h => h) (Or.inl ⟨by rfl, ?_⟩) ?_ ?_
  rotate_left
  · intro w'
    go_simp
    with_reducible rfl
  rotate_left
  · simp only [Act.put, List.setIfInBounds_toArray, List.set_cons_zero, List.set_cons_succ, i64_w, i32_w]
    rfl
  refine take_ (i := 2) (N := some 11) (v := ?_) (a' := ?_) #[true, true, true, false, true, true, false, false, true, true, false, false, true, true, false, false, false, false, false] rfl rfl (by kernel_rfl) (fun _ _ _ h => h) (Or.inl ⟨by rfl, ?_⟩) hHeld ?_ ?_
  rotate_left
  · rintro w' ⟨s0, s1, s2, s3⟩
    go_simp
    with_reducible rfl
  rotate_left
  · simp only [Act.put, List.setIfInBounds_toArray, List.set_cons_zero, List.set_cons_succ, i64_w, i32_w]
    rfl
  refine pure_ (i := 3) (N := some 12) (v := ?_) (a' := ?_) #[true, true, true, true, true, true, false, false, true, true, false, false, true, true, false, false, false, false, false] rfl rfl (by kernel_rfl) (fun _ _ _ h => h) (Or.inl ⟨by rfl, ?_⟩) ?_ ?_
  rotate_left
  · intro w'
    go_simp
    with_reducible rfl
  rotate_left
  · simp only [Act.put, List.setIfInBounds_toArray, List.set_cons_zero, List.set_cons_succ, i64_w, i32_w]
    rfl
  refine take_ (i := 6) (N := some 15) (v := ?_) (a' := ?_) #[true, true, true, true, true, true, true, false, true, true, false, false, true, true, false, false, false, false, false] rfl rfl (by kernel_rfl) (fun _ _ _ h => h) (Or.inl ⟨by rfl, ?_⟩) hHeld ?_ ?_
  rotate_left
  · rintro w' ⟨s0, s1, s2, s3⟩
    go_simp
    with_reducible rfl
  rotate_left
  · simp only [Act.put, List.setIfInBounds_toArray, List.set_cons_zero, List.set_cons_succ, i64_w, i32_w]
    rfl
  refine pure_ (i := 7) (N := some 16) (v := ?_) (a' := ?_) #[true, true, true, true, true, true, true, true, true, true, false, false, true, true, false, false, false, false, false] rfl rfl (by kernel_rfl) (fun _ _ _ h => h) (Or.inl ⟨by rfl, ?_⟩) ?_ ?_
  rotate_left
  · intro w'
    go_simp
    with_reducible rfl
  rotate_left
  · simp only [Act.put, List.setIfInBounds_toArray, List.set_cons_zero, List.set_cons_succ, i64_w, i32_w]
    rfl
  refine take_ (i := 10) (N := some 19) (v := ?_) (a' := ?_) #[true, true, true, true, true, true, true, true, true, true, true, false, true, true, false, false, false, false, false] rfl rfl (by kernel_rfl) (fun _ _ _ h => h) (Or.inl ⟨by rfl, ?_⟩) hHeld ?_ ?_
  rotate_left
  · rintro w' ⟨s0, s1, s2, s3⟩
    go_simp
    with_reducible rfl
  rotate_left
  · simp only [Act.put, List.setIfInBounds_toArray, List.set_cons_zero, List.set_cons_succ, i64_w, i32_w]
    rfl
  refine pure_ (i := 11) (N := some 20) (v := ?_) (a' := ?_) #[true, true, true, true, true, true, true, true, true, true, true, true, true, true, false, false, false, false, false] rfl rfl (by kernel_rfl) (fun _ _ _ h => h) (Or.inl ⟨by rfl, ?_⟩) ?_ ?_
  rotate_left
  · intro w'
    go_simp
    with_reducible rfl
  rotate_left
  · simp only [Act.put, List.setIfInBounds_toArray, List.set_cons_zero, List.set_cons_succ, i64_w, i32_w]
    rfl
  refine take_ (i := 14) (N := some 23) (v := ?_) (a' := ?_) #[true, true, true, true, true, true, true, true, true, true, true, true, true, true, true, false, false, false, false] rfl rfl (by kernel_rfl) (fun _ _ _ h => h) (Or.inl ⟨by rfl, ?_⟩) hHeld ?_ ?_
  rotate_left
  · rintro w' ⟨s0, s1, s2, s3⟩
    go_simp
    with_reducible rfl
  rotate_left
  · simp only [Act.put, List.setIfInBounds_toArray, List.set_cons_zero, List.set_cons_succ, i64_w, i32_w]
    rfl
  refine pure_ (i := 15) (N := some 24) (v := ?_) (a' := ?_) #[true, true, true, true, true, true, true, true, true, true, true, true, true, true, true, true, false, false, false] rfl rfl (by kernel_rfl) (fun _ _ _ h => h) (Or.inl ⟨by rfl, ?_⟩) ?_ ?_
  rotate_left
  · intro w'
    go_simp
    with_reducible rfl
  rotate_left
  · simp only [Act.put, List.setIfInBounds_toArray, List.set_cons_zero, List.set_cons_succ, i64_w, i32_w]
    rfl
  refine pure_ (i := 16) (N := some 25) (v := ?_) (a' := ?_) #[true, true, true, true, true, true, true, true, true, true, true, true, true, true, true, true, true, false, false] rfl rfl (by kernel_rfl) (fun _ _ _ h => h) (Or.inl ⟨by rfl, ?_⟩) ?_ ?_
  rotate_left
  · intro w'
    go_simp
    with_reducible rfl
  rotate_left
  · simp only [Act.put, List.setIfInBounds_toArray, List.set_cons_zero, List.set_cons_succ, i64_w, i32_w]
    rfl
  refine one_ (i := 17) (N := some 4) #[true, true, true, true, true, true, true, true, true, true, true, true, true, true, true, true, true, true, false] rfl rfl (by kernel_rfl) (by decide) (fun K hK => ?_)
  obtain ⟨w2, hw2⟩ : ∃ w2, w2 = w1.drew := ⟨_, rfl⟩
  rw [← hw2] at hHeld ⊢
  have hb2 : Below w1.heap.size w1 w2 := by rw [hw2]; exact below_drew1 (Below.refl _ _)
  clear hw2 hHeld
  refine value_ (w1 := ?_) (v := ?_) (by rfl) rfl ?_ ?_
  rotate_left 2
  · go_simp
    constructor
    · rfl
    · rfl
  refine hK.out _ _ ⟨(pw_cell_below (below_alloc hb2 _) y5), (pw_cell_below (below_alloc hb2 _) y6), (pw_cell_below (below_alloc hb2 _) y7), (pw_cell_below (below_alloc hb2 _) y8)⟩ (fun hHeld => ?_)
  clear hK K
  refine norm_ (a' := ?_) ?_ ?_
  rotate_left
  · show Act.put _ (some 4) _ = _
    simp only [Act.put, List.setIfInBounds_toArray, List.set_cons_zero, List.set_cons_succ, i64_w, i32_w]
    rfl
  refine last_ (i := 18) (N := none) #[true, true, true, true, true, true, true, true, true, true, true, true, true, true, true, true, true, true, true] rfl rfl (by kernel_rfl) (by decide) (fun K hK => ?_)
  clear hHeld
  obtain ⟨w5, hrun, bk5, hg5⟩ := run_store_let (P := Try.prog) (ty := 38) (w2.alloc (.cells #[.int .i64 0, .int .i64 0, .int .i64 0, .int .i64 0] 38)) w2.heap.size #[.int .i64 a, .int .i64 b, .int .i64 d, .int .i64 h] 38 #[.int .i64 0, .int .i64 0, .int .i64 0, .int .i64 0] (heap_alloc_new _ _) rfl (by kernel_rfl) (by simp [Value.oneCell'])
  refine skip_ (w1 := w5) (by rfl) rfl ?_ ?_
  · exact exec_storeG (x := .tmp 4) (y := .tmp 25) rfl rfl rfl hrun
  refine hK.out _ _ ?_
  clear hK K
  refine done_ (by kernel_rfl) ?_
  have hb5 : Below w1.heap.size w1 w5 := (below_alloc hb2 _).grown hg5 (by have := hb2.size; simp; omega) (fun k e => by cases e; exact hb2.size)
  have BK5 := Aside0.mk bk5
  have BR5 := Aside0.mk (blk_below BR1.out hb5)
  have HB5 := Aside0.mk (below_step HB1.out hb5)
  have HR5 := Aside0.mk (Kd.C_below HR.out HB5.out)
  have c0 : w5.cell? ⟨w2.heap.size, 0, none⟩ = some (.int .i64 a) := (blk_cell BK5.out 0).trans rfl
  have c1 : w5.cell? ⟨w2.heap.size, 1, none⟩ = some (.int .i64 b) := (blk_cell BK5.out 1).trans rfl
  have c2 : w5.cell? ⟨w2.heap.size, 2, none⟩ = some (.int .i64 d) := (blk_cell BK5.out 2).trans rfl
  have c3 : w5.cell? ⟨w2.heap.size, 3, none⟩ = some (.int .i64 h) := (blk_cell BK5.out 3).trans rfl
  clear bk5 hg5 hb5 hb2 HB1 BR1 y5 y6 y7 y8 q0 q1 q2 q3 wa wb wd wh
  have WK : Aside0 (∀ W, Calls Try.prog 60 #[.agg #[.int .i64 a, .int .i64 b, .int .i64 d, .int .i64 h]] W fun e w' => e = .returned (.int .i64 (geoE a b d h)) ∧ Below W.heap.size W w') := ⟨fun W => (rCheck_walk a b d h W).mono fun e w' h => ⟨h.1, by rw [h.2]; exact below_alloc (Below.refl _ _) _⟩⟩
  have WP : Aside0 (∀ W, Calls Try.prog 79 #[.agg #[.int .i64 a, .int .i64 b, .int .i64 d, .int .i64 h]] W fun e w' => ∃ v : Value, e = .returned v ∧ Kd.R (Kd.int .u8) 5 w' W.heap.size (fun _ => True) v (sealS (geoHead a b d h)) ∧ Below W.heap.size W w') := ⟨fun W => rBy06_walk a b d h W⟩
  have WT : Aside0 (∀ W, Calls Try.prog 80 #[.agg #[.int .i64 a, .int .i64 b, .int .i64 d, .int .i64 h]] W fun e w' => e = .returned (.int .i64 (geoT a b d h)) ∧ Below W.heap.size W w') := ⟨fun W => rTotal_walk a b d h W⟩
  clear c0 c1 c2 c3
  have hc64 : (64 : Int) ≤ (c : Int) := by omega
  go_wp2
  by_cases hok : geoOk a b d h = true
  case neg =>
    have E0 : Aside0 (G = ((0, 0, 0, 0), 2)) := ⟨by rw [EG.out, EO.out]; simp [hok]⟩
    rw [geoE_bad hok] at WK
    clear hok
    refine start_ (n := 19) (S := fun w' => w'.cell? ⟨w2.heap.size, 0, none⟩ = some (.int .i64 a) ∧ w'.cell? ⟨w2.heap.size, 1, none⟩ = some (.int .i64 b) ∧ w'.cell? ⟨w2.heap.size, 2, none⟩ = some (.int .i64 d) ∧ w'.cell? ⟨w2.heap.size, 3, none⟩ = some (.int .i64 h)) (ds := []) #[false, false, false, false, false, false, false, false, false, false, false, false, false, false, false, false, false, false, false] (by kernel_rfl) rfl rfl ⟨((blk_cell (blk_drew BK5.out) 0).trans rfl), ((blk_cell (blk_drew BK5.out) 1).trans rfl), ((blk_cell (blk_drew BK5.out) 2).trans rfl), ((blk_cell (blk_drew BK5.out) 3).trans rfl)⟩ (fun hHeld => ?_)
    refine take_ (i := 0) (N := some 26) (v := ?_) (a' := ?_) #[true, false, false, false, false, false, false, false, false, false, false, false, false, false, false, false, false, false, false] rfl rfl (by kernel_rfl) (fun _ _ _ h => h) (Or.inl ⟨by rfl, ?_⟩) hHeld ?_ ?_
    rotate_left
    · rintro w' ⟨s0, s1, s2, s3⟩
      go_simp
      with_reducible rfl
    rotate_left
    · simp only [Act.put, List.setIfInBounds_toArray, List.set_cons_zero, List.set_cons_succ, i64_w, i32_w]
      rfl
    refine one_ (i := 1) (N := some 27) #[true, true, false, false, false, false, false, false, false, false, false, false, false, false, false, false, false, false, false] rfl rfl (by kernel_rfl) (by decide) (fun K hK => ?_)
    clear hHeld
    refine goes_ Try.func60 (by kernel_rfl) rfl #[.agg #[.int .i64 a, .int .i64 b, .int .i64 d, .int .i64 h]] (by rfl) rfl rfl (by simp only [List.map_toArray, List.map_cons, List.map_nil]; rfl) ?_
    with_reducible refine (WK.out _).mono ?_
    rintro e w6 ⟨rfl, hb6⟩
    refine ⟨_, rfl, ?_⟩
    have BK6 := Aside0.mk (blk_below (blk_drew BK5.out) hb6)
    have BR6 := Aside0.mk (blk_below (blk_drew BR5.out) hb6)
    have HB6 := Aside0.mk (below_step (below_drew1 HB5.out) hb6)
    have HR6 := Aside0.mk (Kd.C_below (Kd.C_drew HR5.out) hb6)
    clear BK5 BR5 HB5 HR5
    refine hK.out _ _ ⟨((blk_cell BK6.out 0).trans rfl), ((blk_cell BK6.out 1).trans rfl), ((blk_cell BK6.out 2).trans rfl), ((blk_cell BK6.out 3).trans rfl)⟩ (fun hHeld => ?_)
    clear hK K
    refine norm_ (a' := ?_) ?_ ?_
    rotate_left
    · show Act.put _ (some 27) _ = _
      simp only [Act.put, List.setIfInBounds_toArray, List.set_cons_zero, List.set_cons_succ, i64_w, i32_w]
      rfl
    refine pure_ (i := 2) (N := some 28) (v := ?_) (a' := ?_) #[true, true, true, false, false, false, false, false, false, false, false, false, false, false, false, false, false, false, false] rfl rfl (by kernel_rfl) (fun _ _ _ h => h) (Or.inl ⟨by rfl, ?_⟩) ?_ ?_
    rotate_left
    · intro w'
      go_simp
      with_reducible rfl
    rotate_left
    · simp only [Act.put, List.setIfInBounds_toArray, List.set_cons_zero, List.set_cons_succ, i64_w, i32_w]
      rfl
    refine pure_ (i := 3) (N := some 29) (v := ?_) (a' := ?_) #[true, true, true, true, false, false, false, false, false, false, false, false, false, false, false, false, false, false, false] rfl rfl (by kernel_rfl) (fun _ _ _ h => h) (Or.inl ⟨by rfl, ?_⟩) ?_ ?_
    rotate_left
    · intro w'
      go_simp
      with_reducible rfl
    rotate_left
    · simp only [Act.put, List.setIfInBounds_toArray, List.set_cons_zero, List.set_cons_succ, i64_w, i32_w]
      rfl
    refine pure_ (i := 4) (N := some 30) (v := undef) (a' := ?_) #[true, true, true, true, true, false, false, false, false, false, false, false, false, false, false, false, false, false, false] rfl rfl (by kernel_rfl) (fun _ _ _ h => h) (Or.inr ⟨by rfl, rfl⟩) ?_ ?_
    rotate_left
    · simp only [Act.put, List.setIfInBounds_toArray, List.set_cons_zero, List.set_cons_succ, i64_w, i32_w]
      rfl
    refine pure_ (i := 5) (N := some 31) (v := undef) (a' := ?_) #[true, true, true, true, true, true, false, false, false, false, false, false, false, false, false, false, false, false, false] rfl rfl (by kernel_rfl) (fun _ _ _ h => h) (Or.inr ⟨by rfl, rfl⟩) ?_ ?_
    rotate_left
    · simp only [Act.put, List.setIfInBounds_toArray, List.set_cons_zero, List.set_cons_succ, i64_w, i32_w]
      rfl
    refine pure_ (i := 6) (N := some 32) (v := undef) (a' := ?_) #[true, true, true, true, true, true, true, false, false, false, false, false, false, false, false, false, false, false, false] rfl rfl (by kernel_rfl) (fun _ _ _ h => h) (Or.inr ⟨by rfl, rfl⟩) ?_ ?_
    rotate_left
    · simp only [Act.put, List.setIfInBounds_toArray, List.set_cons_zero, List.set_cons_succ, i64_w, i32_w]
      rfl
    refine pure_ (i := 7) (N := some 33) (v := undef) (a' := ?_) #[true, true, true, true, true, true, true, true, false, false, false, false, false, false, false, false, false, false, false] rfl rfl (by kernel_rfl) (fun _ _ _ h => h) (Or.inr ⟨by rfl, rfl⟩) ?_ ?_
    rotate_left
    · simp only [Act.put, List.setIfInBounds_toArray, List.set_cons_zero, List.set_cons_succ, i64_w, i32_w]
      rfl
    refine pure_ (i := 8) (N := some 34) (v := undef) (a' := ?_) #[true, true, true, true, true, true, true, true, true, false, false, false, false, false, false, false, false, false, false] rfl rfl (by kernel_rfl) (fun _ _ _ h => h) (Or.inr ⟨by rfl, rfl⟩) ?_ ?_
    rotate_left
    · simp only [Act.put, List.setIfInBounds_toArray, List.set_cons_zero, List.set_cons_succ, i64_w, i32_w]
      rfl
    refine pure_ (i := 9) (N := some 35) (v := undef) (a' := ?_) #[true, true, true, true, true, true, true, true, true, true, false, false, false, false, false, false, false, false, false] rfl rfl (by kernel_rfl) (fun _ _ _ h => h) (Or.inr ⟨by rfl, rfl⟩) ?_ ?_
    rotate_left
    · simp only [Act.put, List.setIfInBounds_toArray, List.set_cons_zero, List.set_cons_succ, i64_w, i32_w]
      rfl
    refine pure_ (i := 10) (N := some 36) (v := ?_) (a' := ?_) #[true, true, true, true, true, true, true, true, true, true, true, false, false, false, false, false, false, false, false] rfl rfl (by kernel_rfl) (fun _ _ _ h => h) (Or.inl ⟨by rfl, ?_⟩) ?_ ?_
    rotate_left
    · intro w'
      go_simp
      with_reducible rfl
    rotate_left
    · simp only [Act.put, List.setIfInBounds_toArray, List.set_cons_zero, List.set_cons_succ, i64_w, i32_w]
      rfl
    refine pure_ (i := 11) (N := some 37) (v := ?_) (a' := ?_) #[true, true, true, true, true, true, true, true, true, true, true, true, false, false, false, false, false, false, false] rfl rfl (by kernel_rfl) (fun _ _ _ h => h) (Or.inl ⟨by rfl, ?_⟩) ?_ ?_
    rotate_left
    · intro w'
      go_simp
      with_reducible rfl
    rotate_left
    · simp only [Act.put, List.setIfInBounds_toArray, List.set_cons_zero, List.set_cons_succ, i64_w, i32_w]
      rfl
    refine pure_ (i := 12) (N := some 38) (v := undef) (a' := ?_) #[true, true, true, true, true, true, true, true, true, true, true, true, true, false, false, false, false, false, false] rfl rfl (by kernel_rfl) (fun _ _ _ h => h) (Or.inr ⟨by rfl, rfl⟩) ?_ ?_
    rotate_left
    · simp only [Act.put, List.setIfInBounds_toArray, List.set_cons_zero, List.set_cons_succ, i64_w, i32_w]
      rfl
    refine pure_ (i := 13) (N := some 39) (v := undef) (a' := ?_) #[true, true, true, true, true, true, true, true, true, true, true, true, true, true, false, false, false, false, false] rfl rfl (by kernel_rfl) (fun _ _ _ h => h) (Or.inr ⟨by rfl, rfl⟩) ?_ ?_
    rotate_left
    · simp only [Act.put, List.setIfInBounds_toArray, List.set_cons_zero, List.set_cons_succ, i64_w, i32_w]
      rfl
    refine pure_ (i := 14) (N := some 40) (v := undef) (a' := ?_) #[true, true, true, true, true, true, true, true, true, true, true, true, true, true, true, false, false, false, false] rfl rfl (by kernel_rfl) (fun _ _ _ h => h) (Or.inr ⟨by rfl, rfl⟩) ?_ ?_
    rotate_left
    · simp only [Act.put, List.setIfInBounds_toArray, List.set_cons_zero, List.set_cons_succ, i64_w, i32_w]
      rfl
    refine pure_ (i := 15) (N := some 41) (v := undef) (a' := ?_) #[true, true, true, true, true, true, true, true, true, true, true, true, true, true, true, true, false, false, false] rfl rfl (by kernel_rfl) (fun _ _ _ h => h) (Or.inr ⟨by rfl, rfl⟩) ?_ ?_
    rotate_left
    · simp only [Act.put, List.setIfInBounds_toArray, List.set_cons_zero, List.set_cons_succ, i64_w, i32_w]
      rfl
    refine pure_ (i := 16) (N := some 42) (v := undef) (a' := ?_) #[true, true, true, true, true, true, true, true, true, true, true, true, true, true, true, true, true, false, false] rfl rfl (by kernel_rfl) (fun _ _ _ h => h) (Or.inr ⟨by rfl, rfl⟩) ?_ ?_
    rotate_left
    · simp only [Act.put, List.setIfInBounds_toArray, List.set_cons_zero, List.set_cons_succ, i64_w, i32_w]
      rfl
    refine pure_ (i := 17) (N := some 43) (v := undef) (a' := ?_) #[true, true, true, true, true, true, true, true, true, true, true, true, true, true, true, true, true, true, false] rfl rfl (by kernel_rfl) (fun _ _ _ h => h) (Or.inr ⟨by rfl, rfl⟩) ?_ ?_
    rotate_left
    · simp only [Act.put, List.setIfInBounds_toArray, List.set_cons_zero, List.set_cons_succ, i64_w, i32_w]
      rfl
    refine pure_ (i := 18) (N := some 44) (v := ?_) (a' := ?_) #[true, true, true, true, true, true, true, true, true, true, true, true, true, true, true, true, true, true, true] rfl rfl (by kernel_rfl) (fun _ _ _ h => h) (Or.inl ⟨by rfl, ?_⟩) ?_ ?_
    rotate_left
    · intro w'
      go_simp
      with_reducible rfl
    rotate_left
    · simp only [Act.put, List.setIfInBounds_toArray, List.set_cons_zero, List.set_cons_succ, i64_w, i32_w]
      rfl
    refine done_ (by kernel_rfl) ?_
    have e0 : w6.cell? ⟨w2.heap.size, 0, none⟩ = some (.int .i64 a) := (blk_cell BK6.out 0).trans rfl
    have e1 : w6.cell? ⟨w2.heap.size, 1, none⟩ = some (.int .i64 b) := (blk_cell BK6.out 1).trans rfl
    have e2 : w6.cell? ⟨w2.heap.size, 2, none⟩ = some (.int .i64 d) := (blk_cell BK6.out 2).trans rfl
    have e3 : w6.cell? ⟨w2.heap.size, 3, none⟩ = some (.int .i64 h) := (blk_cell BK6.out 3).trans rfl
    go_wp2_with (first | ((with_reducible refine gate_store (p := 2) rfl ?_); go_loud (refine wpList_store_rowL rfl rfl 38 (.tmp 2) (.tmp 45) rfl (w0.heap.size) #[.int .i64 0, .int .i64 0, .int .i64 0, .int .i64 0] rfl rfl 38 #[.int .i64 0, .int .i64 0, .int .i64 0, .int .i64 0] (BR6.out) (by kernel_rfl) rfl (by simp [Value.oneCell']) ?_; intro wz bk_ hg_)))
    refine bodyPost_ret (resRow2 rfl _ _ w0.heap.size 38 #[.int .i64 0, .int .i64 0, .int .i64 0, .int .i64 0] (0, 0) _ (.int .i64 2) rfl rfl bk_ Try.underlying38 rfl (by kernel_rfl)) rfl ?_
    exact ⟨by rw [E0.out], (HB6.out).grown hg_ (below_size HB6.out) (fun k e => by cases e; exact Nat.le_refl _)⟩
  have HTB : Aside0 (0 ≤ geoT a b d h ∧ geoT a b d h ≤ 10000) := ⟨by
    obtain ⟨⟨a0, a1⟩, ⟨b0, b1⟩, ⟨d0, d1⟩, h0, h1⟩ := geoOk_parts hok
    unfold geoT
    rw [if_pos hok]
    have := small_log a0 a1 b0 b1 d0 d1
    omega⟩
  have EO2 : Aside0 (geoGok l = (decide (l.take 64 = sealS (geoHead a b d h)) && decide ((l.length : Int) = 64 * geoT a b d h))) := ⟨by rw [EO.out]; simp [hok, h64]⟩
  have HFL : Aside0 ((sealS (geoHead a b d h)).length = 64) := ⟨sealS_length _⟩
  rw [geoE_ok hok] at WK
  obtain ⟨F, hF⟩ : ∃ F, F = sealS (geoHead a b d h) := ⟨_, rfl⟩
  obtain ⟨tt, htt⟩ : ∃ tt, tt = geoT a b d h := ⟨_, rfl⟩
  rw [← hF] at WP EO2 HFL
  rw [← htt] at WT EO2 HTB
  have hwt : RowKit.wrap64 (64 * tt) = 64 * tt := by have := HTB.out; unfold RowKit.wrap64; omega
  obtain ⟨f, hf⟩ : ∃ f, f = decide (l.take 64 = F) := ⟨_, rfl⟩
  have WE : Aside0 (∀ A c2 W, Kd.C (Kd.int .u8) W (some ad) l.length l → Kd.C (Kd.int .u8) W A F.length F → Calls Try.prog 76 #[.slice (some ad) 64 c, .slice A F.length c2] W fun e w' => e = .returned (.bool f) ∧ Below W.heap.size W w') := ⟨fun A c2 W h1 h2 => by
    have := rSame_walk (some ad) c (l.take 64) A c2 F W (Kd.C_take h1 h64) h2 (by rw [List.length_take]; omega)
    rw [List.length_take, Nat.min_eq_left h64, ← hf] at this
    exact this.mono fun e w' h => ⟨h.1, by obtain ⟨nd, rfl⟩ := h.2; exact pw_below_drewN (Below.refl _ _) _⟩⟩
  clear hok hF htt EO
  cases f with
  | false =>
    have E0 : Aside0 (G = ((0, 0, 0, 0), 2)) := ⟨by rw [EG.out, EO2.out]; have := of_decide_eq_false hf.symm; rw [if_neg]; simp; intro h1; exact absurd h1 this⟩
    clear hf
    refine start_ (n := 19) (S := fun w' => w'.cell? ⟨w2.heap.size, 0, none⟩ = some (.int .i64 a) ∧ w'.cell? ⟨w2.heap.size, 1, none⟩ = some (.int .i64 b) ∧ w'.cell? ⟨w2.heap.size, 2, none⟩ = some (.int .i64 d) ∧ w'.cell? ⟨w2.heap.size, 3, none⟩ = some (.int .i64 h)) (ds := []) #[false, false, false, false, false, false, false, false, false, false, false, false, false, false, false, false, false, false, false] (by kernel_rfl) rfl rfl ⟨((blk_cell (blk_drew BK5.out) 0).trans rfl), ((blk_cell (blk_drew BK5.out) 1).trans rfl), ((blk_cell (blk_drew BK5.out) 2).trans rfl), ((blk_cell (blk_drew BK5.out) 3).trans rfl)⟩ (fun hHeld => ?_)
    refine take_ (i := 0) (N := some 26) (v := ?_) (a' := ?_) #[true, false, false, false, false, false, false, false, false, false, false, false, false, false, false, false, false, false, false] rfl rfl (by kernel_rfl) (fun _ _ _ h => h) (Or.inl ⟨by rfl, ?_⟩) hHeld ?_ ?_
    rotate_left
    · rintro w' ⟨s0, s1, s2, s3⟩
      go_simp
      with_reducible rfl
    rotate_left
    · simp only [Act.put, List.setIfInBounds_toArray, List.set_cons_zero, List.set_cons_succ, i64_w, i32_w]
      rfl
    refine one_ (i := 1) (N := some 27) #[true, true, false, false, false, false, false, false, false, false, false, false, false, false, false, false, false, false, false] rfl rfl (by kernel_rfl) (by decide) (fun K hK => ?_)
    clear hHeld
    refine goes_ Try.func60 (by kernel_rfl) rfl #[.agg #[.int .i64 a, .int .i64 b, .int .i64 d, .int .i64 h]] (by rfl) rfl rfl (by simp only [List.map_toArray, List.map_cons, List.map_nil]; rfl) ?_
    with_reducible refine (WK.out _).mono ?_
    rintro e w6 ⟨rfl, hb6⟩
    refine ⟨_, rfl, ?_⟩
    have BK6 := Aside0.mk (blk_below (blk_drew BK5.out) hb6)
    have BR6 := Aside0.mk (blk_below (blk_drew BR5.out) hb6)
    have HB6 := Aside0.mk (below_step (below_drew1 HB5.out) hb6)
    have HR6 := Aside0.mk (Kd.C_below (Kd.C_drew HR5.out) hb6)
    clear BK5 BR5 HB5 HR5
    refine hK.out _ _ ⟨((blk_cell BK6.out 0).trans rfl), ((blk_cell BK6.out 1).trans rfl), ((blk_cell BK6.out 2).trans rfl), ((blk_cell BK6.out 3).trans rfl)⟩ (fun hHeld => ?_)
    clear hK K
    refine norm_ (a' := ?_) ?_ ?_
    rotate_left
    · show Act.put _ (some 27) _ = _
      simp only [Act.put, List.setIfInBounds_toArray, List.set_cons_zero, List.set_cons_succ, i64_w, i32_w]
      rfl
    refine pure_ (i := 2) (N := some 28) (v := ?_) (a' := ?_) #[true, true, true, false, false, false, false, false, false, false, false, false, false, false, false, false, false, false, false] rfl rfl (by kernel_rfl) (fun _ _ _ h => h) (Or.inl ⟨by rfl, ?_⟩) ?_ ?_
    rotate_left
    · intro w'
      go_simp
      with_reducible rfl
    rotate_left
    · simp only [Act.put, List.setIfInBounds_toArray, List.set_cons_zero, List.set_cons_succ, i64_w, i32_w]
      rfl
    refine pure_ (i := 3) (N := some 29) (v := ?_) (a' := ?_) #[true, true, true, true, false, false, false, false, false, false, false, false, false, false, false, false, false, false, false] rfl rfl (by kernel_rfl) (fun _ _ _ h => h) (Or.inl ⟨by rfl, ?_⟩) ?_ ?_
    rotate_left
    · intro w'
      go_simp
      with_reducible rfl
    rotate_left
    · simp only [Act.put, List.setIfInBounds_toArray, List.set_cons_zero, List.set_cons_succ, i64_w, i32_w]
      rfl
    refine pure_ (i := 4) (N := some 30) (v := ?_) (a' := ?_) #[true, true, true, true, true, false, false, false, false, false, false, false, false, false, false, false, false, false, false] rfl rfl (by kernel_rfl) (fun _ _ _ h => h) (Or.inl ⟨by rfl, ?_⟩) ?_ ?_
    rotate_left
    · intro w'
      go_simp
      with_reducible rfl
    rotate_left
    · simp only [Act.put, List.setIfInBounds_toArray, List.set_cons_zero, List.set_cons_succ, i64_w, i32_w]
      rfl
    refine pure_ (i := 5) (N := some 31) (v := ?_) (a' := ?_) #[true, true, true, true, true, true, false, false, false, false, false, false, false, false, false, false, false, false, false] rfl rfl (by kernel_rfl) (fun _ _ _ h => h) (Or.inl ⟨by rfl, ?_⟩) ?_ ?_
    rotate_left
    · intro w'
      go_simp
      with_reducible rfl
    rotate_left
    · simp only [Act.put, List.setIfInBounds_toArray, List.set_cons_zero, List.set_cons_succ, i64_w, i32_w]
      rfl
    refine take_ (i := 6) (N := some 32) (v := ?_) (a' := ?_) #[true, true, true, true, true, true, true, false, false, false, false, false, false, false, false, false, false, false, false] rfl rfl (by kernel_rfl) (fun _ _ _ h => h) (Or.inl ⟨by rfl, ?_⟩) hHeld ?_ ?_
    rotate_left
    · rintro w' ⟨s0, s1, s2, s3⟩
      go_simp
      with_reducible rfl
    rotate_left
    · simp only [Act.put, List.setIfInBounds_toArray, List.set_cons_zero, List.set_cons_succ, i64_w, i32_w]
      rfl
    refine one_ (i := 7) (N := some 33) #[true, true, true, true, true, true, true, true, false, false, false, false, false, false, false, false, false, false, false] rfl rfl (by kernel_rfl) (by decide) (fun K hK => ?_)
    clear hHeld
    refine goes_ Try.func79 (by kernel_rfl) rfl #[.agg #[.int .i64 a, .int .i64 b, .int .i64 d, .int .i64 h]] (by rfl) rfl rfl (by simp only [List.map_toArray, List.map_cons, List.map_nil]; rfl) ?_
    with_reducible refine (WP.out _).mono ?_
    rintro e w7 ⟨v7, rfl, ho7, hb7⟩
    refine ⟨_, rfl, ?_⟩
    obtain ⟨A7, c7, hv7⟩ := Kd.R_slice ho7
    subst hv7
    have HF7 := Aside0.mk (Kd.R_reads' ho7).2.2
    have BK7 := Aside0.mk (blk_below BK6.out hb7)
    have BR7 := Aside0.mk (blk_below BR6.out hb7)
    have HB7 := Aside0.mk (below_step HB6.out hb7)
    have HR7 := Aside0.mk (Kd.C_below HR6.out hb7)
    clear BK6 BR6 HB6 HR6
    clear ho7
    refine hK.out _ _ ⟨((blk_cell BK7.out 0).trans rfl), ((blk_cell BK7.out 1).trans rfl), ((blk_cell BK7.out 2).trans rfl), ((blk_cell BK7.out 3).trans rfl)⟩ (fun hHeld => ?_)
    clear hK K
    refine norm_ (a' := ?_) ?_ ?_
    rotate_left
    · show Act.put _ (some 33) _ = _
      simp only [Act.put, List.setIfInBounds_toArray, List.set_cons_zero, List.set_cons_succ, i64_w, i32_w]
      rfl
    refine one_ (i := 8) (N := some 34) #[true, true, true, true, true, true, true, true, true, false, false, false, false, false, false, false, false, false, false] rfl rfl (by kernel_rfl) (by decide) (fun K hK => ?_)
    clear hHeld
    refine goes_ Try.func76 (by kernel_rfl) rfl #[.slice (some ad) 64 c, .slice A7 F.length c7] (by rfl) rfl rfl (by simp only [List.map_toArray, List.map_cons, List.map_nil]; rfl) ?_
    with_reducible refine (WE.out _ _ _ HR7.out HF7.out).mono ?_
    rintro e w8 ⟨rfl, hb8⟩
    refine ⟨_, rfl, ?_⟩
    have BK8 := Aside0.mk (blk_below BK7.out hb8)
    have BR8 := Aside0.mk (blk_below BR7.out hb8)
    have HB8 := Aside0.mk (below_step HB7.out hb8)
    have HR8 := Aside0.mk (Kd.C_below HR7.out hb8)
    clear BK7 BR7 HB7 HR7
    refine hK.out _ _ ⟨((blk_cell BK8.out 0).trans rfl), ((blk_cell BK8.out 1).trans rfl), ((blk_cell BK8.out 2).trans rfl), ((blk_cell BK8.out 3).trans rfl)⟩ (fun hHeld => ?_)
    clear hK K
    refine norm_ (a' := ?_) ?_ ?_
    rotate_left
    · show Act.put _ (some 34) _ = _
      simp only [Act.put, List.setIfInBounds_toArray, List.set_cons_zero, List.set_cons_succ, i64_w, i32_w]
      rfl
    refine pure_ (i := 9) (N := some 35) (v := ?_) (a' := ?_) #[true, true, true, true, true, true, true, true, true, true, false, false, false, false, false, false, false, false, false] rfl rfl (by kernel_rfl) (fun _ _ _ h => h) (Or.inl ⟨by rfl, ?_⟩) ?_ ?_
    rotate_left
    · intro w'
      go_simp
      with_reducible rfl
    rotate_left
    · simp only [Act.put, List.setIfInBounds_toArray, List.set_cons_zero, List.set_cons_succ, i64_w, i32_w]
      rfl
    refine pure_ (i := 10) (N := some 36) (v := ?_) (a' := ?_) #[true, true, true, true, true, true, true, true, true, true, true, false, false, false, false, false, false, false, false] rfl rfl (by kernel_rfl) (fun _ _ _ h => h) (Or.inl ⟨by rfl, ?_⟩) ?_ ?_
    rotate_left
    · intro w'
      go_simp
      with_reducible rfl
    rotate_left
    · simp only [Act.put, List.setIfInBounds_toArray, List.set_cons_zero, List.set_cons_succ, i64_w, i32_w]
      rfl
    refine pure_ (i := 11) (N := some 37) (v := ?_) (a' := ?_) #[true, true, true, true, true, true, true, true, true, true, true, true, false, false, false, false, false, false, false] rfl rfl (by kernel_rfl) (fun _ _ _ h => h) (Or.inl ⟨by rfl, ?_⟩) ?_ ?_
    rotate_left
    · intro w'
      go_simp
      with_reducible rfl
    rotate_left
    · simp only [Act.put, List.setIfInBounds_toArray, List.set_cons_zero, List.set_cons_succ, i64_w, i32_w]
      rfl
    refine pure_ (i := 12) (N := some 38) (v := undef) (a' := ?_) #[true, true, true, true, true, true, true, true, true, true, true, true, true, false, false, false, false, false, false] rfl rfl (by kernel_rfl) (fun _ _ _ h => h) (Or.inr ⟨by rfl, rfl⟩) ?_ ?_
    rotate_left
    · simp only [Act.put, List.setIfInBounds_toArray, List.set_cons_zero, List.set_cons_succ, i64_w, i32_w]
      rfl
    refine pure_ (i := 13) (N := some 39) (v := undef) (a' := ?_) #[true, true, true, true, true, true, true, true, true, true, true, true, true, true, false, false, false, false, false] rfl rfl (by kernel_rfl) (fun _ _ _ h => h) (Or.inr ⟨by rfl, rfl⟩) ?_ ?_
    rotate_left
    · simp only [Act.put, List.setIfInBounds_toArray, List.set_cons_zero, List.set_cons_succ, i64_w, i32_w]
      rfl
    refine pure_ (i := 14) (N := some 40) (v := undef) (a' := ?_) #[true, true, true, true, true, true, true, true, true, true, true, true, true, true, true, false, false, false, false] rfl rfl (by kernel_rfl) (fun _ _ _ h => h) (Or.inr ⟨by rfl, rfl⟩) ?_ ?_
    rotate_left
    · simp only [Act.put, List.setIfInBounds_toArray, List.set_cons_zero, List.set_cons_succ, i64_w, i32_w]
      rfl
    refine pure_ (i := 15) (N := some 41) (v := undef) (a' := ?_) #[true, true, true, true, true, true, true, true, true, true, true, true, true, true, true, true, false, false, false] rfl rfl (by kernel_rfl) (fun _ _ _ h => h) (Or.inr ⟨by rfl, rfl⟩) ?_ ?_
    rotate_left
    · simp only [Act.put, List.setIfInBounds_toArray, List.set_cons_zero, List.set_cons_succ, i64_w, i32_w]
      rfl
    refine pure_ (i := 16) (N := some 42) (v := undef) (a' := ?_) #[true, true, true, true, true, true, true, true, true, true, true, true, true, true, true, true, true, false, false] rfl rfl (by kernel_rfl) (fun _ _ _ h => h) (Or.inr ⟨by rfl, rfl⟩) ?_ ?_
    rotate_left
    · simp only [Act.put, List.setIfInBounds_toArray, List.set_cons_zero, List.set_cons_succ, i64_w, i32_w]
      rfl
    refine pure_ (i := 17) (N := some 43) (v := undef) (a' := ?_) #[true, true, true, true, true, true, true, true, true, true, true, true, true, true, true, true, true, true, false] rfl rfl (by kernel_rfl) (fun _ _ _ h => h) (Or.inr ⟨by rfl, rfl⟩) ?_ ?_
    rotate_left
    · simp only [Act.put, List.setIfInBounds_toArray, List.set_cons_zero, List.set_cons_succ, i64_w, i32_w]
      rfl
    refine pure_ (i := 18) (N := some 44) (v := ?_) (a' := ?_) #[true, true, true, true, true, true, true, true, true, true, true, true, true, true, true, true, true, true, true] rfl rfl (by kernel_rfl) (fun _ _ _ h => h) (Or.inl ⟨by rfl, ?_⟩) ?_ ?_
    rotate_left
    · intro w'
      go_simp
      with_reducible rfl
    rotate_left
    · simp only [Act.put, List.setIfInBounds_toArray, List.set_cons_zero, List.set_cons_succ, i64_w, i32_w]
      rfl
    refine done_ (by kernel_rfl) ?_
    have e0 : w8.cell? ⟨w2.heap.size, 0, none⟩ = some (.int .i64 a) := (blk_cell BK8.out 0).trans rfl
    have e1 : w8.cell? ⟨w2.heap.size, 1, none⟩ = some (.int .i64 b) := (blk_cell BK8.out 1).trans rfl
    have e2 : w8.cell? ⟨w2.heap.size, 2, none⟩ = some (.int .i64 d) := (blk_cell BK8.out 2).trans rfl
    have e3 : w8.cell? ⟨w2.heap.size, 3, none⟩ = some (.int .i64 h) := (blk_cell BK8.out 3).trans rfl
    go_wp2_with (first | ((with_reducible refine gate_store (p := 2) rfl ?_); go_loud (refine wpList_store_rowL rfl rfl 38 (.tmp 2) (.tmp 45) rfl (w0.heap.size) #[.int .i64 0, .int .i64 0, .int .i64 0, .int .i64 0] rfl rfl 38 #[.int .i64 0, .int .i64 0, .int .i64 0, .int .i64 0] (BR8.out) (by kernel_rfl) rfl (by simp [Value.oneCell']) ?_; intro wz bk_ hg_)))
    refine bodyPost_ret (resRow2 rfl _ _ w0.heap.size 38 #[.int .i64 0, .int .i64 0, .int .i64 0, .int .i64 0] (0, 0) _ (.int .i64 2) rfl rfl bk_ Try.underlying38 rfl (by kernel_rfl)) rfl ?_
    exact ⟨by rw [E0.out], (HB8.out).grown hg_ (below_size HB8.out) (fun k e => by cases e; exact Nat.le_refl _)⟩
  | true =>
    have hF2 := of_decide_eq_true hf.symm
    by_cases hlen : (l.length : Int) = 64 * tt
    · have E0 : Aside0 (G = ((a, b, d, h), 0)) := ⟨by rw [EG.out, EO2.out, if_pos]; simp [hF2, hlen]⟩
      have hlb : ((l.length : Int) != 64 * tt) = false := by simpa using hlen
      clear hf hF2 hlen
      refine start_ (n := 19) (S := fun w' => w'.cell? ⟨w2.heap.size, 0, none⟩ = some (.int .i64 a) ∧ w'.cell? ⟨w2.heap.size, 1, none⟩ = some (.int .i64 b) ∧ w'.cell? ⟨w2.heap.size, 2, none⟩ = some (.int .i64 d) ∧ w'.cell? ⟨w2.heap.size, 3, none⟩ = some (.int .i64 h)) (ds := []) #[false, false, false, false, false, false, false, false, false, false, false, false, false, false, false, false, false, false, false] (by kernel_rfl) rfl rfl ⟨((blk_cell (blk_drew BK5.out) 0).trans rfl), ((blk_cell (blk_drew BK5.out) 1).trans rfl), ((blk_cell (blk_drew BK5.out) 2).trans rfl), ((blk_cell (blk_drew BK5.out) 3).trans rfl)⟩ (fun hHeld => ?_)
      refine take_ (i := 0) (N := some 26) (v := ?_) (a' := ?_) #[true, false, false, false, false, false, false, false, false, false, false, false, false, false, false, false, false, false, false] rfl rfl (by kernel_rfl) (fun _ _ _ h => h) (Or.inl ⟨by rfl, ?_⟩) hHeld ?_ ?_
      rotate_left
      · rintro w' ⟨s0, s1, s2, s3⟩
        go_simp
        with_reducible rfl
      rotate_left
      · simp only [Act.put, List.setIfInBounds_toArray, List.set_cons_zero, List.set_cons_succ, i64_w, i32_w]
        rfl
      refine one_ (i := 1) (N := some 27) #[true, true, false, false, false, false, false, false, false, false, false, false, false, false, false, false, false, false, false] rfl rfl (by kernel_rfl) (by decide) (fun K hK => ?_)
      clear hHeld
      refine goes_ Try.func60 (by kernel_rfl) rfl #[.agg #[.int .i64 a, .int .i64 b, .int .i64 d, .int .i64 h]] (by rfl) rfl rfl (by simp only [List.map_toArray, List.map_cons, List.map_nil]; rfl) ?_
      with_reducible refine (WK.out _).mono ?_
      rintro e w6 ⟨rfl, hb6⟩
      refine ⟨_, rfl, ?_⟩
      have BK6 := Aside0.mk (blk_below (blk_drew BK5.out) hb6)
      have BR6 := Aside0.mk (blk_below (blk_drew BR5.out) hb6)
      have HB6 := Aside0.mk (below_step (below_drew1 HB5.out) hb6)
      have HR6 := Aside0.mk (Kd.C_below (Kd.C_drew HR5.out) hb6)
      clear BK5 BR5 HB5 HR5
      refine hK.out _ _ ⟨((blk_cell BK6.out 0).trans rfl), ((blk_cell BK6.out 1).trans rfl), ((blk_cell BK6.out 2).trans rfl), ((blk_cell BK6.out 3).trans rfl)⟩ (fun hHeld => ?_)
      clear hK K
      refine norm_ (a' := ?_) ?_ ?_
      rotate_left
      · show Act.put _ (some 27) _ = _
        simp only [Act.put, List.setIfInBounds_toArray, List.set_cons_zero, List.set_cons_succ, i64_w, i32_w]
        rfl
      refine pure_ (i := 2) (N := some 28) (v := ?_) (a' := ?_) #[true, true, true, false, false, false, false, false, false, false, false, false, false, false, false, false, false, false, false] rfl rfl (by kernel_rfl) (fun _ _ _ h => h) (Or.inl ⟨by rfl, ?_⟩) ?_ ?_
      rotate_left
      · intro w'
        go_simp
        with_reducible rfl
      rotate_left
      · simp only [Act.put, List.setIfInBounds_toArray, List.set_cons_zero, List.set_cons_succ, i64_w, i32_w]
        rfl
      refine pure_ (i := 3) (N := some 29) (v := ?_) (a' := ?_) #[true, true, true, true, false, false, false, false, false, false, false, false, false, false, false, false, false, false, false] rfl rfl (by kernel_rfl) (fun _ _ _ h => h) (Or.inl ⟨by rfl, ?_⟩) ?_ ?_
      rotate_left
      · intro w'
        go_simp
        with_reducible rfl
      rotate_left
      · simp only [Act.put, List.setIfInBounds_toArray, List.set_cons_zero, List.set_cons_succ, i64_w, i32_w]
        rfl
      refine pure_ (i := 4) (N := some 30) (v := ?_) (a' := ?_) #[true, true, true, true, true, false, false, false, false, false, false, false, false, false, false, false, false, false, false] rfl rfl (by kernel_rfl) (fun _ _ _ h => h) (Or.inl ⟨by rfl, ?_⟩) ?_ ?_
      rotate_left
      · intro w'
        go_simp
        with_reducible rfl
      rotate_left
      · simp only [Act.put, List.setIfInBounds_toArray, List.set_cons_zero, List.set_cons_succ, i64_w, i32_w]
        rfl
      refine pure_ (i := 5) (N := some 31) (v := ?_) (a' := ?_) #[true, true, true, true, true, true, false, false, false, false, false, false, false, false, false, false, false, false, false] rfl rfl (by kernel_rfl) (fun _ _ _ h => h) (Or.inl ⟨by rfl, ?_⟩) ?_ ?_
      rotate_left
      · intro w'
        go_simp
        with_reducible rfl
      rotate_left
      · simp only [Act.put, List.setIfInBounds_toArray, List.set_cons_zero, List.set_cons_succ, i64_w, i32_w]
        rfl
      refine take_ (i := 6) (N := some 32) (v := ?_) (a' := ?_) #[true, true, true, true, true, true, true, false, false, false, false, false, false, false, false, false, false, false, false] rfl rfl (by kernel_rfl) (fun _ _ _ h => h) (Or.inl ⟨by rfl, ?_⟩) hHeld ?_ ?_
      rotate_left
      · rintro w' ⟨s0, s1, s2, s3⟩
        go_simp
        with_reducible rfl
      rotate_left
      · simp only [Act.put, List.setIfInBounds_toArray, List.set_cons_zero, List.set_cons_succ, i64_w, i32_w]
        rfl
      refine one_ (i := 7) (N := some 33) #[true, true, true, true, true, true, true, true, false, false, false, false, false, false, false, false, false, false, false] rfl rfl (by kernel_rfl) (by decide) (fun K hK => ?_)
      clear hHeld
      refine goes_ Try.func79 (by kernel_rfl) rfl #[.agg #[.int .i64 a, .int .i64 b, .int .i64 d, .int .i64 h]] (by rfl) rfl rfl (by simp only [List.map_toArray, List.map_cons, List.map_nil]; rfl) ?_
      with_reducible refine (WP.out _).mono ?_
      rintro e w7 ⟨v7, rfl, ho7, hb7⟩
      refine ⟨_, rfl, ?_⟩
      obtain ⟨A7, c7, hv7⟩ := Kd.R_slice ho7
      subst hv7
      have HF7 := Aside0.mk (Kd.R_reads' ho7).2.2
      have BK7 := Aside0.mk (blk_below BK6.out hb7)
      have BR7 := Aside0.mk (blk_below BR6.out hb7)
      have HB7 := Aside0.mk (below_step HB6.out hb7)
      have HR7 := Aside0.mk (Kd.C_below HR6.out hb7)
      clear BK6 BR6 HB6 HR6
      clear ho7
      refine hK.out _ _ ⟨((blk_cell BK7.out 0).trans rfl), ((blk_cell BK7.out 1).trans rfl), ((blk_cell BK7.out 2).trans rfl), ((blk_cell BK7.out 3).trans rfl)⟩ (fun hHeld => ?_)
      clear hK K
      refine norm_ (a' := ?_) ?_ ?_
      rotate_left
      · show Act.put _ (some 33) _ = _
        simp only [Act.put, List.setIfInBounds_toArray, List.set_cons_zero, List.set_cons_succ, i64_w, i32_w]
        rfl
      refine one_ (i := 8) (N := some 34) #[true, true, true, true, true, true, true, true, true, false, false, false, false, false, false, false, false, false, false] rfl rfl (by kernel_rfl) (by decide) (fun K hK => ?_)
      clear hHeld
      refine goes_ Try.func76 (by kernel_rfl) rfl #[.slice (some ad) 64 c, .slice A7 F.length c7] (by rfl) rfl rfl (by simp only [List.map_toArray, List.map_cons, List.map_nil]; rfl) ?_
      with_reducible refine (WE.out _ _ _ HR7.out HF7.out).mono ?_
      rintro e w8 ⟨rfl, hb8⟩
      refine ⟨_, rfl, ?_⟩
      have BK8 := Aside0.mk (blk_below BK7.out hb8)
      have BR8 := Aside0.mk (blk_below BR7.out hb8)
      have HB8 := Aside0.mk (below_step HB7.out hb8)
      have HR8 := Aside0.mk (Kd.C_below HR7.out hb8)
      clear BK7 BR7 HB7 HR7
      refine hK.out _ _ ⟨((blk_cell BK8.out 0).trans rfl), ((blk_cell BK8.out 1).trans rfl), ((blk_cell BK8.out 2).trans rfl), ((blk_cell BK8.out 3).trans rfl)⟩ (fun hHeld => ?_)
      clear hK K
      refine norm_ (a' := ?_) ?_ ?_
      rotate_left
      · show Act.put _ (some 34) _ = _
        simp only [Act.put, List.setIfInBounds_toArray, List.set_cons_zero, List.set_cons_succ, i64_w, i32_w]
        rfl
      refine pure_ (i := 9) (N := some 35) (v := ?_) (a' := ?_) #[true, true, true, true, true, true, true, true, true, true, false, false, false, false, false, false, false, false, false] rfl rfl (by kernel_rfl) (fun _ _ _ h => h) (Or.inl ⟨by rfl, ?_⟩) ?_ ?_
      rotate_left
      · intro w'
        go_simp
        with_reducible rfl
      rotate_left
      · simp only [Act.put, List.setIfInBounds_toArray, List.set_cons_zero, List.set_cons_succ, i64_w, i32_w]
        rfl
      refine pure_ (i := 10) (N := some 36) (v := ?_) (a' := ?_) #[true, true, true, true, true, true, true, true, true, true, true, false, false, false, false, false, false, false, false] rfl rfl (by kernel_rfl) (fun _ _ _ h => h) (Or.inl ⟨by rfl, ?_⟩) ?_ ?_
      rotate_left
      · intro w'
        go_simp
        with_reducible rfl
      rotate_left
      · simp only [Act.put, List.setIfInBounds_toArray, List.set_cons_zero, List.set_cons_succ, i64_w, i32_w]
        rfl
      refine pure_ (i := 11) (N := some 37) (v := ?_) (a' := ?_) #[true, true, true, true, true, true, true, true, true, true, true, true, false, false, false, false, false, false, false] rfl rfl (by kernel_rfl) (fun _ _ _ h => h) (Or.inl ⟨by rfl, ?_⟩) ?_ ?_
      rotate_left
      · intro w'
        go_simp
        with_reducible rfl
      rotate_left
      · simp only [Act.put, List.setIfInBounds_toArray, List.set_cons_zero, List.set_cons_succ, i64_w, i32_w]
        rfl
      refine pure_ (i := 12) (N := some 38) (v := ?_) (a' := ?_) #[true, true, true, true, true, true, true, true, true, true, true, true, true, false, false, false, false, false, false] rfl rfl (by kernel_rfl) (fun _ _ _ h => h) (Or.inl ⟨by rfl, ?_⟩) ?_ ?_
      rotate_left
      · intro w'
        go_simp
        with_reducible rfl
      rotate_left
      · simp only [Act.put, List.setIfInBounds_toArray, List.set_cons_zero, List.set_cons_succ, i64_w, i32_w]
        rfl
      refine pure_ (i := 13) (N := some 39) (v := ?_) (a' := ?_) #[true, true, true, true, true, true, true, true, true, true, true, true, true, true, false, false, false, false, false] rfl rfl (by kernel_rfl) (fun _ _ _ h => h) (Or.inl ⟨by rfl, ?_⟩) ?_ ?_
      rotate_left
      · intro w'
        go_simp
        with_reducible rfl
      rotate_left
      · simp only [Act.put, List.setIfInBounds_toArray, List.set_cons_zero, List.set_cons_succ, i64_w, i32_w]
        rfl
      refine take_ (i := 14) (N := some 40) (v := ?_) (a' := ?_) #[true, true, true, true, true, true, true, true, true, true, true, true, true, true, true, false, false, false, false] rfl rfl (by kernel_rfl) (fun _ _ _ h => h) (Or.inl ⟨by rfl, ?_⟩) hHeld ?_ ?_
      rotate_left
      · rintro w' ⟨s0, s1, s2, s3⟩
        go_simp
        with_reducible rfl
      rotate_left
      · simp only [Act.put, List.setIfInBounds_toArray, List.set_cons_zero, List.set_cons_succ, i64_w, i32_w]
        rfl
      refine one_ (i := 15) (N := some 41) #[true, true, true, true, true, true, true, true, true, true, true, true, true, true, true, true, false, false, false] rfl rfl (by kernel_rfl) (by decide) (fun K hK => ?_)
      clear hHeld
      refine goes_ Try.func80 (by kernel_rfl) rfl #[.agg #[.int .i64 a, .int .i64 b, .int .i64 d, .int .i64 h]] (by rfl) rfl rfl (by simp only [List.map_toArray, List.map_cons, List.map_nil]; rfl) ?_
      with_reducible refine (WT.out _).mono ?_
      rintro e w9 ⟨rfl, hb9⟩
      refine ⟨_, rfl, ?_⟩
      have BK9 := Aside0.mk (blk_below BK8.out hb9)
      have BR9 := Aside0.mk (blk_below BR8.out hb9)
      have HB9 := Aside0.mk (below_step HB8.out hb9)
      have HR9 := Aside0.mk (Kd.C_below HR8.out hb9)
      clear BK8 BR8 HB8 HR8
      refine hK.out _ _ ⟨((blk_cell BK9.out 0).trans rfl), ((blk_cell BK9.out 1).trans rfl), ((blk_cell BK9.out 2).trans rfl), ((blk_cell BK9.out 3).trans rfl)⟩ (fun hHeld => ?_)
      clear hK K
      refine norm_ (a' := ?_) ?_ ?_
      rotate_left
      · show Act.put _ (some 41) _ = _
        simp only [Act.put, List.setIfInBounds_toArray, List.set_cons_zero, List.set_cons_succ, i64_w, i32_w]
        rfl
      refine pure_ (i := 16) (N := some 42) (v := ?_) (a' := ?_) #[true, true, true, true, true, true, true, true, true, true, true, true, true, true, true, true, true, false, false] rfl rfl (by kernel_rfl) (fun _ _ _ h => h) (Or.inl ⟨by rfl, ?_⟩) ?_ ?_
      rotate_left
      · intro w'
        go_simp
        with_reducible rfl
      rotate_left
      · simp only [Act.put, List.setIfInBounds_toArray, List.set_cons_zero, List.set_cons_succ, i64_w, i32_w]
        rfl
      refine pure_ (i := 17) (N := some 43) (v := ?_) (a' := ?_) #[true, true, true, true, true, true, true, true, true, true, true, true, true, true, true, true, true, true, false] rfl rfl (by kernel_rfl) (fun _ _ _ h => h) (Or.inl ⟨by rfl, ?_⟩) ?_ ?_
      rotate_left
      · intro w'
        go_simp
        with_reducible rfl
      rotate_left
      · simp only [Act.put, List.setIfInBounds_toArray, List.set_cons_zero, List.set_cons_succ, i64_w, i32_w]
        rfl
      refine pure_ (i := 18) (N := some 44) (v := ?_) (a' := ?_) #[true, true, true, true, true, true, true, true, true, true, true, true, true, true, true, true, true, true, true] rfl rfl (by kernel_rfl) (fun _ _ _ h => h) (Or.inl ⟨by rfl, ?_⟩) ?_ ?_
      rotate_left
      · intro w'
        go_simp
        with_reducible rfl
      rotate_left
      · simp only [Act.put, List.setIfInBounds_toArray, List.set_cons_zero, List.set_cons_succ, i64_w, i32_w]
        rfl
      refine done_ (by kernel_rfl) ?_
      have e0 : w9.cell? ⟨w2.heap.size, 0, none⟩ = some (.int .i64 a) := (blk_cell BK9.out 0).trans rfl
      have e1 : w9.cell? ⟨w2.heap.size, 1, none⟩ = some (.int .i64 b) := (blk_cell BK9.out 1).trans rfl
      have e2 : w9.cell? ⟨w2.heap.size, 2, none⟩ = some (.int .i64 d) := (blk_cell BK9.out 2).trans rfl
      have e3 : w9.cell? ⟨w2.heap.size, 3, none⟩ = some (.int .i64 h) := (blk_cell BK9.out 3).trans rfl
      go_wp2_with (first | ((with_reducible refine gate_store (p := 2) rfl ?_); go_loud (refine wpList_store_rowL rfl rfl 38 (.tmp 2) (.tmp 46) rfl (w0.heap.size) #[.int .i64 a, .int .i64 b, .int .i64 d, .int .i64 h] rfl rfl 38 #[.int .i64 0, .int .i64 0, .int .i64 0, .int .i64 0] (BR9.out) (by kernel_rfl) rfl (by simp [Value.oneCell']) ?_; intro wz bk_ hg_)))
      refine bodyPost_ret (resRow2 rfl _ _ w0.heap.size 38 #[.int .i64 a, .int .i64 b, .int .i64 d, .int .i64 h] (0, 0) _ (.int .i64 0) rfl rfl bk_ Try.underlying38 rfl (by kernel_rfl)) rfl ?_
      exact ⟨by rw [E0.out], (HB9.out).grown hg_ (below_size HB9.out) (fun k e => by cases e; exact Nat.le_refl _)⟩
    · have E0 : Aside0 (G = ((0, 0, 0, 0), 2)) := ⟨by rw [EG.out, EO2.out, if_neg]; simp [hlen]⟩
      have hlb : ((l.length : Int) != 64 * tt) = true := by simpa using hlen
      clear hf hF2 hlen
      refine start_ (n := 19) (S := fun w' => w'.cell? ⟨w2.heap.size, 0, none⟩ = some (.int .i64 a) ∧ w'.cell? ⟨w2.heap.size, 1, none⟩ = some (.int .i64 b) ∧ w'.cell? ⟨w2.heap.size, 2, none⟩ = some (.int .i64 d) ∧ w'.cell? ⟨w2.heap.size, 3, none⟩ = some (.int .i64 h)) (ds := []) #[false, false, false, false, false, false, false, false, false, false, false, false, false, false, false, false, false, false, false] (by kernel_rfl) rfl rfl ⟨((blk_cell (blk_drew BK5.out) 0).trans rfl), ((blk_cell (blk_drew BK5.out) 1).trans rfl), ((blk_cell (blk_drew BK5.out) 2).trans rfl), ((blk_cell (blk_drew BK5.out) 3).trans rfl)⟩ (fun hHeld => ?_)
      refine take_ (i := 0) (N := some 26) (v := ?_) (a' := ?_) #[true, false, false, false, false, false, false, false, false, false, false, false, false, false, false, false, false, false, false] rfl rfl (by kernel_rfl) (fun _ _ _ h => h) (Or.inl ⟨by rfl, ?_⟩) hHeld ?_ ?_
      rotate_left
      · rintro w' ⟨s0, s1, s2, s3⟩
        go_simp
        with_reducible rfl
      rotate_left
      · simp only [Act.put, List.setIfInBounds_toArray, List.set_cons_zero, List.set_cons_succ, i64_w, i32_w]
        rfl
      refine one_ (i := 1) (N := some 27) #[true, true, false, false, false, false, false, false, false, false, false, false, false, false, false, false, false, false, false] rfl rfl (by kernel_rfl) (by decide) (fun K hK => ?_)
      clear hHeld
      refine goes_ Try.func60 (by kernel_rfl) rfl #[.agg #[.int .i64 a, .int .i64 b, .int .i64 d, .int .i64 h]] (by rfl) rfl rfl (by simp only [List.map_toArray, List.map_cons, List.map_nil]; rfl) ?_
      with_reducible refine (WK.out _).mono ?_
      rintro e w6 ⟨rfl, hb6⟩
      refine ⟨_, rfl, ?_⟩
      have BK6 := Aside0.mk (blk_below (blk_drew BK5.out) hb6)
      have BR6 := Aside0.mk (blk_below (blk_drew BR5.out) hb6)
      have HB6 := Aside0.mk (below_step (below_drew1 HB5.out) hb6)
      have HR6 := Aside0.mk (Kd.C_below (Kd.C_drew HR5.out) hb6)
      clear BK5 BR5 HB5 HR5
      refine hK.out _ _ ⟨((blk_cell BK6.out 0).trans rfl), ((blk_cell BK6.out 1).trans rfl), ((blk_cell BK6.out 2).trans rfl), ((blk_cell BK6.out 3).trans rfl)⟩ (fun hHeld => ?_)
      clear hK K
      refine norm_ (a' := ?_) ?_ ?_
      rotate_left
      · show Act.put _ (some 27) _ = _
        simp only [Act.put, List.setIfInBounds_toArray, List.set_cons_zero, List.set_cons_succ, i64_w, i32_w]
        rfl
      refine pure_ (i := 2) (N := some 28) (v := ?_) (a' := ?_) #[true, true, true, false, false, false, false, false, false, false, false, false, false, false, false, false, false, false, false] rfl rfl (by kernel_rfl) (fun _ _ _ h => h) (Or.inl ⟨by rfl, ?_⟩) ?_ ?_
      rotate_left
      · intro w'
        go_simp
        with_reducible rfl
      rotate_left
      · simp only [Act.put, List.setIfInBounds_toArray, List.set_cons_zero, List.set_cons_succ, i64_w, i32_w]
        rfl
      refine pure_ (i := 3) (N := some 29) (v := ?_) (a' := ?_) #[true, true, true, true, false, false, false, false, false, false, false, false, false, false, false, false, false, false, false] rfl rfl (by kernel_rfl) (fun _ _ _ h => h) (Or.inl ⟨by rfl, ?_⟩) ?_ ?_
      rotate_left
      · intro w'
        go_simp
        with_reducible rfl
      rotate_left
      · simp only [Act.put, List.setIfInBounds_toArray, List.set_cons_zero, List.set_cons_succ, i64_w, i32_w]
        rfl
      refine pure_ (i := 4) (N := some 30) (v := ?_) (a' := ?_) #[true, true, true, true, true, false, false, false, false, false, false, false, false, false, false, false, false, false, false] rfl rfl (by kernel_rfl) (fun _ _ _ h => h) (Or.inl ⟨by rfl, ?_⟩) ?_ ?_
      rotate_left
      · intro w'
        go_simp
        with_reducible rfl
      rotate_left
      · simp only [Act.put, List.setIfInBounds_toArray, List.set_cons_zero, List.set_cons_succ, i64_w, i32_w]
        rfl
      refine pure_ (i := 5) (N := some 31) (v := ?_) (a' := ?_) #[true, true, true, true, true, true, false, false, false, false, false, false, false, false, false, false, false, false, false] rfl rfl (by kernel_rfl) (fun _ _ _ h => h) (Or.inl ⟨by rfl, ?_⟩) ?_ ?_
      rotate_left
      · intro w'
        go_simp
        with_reducible rfl
      rotate_left
      · simp only [Act.put, List.setIfInBounds_toArray, List.set_cons_zero, List.set_cons_succ, i64_w, i32_w]
        rfl
      refine take_ (i := 6) (N := some 32) (v := ?_) (a' := ?_) #[true, true, true, true, true, true, true, false, false, false, false, false, false, false, false, false, false, false, false] rfl rfl (by kernel_rfl) (fun _ _ _ h => h) (Or.inl ⟨by rfl, ?_⟩) hHeld ?_ ?_
      rotate_left
      · rintro w' ⟨s0, s1, s2, s3⟩
        go_simp
        with_reducible rfl
      rotate_left
      · simp only [Act.put, List.setIfInBounds_toArray, List.set_cons_zero, List.set_cons_succ, i64_w, i32_w]
        rfl
      refine one_ (i := 7) (N := some 33) #[true, true, true, true, true, true, true, true, false, false, false, false, false, false, false, false, false, false, false] rfl rfl (by kernel_rfl) (by decide) (fun K hK => ?_)
      clear hHeld
      refine goes_ Try.func79 (by kernel_rfl) rfl #[.agg #[.int .i64 a, .int .i64 b, .int .i64 d, .int .i64 h]] (by rfl) rfl rfl (by simp only [List.map_toArray, List.map_cons, List.map_nil]; rfl) ?_
      with_reducible refine (WP.out _).mono ?_
      rintro e w7 ⟨v7, rfl, ho7, hb7⟩
      refine ⟨_, rfl, ?_⟩
      obtain ⟨A7, c7, hv7⟩ := Kd.R_slice ho7
      subst hv7
      have HF7 := Aside0.mk (Kd.R_reads' ho7).2.2
      have BK7 := Aside0.mk (blk_below BK6.out hb7)
      have BR7 := Aside0.mk (blk_below BR6.out hb7)
      have HB7 := Aside0.mk (below_step HB6.out hb7)
      have HR7 := Aside0.mk (Kd.C_below HR6.out hb7)
      clear BK6 BR6 HB6 HR6
      clear ho7
      refine hK.out _ _ ⟨((blk_cell BK7.out 0).trans rfl), ((blk_cell BK7.out 1).trans rfl), ((blk_cell BK7.out 2).trans rfl), ((blk_cell BK7.out 3).trans rfl)⟩ (fun hHeld => ?_)
      clear hK K
      refine norm_ (a' := ?_) ?_ ?_
      rotate_left
      · show Act.put _ (some 33) _ = _
        simp only [Act.put, List.setIfInBounds_toArray, List.set_cons_zero, List.set_cons_succ, i64_w, i32_w]
        rfl
      refine one_ (i := 8) (N := some 34) #[true, true, true, true, true, true, true, true, true, false, false, false, false, false, false, false, false, false, false] rfl rfl (by kernel_rfl) (by decide) (fun K hK => ?_)
      clear hHeld
      refine goes_ Try.func76 (by kernel_rfl) rfl #[.slice (some ad) 64 c, .slice A7 F.length c7] (by rfl) rfl rfl (by simp only [List.map_toArray, List.map_cons, List.map_nil]; rfl) ?_
      with_reducible refine (WE.out _ _ _ HR7.out HF7.out).mono ?_
      rintro e w8 ⟨rfl, hb8⟩
      refine ⟨_, rfl, ?_⟩
      have BK8 := Aside0.mk (blk_below BK7.out hb8)
      have BR8 := Aside0.mk (blk_below BR7.out hb8)
      have HB8 := Aside0.mk (below_step HB7.out hb8)
      have HR8 := Aside0.mk (Kd.C_below HR7.out hb8)
      clear BK7 BR7 HB7 HR7
      refine hK.out _ _ ⟨((blk_cell BK8.out 0).trans rfl), ((blk_cell BK8.out 1).trans rfl), ((blk_cell BK8.out 2).trans rfl), ((blk_cell BK8.out 3).trans rfl)⟩ (fun hHeld => ?_)
      clear hK K
      refine norm_ (a' := ?_) ?_ ?_
      rotate_left
      · show Act.put _ (some 34) _ = _
        simp only [Act.put, List.setIfInBounds_toArray, List.set_cons_zero, List.set_cons_succ, i64_w, i32_w]
        rfl
      refine pure_ (i := 9) (N := some 35) (v := ?_) (a' := ?_) #[true, true, true, true, true, true, true, true, true, true, false, false, false, false, false, false, false, false, false] rfl rfl (by kernel_rfl) (fun _ _ _ h => h) (Or.inl ⟨by rfl, ?_⟩) ?_ ?_
      rotate_left
      · intro w'
        go_simp
        with_reducible rfl
      rotate_left
      · simp only [Act.put, List.setIfInBounds_toArray, List.set_cons_zero, List.set_cons_succ, i64_w, i32_w]
        rfl
      refine pure_ (i := 10) (N := some 36) (v := ?_) (a' := ?_) #[true, true, true, true, true, true, true, true, true, true, true, false, false, false, false, false, false, false, false] rfl rfl (by kernel_rfl) (fun _ _ _ h => h) (Or.inl ⟨by rfl, ?_⟩) ?_ ?_
      rotate_left
      · intro w'
        go_simp
        with_reducible rfl
      rotate_left
      · simp only [Act.put, List.setIfInBounds_toArray, List.set_cons_zero, List.set_cons_succ, i64_w, i32_w]
        rfl
      refine pure_ (i := 11) (N := some 37) (v := ?_) (a' := ?_) #[true, true, true, true, true, true, true, true, true, true, true, true, false, false, false, false, false, false, false] rfl rfl (by kernel_rfl) (fun _ _ _ h => h) (Or.inl ⟨by rfl, ?_⟩) ?_ ?_
      rotate_left
      · intro w'
        go_simp
        with_reducible rfl
      rotate_left
      · simp only [Act.put, List.setIfInBounds_toArray, List.set_cons_zero, List.set_cons_succ, i64_w, i32_w]
        rfl
      refine pure_ (i := 12) (N := some 38) (v := ?_) (a' := ?_) #[true, true, true, true, true, true, true, true, true, true, true, true, true, false, false, false, false, false, false] rfl rfl (by kernel_rfl) (fun _ _ _ h => h) (Or.inl ⟨by rfl, ?_⟩) ?_ ?_
      rotate_left
      · intro w'
        go_simp
        with_reducible rfl
      rotate_left
      · simp only [Act.put, List.setIfInBounds_toArray, List.set_cons_zero, List.set_cons_succ, i64_w, i32_w]
        rfl
      refine pure_ (i := 13) (N := some 39) (v := ?_) (a' := ?_) #[true, true, true, true, true, true, true, true, true, true, true, true, true, true, false, false, false, false, false] rfl rfl (by kernel_rfl) (fun _ _ _ h => h) (Or.inl ⟨by rfl, ?_⟩) ?_ ?_
      rotate_left
      · intro w'
        go_simp
        with_reducible rfl
      rotate_left
      · simp only [Act.put, List.setIfInBounds_toArray, List.set_cons_zero, List.set_cons_succ, i64_w, i32_w]
        rfl
      refine take_ (i := 14) (N := some 40) (v := ?_) (a' := ?_) #[true, true, true, true, true, true, true, true, true, true, true, true, true, true, true, false, false, false, false] rfl rfl (by kernel_rfl) (fun _ _ _ h => h) (Or.inl ⟨by rfl, ?_⟩) hHeld ?_ ?_
      rotate_left
      · rintro w' ⟨s0, s1, s2, s3⟩
        go_simp
        with_reducible rfl
      rotate_left
      · simp only [Act.put, List.setIfInBounds_toArray, List.set_cons_zero, List.set_cons_succ, i64_w, i32_w]
        rfl
      refine one_ (i := 15) (N := some 41) #[true, true, true, true, true, true, true, true, true, true, true, true, true, true, true, true, false, false, false] rfl rfl (by kernel_rfl) (by decide) (fun K hK => ?_)
      clear hHeld
      refine goes_ Try.func80 (by kernel_rfl) rfl #[.agg #[.int .i64 a, .int .i64 b, .int .i64 d, .int .i64 h]] (by rfl) rfl rfl (by simp only [List.map_toArray, List.map_cons, List.map_nil]; rfl) ?_
      with_reducible refine (WT.out _).mono ?_
      rintro e w9 ⟨rfl, hb9⟩
      refine ⟨_, rfl, ?_⟩
      have BK9 := Aside0.mk (blk_below BK8.out hb9)
      have BR9 := Aside0.mk (blk_below BR8.out hb9)
      have HB9 := Aside0.mk (below_step HB8.out hb9)
      have HR9 := Aside0.mk (Kd.C_below HR8.out hb9)
      clear BK8 BR8 HB8 HR8
      refine hK.out _ _ ⟨((blk_cell BK9.out 0).trans rfl), ((blk_cell BK9.out 1).trans rfl), ((blk_cell BK9.out 2).trans rfl), ((blk_cell BK9.out 3).trans rfl)⟩ (fun hHeld => ?_)
      clear hK K
      refine norm_ (a' := ?_) ?_ ?_
      rotate_left
      · show Act.put _ (some 41) _ = _
        simp only [Act.put, List.setIfInBounds_toArray, List.set_cons_zero, List.set_cons_succ, i64_w, i32_w]
        rfl
      refine pure_ (i := 16) (N := some 42) (v := ?_) (a' := ?_) #[true, true, true, true, true, true, true, true, true, true, true, true, true, true, true, true, true, false, false] rfl rfl (by kernel_rfl) (fun _ _ _ h => h) (Or.inl ⟨by rfl, ?_⟩) ?_ ?_
      rotate_left
      · intro w'
        go_simp
        with_reducible rfl
      rotate_left
      · simp only [Act.put, List.setIfInBounds_toArray, List.set_cons_zero, List.set_cons_succ, i64_w, i32_w]
        rfl
      refine pure_ (i := 17) (N := some 43) (v := ?_) (a' := ?_) #[true, true, true, true, true, true, true, true, true, true, true, true, true, true, true, true, true, true, false] rfl rfl (by kernel_rfl) (fun _ _ _ h => h) (Or.inl ⟨by rfl, ?_⟩) ?_ ?_
      rotate_left
      · intro w'
        go_simp
        with_reducible rfl
      rotate_left
      · simp only [Act.put, List.setIfInBounds_toArray, List.set_cons_zero, List.set_cons_succ, i64_w, i32_w]
        rfl
      refine pure_ (i := 18) (N := some 44) (v := ?_) (a' := ?_) #[true, true, true, true, true, true, true, true, true, true, true, true, true, true, true, true, true, true, true] rfl rfl (by kernel_rfl) (fun _ _ _ h => h) (Or.inl ⟨by rfl, ?_⟩) ?_ ?_
      rotate_left
      · intro w'
        go_simp
        with_reducible rfl
      rotate_left
      · simp only [Act.put, List.setIfInBounds_toArray, List.set_cons_zero, List.set_cons_succ, i64_w, i32_w]
        rfl
      refine done_ (by kernel_rfl) ?_
      have e0 : w9.cell? ⟨w2.heap.size, 0, none⟩ = some (.int .i64 a) := (blk_cell BK9.out 0).trans rfl
      have e1 : w9.cell? ⟨w2.heap.size, 1, none⟩ = some (.int .i64 b) := (blk_cell BK9.out 1).trans rfl
      have e2 : w9.cell? ⟨w2.heap.size, 2, none⟩ = some (.int .i64 d) := (blk_cell BK9.out 2).trans rfl
      have e3 : w9.cell? ⟨w2.heap.size, 3, none⟩ = some (.int .i64 h) := (blk_cell BK9.out 3).trans rfl
      go_wp2_with (first | ((with_reducible refine gate_store (p := 2) rfl ?_); go_loud (refine wpList_store_rowL rfl rfl 38 (.tmp 2) (.tmp 45) rfl (w0.heap.size) #[.int .i64 0, .int .i64 0, .int .i64 0, .int .i64 0] rfl rfl 38 #[.int .i64 0, .int .i64 0, .int .i64 0, .int .i64 0] (BR9.out) (by kernel_rfl) rfl (by simp [Value.oneCell']) ?_; intro wz bk_ hg_)))
      refine bodyPost_ret (resRow2 rfl _ _ w0.heap.size 38 #[.int .i64 0, .int .i64 0, .int .i64 0, .int .i64 0] (0, 0) _ (.int .i64 2) rfl rfl bk_ Try.underlying38 rfl (by kernel_rfl)) rfl ?_
      exact ⟨by rw [E0.out], (HB9.out).grown hg_ (below_size HB9.out) (fun k e => by cases e; exact Nat.le_refl _)⟩
end Go.Proofs.Ytdkbhbolkieeiaa.K
namespace Go.Proofs.YtdkbhbolkieeiaaW.PrintWords
open Go.RowKit Go.Proofs.Ytdkbhbolkieeiaa.K
namespace Kd
theorem C_blkI {k : IntKind} {W : World} {g : Nat} {cs : Array Value} {t : TypeId} {xs : List Int} (BK : W.heap[g]? = some (.cells cs t (0, 0))) (h : cs.toList.take xs.length = xs.map (fun v => Value.int k v)) (hm : xs.length ≤ 9223372036854775807) : (Kd.int k).C W (some ⟨g, 0, none⟩) xs.length xs := by
  refine ⟨rfl, hm, fun _ => ⟨⟨g, 0, none⟩, rfl, fun j p hp => ⟨[.int k p], rfl, rfl, fun i u hu => ?_⟩⟩⟩
  obtain ⟨hj, rfl⟩ := List.getElem?_eq_some_iff.1 hp
  have hi : i = 0 := by have := (List.getElem?_eq_some_iff.1 hu).1; simp at this; exact this
  subst hi
  show W.cell? ((⟨g, 0, none⟩ : Addr).add (j * 1 + 0)) = some u
  rw [add_plain, blk_cell BK, ← hu, Nat.mul_one, Nat.add_zero]
  have h2 : (cs.toList.take xs.length)[j]? = (xs.map (fun v => Value.int k v))[j]? := by rw [h]
  rw [List.getElem?_take_of_lt hj, Array.getElem?_toList] at h2
  rw [h2, List.getElem?_map, List.getElem?_eq_getElem hj]
  rfl
end Kd
end Go.Proofs.YtdkbhbolkieeiaaW.PrintWords
namespace Go.Proofs.Ytdkbhbolkieeiaa.K
open Go.RowKit Go.Proofs.YtdkbhbolkieeiaaW.PrintWords Go.Proofs.YtdkbhbolkieeiaaW.PrintLast Go.Proofs.YtdkbhbolkieeiaaW.PrintMore
set_option linter.unusedVariables false
set_option linter.unusedSimpArgs false
set_option maxRecDepth 100000 in
theorem mul64_walk (W : World) : Calls Try.prog 121 #[.int .u64 1, .int .u64 64] W fun e w' => e = .returned (.tuple #[.int .u64 0, .int .u64 64]) ∧ w' = W := by
  go_enter Try.func121, Try.ntmps121
  go_wp2
  go_ret2
  exact ⟨rfl, rfl⟩
set_option maxRecDepth 100000 in
theorem mul_walk (W : World) : Calls Try.prog 96 #[.int .u64 1, .int .u64 64] W fun e w' => e = .returned (.tuple #[.int .u64 0, .int .u64 64]) ∧ w' = W := by
  go_enter Try.func96, Try.ntmps96
  go_wp2_with (go_at_call 121; (with_reducible refine (mul64_walk _).mono ?_); rintro e w' ⟨rfl, h_⟩; have h_ := h_.symm; subst h_)
  go_ret2
  exact ⟨rfl, rfl⟩
theorem call_noZero (W : World) : ∃ cs : Array Value, (callFunc 97 #[.int .i64 64]).run Try.prog W = .ok (.value (.slice (some ⟨W.heap.size, 0, none⟩) 64 cs.size)) ((W.alloc (.cells cs 5)).drewN 2) ∧ 64 ≤ cs.size ∧ cs.size ≤ 9223372036854775807 := by
  obtain ⟨cs, hrun, hle, hmax⟩ := Lib.run_makeNoZero (P := Try.prog) W #[3] 44 5 Try.underlying44 64 (by omega)
  refine ⟨cs, ?_, hle, hmax (by decide)⟩
  rw [run_callFunc_extern Try.func97 (by kernel_rfl) (by kernel_rfl) (by kernel_rfl) (e := Extern.BytealgMakeNoZero.makeNoZero #[3] #[44]) (by kernel_rfl)]
  have h2 : (Extern.BytealgMakeNoZero.makeNoZero #[3] #[44] #[.int .i64 64]).run Try.prog W = _ := hrun
  rw [h2]
  rfl
theorem rep_step {v : Int} {bp : Nat} {l : List Value} (hl : l.take bp = List.replicate bp (Value.int .u8 v)) (h0 : 64 ≤ l.length) (hb : bp < 64) :
    (l.take bp ++ ((List.replicate bp v).take (min bp (64 - bp))).map (Value.int .u8) ++ l.drop (bp + min bp (64 - bp))).take (bp + min bp (64 - bp)) = List.replicate (bp + min bp (64 - bp)) (Value.int .u8 v) := by
  rw [hl, List.take_replicate, List.map_replicate, show min (min bp (64 - bp)) bp = min bp (64 - bp) by omega, List.replicate_append_replicate, List.take_append_of_le_length (by simp), List.take_of_length_le (by simp)]
set_option maxHeartbeats 4000000 in
set_option maxRecDepth 100000 in
theorem repeat_walk (A : Option Addr) (c : Nat) (v : Int) (w : World) (hr : Kd.C (Kd.int .u8) w A 1 [v]) :
    Calls Try.prog 58 #[.slice A 1 c, .int .i64 64] w fun e w' => ∃ (g : Nat) (cs : Array Value), e = .returned (.slice (some ⟨g, 0, none⟩) 64 64) ∧ w.heap.size ≤ g ∧ w'.heap[g]? = some (.cells cs 5 (0, 0)) ∧ cs.toList.take 64 = List.replicate 64 (Value.int .u8 v) ∧ Below w.heap.size w w' := by
  have HR := Aside0.mk hr
  clear hr
  obtain ⟨cs, hcall, hcs, hcs2⟩ := call_noZero w
  have HCS := Aside0.mk hcs
  go_enter Try.func58, Try.ntmps58
  go_wp2_with (go_at_call 96; (with_reducible refine (mul_walk _).mono ?_); rintro e w' ⟨rfl, h_⟩; have h_ := h_.symm; subst h_)
  have HBW : Aside0 (Below w.heap.size w ((w.alloc (.cells cs 5)).drewN 2)) := ⟨pw_below_drewN (below_alloc (Below.refl _ _) _) _⟩
  obtain ⟨w1, cs1, hrun, bk1, hs1, hl1, hg1⟩ := Kd.run_copyBlk (P := Try.prog) (h1 := fun _ => rfl) (0 : Int) 3 44 44 5 Try.underlying44 (by kernel_rfl) w.heap.size 0 64 64 [v] A 1 c (by decide) (W := (w.alloc (.cells cs 5)).drewN 2) (cs := cs) (te := 5) (blk_drewN (heap_alloc_new _ _) _) (by omega) (Kd.C_below HR.out HBW.out)
  have HBL : Aside0 (Below w.heap.size w w1) := ⟨pw_below_grown HBW.out _ (by simp) hg1 (fun k hk => by cases hk; exact Nat.le_refl _)⟩
  have HK1 := Aside0.mk bk1
  have HS1 := Aside0.mk hs1
  have HL1 : Aside0 (cs1.toList.take 1 = List.replicate 1 (Value.int .u8 v)) := ⟨by rw [hl1]; simp⟩
  clear bk1 hs1 hl1 hg1 HBW hcall
  simp only [hrun, Result.andThen_ok]
  clear hrun
  go_wp2
  go_loopw [10] (fun v10 w' => ∃ (bp : Nat) (cs' : Array Value), v10 = .int .i64 bp ∧ Aside0 (1 ≤ bp ∧ bp ≤ 64) ∧ Aside0 (w'.heap[w.heap.size]? = some (.cells cs' 5 (0, 0))) ∧ Aside0 (cs'.size = cs.size) ∧ Aside0 (cs'.toList.take bp = List.replicate bp (Value.int .u8 v)) ∧ Aside0 (Below w.heap.size w w')) (fun i _ => 64 - (intOf i).toNat)
  case atStart => exact ⟨1, cs1, rfl, ⟨by omega⟩, HK1, HS1, HL1, HBL⟩
  case round =>
    clear HK1 HS1 HL1 HBL
    obtain ⟨bp, cs2, rfl, hbp, BK, HS, HL, HB⟩ := hrel
    have hb1 := hbp.out.1
    have hb2 := hbp.out.2
    by_cases hlt : bp < 64
    · have hlt' : (bp : Int) < 64 := by omega
      have hmn : min (bp : Int) 8192 = bp := by omega
      obtain ⟨inf, hinf, hinz⟩ := Option.map_eq_some_iff.1 u8info
      simp only [Prod.mk.injEq] at hinz
      have hcf : ∀ W : World, (Instr.slice 44 (.slice (some ⟨w.heap.size, 0, none⟩) 64 64) (some (.int .i64 bp)) none none).run Try.prog W = .ok (.slice (some ⟨w.heap.size, bp, none⟩) (64 - bp) (64 - bp)) W := fun W => by
        have h := cut_from (P := Try.prog) 44 5 .i64 Try.underlying44 hinf 1 hinz.2.1 (some ⟨w.heap.size, 0, none⟩) 64 64 (bp : Int) (by omega) (by omega) W
        rw [Int.toNat_natCast, if_neg (by omega)] at h
        rw [h, Option.map_some, Nat.mul_one, add_plain]
      have hct : ∀ W : World, (Instr.slice 44 (.slice (some ⟨w.heap.size, 0, none⟩) 64 64) none (some (.int .i64 bp)) none).run Try.prog W = .ok (.slice (some ⟨w.heap.size, 0, none⟩) bp 64) W := fun W => by
        have h := cut_to (P := Try.prog) 44 5 .i64 Try.underlying44 hinf (some ⟨w.heap.size, 0, none⟩) 64 64 (bp : Int) (by omega) (by omega) (by omega) W
        rw [Int.toNat_natCast] at h
        exact h
      obtain ⟨q, hq⟩ : ∃ q, q = min bp (64 - bp) := ⟨_, rfl⟩
      have HQ := Aside0.mk hq
      have hw9 : RowKit.wrap64 ((bp : Int) + (q : Int)) = ((bp + q : Nat) : Int) := by unfold RowKit.wrap64; omega
      clear hinf hinz hq
      go_wp2
      refine start_ (n := 10) (S := fun w' => True) (ds := [7]) #[false, false, false, false, false, false, false, false, false, false] (by kernel_rfl) rfl rfl trivial (fun hHeld => ?_)
      refine pure_ (i := 0) (N := some 67) (v := ?_) (a' := ?_) #[true, false, false, false, false, false, false, false, false, false] rfl rfl (by kernel_rfl) (fun _ _ _ h => h) (Or.inl ⟨by rfl, ?_⟩) ?_ ?_
      rotate_left
      · intro w'
        go_simp
        with_reducible rfl
      rotate_left
      · simp only [Act.put, List.setIfInBounds_toArray, List.set_cons_zero, List.set_cons_succ, i64_w, i32_w]
        rfl
      refine pure_ (i := 1) (N := some 68) (v := ?_) (a' := ?_) #[true, true, false, false, false, false, false, false, false, false] rfl rfl (by kernel_rfl) (fun _ _ _ h => h) (Or.inl ⟨by rfl, ?_⟩) ?_ ?_
      rotate_left
      · intro w'
        go_simp
        with_reducible rfl
      rotate_left
      · simp only [Act.put, List.setIfInBounds_toArray, List.set_cons_zero, List.set_cons_succ, i64_w, i32_w]
        rfl
      refine pure_ (i := 2) (N := some 69) (v := ?_) (a' := ?_) #[true, true, true, false, false, false, false, false, false, false] rfl rfl (by kernel_rfl) (fun _ _ _ h => h) (Or.inl ⟨by rfl, ?_⟩) ?_ ?_
      rotate_left
      · intro w'
        go_simp
        with_reducible rfl
      rotate_left
      · simp only [Act.put, List.setIfInBounds_toArray, List.set_cons_zero, List.set_cons_succ, i64_w, i32_w]
        rfl
      refine pure_ (i := 3) (N := some 70) (v := ?_) (a' := ?_) #[true, true, true, true, false, false, false, false, false, false] rfl rfl (by kernel_rfl) (fun _ _ _ h => h) (Or.inl ⟨by rfl, ?_⟩) ?_ ?_
      rotate_left
      · intro w'
        go_simp
        with_reducible rfl
      rotate_left
      · simp only [Act.put, List.setIfInBounds_toArray, List.set_cons_zero, List.set_cons_succ, i64_w, i32_w]
        rfl
      refine pure_ (i := 4) (N := some 71) (v := ?_) (a' := ?_) #[true, true, true, true, true, false, false, false, false, false] rfl rfl (by kernel_rfl) (fun _ _ _ h => h) (Or.inl ⟨by rfl, ?_⟩) ?_ ?_
      rotate_left
      · intro w'
        go_simp
        with_reducible rfl
      rotate_left
      · simp only [Act.put, List.setIfInBounds_toArray, List.set_cons_zero, List.set_cons_succ, i64_w, i32_w]
        rfl
      refine pure_ (i := 5) (N := some 72) (v := ?_) (a' := ?_) #[true, true, true, true, true, true, false, false, false, false] rfl rfl (by kernel_rfl) (fun _ _ _ h => h) (Or.inl ⟨by rfl, ?_⟩) ?_ ?_
      rotate_left
      · intro w'
        go_simp
        with_reducible rfl
      rotate_left
      · simp only [Act.put, List.setIfInBounds_toArray, List.set_cons_zero, List.set_cons_succ, i64_w, i32_w]
        rfl
      refine pure_ (i := 6) (N := some 73) (v := ?_) (a' := ?_) #[true, true, true, true, true, true, true, false, false, false] rfl rfl (by kernel_rfl) (fun _ _ _ h => h) (Or.inl ⟨by rfl, ?_⟩) ?_ ?_
      rotate_left
      · intro w'
        go_simp
        with_reducible rfl
      rotate_left
      · simp only [Act.put, List.setIfInBounds_toArray, List.set_cons_zero, List.set_cons_succ, i64_w, i32_w]
        rfl
      refine last_ (i := 7) (N := some 74) #[true, true, true, true, true, true, true, true, false, false] rfl rfl (by kernel_rfl) (by decide) (fun K hK => ?_)
      obtain ⟨w6, hw6⟩ : ∃ w6, w6 = wr.drew := ⟨_, rfl⟩
      rw [← hw6]
      have BK6 : Aside0 (w6.heap[w.heap.size]? = some (.cells cs2 5 (0, 0))) := ⟨by rw [hw6]; exact blk_drew BK.out⟩
      have HB6 : Aside0 (Below w.heap.size w w6) := ⟨by rw [hw6]; exact below_drew1 HB.out⟩
      clear hw6 BK HB hHeld
      obtain ⟨w7, cs3, hrun, bk3, hs3, hl3, hg3⟩ := Kd.run_copyBlk (P := Try.prog) (h1 := fun _ => rfl) (0 : Int) 3 44 44 5 Try.underlying44 (by kernel_rfl) w.heap.size bp (64 - bp) (64 - bp) (List.replicate bp v) (some ⟨w.heap.size, 0, none⟩) bp 64 (by omega) (W := w6) BK6.out (by have := HS.out; have := HCS.out; omega) (by have h_ := Kd.C_blkI (k := .u8) (xs := List.replicate bp v) BK6.out (by rw [List.length_replicate, HL.out, List.map_replicate]) (by rw [List.length_replicate]; omega); rw [List.length_replicate] at h_; exact h_)
      rw [← HQ.out] at hrun hl3
      have HRUN := Aside0.mk hrun
      have BK3 := Aside0.mk bk3
      have HS3 : Aside0 (cs3.size = cs.size) := ⟨hs3.trans HS.out⟩
      have HL3 : Aside0 (cs3.toList.take (bp + q) = List.replicate (bp + q) (Value.int .u8 v)) := ⟨by rw [hl3, HQ.out]; exact rep_step HL.out (by have h1_ := HS.out; have h2_ := HCS.out; have h3_ := Array.length_toList (xs := cs2); omega) hlt⟩
      have HB3 : Aside0 (Below w.heap.size w w7) := ⟨pw_below_grown HB6.out _ HB6.out.size hg3 (fun k hk => by cases hk; exact Nat.le_refl _)⟩
      clear hrun bk3 hs3 hl3 hg3 BK6 HB6 HS HL
      refine value_ (w1 := w7) (v := _) (by rfl) rfl (exec_copy (d := .tmp 70) (x := .tmp 73) rfl rfl rfl HRUN.out) ?_
      clear HRUN
      refine hK.out _ _ ?_
      clear hK K
      refine norm_ (a' := ?_) ?_ ?_
      rotate_left
      · show Act.put _ (some 74) _ = _
        simp only [Act.put, List.setIfInBounds_toArray, List.set_cons_zero, List.set_cons_succ, i64_w, i32_w]
        rfl
      refine pure_ (i := 8) (N := some 75) (v := ?_) (a' := ?_) #[true, true, true, true, true, true, true, true, true, false] rfl rfl (by kernel_rfl) (fun _ _ _ h => h) (Or.inl ⟨by rfl, ?_⟩) ?_ ?_
      rotate_left
      · intro w'
        go_simp
        with_reducible rfl
      rotate_left
      · simp only [Act.put, List.setIfInBounds_toArray, List.set_cons_zero, List.set_cons_succ, i64_w, i32_w]
        rfl
      refine pure_ (i := 9) (N := some 10) (v := ?_) (a' := ?_) #[true, true, true, true, true, true, true, true, true, true] rfl rfl (by kernel_rfl) (fun _ _ _ h => h) (Or.inl ⟨by rfl, ?_⟩) ?_ ?_
      rotate_left
      · intro w'
        go_simp
        with_reducible rfl
      rotate_left
      · simp only [Act.put, List.setIfInBounds_toArray, List.set_cons_zero, List.set_cons_succ, i64_w, i32_w]
        rfl
      refine done_ (by kernel_rfl) ?_
      go_wp2
      have hq := HQ.out
      exact ⟨⟨bp + q, cs3, rfl, ⟨by omega⟩, BK3, HS3, HL3, HB3⟩, by simp [intOf]; omega⟩
    · obtain rfl : bp = 64 := by omega
      go_wp2
      go_ret
      exact ⟨_, cs2, rfl, Nat.le_refl _, BK.out, HL.out, HB.out⟩
end Go.Proofs.Ytdkbhbolkieeiaa.K
