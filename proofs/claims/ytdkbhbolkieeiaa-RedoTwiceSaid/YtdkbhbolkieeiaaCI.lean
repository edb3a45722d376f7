/- Walks and plain laws of this claim, merged: K33c, K33d, K33e, K33f, L33, L33a, L33b, L33c. -/
import Derived.Test.YtdkbhbolkieeiaaCH
import Derived.Test.YtdkbhbolkieeiaaCE
import Derived.WalkMore
import Derived.ScopeJumps
import Derived.Test.YtdkbhbolkieeiaaKBytes
namespace Go.Proofs.Ytdkbhbolkieeiaa.K
open Go.RowKit Go.Proofs.YtdkbhbolkieeiaaW.PrintWords Go.Proofs.YtdkbhbolkieeiaaW.PrintLast Go.Proofs.YtdkbhbolkieeiaaW.PrintMore
set_option linter.unusedVariables false
set_option linter.unusedSimpArgs false
/-- What is read of a log: its layout may be, and the writes are right. -/
theorem readJ_geo {l : List Int} (h : (readJ l).2 = true) : (geoG l).2 = 0 ∧ rightP (geoG l).1.1 (geoG l).1.2.1 (geoG l).1.2.2.1 (geoG l).1.2.2.2 (readJ l).1 = true := by
  unfold readJ at h ⊢
  split at h
  · rename_i hc
    rw [if_pos hc]
    refine ⟨hc.1, ?_⟩
    have := hc.2.2.2
    unfold fitL at this
    simp only [Bool.and_eq_true] at this
    exact this.1
  · cases h
theorem readJ_few {l : List Int} (h : (readJ l).2 = true) : (readJ l).1.length ≤ 128 := by
  obtain ⟨a, b, d, h_, L, hG, hgo, hL1, hL2, hlen, h1, h64, hLs⟩ := logFacts (readJ_geo h).1
  have hr := (readJ_geo h).2
  rw [hG] at hr
  unfold rightP at hr
  simp only [Bool.and_eq_true, decide_eq_true_eq] at hr
  have h2 := hr.1.2
  unfold capJ at h2
  rw [if_pos hgo] at h2
  omega
def replayP (l : List Int) : List Int := if (readJ l).2 = true then applyP l ((readJ l).1 ++ [((logN l : Int), sealS magic0)]) else l
theorem applyPW_walk (A : Option Addr) (c : Nat) (l : List Int) (Al : Option Addr) (cl : Nat) (ws : List PW) (w : World) (hr : Kd.C (Kd.int .u8) w A l.length l) (hc : l.length ≤ c) (hl : l.length ≤ 100000)
    (hw : Kd.C kWP w Al ws.length ws) (hwl : ws.length ≤ 1000000) :
    Calls Try.prog 85 #[.slice A l.length c, .slice Al ws.length cl] w fun e w' => ∃ v : Value, e = .returned v ∧ Kd.R (Kd.int .u8) 5 w' w.heap.size (fun _ => True) v (applyP l ws) ∧ Below w.heap.size w w' := by
  obtain ⟨ys, hC, hm⟩ := turnP hw
  have hl2 : ws.length = ys.length := by rw [← hm, List.length_map]
  have hw := apply_walk A c l Al cl ys w hr hc hl (by rw [← hl2]; exact hC) (by omega)
  rw [← hl2, hm] at hw
  exact hw
set_option maxHeartbeats 4000000 in
set_option maxRecDepth 100000 in
theorem replay_walk (A : Option Addr) (c : Nat) (l : List Int) (w : World) (hr : Kd.C (Kd.int .u8) w A l.length l) (hc : l.length ≤ c) (hl : l.length ≤ 100000) (hb : Byts l) :
    Calls Try.prog 43 #[.slice A l.length c] w fun e w' => ∃ v : Value, e = .returned v ∧ Kd.R (Kd.int .u8) 5 w' w.heap.size (fun _ => True) v (replayP l) ∧ Below w.heap.size w w' := by
  have WJ := Aside0.mk (jRead_walk A c l w hr hc (by omega) hb)
  have WA : Aside0 (∀ A9 c9 W, Kd.C kWP W A9 ((readJ l).1 ++ [((logN l : Int), sealS magic0)]).length ((readJ l).1 ++ [((logN l : Int), sealS magic0)]) → Below w.heap.size w W → (readJ l).2 = true → Calls Try.prog 85 #[.slice A l.length c, .slice A9 ((readJ l).1 ++ [((logN l : Int), sealS magic0)]).length c9] W fun e w' => ∃ v : Value, e = .returned v ∧ Kd.R (Kd.int .u8) 5 w' W.heap.size (fun _ => True) v (applyP l ((readJ l).1 ++ [((logN l : Int), sealS magic0)])) ∧ Below W.heap.size W w') :=
    ⟨fun A9 c9 W h hB hj => applyPW_walk A c l A9 c9 _ W (Kd.C_below hr hB) hc hl h (by have := readJ_few hj; simp; omega)⟩
  have WA0 : Aside0 (∀ W, Below w.heap.size w W → Calls Try.prog 85 #[.slice A l.length c, .slice none 0 0] W fun e w' => ∃ v : Value, e = .returned v ∧ Kd.R (Kd.int .u8) 5 w' W.heap.size (fun _ => True) v l ∧ Below W.heap.size W w') :=
    ⟨fun W hB => applyPW_walk A c l none 0 [] W (Kd.C_below hr hB) hc hl (Kd.C_nil _ _) (by decide)⟩
  have WG : Aside0 (∀ W, Below w.heap.size w W → _) := ⟨fun W (hB : Below w.heap.size w W) => geoGet_walk A c l W (Kd.C_below hr hB) hc (by omega) hb⟩
  have WE := Aside0.mk journalEmpty_walk
  have ER : Aside0 (replayP l = if (readJ l).2 = true then applyP l ((readJ l).1 ++ [((logN l : Int), sealS magic0)]) else l) := ⟨rfl⟩
  have HB := Aside0.mk (Below.refl w.heap.size w)
  cases hj : (readJ l).2 with
  | false =>
    rw [hj] at WJ
    have E0 : Aside0 (replayP l = l) := ⟨by rw [ER.out, hj, if_neg (by decide)]⟩
    obtain ⟨n, hn⟩ : ∃ n, n = l.length := ⟨_, rfl⟩
    rw [← hn] at WJ WA0 ⊢
    clear hr hc hl hb hj WG WA ER hn
    go_enter Try.func43, Try.ntmps43
    go_wp2_with (first | (go_at_call 35; go_loud ((with_reducible refine WJ.out.mono ?_); rintro e w1 ⟨v1, rfl, ho, hb⟩; have n1_ : Aside0 (Below w.heap.size w w1) := ⟨below_step (by repeat (first | (with_reducible first | exact HB.out | apply below_alloc | apply pw_below_drewN | apply below_drew1) | exact HB.out)) hb⟩; clear HB; have HB := n1_; clear n1_; clear ho hb)) | (go_at_call 85; go_loud ((with_reducible refine (WA0.out _ HB.out).mono ?_); rintro e w2 ⟨v2, rfl, ho, hb⟩; have HO := Aside0.mk (Kd.R_lower ho HB.out.size); have n1_ : Aside0 (Below w.heap.size w w2) := ⟨below_step (by repeat (first | (with_reducible first | exact HB.out | apply below_alloc | apply pw_below_drewN | apply below_drew1) | exact HB.out)) hb⟩; clear HB; have HB := n1_; clear n1_; clear ho hb)))
    go_ret
    rw [E0.out]
    exact ⟨_, rfl, HO.out, HB.out⟩
  | true =>
    obtain ⟨a, b, d, h, L, hG, hgo, hL1, hL2, hlen, h1, h64, hLs⟩ := logFacts (readJ_geo hj).1
    have WA := Aside0.mk (fun A9 c9 W h hB => WA.out A9 c9 W h hB hj)
    rw [show ((readJ l).1 ++ [((logN l : Int), sealS magic0)]).length = (readJ l).1.length + 1 by simp] at WA
    have HLL : Aside0 (((readJ l).1.length + 1) * 32 ≤ 140737488355328) := ⟨by have := readJ_few hj; omega⟩
    have WL : Aside0 (∀ W, Calls Try.prog 71 #[.agg #[.int .i64 a, .int .i64 b, .int .i64 d, .int .i64 h]] W fun e w' => e = .returned (.int .i64 (L : Int)) ∧ Below W.heap.size W w') := ⟨fun W => by rw [← hL1]; exact geoLog_walk a b d h W⟩
    rw [hj] at WJ
    rw [hG] at WG
    simp only at WG
    rw [if_pos hj, ← hL2] at ER
    rw [← hL2] at WA
    obtain ⟨n, hn⟩ : ∃ n, n = l.length := ⟨_, rfl⟩
    rw [← hn] at WJ WA WG ⊢
    obtain ⟨ws, hws⟩ : ∃ ws, ws = (readJ l).1 := ⟨_, rfl⟩
    rw [← hws] at WA WJ HLL ER
    rw [ER.out]
    clear hr hc hl hb hj WA0 hG hgo hL1 hL2 hlen h1 h64 hn hws ER
    go_enter Try.func43, Try.ntmps43
    go_wp2_with (first | (go_at_call 35; go_loud ((with_reducible refine WJ.out.mono ?_); rintro e w1 ⟨vl, rfl, ho, hb⟩; have HO := Aside0.mk ho; have n1_ : Aside0 (Below w.heap.size w w1) := ⟨below_step (by repeat (first | (with_reducible first | exact HB.out | apply below_alloc | apply pw_below_drewN | apply below_drew1) | exact HB.out)) hb⟩; clear HB; have HB := n1_; clear n1_; clear ho hb)) | (go_at_call 38; go_loud ((with_reducible refine (WG.out _ HB.out).mono ?_); rintro e w3 ⟨rfl, hb⟩; have n_ := Aside0.mk (Kd.R_below HO.out hb); clear HO; have HO := n_; clear n_; have n1_ : Aside0 (Below w.heap.size w w3) := ⟨below_step (by repeat (first | (with_reducible first | exact HB.out | apply below_alloc | apply pw_below_drewN | apply below_drew1) | exact HB.out)) hb⟩; clear HB; have HB := n1_; clear n1_; clear hb)) | ((with_reducible refine gate_store (p := 5) rfl ?_); go_loud (refine wpList_store_newL (w0 := w3) rfl rfl 38 (.tmp 5) (.tmp 19) rfl #[.int .i64 a, .int .i64 b, .int .i64 d, .int .i64 h] 38 #[.int .i64 0, .int .i64 0, .int .i64 0, .int .i64 0] rfl (by rfl) (by rfl) (by kernel_rfl) rfl (by simp [Value.oneCell']) ?_; intro w4 bk_ hb; have BK4 := Aside0.mk bk_; clear bk_; have n_ := Aside0.mk (Kd.R_below HO.out hb); clear HO; have HO := n_; clear n_; have n1_ : Aside0 (Below w.heap.size w w4) := ⟨below_step (by repeat (first | (with_reducible first | exact HB.out | apply below_alloc | apply pw_below_drewN | apply below_drew1) | exact HB.out)) hb⟩; clear HB; have HB := n1_; clear n1_; clear hb; have k0 : w4.cell? ⟨w3.heap.size, 0, none⟩ = some (.int .i64 a) := (blk_cell BK4.out 0).trans rfl; have k1 : w4.cell? ⟨w3.heap.size, 1, none⟩ = some (.int .i64 b) := (blk_cell BK4.out 1).trans rfl; have k2 : w4.cell? ⟨w3.heap.size, 2, none⟩ = some (.int .i64 d) := (blk_cell BK4.out 2).trans rfl; have k3 : w4.cell? ⟨w3.heap.size, 3, none⟩ = some (.int .i64 h) := (blk_cell BK4.out 3).trans rfl)) | (go_at_call 71; go_loud ((with_reducible refine (WL.out _).mono ?_); rintro e w5 ⟨rfl, hb⟩; have n_ := Aside0.mk (Kd.R_below HO.out hb); clear HO; have HO := n_; clear n_; have n1_ : Aside0 (Below w.heap.size w w5) := ⟨below_step (by repeat (first | (with_reducible first | exact HB.out | apply below_alloc | apply pw_below_drewN | apply below_drew1) | exact HB.out)) hb⟩; clear HB; have HB := n1_; clear n1_; clear hb)) | (go_at_call 29; go_loud ((with_reducible refine (WE.out _).mono ?_); rintro e w6 ⟨v6, rfl, ho6, hb⟩; have HO5 := HO; have n_ := Aside0.mk (Kd.R_below HO.out hb); clear HO; have HO := n_; clear n_; have O6 := Aside0.mk (mWP (L : Int) vl (Kd.R_lower ho6 HB.out.size) (fun k hk e => by have h1 := (Kd.R_bound ho6).1 k hk; have h2 := (Kd.R_bound HO5.out).1 k e.symm; have h3 := h1.2.1; have h4 := h2.2.2.1; omega)); obtain ⟨A6, c6, hv6⟩ := Kd.R_slice ho6; subst hv6; have hl6 : (sealS magic0).length = 64 := sealS_length _; rw [hl6] at O6 ⊢; have n1_ : Aside0 (Below w.heap.size w w6) := ⟨below_step (by repeat (first | (with_reducible first | exact HB.out | apply below_alloc | apply pw_below_drewN | apply below_drew1) | exact HB.out)) hb⟩; clear HB; have HB := n1_; clear n1_; clear hl6 ho6 hb HO5)) | ((with_reducible refine gate_builtin (b := .append) (xs := #[.tmp 22, .tmp 27]) rfl ?_); at_builtin; go_loud (refine Kd.R_append kWP (w0 := w) w.heap.size rfl (.tmp 22) (.tmp 27) 39 82 (.agg #[.int .i64 0, .slice none 0 0]) 32 rfl Try.underlying39 wrinfo rfl (by decide) (by omega) vl ws ((L : Int), sealS magic0) [.int .i64 (L : Int), .slice A6 64 c6] (fun _ => True) (fun k => some k ≠ vl.ownBlock) rfl rfl ?aP (fun _ hk => ⟨trivial, hk⟩) ?aF ?aO ?aB ?aS ?aL ?_); (case aP => exact O6.out); (case aB => exact (by repeat (first | (with_reducible first | exact HB.out | apply below_alloc | apply pw_below_drewN | apply below_drew1) | exact HB.out))); (case aF => exact (fun _ _ => trivial)); (case aO => exact (by (with_reducible repeat (first | apply Kd.R_alloc | apply Kd.R_drewN | apply Kd.R_drew)); exact HO.out)); (case aS => exact (below_size (by repeat (first | (with_reducible first | exact HB.out | apply below_alloc | apply pw_below_drewN | apply below_drew1) | exact HB.out)))); (case aL => exact HLL.out); intro v9 w11 ho hb hg hat; have n0_ := Aside0.mk (hb); have n1_ := Aside0.mk (ho); clear HB; clear HO; have HB := n0_; have HO9 := n1_; clear n0_ n1_; clear ho hb hg hat; obtain ⟨A9, c9, hv9⟩ := Kd.R_slice HO9.out; subst hv9; have HC9 := Aside0.mk (Kd.R_reads' HO9.out).2.2; go_loud (have h1_ : (ws ++ [((L : Int), sealS magic0)]).length = ws.length + 1 := (by simp); rw [h1_] at HC9; clear h1_)) | (go_at_call 85; go_loud ((with_reducible refine (WA.out A9 c9 _ HC9.out HB.out).mono ?_); rintro e w10 ⟨v10, rfl, ho, hb⟩; have HO10 := Aside0.mk (Kd.R_lower ho HB.out.size); have n1_ : Aside0 (Below w.heap.size w w10) := ⟨below_step (by repeat (first | (with_reducible first | exact HB.out | apply below_alloc | apply pw_below_drewN | apply below_drew1) | exact HB.out)) hb⟩; clear HB; have HB := n1_; clear n1_; clear ho hb)))


    go_ret
    exact ⟨_, rfl, HO10.out, HB.out⟩
end Go.Proofs.Ytdkbhbolkieeiaa.K
namespace Go.Proofs.Ytdkbhbolkieeiaa.K
open Go.RowKit Go.Proofs.YtdkbhbolkieeiaaW.PrintWords Go.Proofs.YtdkbhbolkieeiaaW.PrintLast Go.Proofs.YtdkbhbolkieeiaaW.PrintMore
set_option linter.unusedVariables false
set_option linter.unusedSimpArgs false
/-- A disk whose numbers are small. -/
structure Fine (s : DiskS) (B : Nat) : Prop where
  hn : s.now.length = s.safe.length
  l0 : -1 ≤ s.left
  l1 : s.left ≤ 9223372036854775807
  hw : s.wait.length ≤ B
  w0 : 0 ≤ s.wr
  w1 : s.wr ≤ B
  f0 : 0 ≤ s.fl
  f1 : s.fl ≤ B
  at_ : ∀ q ∈ s.wait, 0 ≤ q.at_ ∧ q.at_ < s.safe.length
theorem burnS_left {s : DiskS} (h0 : -1 ≤ s.left) (h1 : s.left ≤ 9223372036854775807) : -1 ≤ (burnS s).left ∧ (burnS s).left ≤ 9223372036854775807 := by
  unfold burnS
  split
  · exact ⟨h0, h1⟩
  · split
    · exact ⟨h0, h1⟩
    · simp only; omega
theorem Fine.mono {s : DiskS} {B C : Nat} (h : Fine s B) (hb : B ≤ C) : Fine s C := ⟨h.hn, h.l0, h.l1, Nat.le_trans h.hw hb, h.w0, by have := h.w1; omega, h.f0, by have := h.f1; omega, h.at_⟩
theorem Fine.burn {s : DiskS} {B : Nat} (h : Fine s B) : Fine (burnS s) B :=
  ⟨by rw [burnS_now, burnS_safe]; exact h.hn, (burnS_left h.l0 h.l1).1, (burnS_left h.l0 h.l1).2, by rw [burnS_wait]; exact h.hw, by rw [burnS_wr]; exact h.w0, by rw [burnS_wr]; exact h.w1, by rw [burnS_fl]; exact h.f0, by rw [burnS_fl]; exact h.f1, by rw [burnS_wait, burnS_safe]; exact h.at_⟩
theorem Fine.write {s : DiskS} {B : Nat} (h : Fine s B) (i : Int) (b : List Int) : Fine (writeS s i b) (B + 1) := by
  unfold writeS
  split
  · exact h.mono (by omega)
  · rename_i hat
    split
    · exact h.mono (by omega)
    · split
      · exact h.burn.mono (by omega)
      · have hi : 0 ≤ i ∧ i < s.safe.length := by
          unfold atE at hat
          split at hat
          · assumption
          · exact absurd (by decide) hat
        refine ⟨by simp only [List.length_set]; rw [burnS_safe]; exact h.hn, (burnS_left h.l0 h.l1).1, (burnS_left h.l0 h.l1).2, by simp only [List.length_append, List.length_cons, List.length_nil]; have := h.hw; omega, by have := h.w0; simp only; omega, by have := h.w1; simp only; omega, by simp only; rw [burnS_fl]; exact h.f0, by simp only; rw [burnS_fl]; have := h.f1; omega, fun q hq => ?_⟩
        simp only at hq ⊢
        rw [burnS_safe]
        rcases List.mem_append.1 hq with h1 | h1
        · exact h.at_ q h1
        · simp only [List.mem_singleton] at h1
          subst h1
          exact hi
theorem Fine.flush {s : DiskS} {B : Nat} (h : Fine s B) : Fine (flushS s) (B + 1) := by
  unfold flushS
  split
  · exact h.burn.mono (by omega)
  · exact ⟨by simp only; rw [burnS_now], (burnS_left h.l0 h.l1).1, (burnS_left h.l0 h.l1).2, by simp, by simp only; rw [burnS_wr]; exact h.w0, by simp only; rw [burnS_wr]; have := h.w1; omega, by have := h.f0; simp only; omega, by have := h.f1; simp only; omega, fun q hq => by simp at hq⟩
/-- Writes, one behind the other, till one fails. -/
def writesS : DiskS → List PW → DiskS × Int
  | s, [] => (s, 0)
  | s, x :: ws => if writeE s x.1 x.2 ≠ 0 then (writeS s x.1 x.2, writeE s x.1 x.2) else writesS (writeS s x.1 x.2) ws
theorem writesS_append : ∀ (a : List PW) (s : DiskS) (b : List PW), writesS s (a ++ b) = if (writesS s a).2 ≠ 0 then writesS s a else writesS (writesS s a).1 b
  | [], s, b => by simp [writesS]
  | x :: a, s, b => by
    rw [List.cons_append, writesS, writesS]
    split
    · first | rfl | (rename_i h; rw [if_pos h])
    · exact writesS_append a _ b
theorem Fine.writes : ∀ (ws : List PW) {s : DiskS} {B : Nat}, Fine s B → Fine (writesS s ws).1 (B + ws.length)
  | [], s, B, h => h
  | x :: ws, s, B, h => by
    rw [writesS]
    split
    · exact (h.write _ _).mono (by simp only [List.length_cons]; omega)
    · exact (Fine.writes ws (h.write x.1 x.2)).mono (by simp only [List.length_cons]; omega)
def finishS (s : DiskS) (L : Int) (ws : List PW) : DiskS × Int :=
  if (writesS s ws).2 ≠ 0 then writesS s ws
  else if burnE (writesS s ws).1 ≠ 0 then (flushS (writesS s ws).1, burnE (writesS s ws).1)
  else if writeE (flushS (writesS s ws).1) L (sealS magic0) ≠ 0 then (writeS (flushS (writesS s ws).1) L (sealS magic0), writeE (flushS (writesS s ws).1) L (sealS magic0))
  else (flushS (writeS (flushS (writesS s ws).1) L (sealS magic0)), burnE (writeS (flushS (writesS s ws).1) L (sealS magic0)))
/-- A row of one's own of another type stays as it is. -/
theorem R_frame {α : Type} {d : Kd α} {e base b0 : Nat} {W W' : World} {ok : Nat → Prop} {v : Value} {xs : List α} (h : Kd.R d e W b0 ok v xs) (hd : ∀ q, q ∈ e :: d.E → ¬ DT q) (hf : DFrame base W W') : Kd.R d e W' b0 ok v xs :=
  Kd.R_mono (Kd.R_step (Kd.R_bound h) (fun k hk _ => by
    obtain ⟨_, _, _, q, hq, cells, hc⟩ := hk
    rw [hc]
    exact hf.keep k cells q (0, 0) hc (hd q hq))) (fun _ hk => hk.1)
theorem keeps_R {base b0 : Nat} {W : World} {ok : Nat → Prop} {A : Option Addr} {n c : Nat} {l : List Int} (h : Kd.R (Kd.int .u8) 5 W b0 ok (.slice A n c) l) : KeepsC base W A l := fun W' hf => by
  have h1 := Kd.R_reads' (R_frame h (fun q hq => by
    have hq' : q ∈ [5] := hq
    simp only [List.mem_singleton] at hq'
    subst hq'; decide) hf)
  exact h1.2.2
def KeepsW (base : Nat) (W : World) (A : Option Addr) (ws : List PW) : Prop := ∀ W', DFrame base W W' → Kd.C kWP W' A ws.length ws
theorem keepsW_R {base b0 : Nat} {W : World} {ok : Nat → Prop} {A : Option Addr} {n c : Nat} {ws : List PW} (h : Kd.R kWP 82 W b0 ok (.slice A n c) ws) : KeepsW base W A ws := fun W' hf => by
  have h1 := Kd.R_reads' (R_frame h (fun q hq => by
    have hq' : q ∈ [82, 5] := hq
    simp only [List.mem_cons, List.not_mem_nil, or_false] at hq'
    rcases hq' with rfl | rfl <;> decide) hf)
  exact h1.2.2
end Go.Proofs.Ytdkbhbolkieeiaa.K
namespace Go.Proofs.Ytdkbhbolkieeiaa.K
open Go.RowKit Go.Proofs.YtdkbhbolkieeiaaW.PrintWords Go.Proofs.YtdkbhbolkieeiaaW.PrintLast Go.Proofs.YtdkbhbolkieeiaaW.PrintMore
set_option linter.unusedVariables false
set_option linter.unusedSimpArgs false
theorem devWriteD (base p : Nat) (s : DiskS) (vs vn : Value) (i : Int) (c n : Nat) (b : List Int) (hf : Fine s 900000) (hn : n = b.length) :
    ∀ W A vw, KeepsC base W A b → DiskR W base p s vs vn vw → Calls Try.prog 115 #[.pointer (some ⟨p, 0, none⟩), .int .i64 i, .slice A n c] W fun e w' => e = .returned (.int .i64 (writeE s i b)) ∧ (∃ vw', DiskR w' base p (writeS s i b) vs vn vw') ∧ DFrame base W w' := fun W A vw hb h => by
  subst hn
  exact devWrite_walk base p s vs vn vw i A c b W h hf.hn hb hf.l0 hf.l1 (by have := hf.hw; omega) hf.w0 (by have := hf.w1; omega)
theorem devFlushD (base p : Nat) (s : DiskS) (vs vn : Value) (hf : Fine s 900000) :
    ∀ W vw, DiskR W base p s vs vn vw → Calls Try.prog 116 #[.pointer (some ⟨p, 0, none⟩)] W fun e w' => e = .returned (.int .i64 (burnE s)) ∧ (∃ vw', DiskR w' base p (flushS s) vs vn vw') ∧ DFrame base W w' := fun W vw h => devFlush_walk base p s vs vn vw W h hf.hn hf.l0 hf.l1 hf.f0 (by have := hf.f1; omega)
/-- Writes of one's own, that a disk's calls leave as they are, with the rows that they have. -/
def KeepsY (base : Nat) (W : World) (A : Option Addr) (ys : List Wr) : Prop := ∀ W', DFrame base W W' → Kd.C kWr W' A ys.length ys
theorem add_block (a : Addr) (i : Nat) : (a.add i).block = a.block := by unfold Addr.add; split <;> rfl
theorem keepsY_R {base b0 : Nat} {W : World} {ok : Nat → Prop} {A : Option Addr} {n c : Nat} {ws : List PW} (h : Kd.R kWP 82 W b0 ok (.slice A n c) ws) : ∃ ys : List Wr, ys.map wrP = ws ∧ KeepsY base W A ys := by
  have hE : ∀ q, q ∈ 82 :: Kd.E kWP → ¬ DT q := fun q hq => by
    have hq' : q ∈ [82, 5] := hq
    simp only [List.mem_cons, List.not_mem_nil, or_false] at hq'
    rcases hq' with rfl | rfl <;> decide
  obtain ⟨ys, hy, hm⟩ := turnP (Kd.R_reads' h).2.2
  have hyl : ws.length = ys.length := by rw [← hm, List.length_map]
  refine ⟨ys, hm, fun W' hf => ?_⟩
  obtain ⟨ys', hy', hm'⟩ := turnP (Kd.R_reads' (R_frame h hE hf)).2.2
  have hyl' : ws.length = ys'.length := by rw [← hm', List.length_map]
  have hbl : ∀ ad, A = some ad → W'.heap[ad.block]? = W.heap[ad.block]? := fun ad e => by
    obtain ⟨_, _, _, q, hq, cells, hc⟩ := (Kd.R_bound h).1 ad.block (by rw [e]; rfl)
    rw [hc]
    exact hf.keep _ cells q (0, 0) hc (hE q hq)
  have : ys' = ys := List.ext_getElem (by omega) fun j h1 h2 => by
    obtain ⟨ad, he, _, hxs⟩ := at_wrA hy h2
    obtain ⟨ad', he', _, hxs'⟩ := at_wrA hy' h1
    have : ad' = ad := Option.some.inj (he'.symm.trans he)
    subst this
    have c1 := hxs 0 (.slice ys[j].s.A ys[j].s.l.length ys[j].s.c) rfl
    have c2 := hxs' 0 (.slice ys'[j].s.A ys'[j].s.l.length ys'[j].s.c) rfl
    rw [World.cell?_of_block (by show W'.heap[(ad'.add (j * 2)).block]? = W.heap[(ad'.add (j * 2)).block]?; rw [add_block]; exact hbl _ he), c1] at c2
    have c3 := Value.slice.inj (Option.some.inj c2)
    have p1 : wrP ys'[j] = wrP ys[j] := by
      have : (ys'.map wrP)[j]'(by simpa using h1) = (ys.map wrP)[j]'(by simpa using h2) := by simp only [hm, hm']
      simpa using this
    have p2 := Prod.mk.inj p1
    generalize ys'[j] = x at c3 p2
    generalize ys[j] = y at c3 p2
    obtain ⟨xa, xA, xc, xl⟩ := x
    obtain ⟨ya, yA, yc, yl⟩ := y
    simp only at c3 p2
    obtain ⟨rfl, _, rfl⟩ := c3
    obtain ⟨rfl, rfl⟩ := p2
    rfl
  rw [this] at hy'
  rw [← hyl]
  exact hy'
theorem KeepsY.bytes {base : Nat} {W : World} {A : Option Addr} {ys : List Wr} (h : KeepsY base W A ys) {m : Nat} (hm : m < ys.length) : KeepsC base W ys[m].s.A ys[m].s.l := fun W' hf => (at_wr (h W' hf) hm).choose_spec.2.2.1
theorem KeepsY.step {base : Nat} {W W' : World} {A : Option Addr} {ys : List Wr} (h : KeepsY base W A ys) (k : DFrame base W W') : KeepsY base W' A ys := fun W2 q => h W2 (k.trans q)
theorem writesS_one (s : DiskS) (x : PW) : writesS s [x] = (writeS s x.1 x.2, writeE s x.1 x.2) := by
  rw [writesS]
  split
  · rfl
  · rename_i hh
    have : writeE s x.1 x.2 = 0 := by simpa using hh
    rw [this]
    rfl
theorem writesS_take {s : DiskS} {ws : List PW} {m : Nat} (h : m < ws.length) (h0 : (writesS s (ws.take m)).2 = 0) :
    writesS s (ws.take (m + 1)) = (writeS (writesS s (ws.take m)).1 ws[m].1 ws[m].2, writeE (writesS s (ws.take m)).1 ws[m].1 ws[m].2) ∧
    (writeE (writesS s (ws.take m)).1 ws[m].1 ws[m].2 ≠ 0 → writesS s ws = (writeS (writesS s (ws.take m)).1 ws[m].1 ws[m].2, writeE (writesS s (ws.take m)).1 ws[m].1 ws[m].2)) := by
  have e1 : writesS s (ws.take (m + 1)) = (writeS (writesS s (ws.take m)).1 ws[m].1 ws[m].2, writeE (writesS s (ws.take m)).1 ws[m].1 ws[m].2) := by
    rw [List.take_add_one, List.getElem?_eq_getElem h, Option.toList_some, writesS_append, if_neg (by simp [h0])]
    exact writesS_one _ _
  refine ⟨e1, fun hne => ?_⟩
  have e3 := writesS_append (ws.take (m + 1)) s (ws.drop (m + 1))
  rw [List.take_append_drop, e1, if_pos (by exact hne)] at e3
  exact e3
/-- A scope out of which the run jumps ahead to one label. -/
theorem wp_scope_once {P : Program} {a : Act} {w : World} {Q : Exit → Act → World → Prop} {c rest : Code} (l : Nat) (hf : findLabel c l = some rest) (hQ : ∀ l' a w, ¬ Q (.goto l') a w)
    (first : ∀ J : Act → World → Prop, (∀ a w, rest.wp P Q a w → J a w) → c.wp P (Exit.jump l J Q) a w) : (Code.scope c).wp P Q a w :=
  wp_scope_jumps l (fun a w => rest.wp P Q a w) (fun _ _ => 0) hf (first _ (fun _ _ h => h)) (fun a w h => wp_mono h (fun e a w hq => by
    cases e with
    | goto l' => exact absurd hq (hQ l' a w)
    | _ => exact hq))
theorem jump_ret {l : Nat} {J : Act → World → Prop} {Q : Exit → Act → World → Prop} {a : Act} {w : World} : Exit.jump l J Q .ret a w = Q .ret a w := rfl
set_option maxHeartbeats 4000000 in
set_option maxRecDepth 100000 in
theorem finish_walk (base p : Nat) (s : DiskS) (vs vn vw : Value) (a b d h : Int) (L : Int) (Al : Option Addr) (cl : Nat) (ys : List Wr) (w : World) (hD : DiskR w base p s vs vn vw) (hf : Fine s 700000) (hw : KeepsY base w Al ys) (hwl : ys.length ≤ 1000) (hL : ∀ W, Calls Try.prog 71 #[.agg #[.int .i64 a, .int .i64 b, .int .i64 d, .int .i64 h]] W fun e w' => e = .returned (.int .i64 L) ∧ Below W.heap.size W w') :
    Calls Try.prog 87 #[.pointer (some ⟨p, 0, none⟩), .agg #[.int .i64 a, .int .i64 b, .int .i64 d, .int .i64 h], .slice Al ys.length cl] w fun e w' => e = .returned (.int .i64 (finishS s L (ys.map wrP)).2) ∧ (∃ vw', DiskR w' base p (finishS s L (ys.map wrP)).1 vs vn vw') ∧ DFrame base w w' := by
  have HS : Aside0 (base ≤ w.heap.size) := ⟨hD.size⟩
  have HW := Aside0.mk hw
  have HF := Aside0.mk hf
  have WL := Aside0.mk hL
  have WE := Aside0.mk journalEmpty_walk
  obtain ⟨ws, hws⟩ : ∃ ws, ws = ys.map wrP := ⟨_, rfl⟩
  obtain ⟨n, hn⟩ : ∃ n, n = ys.length := ⟨_, rfl⟩
  have HN := Aside0.mk hn
  have HNW : Aside0 (ws.length = n) := ⟨by rw [hws, hn, List.length_map]⟩
  have HWS := Aside0.mk hws
  have HNL : Aside0 (n ≤ 1000) := ⟨by omega⟩
  have hn1 : n ≤ 1000 := by omega
  have D0 : Aside0 (DiskR (w.alloc (.cells #[.int .i64 a, .int .i64 b, .int .i64 d, .int .i64 h] 38)) base p (writesS s (ws.take 0)).1 vs vn vw) := ⟨hD.below (below_alloc (Below.refl _ _) _)⟩
  have F0 : Aside0 (DFrame base w (w.alloc (.cells #[.int .i64 a, .int .i64 b, .int .i64 d, .int .i64 h] 38))) := ⟨DFrame.of_below hD.size (below_alloc (Below.refl _ _) _)⟩
  rw [← hn, ← hws]
  clear hD hf hw hwl hL hn hws
  go_enter Try.func87, Try.ntmps87
  go_wp2
  refine wp_scope_once 0 rfl (fun _ _ _ h => h) (fun J hJ => ?_)
  have HJ := Aside0.mk hJ
  clear hJ
  go_wp2
  go_loopw [6, 11] (fun v6 v11 w' => ∃ (m : Nat) (vw' : Value), v11 = .int .i64 m ∧ v6 = .int .i64 0 ∧ Aside0 (m ≤ n) ∧ Aside0 ((writesS s (ws.take m)).2 = 0) ∧ Aside0 (DiskR w' base p (writesS s (ws.take m)).1 vs vn vw') ∧ Aside0 (w'.heap[w.heap.size]? = some (.cells #[.int .i64 a, .int .i64 b, .int .i64 d, .int .i64 h] 38 (0, 0))) ∧ Aside0 (DFrame base w w')) (fun _ i _ => n - (intOf i).toNat)
  case atStart => exact ⟨0, vw, rfl, rfl, ⟨Nat.zero_le _⟩, ⟨rfl⟩, D0, ⟨heap_alloc_new _ _⟩, F0⟩
  case round =>
    clear D0 F0
    obtain ⟨m, vw', rfl, rfl, hm, H0, HD, BG, FR⟩ := hrel
    have hm' := hm.out
    by_cases hlt : m < n
    · have hmy : m < ys.length := by rw [← HN.out]; exact hlt
      have hml : m < ws.length := by rw [HNW.out]; exact hlt
      obtain ⟨ad, rfl, hx, hxs⟩ := at_wrA (HW.out _ FR.out) hmy
      have HT := Aside0.mk (writesS_take hml H0.out)
      have HFm : Aside0 (Fine (writesS s (ws.take m)).1 900000) := ⟨(HF.out.writes (ws.take m)).mono (by rw [List.length_take]; have := HNL.out; have := HNW.out; omega)⟩
      have HKC := Aside0.mk (HW.out.bytes hmy)
      have hxw : ws[m] = wrP ys[m] := by simp only [HWS.out, List.getElem_map]
      rw [hxw] at HT
      obtain ⟨x, hxx⟩ : ∃ x, x = ys[m] := ⟨_, rfl⟩
      rw [← hxx] at hx hxs HKC HT
      obtain ⟨xl, hxl⟩ : ∃ xl, xl = x.s.l := ⟨_, rfl⟩
      obtain ⟨xa, hxa⟩ : ∃ xa, xa = x.at_ := ⟨_, rfl⟩
      obtain ⟨xA, hxA⟩ : ∃ xA, xA = x.s.A := ⟨_, rfl⟩
      obtain ⟨xc, hxc⟩ : ∃ xA, xA = x.s.c := ⟨_, rfl⟩
      obtain ⟨xn, hxn⟩ : ∃ xn, xn = xl.length := ⟨_, rfl⟩
      have x0 := hx _ rfl
      have x1 := hxs 0 (.slice x.s.A x.s.l.length x.s.c) rfl
      have ET : wrP x = (xa, xl) := by rw [hxa, hxl]
      rw [← hxl, ← hxA] at HKC
      rw [← hxl, ← hxA, ← hxc, ← hxn] at x1
      rw [← hxa] at x0
      rw [ET] at HT
      obtain ⟨sm, hsm⟩ : ∃ sm, sm = (writesS s (ws.take m)).1 := ⟨_, rfl⟩
      rw [← hsm] at HT HFm HD
      have WW := Aside0.mk (devWriteD base p sm vs vn xa xc xn xl HFm.out hxn)
      obtain ⟨E, hE⟩ : ∃ E, E = writeE sm xa xl := ⟨_, rfl⟩
      simp only at HT
      rw [← hE] at HT WW
      clear hx hxs hxx hmy hml hxl hxa hxA hxc hxn ET hxw hE
      have HSM := Aside0.mk hsm
      clear hsm
      by_cases h0 : E = 0
      · subst h0
        go_wp2_with (first | ((with_reducible refine gate_store (p := 8) rfl ?_); go_loud (refine wpList_store_newL (w0 := wr) rfl rfl 82 (.tmp 8) (.tmp 14) rfl #[.int .i64 xa, .slice xA xn xc] 82 #[.int .i64 0, .slice none 0 0] rfl (by rfl) (by rfl) (by kernel_rfl) rfl (by simp [Value.oneCell']) ?_; intro w6 bk_ hb; have BK6 := Aside0.mk bk_; clear bk_; have HB6 := Aside0.mk hb; have BG6 := Aside0.mk (blk_below BG.out hb); have D6 := Aside0.mk (HD.out.below hb); have F6 := Aside0.mk (FR.out.trans (DFrame.of_below HD.out.size hb)); have q0 : w6.cell? ⟨wr.heap.size, 0, none⟩ = some (.int .i64 xa) := (blk_cell BK6.out 0).trans rfl; have q1 : w6.cell? ⟨wr.heap.size, 1, none⟩ = some (.slice xA xn xc) := (blk_cell BK6.out 1).trans rfl; clear hb)) | (go_at_call 115; go_loud ((with_reducible refine (WW.out _ _ _ (HKC.out.step F6.out) D6.out).mono ?_); rintro e w7 ⟨rfl, ⟨vw7, d_⟩, f_⟩; have D7 := Aside0.mk d_; have F7 := Aside0.mk (F6.out.trans f_); have BG7 := Aside0.mk (f_.keep _ _ _ _ BG6.out (by decide)); clear d_ f_)))
        exact ⟨⟨m + 1, vw7, rfl, rfl, ⟨by omega⟩, ⟨by rw [HT.out.1]⟩, ⟨by rw [HT.out.1]; exact D7.out⟩, BG7, F7⟩, by simp [intOf]; omega⟩
      · have hi : (E == 0) = false := by simpa using h0
        have EF : Aside0 (finishS s L ws = (writeS sm xa xl, E)) := ⟨by
          have h1 := HT.out.2 h0
          unfold finishS
          rw [h1, if_pos (by exact h0)]⟩
        go_wp2_with (first | ((with_reducible refine gate_store (p := 8) rfl ?_); go_loud (refine wpList_store_newL (w0 := wr) rfl rfl 82 (.tmp 8) (.tmp 14) rfl #[.int .i64 xa, .slice xA xn xc] 82 #[.int .i64 0, .slice none 0 0] rfl (by rfl) (by rfl) (by kernel_rfl) rfl (by simp [Value.oneCell']) ?_; intro w6 bk_ hb; have BK6 := Aside0.mk bk_; clear bk_; have HB6 := Aside0.mk hb; have BG6 := Aside0.mk (blk_below BG.out hb); have D6 := Aside0.mk (HD.out.below hb); have F6 := Aside0.mk (FR.out.trans (DFrame.of_below HD.out.size hb)); have q0 : w6.cell? ⟨wr.heap.size, 0, none⟩ = some (.int .i64 xa) := (blk_cell BK6.out 0).trans rfl; have q1 : w6.cell? ⟨wr.heap.size, 1, none⟩ = some (.slice xA xn xc) := (blk_cell BK6.out 1).trans rfl; clear hb)) | (go_at_call 115; go_loud ((with_reducible refine (WW.out _ _ _ (HKC.out.step F6.out) D6.out).mono ?_); rintro e w7 ⟨rfl, ⟨vw7, d_⟩, f_⟩; have D7 := Aside0.mk d_; have F7 := Aside0.mk (F6.out.trans f_); have BG7 := Aside0.mk (f_.keep _ _ _ _ BG6.out (by decide)); clear d_ f_)))
        go_step3
        refine ⟨rfl, HJ.out _ _ ?_⟩
        go_wp2
        go_ret
        exact ⟨by rw [EF.out]; rfl, ⟨vw7, by rw [EF.out]; exact D7.out⟩, F7.out⟩
    · have hmn : m = n := by omega
      subst hmn
      have e0 : ws.take m = ws := List.take_of_length_le (by rw [HNW.out]; exact Nat.le_refl _)
      rw [e0] at H0 HD
      have HF1 := Aside0.mk ((HF.out.writes ws).mono (show 700000 + ws.length ≤ 800000 by have := HNW.out; have := HNL.out; omega))
      obtain ⟨sm, hsm⟩ : ∃ sm, sm = (writesS s ws).1 := ⟨_, rfl⟩
      have EF : Aside0 (finishS s L ws = if burnE sm ≠ 0 then (flushS sm, burnE sm) else if writeE (flushS sm) L (sealS magic0) ≠ 0 then (writeS (flushS sm) L (sealS magic0), writeE (flushS sm) L (sealS magic0)) else (flushS (writeS (flushS sm) L (sealS magic0)), burnE (writeS (flushS sm) L (sealS magic0)))) := ⟨by
        unfold finishS
        rw [if_neg (by simp [H0.out]), hsm]⟩
      rw [← hsm] at HD HF1
      have HF2 := Aside0.mk (HF1.out.flush)
      have HF3 := Aside0.mk ((HF2.out).write L (sealS magic0))
      have WF := Aside0.mk (devFlushD base p sm vs vn (HF1.out.mono (by omega)))
      obtain ⟨E1, hE1⟩ : ∃ E, E = burnE sm := ⟨_, rfl⟩
      rw [← hE1] at WF EF
      obtain ⟨s2, hs2⟩ : ∃ s, s = flushS sm := ⟨_, rfl⟩
      rw [← hs2] at WF EF HF2 HF3
      have WX := Aside0.mk (fun c => devWriteD base p s2 vs vn L c 64 (sealS magic0) (HF2.out.mono (by omega)) (sealS_length _).symm)
      obtain ⟨E2, hE2⟩ : ∃ E, E = writeE s2 L (sealS magic0) := ⟨_, rfl⟩
      obtain ⟨s3, hs3⟩ : ∃ s, s = writeS s2 L (sealS magic0) := ⟨_, rfl⟩
      rw [← hE2, ← hs3] at WX EF
      rw [← hs3] at HF3
      have WG := Aside0.mk (devFlushD base p s3 vs vn (HF3.out.mono (by omega)))
      clear e0 hsm hE1 hs2 hE2 hs3 H0 hm' hlt
      by_cases h1 : E1 = 0
      case neg =>
        have hi : (E1 == 0) = false := by simpa using h1
        rw [if_pos h1] at EF
        go_wp2_with (go_at_call 116; go_loud ((with_reducible refine (WF.out _ _ HD.out).mono ?_); rintro e w8 ⟨rfl, ⟨vw8, d_⟩, f_⟩; have D8 := Aside0.mk d_; have F8 := Aside0.mk (FR.out.trans f_); have BG8 := Aside0.mk (f_.keep _ _ _ _ BG.out (by decide)); clear d_ f_ ))
        go_step3
        refine ⟨rfl, HJ.out _ _ ?_⟩
        go_wp2
        go_ret
        exact ⟨by rw [EF.out]; rfl, ⟨vw8, by rw [EF.out]; exact D8.out⟩, F8.out⟩
      subst h1
      rw [if_neg (by decide)] at EF
      by_cases h2 : E2 = 0
      case neg =>
        have hi : (E2 == 0) = false := by simpa using h2
        rw [if_pos h2] at EF
        go_wp2_with (first | (go_at_call 116; go_loud ((with_reducible refine (WF.out _ _ HD.out).mono ?_); rintro e w8 ⟨rfl, ⟨vw8, d_⟩, f_⟩; have D8 := Aside0.mk d_; have F8 := Aside0.mk (FR.out.trans f_); have BG8 := Aside0.mk (f_.keep _ _ _ _ BG.out (by decide)); clear d_ f_ HD; have k0 : w8.cell? ⟨w.heap.size, 0, none⟩ = some (.int .i64 a) := (blk_cell BG8.out 0).trans rfl; have k1 : w8.cell? ⟨w.heap.size, 1, none⟩ = some (.int .i64 b) := (blk_cell BG8.out 1).trans rfl; have k2 : w8.cell? ⟨w.heap.size, 2, none⟩ = some (.int .i64 d) := (blk_cell BG8.out 2).trans rfl; have k3 : w8.cell? ⟨w.heap.size, 3, none⟩ = some (.int .i64 h) := (blk_cell BG8.out 3).trans rfl)) | (go_at_call 71; go_loud ((with_reducible refine (WL.out _).mono ?_); rintro e w9 ⟨rfl, hb⟩; have D9 := Aside0.mk (D8.out.below hb); have F9 := Aside0.mk (F8.out.trans (DFrame.of_below D8.out.size hb)); have BG9 := Aside0.mk (blk_below BG8.out hb); clear hb)) | (go_at_call 29; go_loud ((with_reducible refine (WE.out _).mono ?_); rintro e w10 ⟨v10, rfl, ho, hb⟩; have D10 := Aside0.mk (D9.out.below hb); have F10 := Aside0.mk (F9.out.trans (DFrame.of_below D9.out.size hb)); have BG10 := Aside0.mk (blk_below BG9.out hb); obtain ⟨A10, c10, hv10⟩ := Kd.R_slice ho; subst hv10; have HE10 := Aside0.mk (keeps_R (base := base) ho); rw [show (sealS magic0).length = 64 from sealS_length _]; clear ho hb)) | (go_at_call 115; go_loud ((with_reducible refine (WX.out _ _ _ _ HE10.out D10.out).mono ?_); rintro e w11 ⟨rfl, ⟨vw11, d_⟩, f_⟩; have D11 := Aside0.mk d_; have F11 := Aside0.mk (F10.out.trans f_); have BG11 := Aside0.mk (f_.keep _ _ _ _ BG10.out (by decide)); clear d_ f_)))
        go_step3
        refine ⟨rfl, HJ.out _ _ ?_⟩
        go_wp2
        go_ret
        exact ⟨by rw [EF.out]; rfl, ⟨vw11, by rw [EF.out]; exact D11.out⟩, F11.out⟩
      subst h2
      rw [if_neg (by decide)] at EF
      go_wp2_with (first | (go_at_call 116; go_loud ((with_reducible refine (WF.out _ _ HD.out).mono ?_); rintro e w8 ⟨rfl, ⟨vw8, d_⟩, f_⟩; have D8 := Aside0.mk d_; have F8 := Aside0.mk (FR.out.trans f_); have BG8 := Aside0.mk (f_.keep _ _ _ _ BG.out (by decide)); clear d_ f_ HD; have k0 : w8.cell? ⟨w.heap.size, 0, none⟩ = some (.int .i64 a) := (blk_cell BG8.out 0).trans rfl; have k1 : w8.cell? ⟨w.heap.size, 1, none⟩ = some (.int .i64 b) := (blk_cell BG8.out 1).trans rfl; have k2 : w8.cell? ⟨w.heap.size, 2, none⟩ = some (.int .i64 d) := (blk_cell BG8.out 2).trans rfl; have k3 : w8.cell? ⟨w.heap.size, 3, none⟩ = some (.int .i64 h) := (blk_cell BG8.out 3).trans rfl)) | (go_at_call 71; go_loud ((with_reducible refine (WL.out _).mono ?_); rintro e w9 ⟨rfl, hb⟩; have D9 := Aside0.mk (D8.out.below hb); have F9 := Aside0.mk (F8.out.trans (DFrame.of_below D8.out.size hb)); have BG9 := Aside0.mk (blk_below BG8.out hb); clear hb)) | (go_at_call 29; go_loud ((with_reducible refine (WE.out _).mono ?_); rintro e w10 ⟨v10, rfl, ho, hb⟩; have D10 := Aside0.mk (D9.out.below hb); have F10 := Aside0.mk (F9.out.trans (DFrame.of_below D9.out.size hb)); have BG10 := Aside0.mk (blk_below BG9.out hb); obtain ⟨A10, c10, hv10⟩ := Kd.R_slice ho; subst hv10; have HE10 := Aside0.mk (keeps_R (base := base) ho); rw [show (sealS magic0).length = 64 from sealS_length _]; clear ho hb)) | (go_at_call 115; go_loud ((with_reducible refine (WX.out _ _ _ _ HE10.out D10.out).mono ?_); rintro e w11 ⟨rfl, ⟨vw11, d_⟩, f_⟩; have D11 := Aside0.mk d_; have F11 := Aside0.mk (F10.out.trans f_); have BG11 := Aside0.mk (f_.keep _ _ _ _ BG10.out (by decide)); clear d_ f_)) | (go_at_call 116; go_loud ((with_reducible refine (WG.out _ _ D11.out).mono ?_); rintro e w12 ⟨rfl, ⟨vw12, d_⟩, f_⟩; have D12 := Aside0.mk d_; have F12 := Aside0.mk (F11.out.trans f_); have BG12 := Aside0.mk (f_.keep _ _ _ _ BG11.out (by decide)); clear d_ f_ )))
      rw [jump_ret]
      go_ret
      exact ⟨by rw [EF.out]; rfl, ⟨vw12, by rw [EF.out]; exact D12.out⟩, F12.out⟩
end Go.Proofs.Ytdkbhbolkieeiaa.K
namespace Go.Proofs.Ytdkbhbolkieeiaa.K
open Go.RowKit Go.Proofs.YtdkbhbolkieeiaaW.PrintWords Go.Proofs.YtdkbhbolkieeiaaW.PrintLast Go.Proofs.YtdkbhbolkieeiaaW.PrintMore
set_option linter.unusedVariables false
set_option linter.unusedSimpArgs false
/-- A disk behind what its log has, whether it had anything, and the error. -/
def recS (s : DiskS) : DiskS × Bool × Int :=
  if imgE s ≠ 0 then (s, false, imgE s)
  else if (geoG (flatN s.now)).2 ≠ 0 then (s, false, (geoG (flatN s.now)).2)
  else if (readJ (flatN s.now)).2 = false then (s, false, 0)
  else ((finishS s (logN (flatN s.now)) (readJ (flatN s.now)).1).1, decide ((finishS s (logN (flatN s.now)) (readJ (flatN s.now)).1).2 = 0), (finishS s (logN (flatN s.now)) (readJ (flatN s.now)).1).2)
set_option maxRecDepth 100000 in
theorem recover_nil (w : World) : Calls Try.prog 45 #[.pointer none] w fun e w' => e = .returned (.tuple #[.bool false, .int .i64 7]) ∧ Below w.heap.size w w' := by
  go_enter Try.func45, Try.ntmps45
  go_wp2_with (go_at_call 83; (with_reducible refine (image_nil _).mono ?_); rintro e w1 ⟨rfl, h_⟩; subst w1)
  go_ret2
  exact ⟨rfl, Below.refl _ _⟩
set_option maxHeartbeats 4000000 in
set_option maxRecDepth 100000 in
theorem recover_walk (base p : Nat) (s : DiskS) (vs vn vw : Value) (w : World) (hD : DiskR w base p s vs vn vw) (hf : Fine s 700000) (hl : s.now.length ≤ 100000) (hb : Byts (flatN s.now)) :
    Calls Try.prog 45 #[.pointer (some ⟨p, 0, none⟩)] w fun e w' => e = .returned (.tuple #[.bool (recS s).2.1, .int .i64 (recS s).2.2]) ∧ (∃ vw', DiskR w' base p (recS s).1 vs vn vw') ∧ DFrame base w w' := by
  have HD := Aside0.mk hD
  have HF := Aside0.mk hf
  have WI := Aside0.mk (image_walk base p s vs vn vw w hD hf.hn (by omega))
  have hll : (flatN s.now).length ≤ 6400000 := by rw [flatN_length]; omega
  have HB := Aside0.mk (Below.refl w.heap.size w)
  by_cases hi : imgE s = 0
  case neg =>
    have ER : Aside0 (recS s = (s, false, imgE s)) := ⟨by unfold recS; rw [if_pos hi]⟩
    obtain ⟨E, hE⟩ : ∃ E, E = imgE s := ⟨_, rfl⟩
    rw [← hE] at WI ER hi
    have hi2 : (E == 0) = false := by simpa using hi
    clear hD hf hl hb hll hE
    go_enter Try.func45, Try.ntmps45
    go_wp2_with (go_at_call 83; go_loud ((with_reducible refine WI.out.mono ?_); rintro e w1 ⟨v1, rfl, ho, hb⟩; have n1_ : Aside0 (Below w.heap.size w w1) := ⟨below_step (by repeat (first | (with_reducible first | exact HB.out | apply below_alloc | apply pw_below_drewN | apply below_drew1) | exact HB.out)) hb⟩; clear HB; have HB := n1_; clear n1_; clear ho hb))
    go_ret2
    exact ⟨by rw [ER.out]; rfl, ⟨vw, by rw [ER.out]; exact HD.out.below HB.out⟩, DFrame.of_below HD.out.size HB.out⟩
  have EV : imgV s = flatN s.now := by unfold imgV; rw [if_pos hi]
  rw [hi, EV] at WI
  have ER : Aside0 (recS s = if (geoG (flatN s.now)).2 ≠ 0 then (s, false, (geoG (flatN s.now)).2)
      else if (readJ (flatN s.now)).2 = false then (s, false, 0)
      else ((finishS s (logN (flatN s.now)) (readJ (flatN s.now)).1).1, decide ((finishS s (logN (flatN s.now)) (readJ (flatN s.now)).1).2 = 0), (finishS s (logN (flatN s.now)) (readJ (flatN s.now)).1).2)) := ⟨by unfold recS; rw [if_neg (by simpa using hi)]⟩
  obtain ⟨l, hl2⟩ : ∃ l, l = flatN s.now := ⟨_, rfl⟩
  rw [← hl2] at WI ER hll hb
  have WG := Aside0.mk (fun A c W (hr : Kd.C (Kd.int .u8) W A l.length l) (hc : l.length ≤ c) => geoGet_walk A c l W hr hc (by omega) hb)
  have WJ := Aside0.mk (fun A c W (hr : Kd.C (Kd.int .u8) W A l.length l) (hc : l.length ≤ c) => jRead_walk A c l W hr hc (by omega) hb)
  by_cases hok : (geoG l).2 = 0
  case neg =>
    have e2 : geoG l = ((0, 0, 0, 0), 2) := by
      unfold geoG at hok ⊢
      split
      · rename_i h; rw [if_pos h] at hok; exact absurd rfl hok
      · rfl
    have E0 : Aside0 (recS s = (s, false, 2)) := ⟨by rw [ER.out, if_pos hok, e2]⟩
    rw [e2] at WG
    simp only at WG
    clear hD hf hl hb hll hi EV ER hl2 WJ hok e2
    go_enter Try.func45, Try.ntmps45
    go_wp2_with (first | (go_at_call 83; go_loud ((with_reducible refine WI.out.mono ?_); rintro e w1 ⟨v1, rfl, ho, hb⟩; obtain ⟨A1, c1, hv1⟩ := Kd.R_slice ho; subst hv1; have HC1 := Aside0.mk (Kd.R_reads' ho).2.2; have HQ1 := Aside0.mk (Kd.R_reads' ho).2.1; have n1_ : Aside0 (Below w.heap.size w w1) := ⟨below_step (by repeat (first | (with_reducible first | exact HB.out | apply below_alloc | apply pw_below_drewN | apply below_drew1) | exact HB.out)) hb⟩; clear HB; have HB := n1_; clear n1_; clear ho hb)) | (go_at_call 38; go_loud ((with_reducible refine (WG.out _ _ _ HC1.out HQ1.out).mono ?_); rintro e w2 ⟨rfl, hb⟩; have n1_ : Aside0 (Below w.heap.size w w2) := ⟨below_step (by repeat (first | (with_reducible first | exact HB.out | apply below_alloc | apply pw_below_drewN | apply below_drew1) | exact HB.out)) hb⟩; clear HB; have HB := n1_; clear n1_; clear hb)) | ((with_reducible refine gate_store (p := 6) rfl ?_); go_loud (refine wpList_store_newL (w0 := w2) rfl rfl 38 (.tmp 6) (.tmp 20) rfl #[.int .i64 0, .int .i64 0, .int .i64 0, .int .i64 0] 38 #[.int .i64 0, .int .i64 0, .int .i64 0, .int .i64 0] rfl (by rfl) (by rfl) (by kernel_rfl) rfl (by simp [Value.oneCell']) ?_; intro w3 bk_ hb; have BK3 := Aside0.mk bk_; clear bk_; have n1_ : Aside0 (Below w.heap.size w w3) := ⟨below_step (by repeat (first | (with_reducible first | exact HB.out | apply below_alloc | apply pw_below_drewN | apply below_drew1) | exact HB.out)) hb⟩; clear HB; have HB := n1_; clear n1_; clear hb)))
    go_ret2
    exact ⟨by rw [E0.out]; rfl, ⟨vw, by rw [E0.out]; exact HD.out.below HB.out⟩, DFrame.of_below HD.out.size HB.out⟩
  obtain ⟨a, b, d, h, L, hG, hgo, hL1, hL2, hlen, h1, h64, hLs⟩ := logFacts hok
  rw [hG] at WG
  simp only at WG
  cases hj : (readJ l).2 with
  | false =>
    have E0 : Aside0 (recS s = (s, false, 0)) := ⟨by rw [ER.out, if_neg (by simpa using hok), if_pos hj]⟩
    rw [hj] at WJ
    clear hD hf hl hb hll hi EV ER hl2 hok hG hgo hL1 hL2 hlen h1 h64 hLs hj
    go_enter Try.func45, Try.ntmps45
    go_wp2_with (first | (go_at_call 83; go_loud ((with_reducible refine WI.out.mono ?_); rintro e w1 ⟨v1, rfl, ho, hb⟩; obtain ⟨A1, c1, hv1⟩ := Kd.R_slice ho; subst hv1; have HC1 := Aside0.mk (Kd.R_reads' ho).2.2; have HQ1 := Aside0.mk (Kd.R_reads' ho).2.1; have n1_ : Aside0 (Below w.heap.size w w1) := ⟨below_step (by repeat (first | (with_reducible first | exact HB.out | apply below_alloc | apply pw_below_drewN | apply below_drew1) | exact HB.out)) hb⟩; clear HB; have HB := n1_; clear n1_; clear ho hb)) | (go_at_call 38; go_loud ((with_reducible refine (WG.out _ _ _ HC1.out HQ1.out).mono ?_); rintro e w2 ⟨rfl, hb⟩; have n_ := Aside0.mk (Kd.C_below HC1.out hb); clear HC1; have HC1 := n_; clear n_; have n1_ : Aside0 (Below w.heap.size w w2) := ⟨below_step (by repeat (first | (with_reducible first | exact HB.out | apply below_alloc | apply pw_below_drewN | apply below_drew1) | exact HB.out)) hb⟩; clear HB; have HB := n1_; clear n1_; clear hb)) | ((with_reducible refine gate_store (p := 6) rfl ?_); go_loud (refine wpList_store_newL (w0 := w2) rfl rfl 38 (.tmp 6) (.tmp 20) rfl #[.int .i64 a, .int .i64 b, .int .i64 d, .int .i64 h] 38 #[.int .i64 0, .int .i64 0, .int .i64 0, .int .i64 0] rfl (by rfl) (by rfl) (by kernel_rfl) rfl (by simp [Value.oneCell']) ?_; intro w3 bk_ hb; have BK3 := Aside0.mk bk_; clear bk_; have n_ := Aside0.mk (Kd.C_below HC1.out hb); clear HC1; have HC1 := n_; clear n_; have n1_ : Aside0 (Below w.heap.size w w3) := ⟨below_step (by repeat (first | (with_reducible first | exact HB.out | apply below_alloc | apply pw_below_drewN | apply below_drew1) | exact HB.out)) hb⟩; clear HB; have HB := n1_; clear n1_; clear hb; have k0 : w3.cell? ⟨w2.heap.size, 0, none⟩ = some (.int .i64 a) := (blk_cell BK3.out 0).trans rfl; have k1 : w3.cell? ⟨w2.heap.size, 1, none⟩ = some (.int .i64 b) := (blk_cell BK3.out 1).trans rfl; have k2 : w3.cell? ⟨w2.heap.size, 2, none⟩ = some (.int .i64 d) := (blk_cell BK3.out 2).trans rfl; have k3 : w3.cell? ⟨w2.heap.size, 3, none⟩ = some (.int .i64 h) := (blk_cell BK3.out 3).trans rfl)) | (go_at_call 35; go_loud ((with_reducible refine (WJ.out _ _ _ HC1.out HQ1.out).mono ?_); rintro e w4 ⟨v4, rfl, ho, hb⟩; have n1_ : Aside0 (Below w.heap.size w w4) := ⟨below_step (by repeat (first | (with_reducible first | exact HB.out | apply below_alloc | apply pw_below_drewN | apply below_drew1) | exact HB.out)) hb⟩; clear HB; have HB := n1_; clear n1_; clear ho hb)))
    go_ret2
    exact ⟨by rw [E0.out]; rfl, ⟨vw, by rw [E0.out]; exact HD.out.below HB.out⟩, DFrame.of_below HD.out.size HB.out⟩
  | true =>
    have E0 : Aside0 (recS s = ((finishS s (L : Int) (readJ l).1).1, decide ((finishS s (L : Int) (readJ l).1).2 = 0), (finishS s (L : Int) (readJ l).1).2)) := ⟨by rw [ER.out, if_neg (by simpa using hok), if_neg (by rw [hj]; decide), hL2]⟩
    have HFW : Aside0 ((readJ l).1.length ≤ 128) := ⟨readJ_few hj⟩
    have WL : Aside0 (∀ W, Calls Try.prog 71 #[.agg #[.int .i64 a, .int .i64 b, .int .i64 d, .int .i64 h]] W fun e w' => e = .returned (.int .i64 (L : Int)) ∧ Below W.heap.size W w') := ⟨fun W => by rw [← hL1]; exact geoLog_walk a b d h W⟩
    rw [hj] at WJ
    obtain ⟨ws, hws⟩ : ∃ ws, ws = (readJ l).1 := ⟨_, rfl⟩
    rw [← hws] at WJ HFW E0
    have WFN : Aside0 (∀ W A9 c9 n9, Kd.R kWP 82 W w.heap.size (fun _ => True) (.slice A9 n9 c9) ws → Below w.heap.size w W → Calls Try.prog 87 #[.pointer (some ⟨p, 0, none⟩), .agg #[.int .i64 a, .int .i64 b, .int .i64 d, .int .i64 h], .slice A9 n9 c9] W fun e w' => e = .returned (.int .i64 (finishS s L ws).2) ∧ (∃ vw', DiskR w' base p (finishS s L ws).1 vs vn vw') ∧ DFrame base W w') := ⟨fun W A9 c9 n9 ho hB => by
      obtain ⟨ys, hm, hk⟩ := keepsY_R (base := base) ho
      have hn9 := (Kd.R_reads' ho).1
      have hyl : n9 = ys.length := by rw [hn9, ← hm, List.length_map]
      have hf' := HFW.out
      subst hyl
      rw [← hm]
      exact finish_walk base p s vs vn vw a b d h L A9 c9 ys W (HD.out.below hB) HF.out hk (by omega) WL.out⟩
    obtain ⟨F, hF⟩ : ∃ F, F = finishS s L ws := ⟨_, rfl⟩
    rw [← hF] at E0 WFN
    clear hD hf hl hb hll hi EV ER hl2 hok hG hgo hL1 hL2 hlen h1 h64 hLs hj hws WL hF
    go_enter Try.func45, Try.ntmps45
    go_wp2_with (first | (go_at_call 83; go_loud ((with_reducible refine WI.out.mono ?_); rintro e w1 ⟨v1, rfl, ho, hb⟩; obtain ⟨A1, c1, hv1⟩ := Kd.R_slice ho; subst hv1; have HC1 := Aside0.mk (Kd.R_reads' ho).2.2; have HQ1 := Aside0.mk (Kd.R_reads' ho).2.1; have n1_ : Aside0 (Below w.heap.size w w1) := ⟨below_step (by repeat (first | (with_reducible first | exact HB.out | apply below_alloc | apply pw_below_drewN | apply below_drew1) | exact HB.out)) hb⟩; clear HB; have HB := n1_; clear n1_; clear ho hb)) | (go_at_call 38; go_loud ((with_reducible refine (WG.out _ _ _ HC1.out HQ1.out).mono ?_); rintro e w2 ⟨rfl, hb⟩; have n_ := Aside0.mk (Kd.C_below HC1.out hb); clear HC1; have HC1 := n_; clear n_; have n1_ : Aside0 (Below w.heap.size w w2) := ⟨below_step (by repeat (first | (with_reducible first | exact HB.out | apply below_alloc | apply pw_below_drewN | apply below_drew1) | exact HB.out)) hb⟩; clear HB; have HB := n1_; clear n1_; clear hb)) | ((with_reducible refine gate_store (p := 6) rfl ?_); go_loud (refine wpList_store_newL (w0 := w2) rfl rfl 38 (.tmp 6) (.tmp 20) rfl #[.int .i64 a, .int .i64 b, .int .i64 d, .int .i64 h] 38 #[.int .i64 0, .int .i64 0, .int .i64 0, .int .i64 0] rfl (by rfl) (by rfl) (by kernel_rfl) rfl (by simp [Value.oneCell']) ?_; intro w3 bk_ hb; have BK3 := Aside0.mk bk_; clear bk_; have n_ := Aside0.mk (Kd.C_below HC1.out hb); clear HC1; have HC1 := n_; clear n_; have n1_ : Aside0 (Below w.heap.size w w3) := ⟨below_step (by repeat (first | (with_reducible first | exact HB.out | apply below_alloc | apply pw_below_drewN | apply below_drew1) | exact HB.out)) hb⟩; clear HB; have HB := n1_; clear n1_; clear hb; have k0 : w3.cell? ⟨w2.heap.size, 0, none⟩ = some (.int .i64 a) := (blk_cell BK3.out 0).trans rfl; have k1 : w3.cell? ⟨w2.heap.size, 1, none⟩ = some (.int .i64 b) := (blk_cell BK3.out 1).trans rfl; have k2 : w3.cell? ⟨w2.heap.size, 2, none⟩ = some (.int .i64 d) := (blk_cell BK3.out 2).trans rfl; have k3 : w3.cell? ⟨w2.heap.size, 3, none⟩ = some (.int .i64 h) := (blk_cell BK3.out 3).trans rfl)) | (go_at_call 35; go_loud ((with_reducible refine (WJ.out _ _ _ HC1.out HQ1.out).mono ?_); rintro e w4 ⟨v4, rfl, ho, hb⟩; obtain ⟨A9, c9, hv9⟩ := Kd.R_slice ho; subst hv9; have HO := Aside0.mk (Kd.R_lower ho HB.out.size); have BK4 := Aside0.mk (blk_below BK3.out hb); have q0 : w4.cell? ⟨w2.heap.size, 0, none⟩ = some (.int .i64 a) := (blk_cell BK4.out 0).trans rfl; have q1 : w4.cell? ⟨w2.heap.size, 1, none⟩ = some (.int .i64 b) := (blk_cell BK4.out 1).trans rfl; have q2 : w4.cell? ⟨w2.heap.size, 2, none⟩ = some (.int .i64 d) := (blk_cell BK4.out 2).trans rfl; have q3 : w4.cell? ⟨w2.heap.size, 3, none⟩ = some (.int .i64 h) := (blk_cell BK4.out 3).trans rfl; have n1_ : Aside0 (Below w.heap.size w w4) := ⟨below_step (by repeat (first | (with_reducible first | exact HB.out | apply below_alloc | apply pw_below_drewN | apply below_drew1) | exact HB.out)) hb⟩; clear HB; have HB := n1_; clear n1_; clear ho hb)) | (go_at_call 87; go_loud ((with_reducible refine (WFN.out _ _ _ _ HO.out HB.out).mono ?_); rintro e w5 ⟨rfl, ⟨vw5, d5⟩, f5⟩; have D5 := Aside0.mk d5; have F5 := Aside0.mk ((DFrame.of_below HD.out.size HB.out).trans f5); clear d5 f5)))
    go_ret2
    exact ⟨by rw [E0.out]; first | rfl | (simp only [beq_iff_eq]; rfl) | trace_state, ⟨vw5, by rw [E0.out]; exact D5.out⟩, F5.out⟩
end Go.Proofs.Ytdkbhbolkieeiaa.K
namespace Go.Proofs.Ytdkbhbolkieeiaa.K
open Go.RowKit Go.Proofs.YtdkbhbolkieeiaaW.PrintWords Go.Proofs.YtdkbhbolkieeiaaW.PrintLast Go.Proofs.YtdkbhbolkieeiaaW.PrintMore
set_option linter.unusedVariables false
set_option linter.unusedSimpArgs false
theorem setAtL_cut {l : List Int} {o : Nat} {X : List Int} (h : o + X.length ≤ l.length) : setAtL l o X = l.take o ++ X ++ l.drop (o + X.length) := by
  unfold setAtL
  rw [Nat.min_eq_left (by omega), List.take_of_length_le (Nat.le_refl _)]
theorem up_in {a b c d x : Int} (hgo : geoOk a b c d = true) (hu : geoUp a b c d x = true) : 1 ≤ x ∧ x < geoL a b c d := by
  have hp := geoOk_parts hgo
  unfold geoUp at hu
  rw [geoB_zero hgo] at hu
  simp only [Bool.and_eq_true, win, decide_eq_true_eq] at hu
  have h1 := hu.2
  have hm : 0 ≤ a * (1 + b + c) := Int.mul_nonneg (by omega) (by omega)
  omega
theorem right_in {a b c d : Int} {ws : List PW} (hgo : geoOk a b c d = true) (h : rightP a b c d ws = true) : ∀ x ∈ ws, (1 ≤ x.1 ∧ x.1 < geoL a b c d) ∧ x.2.length = 64 := fun x hx => by
  unfold rightP at h
  simp only [Bool.and_eq_true, Bool.not_eq_true', List.any_eq_false, Bool.or_eq_true, decide_eq_true_eq, not_or, Bool.not_eq_false] at h
  have h2 := h.2 x hx
  have h3 : x.2.length = 64 := by simpa using h2.1
  have h4 : geoUp a b c d x.1 = true := by simpa using h2.2
  exact ⟨up_in hgo h4, h3⟩
theorem foldA_take {n : Nat} : ∀ (ws : List PW) (o : List Int), o.length = n → (∀ x ∈ ws, 1 ≤ x.1) → (ws.foldl (stepA n) o).take 64 = o.take 64
  | [], _, _, _ => rfl
  | x :: ws, o, h, hx => by
    rw [List.foldl_cons, foldA_take ws _ (stepA_length x h) (fun y hy => hx y (List.mem_cons_of_mem _ hy))]
    unfold stepA
    split
    · rename_i hh
      have h1 := hx x (List.mem_cons_self ..)
      rw [setAtL_cut (by rw [hh.2.2]; omega), List.append_assoc, List.take_append_of_le_length (by rw [List.length_take]; omega), List.take_take, Nat.min_eq_left (by omega)]
    · rfl
theorem flatN_set {l : List Sec} {i : Nat} {x : List Int} (hi : i < l.length) (hx : x.length = 64) : flatN (l.set i (toSec x)) = setAtL (flatN l) (64 * i) x := by
  have hl := flatN_length l
  rw [setAtL_cut (by omega), List.set_eq_take_append_cons_drop, if_pos hi]
  have h1 : flatN l = flatN (l.take i) ++ (l[i].1 ++ flatN (l.drop (i + 1))) := by
    conv => lhs; rw [← List.take_append_drop i l, List.drop_eq_getElem_cons hi]
    unfold flatN
    rw [List.flatMap_append, List.flatMap_cons]
  have h2 : (flatN (l.take i)).length = 64 * i := by rw [flatN_length, List.length_take]; omega
  have h3 : l[i].1.length = 64 := l[i].2
  have h4 : flatN (l.take i ++ toSec x :: l.drop (i + 1)) = flatN (l.take i) ++ (x ++ flatN (l.drop (i + 1))) := by
    unfold flatN
    rw [List.flatMap_append, List.flatMap_cons, toSec_self hx]
  rw [h4, h1]
  generalize flatN (l.take i) = P at h2 ⊢
  generalize flatN (l.drop (i + 1)) = R
  generalize l[i].1 = Q at h3 ⊢
  rw [List.take_append_of_le_length (by omega), List.take_of_length_le (by omega), ← List.append_assoc P Q, List.drop_append_of_le_length (by rw [List.length_append]; omega), List.drop_of_length_le (by rw [List.length_append]; omega), List.nil_append, List.append_assoc]
theorem flatN_secs {l : List Int} (h : l.length % 64 = 0) : flatN (secs l) = l := by
  have key : ∀ m, m ≤ l.length / 64 → flatN ((secs l).take m) = l.take (64 * m) := fun m => by
    induction m with
    | zero => intro _; rfl
    | succ m ih =>
      intro hm
      have hml : m < (secs l).length := by rw [secs_length]; omega
      rw [flatN_take hml, ih (by omega)]
      have : (secs l)[m].1 = (l.drop (64 * m)).take 64 := by
        have e : (secs l)[m] = toSec (l.drop (64 * m)) := by simp [secs]
        rw [e, toSec_take (by rw [List.length_drop]; omega)]
      rw [this, show 64 * (m + 1) = 64 * m + 64 by omega, List.take_add]
  have := key (l.length / 64) (Nat.le_refl _)
  rw [List.take_of_length_le (by rw [secs_length]; exact Nat.le_refl _), List.take_of_length_le (by omega)] at this
  exact this
/-- A disk whose power does not fail. -/
structure Plug (s : DiskS) (N : Nat) : Prop where
  left : s.left = -1
  off : s.off = false
  now : s.now.length = N
  safe : s.safe.length = N
theorem plug_burn {s : DiskS} {N : Nat} (h : Plug s N) : burnE s = 0 ∧ burnS s = s := by
  have h1 := h.left
  have h2 := h.off
  refine ⟨by unfold burnE; rw [if_neg (by rw [h1, h2]; decide)], ?_⟩
  unfold burnS
  rw [if_neg (by rw [h1]; decide), if_neg (by rw [h2]; decide)]
  obtain ⟨sa, no, wa, le, of, wr, fl⟩ := s
  simp only at h1
  subst h1
  rfl
theorem plug_write {s : DiskS} {N : Nat} (h : Plug s N) {i : Int} {b : List Int} (h0 : 0 ≤ i) (h1 : i < N) (hb : b.length = 64) : writeE s i b = 0 ∧ Plug (writeS s i b) N ∧ flatN (writeS s i b).now = setAtL (flatN s.now) (64 * i.toNat) b := by
  obtain ⟨e1, e2⟩ := plug_burn h
  have hat : atE s i = 0 := by unfold atE; rw [if_pos ⟨h0, by rw [h.safe]; exact h1⟩]
  have hw : writeS s i b = { s with now := s.now.set i.toNat (toSec b), wait := s.wait ++ [⟨i, toSec b⟩], wr := s.wr + 1 } := by
    unfold writeS
    rw [if_neg (by rw [hat]; decide), if_neg (by simp [hb]), if_neg (by rw [e1]; decide), e2]
  refine ⟨by unfold writeE; rw [if_neg (by rw [hat]; decide), if_neg (by simp [hb]), e1], ?_, ?_⟩
  · rw [hw]
    exact ⟨h.left, h.off, by simp only [List.length_set]; exact h.now, h.safe⟩
  · rw [hw]
    exact flatN_set (by rw [h.now]; omega) hb
theorem plug_flush {s : DiskS} {N : Nat} (h : Plug s N) : burnE s = 0 ∧ Plug (flushS s) N ∧ (flushS s).now = s.now ∧ (flushS s).safe = s.now := by
  obtain ⟨e1, e2⟩ := plug_burn h
  have hf : flushS s = { s with safe := s.now, wait := [], fl := s.fl + 1 } := by
    unfold flushS
    rw [if_neg (by rw [e1]; decide), e2]
  rw [hf]
  exact ⟨e1, ⟨h.left, h.off, h.now, h.now⟩, rfl, rfl⟩
theorem plug_writes {N : Nat} : ∀ (ws : List PW) (s : DiskS), Plug s N → (∀ x ∈ ws, (0 ≤ x.1 ∧ x.1 < N) ∧ x.2.length = 64) → (writesS s ws).2 = 0 ∧ Plug (writesS s ws).1 N ∧ flatN (writesS s ws).1.now = ws.foldl (stepA (64 * N)) (flatN s.now)
  | [], s, h, _ => ⟨rfl, h, rfl⟩
  | x :: ws, s, h, hx => by
    obtain ⟨⟨h0, h1⟩, h2⟩ := hx x (List.mem_cons_self ..)
    obtain ⟨e1, e2, e3⟩ := plug_write h h0 h1 h2
    obtain ⟨f1, f2, f3⟩ := plug_writes ws _ e2 (fun y hy => hx y (List.mem_cons_of_mem _ hy))
    rw [writesS, if_neg (by rw [e1]; decide)]
    refine ⟨f1, f2, ?_⟩
    rw [f3, e3, List.foldl_cons]
    have : stepA (64 * N) (flatN s.now) x = setAtL (flatN s.now) (64 * x.1.toNat) x.2 := by
      unfold stepA
      rw [if_pos ⟨h0, by omega, h2⟩]
    rw [this]
theorem plug_finish {N : Nat} {s : DiskS} {L : Int} {ws : List PW} (h : Plug s N) (hx : ∀ x ∈ ws, (0 ≤ x.1 ∧ x.1 < N) ∧ x.2.length = 64) (h0 : 0 ≤ L) (h1 : L < N) :
    (finishS s L ws).2 = 0 ∧ flatN (finishS s L ws).1.now = (ws ++ [(L, sealS magic0)]).foldl (stepA (64 * N)) (flatN s.now) ∧ (finishS s L ws).1.safe = (finishS s L ws).1.now := by
  obtain ⟨a1, a2, a3⟩ := plug_writes ws s h hx
  obtain ⟨b1, b2, b3, b4⟩ := plug_flush a2
  obtain ⟨c1, c2, c3⟩ := plug_write b2 h0 h1 (sealS_length magic0)
  obtain ⟨d1, d2, d3, d4⟩ := plug_flush c2
  have e : finishS s L ws = (flushS (writeS (flushS (writesS s ws).1) L (sealS magic0)), burnE (writeS (flushS (writesS s ws).1) L (sealS magic0))) := by
    unfold finishS
    rw [if_neg (by rw [a1]; decide), if_neg (by rw [b1]; decide), if_neg (by rw [c1]; decide)]
  rw [e]
  refine ⟨d1, ?_, by simp only; rw [d4, d3]⟩
  simp only
  rw [d3, c3, b3, a3, List.foldl_append]
  show _ = stepA (64 * N) _ (L, sealS magic0)
  unfold stepA
  rw [if_pos ⟨h0, by omega, sealS_length magic0⟩]
theorem geoG_first {l x : List Int} (hl : x.length = l.length) (ht : x.take 64 = l.take 64) : geoG x = geoG l := by
  have hb : ∀ i, i < 64 → byN x i = byN l i := fun i hi => by
    unfold byN
    rw [List.getD_eq_getElem?_getD, List.getD_eq_getElem?_getD, ← List.getElem?_take_of_lt hi, ht, List.getElem?_take_of_lt hi]
  unfold geoG geoGok
  rw [hl, ht, hb 5 (by omega), hb 6 (by omega), hb 7 (by omega), hb 8 (by omega)]
theorem empty_none : (numG (sealS magic0) 5 2).1 = 0 := by decide +kernel
/-- An image whose log has nothing. -/
theorem read_none {l x : List Int} {Y : List Int} (hok : (geoG l).2 = 0) (hg : geoG x = geoG l) (hxl : x.length = l.length) (hY : Y.length = 64) (hm : (numG Y 5 2).1 = 0) :
    readJ (setAtL x (64 * logN l) Y) = ([], false) := by
  obtain ⟨a, b, d, h, L, hG, hgo, hL1, hL2, hlen, h1, h64, hLs⟩ := logFacts hok
  have hlen2 := len_ok hlen h1
  have hL0 : 1 ≤ L := by
    have hp := geoOk_parts hgo
    have hm2 : 0 ≤ (a + 1) * (1 + b + d) := Int.mul_nonneg (by omega) (by omega)
    unfold geoL at hL1
    rw [if_pos hgo] at hL1
    omega
  rw [← hL2]
  obtain ⟨y, hy⟩ : ∃ y, y = setAtL x (64 * L) Y := ⟨_, rfl⟩
  rw [← hy]
  have hyl : y.length = l.length := by rw [hy, setAtL_length _ _ _ (by omega)]; exact hxl
  have hyp : y = x.take (64 * L) ++ Y ++ x.drop (64 * L + Y.length) := by rw [hy]; exact setAtL_cut (by omega)
  have hyg : geoG y = geoG l := (geoG_first (l := x) (by omega) (by
    rw [hyp, List.append_assoc, List.take_append_of_le_length (by rw [List.length_take]; omega), List.take_take, Nat.min_eq_left (by omega)])).trans hg
  have hLy : logN y = L := by
    unfold logN
    rw [hyg, hG]
    simp only
    rw [hL1]
    rfl
  have hhd : headL y = Y := by
    unfold headL
    rw [hLy, hyp, List.append_assoc, List.drop_append_of_le_length (by rw [List.length_take]; omega), List.drop_of_length_le (by rw [List.length_take]; omega), List.nil_append, List.take_append_of_le_length (by omega), List.take_of_length_le (by omega)]
  have hmany : manyL y = 0 := by unfold manyL; rw [hhd]; exact hm
  unfold readJ
  rw [if_neg (fun h => h.2.1 hmany)]
/-- What was replayed is replayed as it is; what is recovered is what is replayed. -/
theorem twice_plain {l : List Int} (h64 : l.length % 64 = 0) : replayP (replayP l) = replayP l ∧ (recS ⟨secs l, secs l, [], -1, false, 0, 0⟩).2.2 = (geoG l).2 ∧ flatN (recS ⟨secs l, secs l, [], -1, false, 0, 0⟩).1.now = replayP l ∧ flatN (recS ⟨secs l, secs l, [], -1, false, 0, 0⟩).1.safe = replayP l := by
  obtain ⟨s, hs⟩ : ∃ s : DiskS, s = ⟨secs l, secs l, [], -1, false, 0, 0⟩ := ⟨_, rfl⟩
  rw [← hs]
  have hN : s.now = secs l := by rw [hs]
  have hS : s.safe = secs l := by rw [hs]
  have hF : flatN s.now = l := by rw [hN]; exact flatN_secs h64
  have hFs : flatN s.safe = l := by rw [hS]; exact flatN_secs h64
  have hI : imgE s = 0 := by unfold imgE; rw [hs]; rfl
  have hP : Plug s (l.length / 64) := ⟨by rw [hs], by rw [hs], by rw [hN, secs_length], by rw [hS, secs_length]⟩
  have hn64 : 64 * (l.length / 64) = l.length := by omega
  have hR : recS s = if (geoG l).2 ≠ 0 then (s, false, (geoG l).2) else if (readJ l).2 = false then (s, false, 0) else ((finishS s (logN l) (readJ l).1).1, decide ((finishS s (logN l) (readJ l).1).2 = 0), (finishS s (logN l) (readJ l).1).2) := by
    unfold recS
    rw [if_neg (by rw [hI]; decide), hF]
  cases hj : (readJ l).2 with
  | false =>
    have hr : replayP l = l := by unfold replayP; rw [hj, if_neg (by decide)]
    rw [hr, hr]
    by_cases hg : (geoG l).2 = 0
    · rw [if_neg (by simpa using hg), if_pos hj] at hR
      rw [hR]
      exact ⟨rfl, hg.symm, hF, hFs⟩
    · rw [if_pos hg] at hR
      rw [hR]
      exact ⟨rfl, rfl, hF, hFs⟩
  | true =>
    obtain ⟨hok, hrt⟩ := readJ_geo hj
    obtain ⟨a, b, d, h, L, hG, hgo, hL1, hL2, hlen, h1, h2, hLs⟩ := logFacts hok
    rw [hG] at hrt
    have hin := right_in hgo hrt
    have hlen2 := len_ok hlen h1
    have hr : replayP l = applyP l ((readJ l).1 ++ [((logN l : Int), sealS magic0)]) := by unfold replayP; rw [if_pos hj]
    obtain ⟨f1, f2, f3⟩ := plug_finish (L := (logN l : Int)) hP (fun x hx => by obtain ⟨⟨q1, q2⟩, q3⟩ := hin x hx; exact ⟨⟨by omega, by rw [hL1] at q2; omega⟩, q3⟩) (by omega) (by rw [← hL2]; omega)
    rw [hF, hn64] at f2
    rw [if_neg (by simpa using hok), if_neg (by rw [hj]; decide)] at hR
    rw [hR]
    have hfn : flatN (finishS s (logN l) (readJ l).1).1.now = replayP l := by rw [f2, hr]; rfl
    refine ⟨?_, by simp only; rw [f1, hok], hfn, by simp only; rw [f3]; exact hfn⟩
    have hx : replayP l = setAtL (applyP l (readJ l).1) (64 * logN l) (sealS magic0) := by
      rw [hr]
      unfold applyP
      rw [List.foldl_append]
      show stepA l.length _ ((logN l : Int), sealS magic0) = _
      unfold stepA
      rw [if_pos ⟨by omega, by rw [← hL2]; simp only; omega, sealS_length magic0⟩]
      rfl
    have hgx : geoG (applyP l (readJ l).1) = geoG l := geoG_first (applyP_length l _) (foldA_take _ _ rfl (fun x hx => (hin x hx).1.1))
    have hz : readJ (replayP l) = ([], false) := by rw [hx]; exact read_none hok hgx (applyP_length l _) (sealS_length magic0) empty_none
    show replayP (replayP l) = replayP l
    have hu : replayP (replayP l) = if (readJ (replayP l)).2 = true then applyP (replayP l) ((readJ (replayP l)).1 ++ [((logN (replayP l) : Int), sealS magic0)]) else replayP l := rfl
    rw [hu, hz, if_neg (by decide)]
end Go.Proofs.Ytdkbhbolkieeiaa.K
namespace Go.Proofs.Ytdkbhbolkieeiaa.K
open Go.RowKit Go.Proofs.YtdkbhbolkieeiaaW.PrintWords Go.Proofs.YtdkbhbolkieeiaaW.PrintLast Go.Proofs.YtdkbhbolkieeiaaW.PrintMore
set_option linter.unusedVariables false
def rpl : List Int := replayP pendImg
def pendS : DiskS := ⟨secs pendImg, secs pendImg, [], -1, false, 0, 0⟩
def pendT : DiskS := (recS pendS).1
theorem pend_byts : Byts pendImg := byts_ofC (by decide +kernel)
theorem rpl_byts : Byts rpl := byts_ofC (by decide +kernel)
theorem rpl_facts : (geoG rpl).2 = 0 ∧ (readJ rpl).2 = false ∧ rpl.length = 1920 := by decide +kernel
theorem pend_rec : (recS pendS).2 = (true, 0) := by decide +kernel
theorem pendT_facts : pendT.now.length = 30 ∧ pendT.safe.length = 30 ∧ pendT.left = -1 ∧ pendT.off = false ∧ pendT.wait.length = 0 ∧ pendT.wr = 2 ∧ pendT.fl = 2 := by decide +kernel
theorem pendT_now : flatN pendT.now = rpl := by
  unfold rpl pendT pendS
  exact (twice_plain (l := pendImg) (by rw [pend_length])).2.2.1
theorem pendS_fine : Fine pendS 700000 := ⟨rfl, by decide, by decide, by decide, by decide, by decide, by decide, by decide, fun q hq => by cases hq⟩
theorem pendT_fine : Fine pendT 700000 := by
  obtain ⟨h1, h2, h3, h4, h5, h6, h7⟩ := pendT_facts
  exact ⟨by omega, by omega, by omega, by omega, by omega, by omega, by omega, by omega, fun q hq => by
    have := List.length_pos_of_mem hq
    omega⟩
theorem pendT_rec : recS pendT = (pendT, false, 0) := by
  have hi : imgE pendT = 0 := by unfold imgE; rw [pendT_facts.2.2.2.1]; rfl
  unfold recS
  rw [if_neg (by rw [hi]; decide), pendT_now, if_neg (by rw [rpl_facts.1]; decide), if_pos rpl_facts.2.1]
theorem pendS_now : flatN pendS.now = pendImg := by
  have h := flatN_secs (l := pendImg) (by rw [pend_length])
  have e : pendS.now = secs pendImg := by simp only [pendS]
  rw [e]
  exact h
theorem pendT_img : imgE pendT = 0 ∧ imgV pendT = rpl := by
  have hi : imgE pendT = 0 := by unfold imgE; rw [pendT_facts.2.2.2.1]; rfl
  exact ⟨hi, by unfold imgV; rw [if_pos hi, pendT_now]⟩
end Go.Proofs.Ytdkbhbolkieeiaa.K
namespace Go.Proofs.Ytdkbhbolkieeiaa.K
open Go.RowKit Go.Proofs.YtdkbhbolkieeiaaW.PrintWords Go.Proofs.YtdkbhbolkieeiaaW.PrintLast Go.Proofs.YtdkbhbolkieeiaaW.PrintMore
set_option linter.unusedVariables false
set_option linter.unusedSimpArgs false
theorem pendNew_walk (A : Option Addr) (c n : Nat) (w : World) (hr : Kd.C (Kd.int .u8) w A 1920 pendImg) (hc : 1920 ≤ c) (hn : n = 1920) :
    Calls Try.prog 44 #[.slice A n c] w fun e w' => e = .returned (.pointer (some ⟨w.heap.size, 0, none⟩)) ∧ DiskOk w' w.heap.size w.heap.size pendS ∧ Below w.heap.size w w' := by
  subst hn
  have h := new_walk A c pendImg w (by rw [pend_length]; exact hr) (by rw [pend_length]; exact hc) (by rw [pend_length]; decide)
  rw [pend_length] at h
  unfold pendS
  exact h
theorem pendRec_walk (p : Nat) (vs vn vw : Value) (w : World) (h : DiskR w p p pendS vs vn vw) : Calls Try.prog 45 #[.pointer (some ⟨p, 0, none⟩)] w fun e w' => e = .returned (.tuple #[.bool true, .int .i64 0]) ∧ (∃ vw', DiskR w' p p pendT vs vn vw') ∧ DFrame p w w' := by
  have h1 := recover_walk p p pendS vs vn vw w h pendS_fine (by have : pendS.now.length = 30 := (by decide +kernel); omega) (by rw [pendS_now]; exact pend_byts)
  have e1 : (recS pendS).1 = pendT := by unfold pendT; with_reducible rfl
  rw [pend_rec, e1] at h1
  simp only at h1
  exact h1
theorem pendRec2_walk (p : Nat) (vs vn vw : Value) (w : World) (h : DiskR w p p pendT vs vn vw) : Calls Try.prog 45 #[.pointer (some ⟨p, 0, none⟩)] w fun e w' => e = .returned (.tuple #[.bool false, .int .i64 0]) ∧ (∃ vw', DiskR w' p p pendT vs vn vw') ∧ DFrame p w w' := by
  have h1 := recover_walk p p pendT vs vn vw w h pendT_fine (by have := pendT_facts.1; omega) (by rw [pendT_now]; exact rpl_byts)
  rw [pendT_rec] at h1
  simp only at h1
  exact h1
theorem pendImage_walk (p : Nat) (vs vn vw : Value) (w : World) (h : DiskR w p p pendT vs vn vw) : Calls Try.prog 83 #[.pointer (some ⟨p, 0, none⟩)] w fun e w' => ∃ v : Value, e = .returned (.tuple #[v, .int .i64 0]) ∧ Kd.R (Kd.int .u8) 5 w' w.heap.size (fun _ => True) v rpl ∧ Below w.heap.size w w' := by
  have h1 := image_walk p p pendT vs vn vw w h pendT_fine.hn (by have := pendT_facts.1; omega)
  rw [pendT_img.1, pendT_img.2] at h1
  exact h1
theorem pendWrites_walk (p : Nat) (vs vn vw : Value) (w : World) (h : DiskR w p p pendT vs vn vw) : Calls Try.prog 84 #[.pointer (some ⟨p, 0, none⟩)] w fun e w' => e = .returned (.int .i64 2) ∧ w' = w := by
  have h1 := devWrites_walk p p pendT vs vn vw w h
  rw [pendT_facts.2.2.2.2.2.1] at h1
  exact h1
theorem pendReplay_walk (A : Option Addr) (c n : Nat) (w : World) (hr : Kd.C (Kd.int .u8) w A 1920 pendImg) (hc : 1920 ≤ c) (hn : n = 1920) : Calls Try.prog 43 #[.slice A n c] w fun e w' => ∃ v : Value, e = .returned v ∧ Kd.R (Kd.int .u8) 5 w' w.heap.size (fun _ => True) v rpl ∧ Below w.heap.size w w' := by
  subst hn
  have h := replay_walk A c pendImg w (by rw [pend_length]; exact hr) (by rw [pend_length]; exact hc) (by rw [pend_length]; decide) pend_byts
  rw [pend_length] at h
  exact h
theorem rplEq_walk (A1 : Option Addr) (c1 : Nat) (A2 : Option Addr) (c2 : Nat) (w : World) (h1 : Kd.C (Kd.int .u8) w A1 1920 rpl) (h2 : Kd.C (Kd.int .u8) w A2 1920 rpl) : Calls Try.prog 28 #[.slice A1 1920 c1, .slice A2 1920 c2] w fun e w' => e = .returned (.bool true) ∧ Below w.heap.size w w' := by
  have h := bEq_walk A1 c1 rpl A2 c2 rpl w (by rw [rpl_facts.2.2]; exact h1) (by rw [rpl_facts.2.2]; exact h2) rpl_byts rpl_byts
  rw [rpl_facts.2.2] at h
  refine h.mono ?_
  rintro e w' ⟨rfl, hd⟩
  exact ⟨by simp, hd.below⟩
set_option maxHeartbeats 4000000 in
set_option maxRecDepth 100000 in
theorem awake33_walk (w : World) : Calls Try.prog 42 #[] w fun e w' => e = .returned (.bool true) ∧ Below w.heap.size w w' := by
  have HB := Aside0.mk (Below.refl w.heap.size w)
  have WP := Aside0.mk pending_walk
  go_enter Try.func42, Try.ntmps42
  go_wp2_with (first | (go_at_call 44; go_loud ((with_reducible refine (pendNew_walk _ _ _ _ HC1.out HQ1.out rfl).mono ?_); rintro e w2 ⟨rfl, hd, hb⟩; obtain ⟨vs, vn, vw, hd⟩ := hd; have D2 := Aside0.mk hd; have HW1 : Aside0 (w.heap.size ≤ w1.heap.size) := ⟨HB.out.size⟩; have n1_ : Aside0 (Below w.heap.size w w2) := ⟨below_step (by repeat (first | (with_reducible first | exact HB.out | apply below_alloc | apply pw_below_drewN | apply below_drew1) | exact HB.out)) hb⟩; clear HB; have HB := n1_; clear n1_; clear hb hd HC1)) | (go_at_call 45; go_loud ((with_reducible refine (pendRec_walk _ _ _ _ _ D2.out).mono ?_); rintro e w3 ⟨rfl, ⟨vw3, d3⟩, f3⟩; have D3 := Aside0.mk d3; have n1_ : Aside0 (Below w.heap.size w w3) := ⟨HB.out.trans (f3.below.mono HW1.out)⟩; clear HB; have HB := n1_; clear n1_ d3 f3 D2)) | (go_at_call 45; go_loud ((with_reducible refine (pendRec2_walk _ _ _ _ _ D3.out).mono ?_); rintro e w4 ⟨rfl, ⟨vw4, d4⟩, f4⟩; have D4 := Aside0.mk d4; have n1_ : Aside0 (Below w.heap.size w w4) := ⟨HB.out.trans (f4.below.mono HW1.out)⟩; clear HB; have HB := n1_; clear n1_ d4 f4 D3)) | (go_at_call 45; go_loud ((with_reducible refine (recover_nil _).mono ?_); rintro e w5 ⟨rfl, hb⟩; have D5 := Aside0.mk (D4.out.below hb); have n1_ : Aside0 (Below w.heap.size w w5) := ⟨below_step (by repeat (first | (with_reducible first | exact HB.out | apply below_alloc | apply pw_below_drewN | apply below_drew1) | exact HB.out)) hb⟩; clear HB; have HB := n1_; clear n1_; clear hb D4)) | (go_at_call 83; go_loud ((with_reducible refine (pendImage_walk _ _ _ _ _ D5.out).mono ?_); rintro e w6 ⟨v6, rfl, ho, hb⟩; obtain ⟨A6, c6, hv6⟩ := Kd.R_slice ho; subst hv6; have HC6 := Aside0.mk (Kd.R_reads' ho).2.2; rw [rpl_facts.2.2] at HC6 ⊢; have D6 := Aside0.mk (D5.out.below hb); have n1_ : Aside0 (Below w.heap.size w w6) := ⟨below_step (by repeat (first | (with_reducible first | exact HB.out | apply below_alloc | apply pw_below_drewN | apply below_drew1) | exact HB.out)) hb⟩; clear HB; have HB := n1_; clear n1_; clear hb ho D5)) | (go_at_call 43; go_loud ((with_reducible refine (pendReplay_walk _ _ _ _ HC7.out HQ7.out rfl).mono ?_); rintro e w8 ⟨v8, rfl, ho, hb⟩; obtain ⟨A8, c8, hv8⟩ := Kd.R_slice ho; subst hv8; have HC8 := Aside0.mk (Kd.R_reads' ho).2.2; rw [rpl_facts.2.2] at HC8 ⊢; have D8 := Aside0.mk (D7.out.below hb); have n_ := Aside0.mk (Kd.C_below (by first | exact HC6.out | exact Kd.C_alloc HC6.out _) hb); clear HC6; have HC6 := n_; clear n_; have n1_ : Aside0 (Below w.heap.size w w8) := ⟨below_step (by repeat (first | (with_reducible first | exact HB.out | apply below_alloc | apply pw_below_drewN | apply below_drew1) | exact HB.out)) hb⟩; clear HB; have HB := n1_; clear n1_; clear hb ho D7)) | (go_at_call 82; go_loud ((with_reducible refine (WP.out _).mono ?_); rintro e w7 ⟨v7, rfl, ho, hb⟩; obtain ⟨A7, c7, hv7⟩ := Kd.R_slice ho; subst hv7; have HC7 := Aside0.mk (Kd.R_reads' ho).2.2; have HQ7 := Aside0.mk (Kd.R_reads' ho).2.1; rw [pend_length] at HC7 HQ7 ⊢; have D7 := Aside0.mk (D6.out.below hb); have n_ := Aside0.mk (Kd.C_below (by first | exact HC6.out | exact Kd.C_alloc HC6.out _) hb); clear HC6; have HC6 := n_; clear n_; have n1_ : Aside0 (Below w.heap.size w w7) := ⟨below_step (by repeat (first | (with_reducible first | exact HB.out | apply below_alloc | apply pw_below_drewN | apply below_drew1) | exact HB.out)) hb⟩; clear HB; have HB := n1_; clear n1_; clear hb ho D6)) | (go_at_call 82; go_loud ((with_reducible refine (WP.out _).mono ?_); rintro e w1 ⟨v1, rfl, ho, hb⟩; obtain ⟨A1, c1, hv1⟩ := Kd.R_slice ho; subst hv1; have HC1 := Aside0.mk (Kd.R_reads' ho).2.2; have HQ1 := Aside0.mk (Kd.R_reads' ho).2.1; rw [pend_length] at HC1 HQ1 ⊢; have n1_ : Aside0 (Below w.heap.size w w1) := ⟨below_step (by repeat (first | (with_reducible first | exact HB.out | apply below_alloc | apply pw_below_drewN | apply below_drew1) | exact HB.out)) hb⟩; clear HB; have HB := n1_; clear n1_; clear hb ho)) | (go_at_call 28; go_loud ((with_reducible refine (rplEq_walk _ _ _ _ _ HC6.out HC8.out).mono ?_); rintro e w9 ⟨rfl, hb⟩; have D9 := Aside0.mk (D8.out.below hb); have n1_ : Aside0 (Below w.heap.size w w9) := ⟨below_step (by repeat (first | (with_reducible first | exact HB.out | apply below_alloc | apply pw_below_drewN | apply below_drew1) | exact HB.out)) hb⟩; clear HB; have HB := n1_; clear n1_; clear hb D8)) | (go_at_call 84; go_loud ((with_reducible refine (pendWrites_walk _ _ _ _ _ D9.out).mono ?_); rintro e w10 ⟨rfl, h_⟩; subst w10)))
  go_ret
  exact ⟨rfl, HB.out⟩
end Go.Proofs.Ytdkbhbolkieeiaa.K
namespace Go.Proofs.Ytdkbhbolkieeiaa.K
open Go.RowKit Go.Proofs.YtdkbhbolkieeiaaW.PrintWords Go.Proofs.YtdkbhbolkieeiaaW.PrintLast Go.Proofs.YtdkbhbolkieeiaaW.PrintMore
set_option linter.unusedVariables false
set_option linter.unusedSimpArgs false
theorem setA_byts {l X : List Int} (h : Byts l) (hX : Byts X) (o : Nat) : Byts (setAtL l o X) := fun x hx => by
  unfold setAtL at hx
  rcases List.mem_append.1 hx with h1 | h1
  · rcases List.mem_append.1 h1 with h2 | h2
    · exact h x (List.mem_of_mem_take h2)
    · exact hX x (List.mem_of_mem_take h2)
  · exact h x (List.mem_of_mem_drop h1)
theorem foldA_byts {n : Nat} : ∀ (ws : List PW) (o : List Int), Byts o → (∀ x ∈ ws, Byts x.2) → Byts (ws.foldl (stepA n) o)
  | [], _, h, _ => h
  | x :: ws, o, h, hx => by
    rw [List.foldl_cons]
    refine foldA_byts ws _ ?_ (fun y hy => hx y (List.mem_cons_of_mem _ hy))
    unfold stepA
    split
    · exact setA_byts h (hx x (List.mem_cons_self ..)) _
    · exact h
theorem readJ_byts {l : List Int} (h : Byts l) : ∀ x ∈ (readJ l).1, Byts x.2 := fun x hx => by
  unfold readJ at hx
  split at hx
  · exact readN_byts (h.drop _) _ x hx
  · cases hx
theorem replayP_byts {l : List Int} (h : Byts l) : Byts (replayP l) := by
  unfold replayP
  split
  · unfold applyP
    refine foldA_byts _ _ h (fun x hx => ?_)
    rcases List.mem_append.1 hx with h1 | h1
    · exact readJ_byts h x h1
    · obtain rfl := List.mem_singleton.1 h1
      exact sealS_byts (by intro y hy; simp [magic0] at hy; rcases hy with rfl | rfl | rfl | rfl | rfl <;> decide)
  · exact h
theorem replayP_length (l : List Int) : (replayP l).length = l.length := by
  unfold replayP
  split
  · exact applyP_length _ _
  · rfl
set_option maxHeartbeats 4000000 in
set_option maxRecDepth 100000 in
theorem twice_walk (A : Option Addr) (c : Nat) (l : List Int) (w : World) (hr : Kd.C (Kd.int .u8) w A l.length l) (hc : l.length ≤ c) (hb : Byts l) (hlm : l.length ≤ 9223372036854775807) :
    Calls Try.prog 8 #[.slice A l.length c] w fun e w' => e = .returned (.bool true) ∧ Below w.heap.size w w' := by
  obtain ⟨n, hn⟩ : ∃ n, n = l.length := ⟨_, rfl⟩
  by_cases h1 : 30000 < n
  · rw [← hn]
    have h1i : (30000 : Int) < (n : Int) := by omega
    clear hr hc hb hlm hn
    go_enter Try.func8, Try.ntmps8
    go_wp2_with (go_at_call 42; go_loud ((with_reducible refine (awake33_walk _).mono ?_); rintro e w1 ⟨rfl, hb⟩; have HB := Aside0.mk hb; clear hb))
    go_ret
    exact ⟨rfl, HB.out⟩
  have h1i : ¬ (30000 : Int) < (n : Int) := by omega
  by_cases h2 : n % 64 = 0
  case neg =>
    rw [← hn]
    have h2i : (((n : Int) % 64) == 0) = false := by simp; omega
    clear hr hc hb hlm hn
    go_enter Try.func8, Try.ntmps8
    go_wp2_with (go_at_call 42; go_loud ((with_reducible refine (awake33_walk _).mono ?_); rintro e w1 ⟨rfl, hb⟩; have HB := Aside0.mk hb; clear hb))
    go_ret
    exact ⟨rfl, HB.out⟩
  have h2i : ((n : Int) % 64) = 0 := by omega
  obtain ⟨t1, t2, t3, t4⟩ := twice_plain (l := l) (by rw [← hn]; exact h2)
  have hxl := replayP_length l
  have hxb := replayP_byts hb
  have HR0 := Aside0.mk hr
  have WR1 : Aside0 (∀ W, Kd.C (Kd.int .u8) W A l.length l → Calls Try.prog 43 #[.slice A l.length c] W fun e w' => ∃ v : Value, e = .returned v ∧ Kd.R (Kd.int .u8) 5 w' W.heap.size (fun _ => True) v (replayP l) ∧ Below W.heap.size W w') := ⟨fun W h => replay_walk A c l W h hc (by omega) hb⟩
  have WN : Aside0 (∀ W, Below w.heap.size w W → Calls Try.prog 44 #[.slice A l.length c] W fun e w' => e = .returned (.pointer (some ⟨W.heap.size, 0, none⟩)) ∧ DiskOk w' W.heap.size W.heap.size ⟨secs l, secs l, [], -1, false, 0, 0⟩ ∧ Below W.heap.size W w') := ⟨fun W h => new_walk A c l W (Kd.C_below hr h) hc (by omega)⟩
  have WG : Aside0 (∀ W, Below w.heap.size w W → Calls Try.prog 38 #[.slice A l.length c] W fun e w' => e = .returned (.tuple #[.agg #[.int .i64 (geoG l).1.1, .int .i64 (geoG l).1.2.1, .int .i64 (geoG l).1.2.2.1, .int .i64 (geoG l).1.2.2.2], .int .i64 (geoG l).2]) ∧ Below W.heap.size W w') := ⟨fun W h => geoGet_walk A c l W (Kd.C_below hr h) hc (by omega) hb⟩
  have WR2 : Aside0 (∀ A1 c1 W, Kd.C (Kd.int .u8) W A1 (replayP l).length (replayP l) → (replayP l).length ≤ c1 → Calls Try.prog 43 #[.slice A1 (replayP l).length c1] W fun e w' => ∃ v : Value, e = .returned v ∧ Kd.R (Kd.int .u8) 5 w' W.heap.size (fun _ => True) v (replayP (replayP l)) ∧ Below W.heap.size W w') := ⟨fun A1 c1 W h hc1 => replay_walk A1 c1 _ W h hc1 (by omega) hxb⟩
  rw [t1] at WR2
  have WE : Aside0 (∀ A1 c1 A2 c2 W, Kd.C (Kd.int .u8) W A1 (replayP l).length (replayP l) → Kd.C (Kd.int .u8) W A2 (replayP l).length (replayP l) → Calls Try.prog 28 #[.slice A1 (replayP l).length c1, .slice A2 (replayP l).length c2] W fun e w' => e = .returned (.bool true) ∧ Below W.heap.size W w') := ⟨fun A1 c1 A2 c2 W h1 h2 => (bEq_walk A1 c1 _ A2 c2 _ W h1 h2 hxb hxb).mono (by rintro e w' ⟨rfl, hd⟩; exact ⟨by simp, hd.below⟩)⟩
  obtain ⟨s, hs⟩ : ∃ s : DiskS, s = ⟨secs l, secs l, [], -1, false, 0, 0⟩ := ⟨_, rfl⟩
  have hsn : s.now = secs l := by rw [hs]
  have hsf : flatN s.now = l := by rw [hsn]; exact flatN_secs (by rw [← hn]; exact h2)
  have hfine : Fine s 700000 := by rw [hs]; exact ⟨rfl, (show (-1 : Int) ≤ -1 by decide), (show (-1 : Int) ≤ 9223372036854775807 by decide), (show (0 : Nat) ≤ 700000 by decide), (show (0 : Int) ≤ 0 by decide), (show (0 : Int) ≤ ((700000 : Nat) : Int) by decide), (show (0 : Int) ≤ 0 by decide), (show (0 : Int) ≤ ((700000 : Nat) : Int) by decide), fun q hq => by cases hq⟩
  have hsl : s.now.length ≤ 100000 := by rw [hsn, secs_length]; omega
  rw [← hs] at t2 t3 t4 WN
  have WRC : Aside0 (∀ p vs vn vw W, DiskR W p p s vs vn vw → Calls Try.prog 45 #[.pointer (some ⟨p, 0, none⟩)] W fun e w' => e = .returned (.tuple #[.bool (recS s).2.1, .int .i64 (geoG l).2]) ∧ (∃ vw', DiskR w' p p (recS s).1 vs vn vw') ∧ DFrame p W w') := ⟨fun p vs vn vw W h => by
    rw [← t2]
    exact recover_walk p p s vs vn vw W h hfine hsl (by rw [hsf]; exact hb)⟩
  obtain ⟨T, hT⟩ : ∃ T, T = (recS s).1 := ⟨_, rfl⟩
  rw [← hT] at t3 t4 WRC
  have hTn : T.now.length ≤ 1000000 := by have := flatN_length T.now; rw [t3] at this; omega
  have hTs : T.safe.length ≤ 1000000 := by have := flatN_length T.safe; rw [t4] at this; omega
  have WBY : Aside0 (∀ p vs vn vw W, DiskR W p p T vs vn vw → Calls Try.prog 46 #[.pointer (some ⟨p, 0, none⟩)] W fun e w' => ∃ v : Value, e = .returned v ∧ Kd.R (Kd.int .u8) 5 w' W.heap.size (fun _ => True) v (replayP l) ∧ Below W.heap.size W w') := ⟨fun p vs vn vw W h => by rw [← t3]; exact devBytes_walk p p T vs vn vw W h hTn⟩
  have WSA : Aside0 (∀ p vs vn vw W, DiskR W p p T vs vn vw → Calls Try.prog 47 #[.pointer (some ⟨p, 0, none⟩)] W fun e w' => ∃ v : Value, e = .returned v ∧ Kd.R (Kd.int .u8) 5 w' W.heap.size (fun _ => True) v (replayP l) ∧ Below W.heap.size W w') := ⟨fun p vs vn vw W h => by rw [← t4]; exact devSafe_walk p p T vs vn vw W h hTs⟩
  obtain ⟨R1, hR1⟩ : ∃ b, b = (recS s).2.1 := ⟨_, rfl⟩
  rw [← hR1] at WRC
  obtain ⟨X, hX⟩ : ∃ X, X = replayP l := ⟨_, rfl⟩
  obtain ⟨g0, hg0⟩ : ∃ X, X = (geoG l).1.1 := ⟨_, rfl⟩
  obtain ⟨g1, hg1⟩ : ∃ X, X = (geoG l).1.2.1 := ⟨_, rfl⟩
  obtain ⟨g2, hg2⟩ : ∃ X, X = (geoG l).1.2.2.1 := ⟨_, rfl⟩
  obtain ⟨g3, hg3⟩ : ∃ X, X = (geoG l).1.2.2.2 := ⟨_, rfl⟩
  obtain ⟨gE, hgE⟩ : ∃ X, X = (geoG l).2 := ⟨_, rfl⟩
  rw [← hg0, ← hg1, ← hg2, ← hg3, ← hgE] at WG
  rw [← hgE] at WRC
  rw [← hX] at WR1 WR2 WE WBY WSA hxl
  rw [hxl] at WR2 WE
  rw [← hn] at WR1 WN WG WR2 WE HR0 hxl ⊢
  have HXL := Aside0.mk hxl
  clear hr hc hb hlm t1 t2 t3 t4 hxl hxb hs hsn hsf hfine hsl hT hTn hTs hR1 hX hg0 hg1 hg2 hg3 hgE hn h1 h2
  go_enter Try.func8, Try.ntmps8
  go_wp2_with (first | (go_at_call 43; go_loud ((with_reducible refine (WR1.out _ HR0.out).mono ?_); rintro e w1 ⟨v1, rfl, ho, hb⟩; obtain ⟨A1, c1, hv⟩ := Kd.R_slice ho; subst hv; have HX1 := Aside0.mk (Kd.R_reads' ho).2.2; have HQ1 := Aside0.mk (Kd.R_reads' ho).2.1; rw [HXL.out] at HX1 HQ1 ⊢; have HB0 := Aside0.mk hb; have HB1 := Aside0.mk (Below.refl w1.heap.size w1); clear ho hb HR0)) | (go_at_call 44; go_loud ((with_reducible refine (WN.out _ HB0.out).mono ?_); rintro e w2 ⟨rfl, hd, hb⟩; obtain ⟨vs, vn, vw, hd⟩ := hd; have D := Aside0.mk hd; have n_ : Aside0 (Below w1.heap.size w1 w2) := ⟨below_step HB1.out hb⟩; clear HB1; have HB1 := n_; clear n_ hd hb)) | (go_at_call 45; go_loud ((with_reducible refine (WRC.out _ _ _ _ _ D.out).mono ?_); rintro e w3 ⟨rfl, ⟨vw3, d3⟩, f3⟩; clear D; have D := Aside0.mk d3; have n_ : Aside0 (Below w1.heap.size w1 w3) := ⟨HB1.out.trans f3.below⟩; clear HB1; have HB1 := n_; clear n_ d3 f3)) | (go_at_call 38; go_loud ((with_reducible refine (WG.out _ (HB0.out.trans (HB1.out.mono HB0.out.size))).mono ?_); rintro e w4 ⟨rfl, hb⟩; have n_ := Aside0.mk (D.out.below hb); clear D; have D := n_; clear n_; have n_ : Aside0 (Below w1.heap.size w1 w4) := ⟨below_step HB1.out hb⟩; clear HB1; have HB1 := n_; clear n_; clear hb)) | ((with_reducible refine gate_store (p := 7) rfl ?_); go_loud (refine wpList_store_newL (w0 := w4) rfl rfl 38 (.tmp 7) (.tmp 33) rfl #[.int .i64 g0, .int .i64 g1, .int .i64 g2, .int .i64 g3] 38 #[.int .i64 0, .int .i64 0, .int .i64 0, .int .i64 0] rfl (by rfl) (by rfl) (by kernel_rfl) rfl (by simp [Value.oneCell']) ?_; intro w5 bk_ hb; have BK5 := Aside0.mk bk_; clear bk_; have n_ := Aside0.mk (D.out.below hb); clear D; have D := n_; clear n_; have n_ : Aside0 (Below w1.heap.size w1 w5) := ⟨below_step HB1.out hb⟩; clear HB1; have HB1 := n_; clear n_; clear hb)) | (go_at_call 43; go_loud ((with_reducible refine (WR2.out _ _ _ (Kd.C_below HX1.out HB1.out) HQ1.out).mono ?_); rintro e w6 ⟨v6, rfl, ho, hb⟩; obtain ⟨Av, cv, hv⟩ := Kd.R_slice ho; subst hv; have HC := Aside0.mk (Kd.R_reads' ho).2.2; rw [HXL.out] at HC ⊢; have n_ := Aside0.mk (D.out.below hb); clear D; have D := n_; clear n_; have n_ : Aside0 (Below w1.heap.size w1 w6) := ⟨below_step HB1.out hb⟩; clear HB1; have HB1 := n_; clear n_; clear ho hb)) | (go_at_call 28; go_loud ((with_reducible refine (WE.out _ _ _ _ _ HC.out (Kd.C_below HX1.out HB1.out)).mono ?_); rintro e w7 ⟨rfl, hb⟩; have n_ := Aside0.mk (D.out.below hb); clear D; have D := n_; clear n_; have n_ : Aside0 (Below w1.heap.size w1 w7) := ⟨below_step HB1.out hb⟩; clear HB1; have HB1 := n_; clear n_; clear hb HC)) | (go_at_call 46; go_loud ((with_reducible refine (WBY.out _ _ _ _ _ D.out).mono ?_); rintro e w8 ⟨v8, rfl, ho, hb⟩; obtain ⟨Av, cv, hv⟩ := Kd.R_slice ho; subst hv; have HC := Aside0.mk (Kd.R_reads' ho).2.2; rw [HXL.out] at HC ⊢; have n_ := Aside0.mk (D.out.below hb); clear D; have D := n_; clear n_; have n_ : Aside0 (Below w1.heap.size w1 w8) := ⟨below_step HB1.out hb⟩; clear HB1; have HB1 := n_; clear n_; clear ho hb)) | (go_at_call 47; go_loud ((with_reducible refine (WSA.out _ _ _ _ _ D.out).mono ?_); rintro e w9 ⟨v9, rfl, ho, hb⟩; obtain ⟨Av, cv, hv⟩ := Kd.R_slice ho; subst hv; have HC := Aside0.mk (Kd.R_reads' ho).2.2; rw [HXL.out] at HC ⊢; have n_ := Aside0.mk (D.out.below hb); clear D; have D := n_; clear n_; have n_ : Aside0 (Below w1.heap.size w1 w9) := ⟨below_step HB1.out hb⟩; clear HB1; have HB1 := n_; clear n_; clear ho hb)) | (go_at_call 42; go_loud ((with_reducible refine (awake33_walk _).mono ?_); rintro e w10 ⟨rfl, hb⟩; have n_ := Aside0.mk (D.out.below hb); clear D; have D := n_; clear n_; have n_ : Aside0 (Below w1.heap.size w1 w10) := ⟨below_step HB1.out hb⟩; clear HB1; have HB1 := n_; clear n_; clear hb)))
  go_ret
  exact ⟨rfl, HB0.out.trans (HB1.out.mono HB0.out.size)⟩
end Go.Proofs.Ytdkbhbolkieeiaa.K
