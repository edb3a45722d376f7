/- Walks and plain laws of this claim, merged: L27f, L27g. -/
import Derived.Test.YtdkbhbolkieeiaaCI
namespace Go.Proofs.Ytdkbhbolkieeiaa.K
open Go.RowKit Go.Proofs.YtdkbhbolkieeiaaW.PrintWords Go.Proofs.YtdkbhbolkieeiaaW.PrintLast Go.Proofs.YtdkbhbolkieeiaaW.PrintMore
set_option linter.unusedVariables false
set_option linter.unusedSimpArgs false
theorem rightW_P (a b c d : Int) (ws : List Wr) : rightW (capJ a b c d) (geoUp a b c d) ws = rightP a b c d (ws.map wrP) := by
  unfold rightW rightP
  rw [List.any_map, List.length_map]
  rfl
theorem C_blkN {W : World} {g n : Nat} {cs : Array Value} {X : List Int} (h : W.heap[g]? = some (.cells cs 5 (0, 0))) (hc : cs.toList.take n = X.map (Value.int .u8)) (hn : X.length = n) (hs : n ≤ 100000) : Kd.C (Kd.int .u8) W (some ⟨g, 0, none⟩) n X := by
  subst hn
  exact Kd.C_blkJ (k := .u8) h hc (by omega)
theorem setAtL_byts {l X : List Int} (h : Byts l) (hX : Byts X) (o : Nat) : Byts (setAtL l o X) := fun x hx => by
  unfold setAtL at hx
  rcases List.mem_append.1 hx with hx | hx
  · rcases List.mem_append.1 hx with hx | hx
    · exact h x (List.mem_of_mem_take hx)
    · exact hX x (List.mem_of_mem_take hx)
  · exact h x (List.mem_of_mem_drop hx)
set_option maxHeartbeats 4000000 in
set_option maxRecDepth 100000 in
theorem back_early (A : Option Addr) (c : Nat) (l : List Int) (Al : Option Addr) (cl : Nat) (ws : List Wr) (w : World) (hr : Kd.C (Kd.int .u8) w A l.length l) (hc : l.length ≤ c) (hb : Byts l) (hlm : l.length ≤ 9223372036854775807) (hw : Kd.C kWr w Al ws.length ws) (hwm : ws.length ≤ 9223372036854775807)
    (h : ¬ (l.length ≤ 30000 ∧ shortN ws = true ∧ (geoG l).2 = 0 ∧ rightP (geoG l).1.1 (geoG l).1.2.1 (geoG l).1.2.2.1 (geoG l).1.2.2.2 (ws.map wrP) = true)) :
    Calls Try.prog 7 #[.slice A l.length c, .slice Al ws.length cl] w fun e w' => e = .returned (.bool true) ∧ Below w.heap.size w w' := by
  have WA := Aside0.mk awake27_walk
  have HB := Aside0.mk (Below.refl w.heap.size w)
  by_cases hbig : l.length ≤ 30000
  case neg =>
    obtain ⟨n, hn⟩ : ∃ n, n = l.length := ⟨_, rfl⟩
    rw [← hn]
    have hi : (n : Int) > 30000 := by omega
    clear hr hc hb hbig hn hlm hw hwm h
    go_enter Try.func7, Try.ntmps7
    go_wp2_with (first | (go_at_call 23; go_loud ((with_reducible refine (WA.out _).mono ?_); rintro e w2 ⟨rfl, hb⟩; have n1_ : Aside0 (Below w.heap.size w w2) := ⟨below_step (by repeat (first | (with_reducible first | exact HB.out | apply below_alloc | apply pw_below_drewN | apply below_drew1) | exact HB.out)) hb⟩; clear HB; have HB := n1_; clear n1_; clear hb)))
    go_ret
    exact ⟨rfl, HB.out⟩
  have WS : Aside0 (Calls Try.prog 22 #[.slice Al ws.length cl] w fun e w' => e = .returned (.bool (shortN ws)) ∧ Below w.heap.size w w') := ⟨short_walk Al cl ws w hw hwm⟩
  by_cases hs : shortN ws = true
  case neg =>
    have hsf : shortN ws = false := by simpa using hs
    rw [hsf] at WS
    obtain ⟨n, hn⟩ : ∃ n, n = l.length := ⟨_, rfl⟩
    obtain ⟨k, hk⟩ : ∃ n, n = ws.length := ⟨_, rfl⟩
    rw [← hk] at WS ⊢
    rw [← hn] at hbig ⊢
    have hi : ¬ (n : Int) > 30000 := by omega
    clear hr hc hb hn hlm hw hwm h hs hsf hk
    go_enter Try.func7, Try.ntmps7
    go_wp2_with (first | (go_at_call 22; go_loud ((with_reducible refine (WS.out).mono ?_); rintro e w1 ⟨rfl, hb⟩; have n1_ : Aside0 (Below w.heap.size w w1) := ⟨below_step (by repeat (first | (with_reducible first | exact HB.out | apply below_alloc | apply pw_below_drewN | apply below_drew1) | exact HB.out)) hb⟩; clear HB; have HB := n1_; clear n1_; clear hb WS)) | (go_at_call 23; go_loud ((with_reducible refine (WA.out _).mono ?_); rintro e w2 ⟨rfl, hb⟩; have n1_ : Aside0 (Below w.heap.size w w2) := ⟨below_step (by repeat (first | (with_reducible first | exact HB.out | apply below_alloc | apply pw_below_drewN | apply below_drew1) | exact HB.out)) hb⟩; clear HB; have HB := n1_; clear n1_; clear hb)))
    go_ret
    exact ⟨rfl, HB.out⟩
  rw [hs] at WS
  have WG : Aside0 (∀ W, Below w.heap.size w W → Calls Try.prog 39 #[.slice A l.length c] W fun e w' => e = .returned (.tuple #[.agg #[.int .i64 (geoG l).1.1, .int .i64 (geoG l).1.2.1, .int .i64 (geoG l).1.2.2.1, .int .i64 (geoG l).1.2.2.2], .int .i64 (geoG l).2]) ∧ Below W.heap.size W w') := ⟨fun W hB => rGet06_walk A c l W (Kd.C_below hr hB) hc (by omega) hb⟩
  have WR : Aside0 (∀ (a b d h : Int) W, Below w.heap.size w W → Calls Try.prog 27 #[.agg #[.int .i64 a, .int .i64 b, .int .i64 d, .int .i64 h], .slice Al ws.length cl] W fun e w' => e = .returned (.bool (rightP a b d h (ws.map wrP))) ∧ Below W.heap.size W w') := ⟨fun a b d h W hB => by
    rw [← rightW_P]
    exact rRight27_walk a b d h Al cl ws W (Kd.C_below hw hB) hwm⟩
  obtain ⟨a, ha⟩ : ∃ q, q = (geoG l).1.1 := ⟨_, rfl⟩
  obtain ⟨b, hb1⟩ : ∃ q, q = (geoG l).1.2.1 := ⟨_, rfl⟩
  obtain ⟨d, hd⟩ : ∃ q, q = (geoG l).1.2.2.1 := ⟨_, rfl⟩
  obtain ⟨h', hh⟩ : ∃ q, q = (geoG l).1.2.2.2 := ⟨_, rfl⟩
  obtain ⟨ge, hge⟩ : ∃ q, q = (geoG l).2 := ⟨_, rfl⟩
  obtain ⟨q, hq⟩ : ∃ q, q = rightP a b d h' (ws.map wrP) := ⟨_, rfl⟩
  have WR := Aside0.mk (WR.out a b d h')
  rw [← ha, ← hb1, ← hd, ← hh, ← hge, ← hq] at h
  simp only [← ha, ← hb1, ← hd, ← hh, ← hge] at WG
  simp only [← hq] at WR
  obtain ⟨n, hn⟩ : ∃ n, n = l.length := ⟨_, rfl⟩
  obtain ⟨k, hk⟩ : ∃ n, n = ws.length := ⟨_, rfl⟩
  rw [← hk] at WS WR ⊢
  rw [← hn] at WG hbig h ⊢
  have hi : ¬ (n : Int) > 30000 := by omega
  by_cases hge0 : ge = 0
  case neg =>
    have hgb : (ge != 0) = true := by simp [hge0]
    clear hr hc hb hn hlm hw hwm h hs hk ha hb1 hd hh hge hq hge0 hbig WR
    go_enter Try.func7, Try.ntmps7
    go_wp2_with (first | (go_at_call 22; go_loud ((with_reducible refine (WS.out).mono ?_); rintro e w1 ⟨rfl, hb⟩; have n1_ : Aside0 (Below w.heap.size w w1) := ⟨below_step (by repeat (first | (with_reducible first | exact HB.out | apply below_alloc | apply pw_below_drewN | apply below_drew1) | exact HB.out)) hb⟩; clear HB; have HB := n1_; clear n1_; clear hb WS)) | (go_at_call 39; go_loud ((with_reducible refine (WG.out _ HB.out).mono ?_); rintro e w2 ⟨rfl, hb⟩; have n1_ : Aside0 (Below w.heap.size w w2) := ⟨below_step (by repeat (first | (with_reducible first | exact HB.out | apply below_alloc | apply pw_below_drewN | apply below_drew1) | exact HB.out)) hb⟩; clear HB; have HB := n1_; clear n1_; clear hb)) | ((with_reducible refine gate_store (p := 5) rfl ?_); go_loud (refine wpList_store_newL (w0 := w2) rfl rfl 38 (.tmp 5) (.tmp 26) rfl #[.int .i64 a, .int .i64 b, .int .i64 d, .int .i64 h'] 38 #[.int .i64 0, .int .i64 0, .int .i64 0, .int .i64 0] rfl (by rfl) (by rfl) (by kernel_rfl) rfl (by simp [Value.oneCell']) ?_; intro w3 bk_ hb; have BK3 := Aside0.mk bk_; clear bk_; have n1_ : Aside0 (Below w.heap.size w w3) := ⟨below_step (by repeat (first | (with_reducible first | exact HB.out | apply below_alloc | apply pw_below_drewN | apply below_drew1) | exact HB.out)) hb⟩; clear HB; have HB := n1_; clear n1_; clear hb)) | (go_at_call 23; go_loud ((with_reducible refine (WA.out _).mono ?_); rintro e w4 ⟨rfl, hb⟩; have n1_ : Aside0 (Below w.heap.size w w4) := ⟨below_step (by repeat (first | (with_reducible first | exact HB.out | apply below_alloc | apply pw_below_drewN | apply below_drew1) | exact HB.out)) hb⟩; clear HB; have HB := n1_; clear n1_; clear hb)))
    go_ret
    exact ⟨rfl, HB.out⟩
  subst hge0
  have hqf : q = false := by
    cases hqq : q with
    | false => rfl
    | true => exact absurd ⟨hbig, hs, rfl, hqq⟩ h
  rw [hqf] at WR
  clear hr hc hb hn hlm hw hwm h hs hk ha hb1 hd hh hge hq hbig hqf
  go_enter Try.func7, Try.ntmps7
  go_wp2_with (first | (go_at_call 22; go_loud ((with_reducible refine (WS.out).mono ?_); rintro e w1 ⟨rfl, hb⟩; have n1_ : Aside0 (Below w.heap.size w w1) := ⟨below_step (by repeat (first | (with_reducible first | exact HB.out | apply below_alloc | apply pw_below_drewN | apply below_drew1) | exact HB.out)) hb⟩; clear HB; have HB := n1_; clear n1_; clear hb WS)) | (go_at_call 39; go_loud ((with_reducible refine (WG.out _ HB.out).mono ?_); rintro e w2 ⟨rfl, hb⟩; have n1_ : Aside0 (Below w.heap.size w w2) := ⟨below_step (by repeat (first | (with_reducible first | exact HB.out | apply below_alloc | apply pw_below_drewN | apply below_drew1) | exact HB.out)) hb⟩; clear HB; have HB := n1_; clear n1_; clear hb)) | ((with_reducible refine gate_store (p := 5) rfl ?_); go_loud (refine wpList_store_newL (w0 := w2) rfl rfl 38 (.tmp 5) (.tmp 26) rfl #[.int .i64 a, .int .i64 b, .int .i64 d, .int .i64 h'] 38 #[.int .i64 0, .int .i64 0, .int .i64 0, .int .i64 0] rfl (by rfl) (by rfl) (by kernel_rfl) rfl (by simp [Value.oneCell']) ?_; intro w3 bk_ hb; have BK3 := Aside0.mk bk_; clear bk_; have n1_ : Aside0 (Below w.heap.size w w3) := ⟨below_step (by repeat (first | (with_reducible first | exact HB.out | apply below_alloc | apply pw_below_drewN | apply below_drew1) | exact HB.out)) hb⟩; clear HB; have HB := n1_; clear n1_; clear hb; have k0 : w3.cell? ⟨w2.heap.size, 0, none⟩ = some (.int .i64 a) := (blk_cell BK3.out 0).trans rfl; have k1 : w3.cell? ⟨w2.heap.size, 1, none⟩ = some (.int .i64 b) := (blk_cell BK3.out 1).trans rfl; have k2 : w3.cell? ⟨w2.heap.size, 2, none⟩ = some (.int .i64 d) := (blk_cell BK3.out 2).trans rfl; have k3 : w3.cell? ⟨w2.heap.size, 3, none⟩ = some (.int .i64 h') := (blk_cell BK3.out 3).trans rfl)) | (go_at_call 27; go_loud ((with_reducible refine (WR.out _ HB.out).mono ?_); rintro e w5 ⟨rfl, hb⟩; have n1_ : Aside0 (Below w.heap.size w w5) := ⟨below_step (by repeat (first | (with_reducible first | exact HB.out | apply below_alloc | apply pw_below_drewN | apply below_drew1) | exact HB.out)) hb⟩; clear HB; have HB := n1_; clear n1_; clear hb)) | (go_at_call 23; go_loud ((with_reducible refine (WA.out _).mono ?_); rintro e w4 ⟨rfl, hb⟩; have n1_ : Aside0 (Below w.heap.size w w4) := ⟨below_step (by repeat (first | (with_reducible first | exact HB.out | apply below_alloc | apply pw_below_drewN | apply below_drew1) | exact HB.out)) hb⟩; clear HB; have HB := n1_; clear n1_; clear hb)))
  go_ret
  exact ⟨rfl, HB.out⟩
end Go.Proofs.Ytdkbhbolkieeiaa.K
namespace Go.Proofs.Ytdkbhbolkieeiaa.K
open Go.RowKit Go.Proofs.YtdkbhbolkieeiaaW.PrintWords Go.Proofs.YtdkbhbolkieeiaaW.PrintLast Go.Proofs.YtdkbhbolkieeiaaW.PrintMore
set_option linter.unusedVariables false
set_option linter.unusedSimpArgs false
set_option maxHeartbeats 8000000 in
set_option maxRecDepth 100000 in
theorem back_walk (A : Option Addr) (c : Nat) (l : List Int) (Al : Option Addr) (cl : Nat) (ws : List Wr) (w : World) (hr : Kd.C (Kd.int .u8) w A l.length l) (hc : l.length ≤ c) (hb : Byts l) (hlm : l.length ≤ 9223372036854775807) (hw : Kd.C kWr w Al ws.length ws) (hwm : ws.length ≤ 9223372036854775807) (hwb : ∀ x ∈ ws, Byts x.s.l) :
    Calls Try.prog 7 #[.slice A l.length c, .slice Al ws.length cl] w fun e w' => e = .returned (.bool true) ∧ Below w.heap.size w w' := by
  by_cases hall : l.length ≤ 30000 ∧ shortN ws = true ∧ (geoG l).2 = 0 ∧ rightP (geoG l).1.1 (geoG l).1.2.1 (geoG l).1.2.2.1 (geoG l).1.2.2.2 (ws.map wrP) = true
  case neg => exact back_early A c l Al cl ws w hr hc hb hlm hw hwm hall
  obtain ⟨hbig, hs, hok, hrt⟩ := hall
  have h40 : ws.length ≤ 40 := by unfold shortN at hs; simp only [Bool.and_eq_true, decide_eq_true_eq] at hs; exact hs.1
  have WA := Aside0.mk awake27_walk
  have HB := Aside0.mk (Below.refl w.heap.size w)
  have HWL : Aside0 (∀ W, Below w.heap.size w W → Kd.C kWr W Al ws.length ws) := ⟨fun W hB => Kd.C_below hw hB⟩
  have WS : Aside0 (Calls Try.prog 22 #[.slice Al ws.length cl] w fun e w' => e = .returned (.bool true) ∧ Below w.heap.size w w') := ⟨by have := short_walk Al cl ws w hw hwm; rwa [hs] at this⟩
  have WG : Aside0 (∀ W, Below w.heap.size w W → Calls Try.prog 39 #[.slice A l.length c] W fun e w' => e = .returned (.tuple #[.agg #[.int .i64 (geoG l).1.1, .int .i64 (geoG l).1.2.1, .int .i64 (geoG l).1.2.2.1, .int .i64 (geoG l).1.2.2.2], .int .i64 (geoG l).2]) ∧ Below W.heap.size W w') := ⟨fun W hB => rGet06_walk A c l W (Kd.C_below hr hB) hc (by omega) hb⟩
  have WR : Aside0 (∀ W, Below w.heap.size w W → Calls Try.prog 27 #[.agg #[.int .i64 (geoG l).1.1, .int .i64 (geoG l).1.2.1, .int .i64 (geoG l).1.2.2.1, .int .i64 (geoG l).1.2.2.2], .slice Al ws.length cl] W fun e w' => e = .returned (.bool true) ∧ Below W.heap.size W w') := ⟨fun W hB => by
    have := rRight27_walk (geoG l).1.1 (geoG l).1.2.1 (geoG l).1.2.2.1 (geoG l).1.2.2.2 Al cl ws W (Kd.C_below hw hB) hwm
    rw [rightW_P, hrt] at this
    exact this⟩
  have WLd : Aside0 (∀ W, Below w.heap.size w W → Calls Try.prog 40 #[.slice A l.length c, .slice Al ws.length cl] W fun e w' => ∃ (g co : Nat) (cs : Array Value), e = .returned (.slice (some ⟨g, 0, none⟩) l.length co) ∧ (W.heap.size ≤ g ∧ l.length ≤ co ∧ co = cs.size ∧ w'.heap[g]? = some (.cells cs 5 (0, 0)) ∧ cs.toList.take l.length = (setAtL l (64 * logN l) (headN (ws.map wrP) ++ recsN (ws.map wrP))).map (Value.int .u8)) ∧ Below W.heap.size W w') := ⟨fun W hB => laid_walk A c l Al cl ws W (Kd.C_below hr hB) hc (by omega) hb hok (Kd.C_below hw hB) (by omega) hwb⟩
  obtain ⟨p1, p2⟩ := read_laid (l := l) (ws := ws.map wrP) hok hrt
  obtain ⟨a, b, d, h, L, hG, hgo, hL1, hL2, hlen, h1, h64, hLs⟩ := logFacts hok
  have hlen2 : 64 * L + 64 ≤ l.length := len_ok hlen h1
  have WL : Aside0 (∀ W, Calls Try.prog 41 #[.agg #[.int .i64 a, .int .i64 b, .int .i64 d, .int .i64 h]] W fun e w' => e = .returned (.int .i64 (L : Int)) ∧ Below W.heap.size W w') := ⟨fun W => by rw [← hL1]; exact rLog_walk a b d h W⟩
  have WE := Aside0.mk (fun W => journalEmpty_walk W)
  obtain ⟨X, hX⟩ : ∃ X, X = setAtL l (64 * logN l) (headN (ws.map wrP) ++ recsN (ws.map wrP)) := ⟨_, rfl⟩
  have hXl : X.length = l.length := by rw [hX]; exact setAtL_length _ _ _ (by rw [← hL2]; omega)
  have hyh : Byts (headN (ws.map wrP)) := sealS_byts (numP_byts (numP_byts magic1_byts _ _) _ _)
  have hyr : Byts (recsN (ws.map wrP)) := recsN_byts (fun y hy => by obtain ⟨x, hx, rfl⟩ := List.mem_map.1 hy; exact hwb x hx)
  have hXb : Byts X := by rw [hX]; exact setAtL_byts hb (hyh.append hyr) _
  rw [← hX] at p1 p2
  simp only [← hX] at WLd
  have hEb : Byts (sealS magic0) := sealS_byts (by intro x hx; simp [magic0] at hx; rcases hx with rfl | rfl | rfl | rfl | rfl <;> decide)
  have hEl : (sealS magic0).length = 64 := sealS_length _
  obtain ⟨q1, q2, q3⟩ := read_over (l := l) (x := X) (Y := sealS magic0) hok p2 hXl hEl empty_many
  obtain ⟨Y, hY⟩ : ∃ Y, Y = setAtL X (64 * logN l) (sealS magic0) := ⟨_, rfl⟩
  rw [← hY] at q1 q2 q3
  have hYb : Byts Y := by rw [hY]; exact setAtL_byts hXb hEb _
  obtain ⟨r1, r2, r3⟩ := read_over (l := l) (x := Y) (Y := List.replicate (64 : Int).toNat 0) hok q2 q3 (by simp) zero64_many
  obtain ⟨Z, hZ⟩ : ∃ Y', Y' = setAtL Y (64 * logN l) (List.replicate (64 : Int).toNat 0) := ⟨_, rfl⟩
  rw [← hZ] at r1 r2 r3
  have hZb : Byts Z := by rw [hZ]; exact setAtL_byts hYb (fun x hx => by rw [(List.mem_replicate.1 hx).2]; decide) _
  rw [← hL2] at hY hZ
  rw [hG] at WG WR
  simp only at WG WR
  obtain ⟨n, hn⟩ : ∃ n, n = l.length := ⟨_, rfl⟩
  have WJ : Aside0 (∀ (V : List Int) (vs : List PW) (q : Bool), readJ V = (vs, q) → V.length = n → Byts V → ∀ (g co : Nat) (W : World), Kd.C (Kd.int .u8) W (some ⟨g, 0, none⟩) n V → n ≤ co → Calls Try.prog 35 #[.slice (some ⟨g, 0, none⟩) n co] W fun e w' => ∃ v : Value, e = .returned (.tuple #[v, .bool q]) ∧ Kd.R kWP 82 w' W.heap.size (fun _ => True) v vs ∧ Below W.heap.size W w') := ⟨fun V vs q hv hl hb g co W hC hco => by
    have := jRead_walk (some ⟨g, 0, none⟩) co V W (by rw [hl]; exact hC) (by omega) (by omega) hb
    rw [hv, hl] at this
    exact this⟩
  have HX1 := Aside0.mk p1
  have HX2 : Aside0 (X.length = n) := ⟨by omega⟩
  have HX3 := Aside0.mk hXb
  have HY1 := Aside0.mk q1
  have HY2 : Aside0 (Y.length = n) := ⟨by omega⟩
  have HY3 := Aside0.mk hYb
  have HY4 := Aside0.mk hY
  have HZ1 := Aside0.mk r1
  have HZ2 : Aside0 (Z.length = n) := ⟨by omega⟩
  have HZ3 := Aside0.mk hZb
  have HZ4 := Aside0.mk hZ
  have HSM : Aside0 (∀ x ∈ ws.map wrP, x.2.length < 140737488355328) := ⟨by rw [← show (readJ X).1 = ws.map wrP by rw [p1]]; exact readJ_small X⟩
  obtain ⟨k, hk⟩ : ∃ n, n = ws.length := ⟨_, rfl⟩
  have HMAP : Aside0 ((ws.map wrP).length = k) := ⟨by rw [List.length_map]; exact hk.symm⟩
  have HKW := Aside0.mk hk
  rw [← hk] at WS WR HWL ⊢
  simp only [← hk] at WLd
  rw [← hn] at WG hbig ⊢
  simp only [← hn] at WLd
  have HLN : Aside0 (64 * L + 64 ≤ n) := ⟨by omega⟩
  have HNB : Aside0 (n ≤ 30000) := ⟨hbig⟩
  have hi : ¬ (n : Int) > 30000 := by omega
  have hLi : (L : Int) ≤ 1000 := by omega
  have hw1 : RowKit.wrap64 (64 * (L : Int)) = 64 * L := by unfold RowKit.wrap64; omega
  obtain ⟨E, hE⟩ : ∃ E, E = sealS magic0 := ⟨_, rfl⟩
  rw [← hE] at WE HY4
  have HEL : Aside0 (E.length = 64) := ⟨by rw [hE]; exact hEl⟩
  clear hr hc hb hlm hw hwm hwb hs hok hrt h40 p1 p2 hG hgo hL1 hL2 hlen h1 h64 hLs hlen2 hX hXl hyh hyr hXb hEb hEl q1 q2 q3 hY hYb r1 r2 r3 hZ hZb hn hk hE hbig
  go_enter Try.func7, Try.ntmps7
  go_upto_region 7 with (first | (go_at_call 22; go_loud ((with_reducible refine (WS.out).mono ?_); rintro e w1 ⟨rfl, hb⟩; have n1_ : Aside0 (Below w.heap.size w w1) := ⟨below_step (by repeat (first | (with_reducible first | exact HB.out | apply below_alloc | apply pw_below_drewN | apply below_drew1) | exact HB.out)) hb⟩; clear HB; have HB := n1_; clear n1_; clear hb WS)) | (go_at_call 39; go_loud ((with_reducible refine (WG.out _ HB.out).mono ?_); rintro e w2 ⟨rfl, hb⟩; have n1_ : Aside0 (Below w.heap.size w w2) := ⟨below_step (by repeat (first | (with_reducible first | exact HB.out | apply below_alloc | apply pw_below_drewN | apply below_drew1) | exact HB.out)) hb⟩; clear HB; have HB := n1_; clear n1_; have HW20 : Aside0 (w.heap.size ≤ w2.heap.size) := ⟨HB.out.size⟩; clear hb)) | ((with_reducible refine gate_store (p := 5) rfl ?_); go_loud (refine wpList_store_newL (w0 := w2) rfl rfl 38 (.tmp 5) (.tmp 26) rfl #[.int .i64 a, .int .i64 b, .int .i64 d, .int .i64 h] 38 #[.int .i64 0, .int .i64 0, .int .i64 0, .int .i64 0] rfl (by rfl) (by rfl) (by kernel_rfl) rfl (by simp [Value.oneCell']) ?_; intro w3 bk_ hb; have BK3 := Aside0.mk bk_; clear bk_; have n1_ : Aside0 (Below w.heap.size w w3) := ⟨below_step (by repeat (first | (with_reducible first | exact HB.out | apply below_alloc | apply pw_below_drewN | apply below_drew1) | exact HB.out)) hb⟩; clear HB; have HB := n1_; clear n1_; clear hb; have k0 : w3.cell? ⟨w2.heap.size, 0, none⟩ = some (.int .i64 a) := (blk_cell BK3.out 0).trans rfl; have k1 : w3.cell? ⟨w2.heap.size, 1, none⟩ = some (.int .i64 b) := (blk_cell BK3.out 1).trans rfl; have k2 : w3.cell? ⟨w2.heap.size, 2, none⟩ = some (.int .i64 d) := (blk_cell BK3.out 2).trans rfl; have k3 : w3.cell? ⟨w2.heap.size, 3, none⟩ = some (.int .i64 h) := (blk_cell BK3.out 3).trans rfl)) | (go_at_call 27; go_loud ((with_reducible refine (WR.out _ HB.out).mono ?_); rintro e w5 ⟨rfl, hb⟩; have n1_ : Aside0 (Below w.heap.size w w5) := ⟨below_step (by repeat (first | (with_reducible first | exact HB.out | apply below_alloc | apply pw_below_drewN | apply below_drew1) | exact HB.out)) hb⟩; clear HB; have HB := n1_; clear n1_; have BK5 := Aside0.mk (blk_below BK3.out hb); clear hb)) | (go_at_call 40; go_loud ((with_reducible refine (WLd.out _ HB.out).mono ?_); rintro e w6 ⟨gx, co, csx, rfl, ⟨hgx, hco, hsx, hbx, htx⟩, hb⟩; have n1_ : Aside0 (Below w.heap.size w w6) := ⟨below_step (by repeat (first | (with_reducible first | exact HB.out | apply below_alloc | apply pw_below_drewN | apply below_drew1) | exact HB.out)) hb⟩; clear HB; have HB := n1_; clear n1_; have BG := Aside0.mk (blk_below BK5.out hb); have BX := Aside0.mk hbx; have HTX := Aside0.mk htx; have HGX5 : Aside0 (w2.heap.size < w5.heap.size ∧ w5.heap.size ≤ gx) := ⟨blk_lt BK5.out, hgx⟩; have HCO := Aside0.mk hco; have HSZ := Aside0.mk hsx; clear hgx hco hsx hbx htx hb)))
  have HN6 : Aside0 (gx < w6.heap.size) := ⟨blk_lt BX.out⟩
  obtain ⟨N6, hN6⟩ : ∃ N, N = w6.heap.size := ⟨_, rfl⟩
  have HCX : Aside0 (Kd.C (Kd.int .u8) w6 (some ⟨gx, 0, none⟩) n X) := ⟨C_blkN BX.out HTX.out HX2.out (by have := HNB.out; omega)⟩
  go_upto_region 8 with (first | (go_at_call 35; go_loud ((with_reducible refine (WJ.out X _ _ HX1.out HX2.out HX3.out gx co _ HCX.out HCO.out).mono ?_); rintro e w7 ⟨v7, rfl, hR, hb⟩; obtain ⟨A7, c7, hv7⟩ := Kd.R_slice hR; rw [HMAP.out] at hv7; subst hv7; rw [← hN6] at hR; have HK7 := Aside0.mk hR; have n1_ : Aside0 (Below w.heap.size w w7) := ⟨below_step (by repeat (first | (with_reducible first | exact HB.out | apply below_alloc | apply pw_below_drewN | apply below_drew1) | exact HB.out)) hb⟩; clear HB; have HB := n1_; clear n1_; have n_ := Aside0.mk (blk_below BG.out hb); have m_ := Aside0.mk (blk_below BX.out hb); clear BG BX; have BG := n_; have BX := m_; clear n_ m_ hR hb)))
  rw [← hN6] at HN6
  clear HCX hN6
  have HW2 : Aside0 (w.heap.size ≤ w2.heap.size ∧ w2.heap.size < gx) := ⟨by have := HGX5.out; have := HW20.out; omega⟩
  have HGX : Aside0 (w2.heap.size < gx) := ⟨HW2.out.2⟩
  have HSX : Aside0 (n ≤ csx.size) := ⟨by have := HSZ.out; have := HCO.out; omega⟩
  have HSC : Aside0 (csx.size = co) := ⟨HSZ.out.symm⟩
  have hcut : ∀ W : World, (Instr.slice 44 (.slice (some ⟨gx, 0, none⟩) n co) (some (.int .i64 (64 * (L : Int)))) none none).run Try.prog W = .ok (.slice (some ⟨gx, 64 * L, none⟩) (n - 64 * L) (co - 64 * L)) W := fun W => by
    have h_ := cutA ⟨gx, 0, none⟩ n co (64 * L) (by have := HLN.out; omega) (.inr (by have := HLN.out; have := HCO.out; omega)) (64 * (L : Int)) (by omega) W
    rw [add_plain] at h_
    exact h_
  obtain ⟨wz, rfl⟩ : ∃ wz : World, wz = w7 := ⟨w7, rfl⟩
  have HBw := HB
  clear HB
  have HB : Aside0 (Below wz.heap.size wz wz) := ⟨Below.refl _ _⟩
  have y0 : wz.cell? ⟨w2.heap.size, 0, none⟩ = some (.int .i64 a) := (blk_cell BG.out 0).trans rfl
  have y1 : wz.cell? ⟨w2.heap.size, 1, none⟩ = some (.int .i64 b) := (blk_cell BG.out 1).trans rfl
  have y2 : wz.cell? ⟨w2.heap.size, 2, none⟩ = some (.int .i64 d) := (blk_cell BG.out 2).trans rfl
  have y3 : wz.cell? ⟨w2.heap.size, 3, none⟩ = some (.int .i64 h) := (blk_cell BG.out 3).trans rfl
  refine start_ (n := 7) (S := fun w' => w'.cell? ⟨w2.heap.size, 0, none⟩ = some (.int .i64 a) ∧ w'.cell? ⟨w2.heap.size, 1, none⟩ = some (.int .i64 b) ∧ w'.cell? ⟨w2.heap.size, 2, none⟩ = some (.int .i64 d) ∧ w'.cell? ⟨w2.heap.size, 3, none⟩ = some (.int .i64 h)) (ds := []) #[false, false, false, false, false, false, false] (by kernel_rfl) rfl rfl ⟨(show wz.drew.cell? _ = _ from y0), (show wz.drew.cell? _ = _ from y1), (show wz.drew.cell? _ = _ from y2), (show wz.drew.cell? _ = _ from y3)⟩ (fun hHeld => ?_)
  refine pure_ (i := 0) (N := some 45) (v := ?_) (a' := ?_) #[true, false, false, false, false, false, false] rfl rfl (by kernel_rfl) (fun _ _ _ h => h) (Or.inl ⟨by rfl, ?_⟩) ?_ ?_
  rotate_left
  · intro w'
    go_simp
    with_reducible rfl
  rotate_left
  · simp only [Act.put, List.setIfInBounds_toArray, List.set_cons_zero, List.set_cons_succ, i64_w, i32_w]
    rfl
  refine take_ (i := 1) (N := some 46) (v := ?_) (a' := ?_) #[true, true, false, false, false, false, false] rfl rfl (by kernel_rfl) (fun _ _ _ h => h) (Or.inl ⟨by rfl, ?_⟩) hHeld ?_ ?_
  rotate_left
  · rintro w' ⟨s0, s1, s2, s3⟩
    go_simp
    with_reducible rfl
  rotate_left
  · simp only [Act.put, List.setIfInBounds_toArray, List.set_cons_zero, List.set_cons_succ, i64_w, i32_w]
    rfl
  refine one_ (i := 2) (N := some 47) #[true, true, true, false, false, false, false] rfl rfl (by kernel_rfl) (by decide) (fun K hK => ?_)
  clear hHeld
  refine goes_ Try.func41 (by kernel_rfl) rfl #[.agg #[.int .i64 a, .int .i64 b, .int .i64 d, .int .i64 h]] (by rfl) rfl rfl (by simp only [List.map_toArray, List.map_cons, List.map_nil]; rfl) ?_
  with_reducible refine (WL.out _).mono ?_
  rintro e w20 ⟨rfl, hb20⟩
  refine ⟨_, rfl, ?_⟩
  have HB20 := Aside0.mk (below_step (below_drew1 HB.out) hb20)
  clear hb20
  refine hK.out _ _ ⟨(pw_cell_below HB20.out y0), (pw_cell_below HB20.out y1), (pw_cell_below HB20.out y2), (pw_cell_below HB20.out y3)⟩ (fun hHeld => ?_)
  clear hK K
  refine norm_ (a' := ?_) ?_ ?_
  rotate_left
  · show Act.put _ (some 47) _ = _
    simp only [Act.put, List.setIfInBounds_toArray, List.set_cons_zero, List.set_cons_succ, i64_w, i32_w]
    rfl
  refine pure_ (i := 3) (N := some 48) (v := ?_) (a' := ?_) #[true, true, true, true, false, false, false] rfl rfl (by kernel_rfl) (fun _ _ _ h => h) (Or.inl ⟨by rfl, ?_⟩) ?_ ?_
  rotate_left
  · intro w'
    go_simp
    with_reducible rfl
  rotate_left
  · simp only [Act.put, List.setIfInBounds_toArray, List.set_cons_zero, List.set_cons_succ, i64_w, i32_w]
    rfl
  refine pure_ (i := 4) (N := some 49) (v := ?_) (a' := ?_) #[true, true, true, true, true, false, false] rfl rfl (by kernel_rfl) (fun _ _ _ h => h) (Or.inl ⟨by rfl, ?_⟩) ?_ ?_
  rotate_left
  · intro w'
    go_simp
    with_reducible rfl
  rotate_left
  · simp only [Act.put, List.setIfInBounds_toArray, List.set_cons_zero, List.set_cons_succ, i64_w, i32_w]
    rfl
  refine one_ (i := 5) (N := some 50) #[true, true, true, true, true, true, false] rfl rfl (by kernel_rfl) (by decide) (fun K hK => ?_)
  clear hHeld
  refine goes_ Try.func29 (by kernel_rfl) rfl #[] (by rfl) rfl rfl (by simp only [List.map_toArray, List.map_cons, List.map_nil]) ?_
  with_reducible refine (WE.out _).mono ?_
  rintro e w21 ⟨v21, rfl, ho21, hb21⟩
  refine ⟨_, rfl, ?_⟩
  obtain ⟨A21, c21, hv21⟩ := Kd.R_slice ho21
  subst hv21
  have HC21 := Aside0.mk (Kd.R_reads' ho21).2.2
  have HB21 := Aside0.mk (below_step HB20.out hb21)
  clear ho21 hb21
  have BX21 : Aside0 (w21.heap[gx]? = some (.cells csx 5 (0, 0))) := ⟨blk_below BX.out HB21.out⟩
  refine hK.out _ _ ⟨(pw_cell_below HB21.out y0), (pw_cell_below HB21.out y1), (pw_cell_below HB21.out y2), (pw_cell_below HB21.out y3)⟩ (fun hHeld => ?_)
  clear hK K
  refine norm_ (a' := ?_) ?_ ?_
  rotate_left
  · show Act.put _ (some 50) _ = _
    simp only [Act.put, List.setIfInBounds_toArray, List.set_cons_zero, List.set_cons_succ, i64_w, i32_w]
    rfl
  refine one_ (i := 6) (N := some 51) #[true, true, true, true, true, true, true] rfl rfl (by kernel_rfl) (by decide) (fun K hK => ?_)
  clear hHeld
  obtain ⟨w22, cs22, hrun, bk8, hs8, hl8, hg8⟩ := run_copyBlkG (P := Try.prog) 3 44 44 5 Try.underlying44 (by kernel_rfl) gx (64 * L) (n - 64 * L) (co - 64 * L) E A21 E.length c21 BX21.out (by have := HSX.out; have := HLN.out; omega) HC21.out
  have HRUN := Aside0.mk hrun
  have BX22 := Aside0.mk bk8
  have HS22 := Aside0.mk hs8
  have HL22 := Aside0.mk hl8
  have HG22 := Aside0.mk hg8
  clear hrun bk8 hs8 hl8 hg8
  refine value_ (w1 := w22) (v := _) (by rfl) rfl (exec_copy (d := .tmp 49) (x := .tmp 50) rfl rfl rfl HRUN.out) ?_
  clear HRUN
  refine hK.out _ _ ⟨((blk_cell (blk_grown (blk_below BG.out HB21.out) HG22.out (by have := HGX.out; intro e_; have := Option.some.inj e_; omega)) 0).trans rfl), ((blk_cell (blk_grown (blk_below BG.out HB21.out) HG22.out (by have := HGX.out; intro e_; have := Option.some.inj e_; omega)) 1).trans rfl), ((blk_cell (blk_grown (blk_below BG.out HB21.out) HG22.out (by have := HGX.out; intro e_; have := Option.some.inj e_; omega)) 2).trans rfl), ((blk_cell (blk_grown (blk_below BG.out HB21.out) HG22.out (by have := HGX.out; intro e_; have := Option.some.inj e_; omega)) 3).trans rfl)⟩ (fun hHeld => ?_)
  clear hK K
  refine norm_ (a' := ?_) ?_ ?_
  rotate_left
  · show Act.put _ (some 51) _ = _
    simp only [Act.put, List.setIfInBounds_toArray, List.set_cons_zero, List.set_cons_succ, i64_w, i32_w]
    rfl
  refine done_ (by kernel_rfl) ?_
  have HBN : Aside0 (Below w.heap.size w w22) := ⟨pw_below_grown (below_step HBw.out HB21.out) _ (below_step HBw.out HB21.out).size HG22.out (fun k e => by cases e; have := HGX.out; have := HW2.out; omega)⟩
  have BGN : Aside0 (w22.heap[w2.heap.size]? = some (.cells #[.int .i64 a, .int .i64 b, .int .i64 d, .int .i64 h] 38 (0, 0))) := ⟨blk_grown (blk_below BG.out HB21.out) HG22.out (by have := HGX.out; intro e_; have := Option.some.inj e_; omega)⟩
  have HTN : Aside0 (cs22.toList.take n = Y.map (Value.int .u8)) := ⟨by rw [HY4.out]; exact setAtL_cells HX2.out.symm HTX.out HSX.out (by have := HLN.out; omega) HL22.out⟩
  have HK22 : Aside0 (Kd.R kWP 82 w22 N6 (fun _ => True) (.slice A7 k c7) (ws.map wrP)) := ⟨Kd.R_mono (Kd.R_grown (Kd.R_bound (Kd.R_below HK7.out HB21.out)) HG22.out (fun q hq e => by cases e; have := hq.2.1; have := HN6.out; omega)) (fun _ hq => hq.1)⟩
  have HSN : Aside0 (n ≤ cs22.size ∧ cs22.size = co) := ⟨by rw [HS22.out]; exact ⟨HSX.out, HSC.out⟩⟩
  clear hHeld y0 y1 y2 y3 HB HBw BG BX HTX HK7 HSX HSC HB20 HB21 BX21 HC21 HG22 HL22 HS22
  have HCY : Aside0 (Kd.C (Kd.int .u8) w22 (some ⟨gx, 0, none⟩) n Y) := ⟨C_blkN BX22.out HTN.out HY2.out (by have := HNB.out; omega)⟩
  have HB := HBN
  clear HBN
  refine go_on40 ?_
  go_upto_region 10 with (first | (go_at_call 35; go_loud ((with_reducible refine (WJ.out Y _ _ HY1.out HY2.out HY3.out gx co _ HCY.out HCO.out).mono ?_); rintro e w23 ⟨v23, rfl, hR, hb⟩; have HK7 := Aside0.mk (Kd.R_below HK22.out hb); have n1_ : Aside0 (Below w.heap.size w w23) := ⟨below_step (by repeat (first | (with_reducible first | exact HB.out | apply below_alloc | apply pw_below_drewN | apply below_drew1) | exact HB.out)) hb⟩; clear HB; have HB := n1_; clear n1_; have BG := Aside0.mk (blk_below BGN.out hb); have BX := Aside0.mk (blk_below BX22.out hb); clear BGN BX22 HK22 hR hb)))
  clear HCY
  obtain ⟨wz, rfl⟩ : ∃ wz : World, wz = w23 := ⟨w23, rfl⟩
  obtain ⟨csx, rfl⟩ : ∃ csx : Array Value, csx = cs22 := ⟨cs22, rfl⟩
  have HTX := HTN
  have HSX : Aside0 (n ≤ csx.size) := ⟨HSN.out.1⟩
  have HSC : Aside0 (csx.size = co) := ⟨HSN.out.2⟩
  clear HTN HSN
  have HBw := HB
  clear HB
  have HB : Aside0 (Below wz.heap.size wz wz) := ⟨Below.refl _ _⟩
  have y0 : wz.cell? ⟨w2.heap.size, 0, none⟩ = some (.int .i64 a) := (blk_cell BG.out 0).trans rfl
  have y1 : wz.cell? ⟨w2.heap.size, 1, none⟩ = some (.int .i64 b) := (blk_cell BG.out 1).trans rfl
  have y2 : wz.cell? ⟨w2.heap.size, 2, none⟩ = some (.int .i64 d) := (blk_cell BG.out 2).trans rfl
  have y3 : wz.cell? ⟨w2.heap.size, 3, none⟩ = some (.int .i64 h) := (blk_cell BG.out 3).trans rfl
  refine start_ (n := 7) (S := fun w' => w'.cell? ⟨w2.heap.size, 0, none⟩ = some (.int .i64 a) ∧ w'.cell? ⟨w2.heap.size, 1, none⟩ = some (.int .i64 b) ∧ w'.cell? ⟨w2.heap.size, 2, none⟩ = some (.int .i64 d) ∧ w'.cell? ⟨w2.heap.size, 3, none⟩ = some (.int .i64 h)) (ds := []) #[false, false, false, false, false, false, false] (by kernel_rfl) rfl rfl ⟨(show wz.drew.cell? _ = _ from y0), (show wz.drew.cell? _ = _ from y1), (show wz.drew.cell? _ = _ from y2), (show wz.drew.cell? _ = _ from y3)⟩ (fun hHeld => ?_)
  refine pure_ (i := 0) (N := some 57) (v := ?_) (a' := ?_) #[true, false, false, false, false, false, false] rfl rfl (by kernel_rfl) (fun _ _ _ h => h) (Or.inl ⟨by rfl, ?_⟩) ?_ ?_
  rotate_left
  · intro w'
    go_simp
    with_reducible rfl
  rotate_left
  · simp only [Act.put, List.setIfInBounds_toArray, List.set_cons_zero, List.set_cons_succ, i64_w, i32_w]
    rfl
  refine take_ (i := 1) (N := some 58) (v := ?_) (a' := ?_) #[true, true, false, false, false, false, false] rfl rfl (by kernel_rfl) (fun _ _ _ h => h) (Or.inl ⟨by rfl, ?_⟩) hHeld ?_ ?_
  rotate_left
  · rintro w' ⟨s0, s1, s2, s3⟩
    go_simp
    with_reducible rfl
  rotate_left
  · simp only [Act.put, List.setIfInBounds_toArray, List.set_cons_zero, List.set_cons_succ, i64_w, i32_w]
    rfl
  refine join_ (σ := Option Addr × Nat) 1 #[true, true, true, true, true, true, false] (fun s => [(59, .int .i64 L), (60, .int .i64 (RowKit.wrap64 (64 * (L : Int)))), (61, .slice (some ⟨gx, 64 * L, none⟩) (n - 64 * L) (co - 64 * L)), (62, .slice s.1 64 s.2)]) (fun s w' => Below wz.heap.size wz w' ∧ Kd.C (Kd.int .u8) w' s.1 64 (List.replicate (64 : Int).toNat 0)) ?_ ?_
  rotate_left
  · intro hCont
    refine two_ (i := 2) (j := 5) (Ni := some 59) (Nj := some 62) #[true, true, true, false, false, false, false] #[true, true, false, false, false, true, false] rfl rfl rfl rfl (by kernel_rfl) (by decide) (by decide) (fun K hK => ?_) (fun K hK => ?_)
    · skip
      clear hHeld
      refine goes_ Try.func41 (by kernel_rfl) rfl #[.agg #[.int .i64 a, .int .i64 b, .int .i64 d, .int .i64 h]] (by rfl) rfl rfl (by simp only [List.map_toArray, List.map_cons, List.map_nil]; rfl) ?_
      with_reducible refine (WL.out _).mono ?_
      rintro e wx2 ⟨rfl, hb_⟩
      refine ⟨_, rfl, ?_⟩
      have HBW2 := Aside0.mk (below_step (below_drew1 HB.out) hb_)
      clear hb_
      refine hK.out _ _ ⟨(pw_cell_below HBW2.out y0), (pw_cell_below HBW2.out y1), (pw_cell_below HBW2.out y2), (pw_cell_below HBW2.out y3)⟩ (fun hHeld => ?_)
      clear hK K
      refine norm_ (a' := ?_) ?_ ?_
      rotate_left
      · show Act.put _ (some 59) _ = _
        simp only [Act.put, List.setIfInBounds_toArray, List.set_cons_zero, List.set_cons_succ, i64_w, i32_w]
        rfl
      refine pure_ (i := 3) (N := some 60) (v := ?_) (a' := ?_) #[true, true, true, true, false, false, false] rfl rfl (by kernel_rfl) (fun _ _ _ h => h) (Or.inl ⟨by rfl, ?_⟩) ?_ ?_
      rotate_left
      · intro w'
        go_simp
        with_reducible rfl
      rotate_left
      · simp only [Act.put, List.setIfInBounds_toArray, List.set_cons_zero, List.set_cons_succ, i64_w, i32_w]
        rfl
      refine pure_ (i := 4) (N := some 61) (v := ?_) (a' := ?_) #[true, true, true, true, true, false, false] rfl rfl (by kernel_rfl) (fun _ _ _ h => h) (Or.inl ⟨by rfl, ?_⟩) ?_ ?_
      rotate_left
      · intro w'
        go_simp
        with_reducible rfl
      rotate_left
      · simp only [Act.put, List.setIfInBounds_toArray, List.set_cons_zero, List.set_cons_succ, i64_w, i32_w]
        rfl
      refine one_ (i := 5) (N := some 62) #[true, true, true, true, true, true, false] rfl rfl (by kernel_rfl) (by decide) (fun K hK => ?_)
      clear hHeld
      refine Kd.R_make_step (Kd.int .u8) (w0 := wz) wz.heap.size 5 (by rfl) rfl 44 _ _ rfl 64 (by rfl) (by rfl) Try.underlying44 (.int .u8 0) 1 u8info rfl (by decide) (by omega) (0 : Int) (ok := fun _ => True) (okp := fun _ => True) rfl (fun _ hk => hk) trivial (by omega) (by omega) HBW2.out HBW2.out.size ?_
      intro v62 wx25 ho62 hb62 hg_ hnew_
      clear hg_ hnew_
      obtain ⟨A62, c62, hv62⟩ := Kd.R_slice ho62
      rw [show (List.replicate (64 : Int).toNat (0 : Int)).length = 64 from rfl] at hv62
      subst hv62
      have HC62 : Aside0 (Kd.C (Kd.int .u8) wx25 A62 64 (List.replicate (64 : Int).toNat 0)) := ⟨(Kd.R_reads' ho62).2.2⟩
      have HBW25 := Aside0.mk hb62
      clear ho62 hb62
      refine hK.out _ _ ⟨(pw_cell_below HBW25.out y0), (pw_cell_below HBW25.out y1), (pw_cell_below HBW25.out y2), (pw_cell_below HBW25.out y3)⟩ (fun hHeld => ?_)
      clear hK K
      refine norm_ (a' := ?_) ?_ ?_
      rotate_left
      · show Act.put _ (some 62) _ = _
        simp only [Act.put, List.setIfInBounds_toArray, List.set_cons_zero, List.set_cons_succ, i64_w, i32_w]
        rfl
      exact norm_ (by first | (simp only [putAll, Act.put, List.setIfInBounds_toArray, List.set_cons_zero, List.set_cons_succ]; done) | (simp only [putAll, Act.put, List.setIfInBounds_toArray, List.set_cons_zero, List.set_cons_succ]; rfl)) (hCont (A62, c62) _ ⟨HBW25.out, HC62.out⟩)
    · skip
      clear hHeld
      refine Kd.R_make_step (Kd.int .u8) (w0 := wz) wz.heap.size 5 (by rfl) rfl 44 _ _ rfl 64 (by rfl) (by rfl) Try.underlying44 (.int .u8 0) 1 u8info rfl (by decide) (by omega) (0 : Int) (ok := fun _ => True) (okp := fun _ => True) rfl (fun _ hk => hk) trivial (by omega) (by omega) (below_drew1 HB.out) (below_drew1 HB.out).size ?_
      intro v62 wx5 ho62 hb62 hg_ hnew_
      clear hg_ hnew_
      obtain ⟨A62, c62, hv62⟩ := Kd.R_slice ho62
      rw [show (List.replicate (64 : Int).toNat (0 : Int)).length = 64 from rfl] at hv62
      subst hv62
      have HC62 : Aside0 (Kd.C (Kd.int .u8) wx5 A62 64 (List.replicate (64 : Int).toNat 0)) := ⟨(Kd.R_reads' ho62).2.2⟩
      have HBW5 := Aside0.mk hb62
      clear ho62 hb62
      refine hK.out _ _ ⟨(pw_cell_below HBW5.out y0), (pw_cell_below HBW5.out y1), (pw_cell_below HBW5.out y2), (pw_cell_below HBW5.out y3)⟩ (fun hHeld => ?_)
      clear hK K
      refine norm_ (a' := ?_) ?_ ?_
      rotate_left
      · show Act.put _ (some 62) _ = _
        simp only [Act.put, List.setIfInBounds_toArray, List.set_cons_zero, List.set_cons_succ, i64_w, i32_w]
        rfl
      refine one_ (i := 2) (N := some 59) #[true, true, true, false, false, true, false] rfl rfl (by kernel_rfl) (by decide) (fun K hK => ?_)
      clear hHeld
      refine goes_ Try.func41 (by kernel_rfl) rfl #[.agg #[.int .i64 a, .int .i64 b, .int .i64 d, .int .i64 h]] (by rfl) rfl rfl (by simp only [List.map_toArray, List.map_cons, List.map_nil]; rfl) ?_
      with_reducible refine (WL.out _).mono ?_
      rintro e wx52 ⟨rfl, hb_⟩
      refine ⟨_, rfl, ?_⟩
      have HBW52 := Aside0.mk (below_step HBW5.out hb_)
      have HC62b := Aside0.mk (Kd.C_below HC62.out hb_)
      clear HC62
      have HC62 := HC62b
      clear hb_
      refine hK.out _ _ ⟨(pw_cell_below HBW52.out y0), (pw_cell_below HBW52.out y1), (pw_cell_below HBW52.out y2), (pw_cell_below HBW52.out y3)⟩ (fun hHeld => ?_)
      clear hK K
      refine norm_ (a' := ?_) ?_ ?_
      rotate_left
      · show Act.put _ (some 59) _ = _
        simp only [Act.put, List.setIfInBounds_toArray, List.set_cons_zero, List.set_cons_succ, i64_w, i32_w]
        rfl
      refine pure_ (i := 3) (N := some 60) (v := ?_) (a' := ?_) #[true, true, true, true, false, true, false] rfl rfl (by kernel_rfl) (fun _ _ _ h => h) (Or.inl ⟨by rfl, ?_⟩) ?_ ?_
      rotate_left
      · intro w'
        go_simp
        with_reducible rfl
      rotate_left
      · simp only [Act.put, List.setIfInBounds_toArray, List.set_cons_zero, List.set_cons_succ, i64_w, i32_w]
        rfl
      refine pure_ (i := 4) (N := some 61) (v := ?_) (a' := ?_) #[true, true, true, true, true, true, false] rfl rfl (by kernel_rfl) (fun _ _ _ h => h) (Or.inl ⟨by rfl, ?_⟩) ?_ ?_
      rotate_left
      · intro w'
        go_simp
        with_reducible rfl
      rotate_left
      · simp only [Act.put, List.setIfInBounds_toArray, List.set_cons_zero, List.set_cons_succ, i64_w, i32_w]
        rfl
      exact norm_ (by first | (simp only [putAll, Act.put, List.setIfInBounds_toArray, List.set_cons_zero, List.set_cons_succ]; done) | (simp only [putAll, Act.put, List.setIfInBounds_toArray, List.set_cons_zero, List.set_cons_succ]; rfl)) (hCont (A62, c62) _ ⟨HBW52.out, HC62.out⟩)
  rintro ⟨A62, c62⟩ w21 ⟨hb21, h62⟩
  simp only at h62
  have HB21 := Aside0.mk hb21
  have HC21 := Aside0.mk h62
  clear hb21 h62
  have BX21 : Aside0 (w21.heap[gx]? = some (.cells csx 5 (0, 0))) := ⟨blk_below BX.out HB21.out⟩
  have hHeld : w21.cell? ⟨w2.heap.size, 0, none⟩ = some (.int .i64 a) ∧ w21.cell? ⟨w2.heap.size, 1, none⟩ = some (.int .i64 b) ∧ w21.cell? ⟨w2.heap.size, 2, none⟩ = some (.int .i64 d) ∧ w21.cell? ⟨w2.heap.size, 3, none⟩ = some (.int .i64 h) := ⟨(pw_cell_below HB21.out y0), (pw_cell_below HB21.out y1), (pw_cell_below HB21.out y2), (pw_cell_below HB21.out y3)⟩
  refine norm_ (a' := ?_) ?_ ?_
  rotate_left
  · simp only [putAll, Act.put, List.setIfInBounds_toArray, List.set_cons_zero, List.set_cons_succ]
    rfl
  refine one_ (i := 6) (N := some 63) #[true, true, true, true, true, true, true] rfl rfl (by kernel_rfl) (by decide) (fun K hK => ?_)
  clear hHeld
  obtain ⟨w22, cs22, hrun, bk8, hs8, hl8, hg8⟩ := run_copyBlkG (P := Try.prog) 3 44 44 5 Try.underlying44 (by kernel_rfl) gx (64 * L) (n - 64 * L) (co - 64 * L) (List.replicate (64 : Int).toNat 0) A62 64 c62 BX21.out (by have := HSX.out; have := HLN.out; omega) HC21.out
  have HRUN := Aside0.mk hrun
  have BX22 := Aside0.mk bk8
  have HS22 := Aside0.mk hs8
  have HL22 := Aside0.mk hl8
  have HG22 := Aside0.mk hg8
  clear hrun bk8 hs8 hl8 hg8
  refine value_ (w1 := w22) (v := _) (by rfl) rfl (exec_copy (d := .tmp 61) (x := .tmp 62) rfl rfl rfl HRUN.out) ?_
  clear HRUN
  refine hK.out _ _ ⟨((blk_cell (blk_grown (blk_below BG.out HB21.out) HG22.out (by have := HGX.out; intro e_; have := Option.some.inj e_; omega)) 0).trans rfl), ((blk_cell (blk_grown (blk_below BG.out HB21.out) HG22.out (by have := HGX.out; intro e_; have := Option.some.inj e_; omega)) 1).trans rfl), ((blk_cell (blk_grown (blk_below BG.out HB21.out) HG22.out (by have := HGX.out; intro e_; have := Option.some.inj e_; omega)) 2).trans rfl), ((blk_cell (blk_grown (blk_below BG.out HB21.out) HG22.out (by have := HGX.out; intro e_; have := Option.some.inj e_; omega)) 3).trans rfl)⟩ (fun hHeld => ?_)
  clear hK K
  refine norm_ (a' := ?_) ?_ ?_
  rotate_left
  · show Act.put _ (some 63) _ = _
    simp only [Act.put, List.setIfInBounds_toArray, List.set_cons_zero, List.set_cons_succ, i64_w, i32_w]
    rfl
  refine done_ (by kernel_rfl) ?_
  have HBN : Aside0 (Below w.heap.size w w22) := ⟨pw_below_grown (below_step HBw.out HB21.out) _ (below_step HBw.out HB21.out).size HG22.out (fun k e => by cases e; have := HGX.out; have := HW2.out; omega)⟩
  have BGN : Aside0 (w22.heap[w2.heap.size]? = some (.cells #[.int .i64 a, .int .i64 b, .int .i64 d, .int .i64 h] 38 (0, 0))) := ⟨blk_grown (blk_below BG.out HB21.out) HG22.out (by have := HGX.out; intro e_; have := Option.some.inj e_; omega)⟩
  have HTN : Aside0 (cs22.toList.take n = Z.map (Value.int .u8)) := ⟨by rw [HZ4.out]; exact setAtL_cells HY2.out.symm HTX.out HSX.out (by have := HLN.out; omega) HL22.out⟩
  have HK22 : Aside0 (Kd.R kWP 82 w22 N6 (fun _ => True) (.slice A7 k c7) (ws.map wrP)) := ⟨Kd.R_mono (Kd.R_grown (Kd.R_bound (Kd.R_below HK7.out HB21.out)) HG22.out (fun q hq e => by cases e; have := hq.2.1; have := HN6.out; omega)) (fun _ hq => hq.1)⟩
  have HSN : Aside0 (n ≤ cs22.size ∧ cs22.size = co) := ⟨by rw [HS22.out]; exact ⟨HSX.out, HSC.out⟩⟩
  clear hHeld y0 y1 y2 y3 HB HBw BG BX HTX HK7 HSX HSC HB21 BX21 HC21 HG22 HL22 HS22
  have HCZ : Aside0 (Kd.C (Kd.int .u8) w22 (some ⟨gx, 0, none⟩) n Z) := ⟨C_blkN BX22.out HTN.out HZ2.out (by have := HNB.out; omega)⟩
  have HB := HBN
  clear HBN HTN HSN
  refine go_on40 ?_
  go_wp2_with (first | (go_at_call 35; go_loud ((with_reducible refine (WJ.out Z _ _ HZ1.out HZ2.out HZ3.out gx co _ HCZ.out HCO.out).mono ?_); rintro e w24 ⟨v24, rfl, hR, hb⟩; have HK7 := Aside0.mk (Kd.R_below HK22.out hb); have HC7 : Aside0 (Kd.C kWP w24 A7 (ws.map wrP).length (ws.map wrP)) := ⟨by have := (Kd.R_reads' HK7.out).2.2; exact this⟩; have n1_ : Aside0 (Below w.heap.size w w24) := ⟨below_step (by repeat (first | (with_reducible first | exact HB.out | apply below_alloc | apply pw_below_drewN | apply below_drew1) | exact HB.out)) hb⟩; clear HB; have HB := n1_; clear n1_; clear hR hb)) | (go_at_call 37; go_loud (have h_ := samePW A7 Al c7 cl (ws.map wrP) ws _ HC7.out (by rw [← HKW.out]; exact HWL.out _ HB.out) rfl HSM.out; rw [HMAP.out, ← HKW.out] at h_; (with_reducible refine h_.mono ?_); clear h_; rintro e w25 ⟨rfl, hb⟩; have n1_ : Aside0 (Below w.heap.size w w25) := ⟨below_step (by repeat (first | (with_reducible first | exact HB.out | apply below_alloc | apply pw_below_drewN | apply below_drew1) | exact HB.out)) hb⟩; clear HB; have HB := n1_; clear n1_; clear hb)) | (go_at_call 23; go_loud ((with_reducible refine (WA.out _).mono ?_); rintro e w26 ⟨rfl, hb⟩; have n1_ : Aside0 (Below w.heap.size w w26) := ⟨below_step (by repeat (first | (with_reducible first | exact HB.out | apply below_alloc | apply pw_below_drewN | apply below_drew1) | exact HB.out)) hb⟩; clear HB; have HB := n1_; clear n1_; clear hb)))
  go_ret
  exact ⟨rfl, HB.out⟩
end Go.Proofs.Ytdkbhbolkieeiaa.K
