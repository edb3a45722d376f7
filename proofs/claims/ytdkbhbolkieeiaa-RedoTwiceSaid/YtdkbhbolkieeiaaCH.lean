/- Walks and plain laws of this claim, merged: K27i, L27a, R27, R27b, K33b, K33g. -/
import Derived.Test.YtdkbhbolkieeiaaCF
import Derived.Test.YtdkbhbolkieeiaaCD
import Derived.Test.YtdkbhbolkieeiaaKCopyB
import Derived.Test.YtdkbhbolkieeiaaCG
import Derived.Test.YtdkbhbolkieeiaaCC
import Derived.Test.YtdkbhbolkieeiaaCA
namespace Go.Proofs.Ytdkbhbolkieeiaa.K
open Go.RowKit Go.Proofs.YtdkbhbolkieeiaaW.PrintWords Go.Proofs.YtdkbhbolkieeiaaW.PrintLast Go.Proofs.YtdkbhbolkieeiaaW.PrintMore
set_option linter.unusedVariables false
set_option linter.unusedSimpArgs false
/-- A list of which a part is another one's, as much as there is room. -/
def setAtL (l : List Int) (o : Nat) (X : List Int) : List Int := l.take o ++ X.take (min X.length (l.length - o)) ++ l.drop (o + min X.length (l.length - o))
theorem setAtL_length (l : List Int) (o : Nat) (X : List Int) (h : o ≤ l.length) : (setAtL l o X).length = l.length := by
  unfold setAtL
  rw [List.length_append, List.length_append, List.length_take, List.length_take, List.length_drop]; omega
/-- The block behind a copy into it. -/
theorem setAtL_cells {cs cs' : Array Value} {l X : List Int} {o n : Nat} (hn : n = l.length) (hc : cs.toList.take n = l.map (Value.int .u8)) (hs : n ≤ cs.size) (ho : o ≤ n) (h : cs'.toList = cs.toList.take o ++ (X.take (min X.length (n - o))).map (Value.int .u8) ++ cs.toList.drop (o + min X.length (n - o))) : cs'.toList.take n = (setAtL l o X).map (Value.int .u8) := by
  subst hn
  have hlen : ((X.take (min X.length (l.length - o))).map (Value.int .u8)).length = min X.length (l.length - o) := by rw [List.length_map, List.length_take]; omega
  have := lay_take (vs := (X.take (min X.length (l.length - o))).map (Value.int .u8)) (o := o) hc (by rw [hlen]; omega) (by rw [Array.length_toList]; exact hs)
  rw [hlen] at this
  rw [h, this]
  unfold setAtL
  simp only [List.map_append, List.map_take, List.map_drop]
set_option maxHeartbeats 4000000 in
set_option maxRecDepth 100000 in
theorem laid_walk (A : Option Addr) (c : Nat) (l : List Int) (Al : Option Addr) (cl : Nat) (ws : List Wr) (w : World) (hr : Kd.C (Kd.int .u8) w A l.length l) (hc : l.length ≤ c) (hl : l.length ≤ 100000) (hb : Byts l) (hok : (geoG l).2 = 0)
    (hw : Kd.C kWr w Al ws.length ws) (hwl : ws.length ≤ 1000000) (hwb : ∀ x ∈ ws, Byts x.s.l) :
    Calls Try.prog 40 #[.slice A l.length c, .slice Al ws.length cl] w fun e w' => ∃ (g co : Nat) (cs : Array Value), e = .returned (.slice (some ⟨g, 0, none⟩) l.length co) ∧ (w.heap.size ≤ g ∧ l.length ≤ co ∧ co = cs.size ∧ w'.heap[g]? = some (.cells cs 5 (0, 0)) ∧ cs.toList.take l.length = (setAtL l (64 * logN l) (headN (ws.map wrP) ++ recsN (ws.map wrP))).map (Value.int .u8)) ∧ Below w.heap.size w w' := by
  have WG := Aside0.mk (rGet06_walk A c l w hr hc (by omega) hb)
  obtain ⟨a, b, d, h, L, hG, hgo, hL1, hL2, hlen, h1, h64, hLs⟩ := logFacts hok
  have hlen2 : 64 * L + 64 ≤ l.length := len_ok hlen h1
  rw [hG] at WG
  simp only at WG
  have WL : Aside0 (∀ W, Calls Try.prog 41 #[.agg #[.int .i64 a, .int .i64 b, .int .i64 d, .int .i64 h]] W fun e w' => e = .returned (.int .i64 (L : Int)) ∧ Below W.heap.size W w') := ⟨fun W => by rw [← hL1]; exact rLog_walk a b d h W⟩
  have HR := Aside0.mk hr
  have WC : Aside0 (∀ W, Below w.heap.size w W → Calls Try.prog 81 #[.slice A l.length c] W fun e w' => ∃ v : Value, e = .returned v ∧ Kd.R (Kd.int .u8) 5 w' W.heap.size (fun _ => True) v l ∧ Below W.heap.size W w') := ⟨fun W hB => numC_walk A c l W (Kd.C_below hr hB) hc (by omega)⟩
  have WH : Aside0 (∀ W, Below w.heap.size w W → Calls Try.prog 33 #[.slice Al ws.length cl] W fun e w' => ∃ v : Value, e = .returned v ∧ Kd.R (Kd.int .u8) 5 w' W.heap.size (fun _ => True) v (headN (ws.map wrP)) ∧ Below W.heap.size W w') := ⟨fun W hB => head_walk Al cl ws W (Kd.C_below hw hB) hwl hwb⟩
  have WR : Aside0 (∀ W, Below w.heap.size w W → Calls Try.prog 31 #[.slice Al ws.length cl] W fun e w' => ∃ v : Value, e = .returned v ∧ Kd.R (Kd.int .u8) 5 w' W.heap.size (fun _ => True) v (recsN (ws.map wrP)) ∧ Below W.heap.size W w') := ⟨fun W hB => records_walk Al cl ws W (Kd.C_below hw hB) hwl⟩
  have HHl : Aside0 ((headN (ws.map wrP)).length = 64) := ⟨by unfold headN; exact sealS_length _⟩
  have HRl : Aside0 ((recsN (ws.map wrP)).length ≤ 128000000) := ⟨by rw [recsN_length, List.length_map]; omega⟩
  have ES : Aside0 (64 * logN l = 64 * L) := ⟨by rw [hL2]⟩
  rw [ES.out]
  obtain ⟨H, hH⟩ : ∃ H, H = headN (ws.map wrP) := ⟨_, rfl⟩
  obtain ⟨Rs, hRs⟩ : ∃ H, H = recsN (ws.map wrP) := ⟨_, rfl⟩
  rw [← hH] at WH HHl ⊢
  rw [← hRs] at WR HRl ⊢
  obtain ⟨n, hn⟩ : ∃ n, n = l.length := ⟨_, rfl⟩
  obtain ⟨ln, hln⟩ : ∃ n, n = ws.length := ⟨_, rfl⟩
  have HN := Aside0.mk hn
  have HLN : Aside0 (64 * L + 64 ≤ n) := ⟨by omega⟩
  rw [← hn] at WG WC HR ⊢
  rw [← hln] at WH WR ⊢
  have hw1 : RowKit.wrap64 (64 * (L : Int)) = 64 * L := by unfold RowKit.wrap64; omega
  have hLi : (L : Int) ≤ 1000 := by omega
  clear hr hc hl hb hok hw hwl hwb hG hgo hL1 hL2 hlen h1 h64 hlen2 hH hRs hn hln hLs
  have HB := Aside0.mk (Below.refl w.heap.size w)
  go_enter Try.func40, Try.ntmps40
  go_wp2_with (first | (go_at_call 39; go_loud ((with_reducible refine WG.out.mono ?_); rintro e w1 ⟨rfl, hb⟩; have n_ := Aside0.mk hb; clear HB; have HB := n_; clear n_ hb)) | ((with_reducible refine gate_store (p := 5) rfl ?_); go_loud (refine wpList_store_newL (w0 := w1) rfl rfl 38 (.tmp 5) (.tmp 12) rfl #[.int .i64 a, .int .i64 b, .int .i64 d, .int .i64 h] 38 #[.int .i64 0, .int .i64 0, .int .i64 0, .int .i64 0] rfl (by rfl) (by rfl) (by kernel_rfl) rfl (by simp [Value.oneCell']) ?_; intro w2 bk_ hb; have BK2 := Aside0.mk bk_; clear bk_; have n1_ : Aside0 (Below w.heap.size w w2) := ⟨below_step (by repeat (first | (with_reducible first | exact HB.out | apply below_alloc | apply pw_below_drewN | apply below_drew1) | exact HB.out)) hb⟩; clear HB; have HB := n1_; clear n1_; clear hb)) | (go_at_call 81; go_loud ((with_reducible refine (WC.out _ HB.out).mono ?_); rintro e w3 ⟨v3, rfl, ho, hb⟩; have HO := Aside0.mk (Kd.R_lower ho (below_size HB.out)); have n1_ : Aside0 (Below w.heap.size w w3) := ⟨below_step (by repeat (first | (with_reducible first | exact HB.out | apply below_alloc | apply pw_below_drewN | apply below_drew1) | exact HB.out)) hb⟩; clear HB; have HB := n1_; clear n1_; have BK3 := Aside0.mk (blk_below BK2.out hb); have k0 : w3.cell? ⟨w1.heap.size, 0, none⟩ = some (.int .i64 a) := (blk_cell BK3.out 0).trans rfl; have k1 : w3.cell? ⟨w1.heap.size, 1, none⟩ = some (.int .i64 b) := (blk_cell BK3.out 1).trans rfl; have k2 : w3.cell? ⟨w1.heap.size, 2, none⟩ = some (.int .i64 d) := (blk_cell BK3.out 2).trans rfl; have k3 : w3.cell? ⟨w1.heap.size, 3, none⟩ = some (.int .i64 h) := (blk_cell BK3.out 3).trans rfl; clear ho hb)) | (go_at_call 41; go_loud ((with_reducible refine (WL.out _).mono ?_); rintro e w4 ⟨rfl, hb⟩; have n0_ : Aside0 (Kd.R (Kd.int .u8) 5 w4 w.heap.size (fun _ => True) _ l) := ⟨Kd.R_below (by (with_reducible repeat (first | apply Kd.R_alloc | apply Kd.R_drewN | apply Kd.R_drew)); exact HO.out) hb⟩; clear HO; have HO := n0_; clear n0_; have n1_ : Aside0 (Below w.heap.size w w4) := ⟨below_step (by repeat (first | (with_reducible first | exact HB.out | apply below_alloc | apply pw_below_drewN | apply below_drew1) | exact HB.out)) hb⟩; clear HB; have HB := n1_; clear n1_; clear hb)))
  obtain ⟨wz, rfl⟩ : ∃ wz : World, wz = w4 := ⟨w4, rfl⟩
  obtain ⟨go, co, cso, hv3, hgo, hco, _, hbz, hsz, htk⟩ := Kd.R_blkS HO.out (by have := HN.out; have := HLN.out; omega)
  subst hv3
  rw [← HN.out] at hco htk ⊢
  have HBw := HB
  have BZ := Aside0.mk hbz
  have BO := BZ
  have HGO := Aside0.mk hgo
  have HCO := Aside0.mk hco
  have HSZ := Aside0.mk hsz
  have HTK := Aside0.mk htk
  have GO : Aside0 (go < wz.heap.size) := ⟨blk_lt hbz⟩
  have HSO : Aside0 (n ≤ cso.size) := ⟨by omega⟩
  have HB : Aside0 (Below wz.heap.size wz wz) := ⟨Below.refl _ _⟩
  have WH' := Aside0.mk (fun W (h : Below wz.heap.size wz W) => WH.out W (below_step HBw.out h))
  have WR' := Aside0.mk (fun W (h : Below wz.heap.size wz W) => WR.out W (below_step HBw.out h))
  have hcut : ∀ W : World, (Instr.slice 44 (.slice (some ⟨go, 0, none⟩) n co) (some (.int .i64 (64 * (L : Int)))) none none).run Try.prog W = .ok (.slice (some ⟨go, 64 * L, none⟩) (n - 64 * L) (co - 64 * L)) W := fun W => by
    have h_ := cutA ⟨go, 0, none⟩ n co (64 * L) (by have := HLN.out; omega) (.inr (by have := HLN.out; omega)) (64 * (L : Int)) (by omega) W
    rw [add_plain] at h_
    exact h_
  clear hgo hco hsz htk hbz HO WH WR HR WG WC WL k0 k1 k2 k3 hw1 hLi
  have WH := WH'
  have WR := WR'
  clear WH' WR'
  refine start_ (n := 10) (S := fun w' => True) (ds := []) #[false, false, false, false, false, false, false, false, false, false] (by kernel_rfl) rfl rfl trivial (fun hHeld => ?_)
  refine pure_ (i := 0) (N := some 22) (v := ?_) (a' := ?_) #[true, false, false, false, false, false, false, false, false, false] rfl rfl (by kernel_rfl) (fun _ _ _ h => h) (Or.inl ⟨by rfl, ?_⟩) ?_ ?_
  rotate_left
  · intro w'
    go_simp
    with_reducible rfl
  rotate_left
  · simp only [Act.put, List.setIfInBounds_toArray, List.set_cons_zero, List.set_cons_succ, i64_w, i32_w]
    rfl
  refine pure_ (i := 1) (N := some 23) (v := ?_) (a' := ?_) #[true, true, false, false, false, false, false, false, false, false] rfl rfl (by kernel_rfl) (fun _ _ _ h => h) (Or.inl ⟨by rfl, ?_⟩) ?_ ?_
  rotate_left
  · intro w'
    go_simp
    with_reducible rfl
  rotate_left
  · simp only [Act.put, List.setIfInBounds_toArray, List.set_cons_zero, List.set_cons_succ, i64_w, i32_w]
    rfl
  refine pure_ (i := 2) (N := some 24) (v := ?_) (a' := ?_) #[true, true, true, false, false, false, false, false, false, false] rfl rfl (by kernel_rfl) (fun _ _ _ h => h) (Or.inl ⟨by rfl, ?_⟩) ?_ ?_
  rotate_left
  · intro w'
    go_simp
    with_reducible rfl
  rotate_left
  · simp only [Act.put, List.setIfInBounds_toArray, List.set_cons_zero, List.set_cons_succ, i64_w, i32_w]
    rfl
  refine pure_ (i := 3) (N := some 25) (v := ?_) (a' := ?_) #[true, true, true, true, false, false, false, false, false, false] rfl rfl (by kernel_rfl) (fun _ _ _ h => h) (Or.inl ⟨by rfl, ?_⟩) ?_ ?_
  rotate_left
  · intro w'
    go_simp
    with_reducible rfl
  rotate_left
  · simp only [Act.put, List.setIfInBounds_toArray, List.set_cons_zero, List.set_cons_succ, i64_w, i32_w]
    rfl
  refine pure_ (i := 6) (N := some 28) (v := ?_) (a' := ?_) #[true, true, true, true, false, false, true, false, false, false] rfl rfl (by kernel_rfl) (fun _ _ _ h => h) (Or.inl ⟨by rfl, ?_⟩) ?_ ?_
  rotate_left
  · intro w'
    go_simp
    with_reducible rfl
  rotate_left
  · simp only [Act.put, List.setIfInBounds_toArray, List.set_cons_zero, List.set_cons_succ, i64_w, i32_w]
    rfl
  refine one_ (i := 4) (N := some 26) #[true, true, true, true, true, false, true, false, false, false] rfl rfl (by kernel_rfl) (by decide) (fun K hK => ?_)
  clear hHeld
  refine goes_ Try.func33 (by kernel_rfl) rfl #[.slice Al ln cl] (by rfl) rfl rfl (by simp only [List.map_toArray, List.map_cons, List.map_nil]; rfl) ?_
  with_reducible refine (WH.out _ (below_drew1 HB.out)).mono ?_
  rintro e w4 ⟨v4, rfl, ho4, hb4⟩
  refine ⟨_, rfl, ?_⟩
  obtain ⟨A4, c4, hv4⟩ := Kd.R_slice ho4
  subst hv4
  have HC4 := Aside0.mk (Kd.R_reads' ho4).2.2
  have HQ4 := Aside0.mk (Kd.R_reads' ho4).2.1
  have BO4 := Aside0.mk (blk_below (blk_drew BO.out) hb4)
  have HB4 := Aside0.mk (below_step (below_drew1 HB.out) hb4)
  clear ho4 hb4
  refine hK.out _ _ trivial (fun hHeld => ?_)
  clear hK K
  refine norm_ (a' := ?_) ?_ ?_
  rotate_left
  · show Act.put _ (some 26) _ = _
    simp only [Act.put, List.setIfInBounds_toArray, List.set_cons_zero, List.set_cons_succ, i64_w, i32_w]
    rfl
  refine one_ (i := 5) (N := some 27) #[true, true, true, true, true, true, true, false, false, false] rfl rfl (by kernel_rfl) (by decide) (fun K hK => ?_)
  clear hHeld
  refine goes_ Try.func81 (by kernel_rfl) rfl #[.slice A4 H.length c4] (by rfl) rfl rfl (by simp only [List.map_toArray, List.map_cons, List.map_nil]; rfl) ?_
  with_reducible refine (numC_walk A4 c4 H w4 HC4.out HQ4.out (by have := HHl.out; omega)).mono ?_
  rintro e w5 ⟨v5, rfl, ho5_, hb5⟩
  refine ⟨_, rfl, ?_⟩
  have HO5 := Aside0.mk (Kd.R_lower ho5_ (below_size HB4.out))
  have BO5 := Aside0.mk (blk_below BO4.out hb5)
  have HB5 := Aside0.mk (below_step HB4.out hb5)
  clear ho5_ hb5
  refine hK.out _ _ trivial (fun hHeld => ?_)
  clear hK K
  refine norm_ (a' := ?_) ?_ ?_
  rotate_left
  · show Act.put _ (some 27) _ = _
    simp only [Act.put, List.setIfInBounds_toArray, List.set_cons_zero, List.set_cons_succ, i64_w, i32_w]
    rfl
  refine one_ (i := 7) (N := some 29) #[true, true, true, true, true, true, true, true, false, false] rfl rfl (by kernel_rfl) (by decide) (fun K hK => ?_)
  clear hHeld
  refine goes_ Try.func31 (by kernel_rfl) rfl #[.slice Al ln cl] (by rfl) rfl rfl (by simp only [List.map_toArray, List.map_cons, List.map_nil]; rfl) ?_
  with_reducible refine (WR.out _ HB5.out).mono ?_
  rintro e w6 ⟨v6, rfl, ho6, hb6⟩
  refine ⟨_, rfl, ?_⟩
  obtain ⟨A6, c6, hv6⟩ := Kd.R_slice ho6
  subst hv6
  have HC6 := Aside0.mk (Kd.R_reads' ho6).2.2
  have HO6 := Aside0.mk (Kd.R_below HO5.out hb6)
  have BO6 := Aside0.mk (blk_below BO5.out hb6)
  have HB6 := Aside0.mk (below_step HB5.out hb6)
  clear ho6 hb6
  refine hK.out _ _ trivial (fun hHeld => ?_)
  clear hK K
  refine norm_ (a' := ?_) ?_ ?_
  rotate_left
  · show Act.put _ (some 29) _ = _
    simp only [Act.put, List.setIfInBounds_toArray, List.set_cons_zero, List.set_cons_succ, i64_w, i32_w]
    rfl
  refine one_ (i := 8) (N := some 30) #[true, true, true, true, true, true, true, true, true, false] rfl rfl (by kernel_rfl) (by decide) (fun K hK => ?_)
  clear hHeld
  refine Kd.R_append_rows_step (Kd.int .u8) (w0 := wz) wz.heap.size (by rfl) (.tmp 27) (.tmp 29) 44 5 (.int .u8 0) 1 (by rfl) Try.underlying44 u8info rfl (by decide) (by omega) _ H Rs A6 Rs.length c6 (fun _ => True) (fun _ => False) (by rfl) (by rfl) HO6.out HC6.out (fun _ _ h => h) (fun _ h => h.elim) (fun _ _ => trivial) HB6.out HB6.out.size (by have := HHl.out; have := HRl.out; omega) ?_
  intro v7 w7 ho7 hb7 hg_ hat_
  clear hg_ hat_
  obtain ⟨A7, c7, hv7⟩ := Kd.R_slice ho7
  subst hv7
  have HC7 := Aside0.mk (Kd.R_reads' ho7).2.2
  have BO7 : Aside0 (w7.heap[go]? = some (.cells cso 5 (0, 0))) := ⟨(hb7.block go GO.out).trans BZ.out⟩
  have HB7 := Aside0.mk hb7
  clear ho7 hb7
  refine hK.out _ _ trivial (fun hHeld => ?_)
  clear hK K
  refine norm_ (a' := ?_) ?_ ?_
  rotate_left
  · show Act.put _ (some 30) _ = _
    simp only [Act.put, List.setIfInBounds_toArray, List.set_cons_zero, List.set_cons_succ, i64_w, i32_w]
    rfl
  refine one_ (i := 9) (N := some 31) #[true, true, true, true, true, true, true, true, true, true] rfl rfl (by kernel_rfl) (by decide) (fun K hK => ?_)
  clear hHeld
  obtain ⟨w8, cs8, hrun, bk8, hs8, hl8, hg8⟩ := run_copyBlkG (P := Try.prog) 3 44 44 5 Try.underlying44 (by kernel_rfl) go (64 * L) (n - 64 * L) (co - 64 * L) (H ++ Rs) A7 (H ++ Rs).length c7 BO7.out (by have := HSO.out; have := HLN.out; omega) HC7.out
  have HRUN := Aside0.mk hrun
  have BK8 := Aside0.mk bk8
  have HS8 := Aside0.mk hs8
  have HL8 := Aside0.mk hl8
  have HG8 := Aside0.mk hg8
  clear hrun bk8 hs8 hl8 hg8
  refine value_ (w1 := w8) (v := _) (by rfl) rfl (exec_copy (d := .tmp 24) (x := .tmp 30) rfl rfl rfl HRUN.out) ?_
  clear HRUN
  refine hK.out _ _ trivial (fun hHeld => ?_)
  clear hK K
  refine norm_ (a' := ?_) ?_ ?_
  rotate_left
  · show Act.put _ (some 31) _ = _
    simp only [Act.put, List.setIfInBounds_toArray, List.set_cons_zero, List.set_cons_succ, i64_w, i32_w]
    rfl
  refine done_ (by kernel_rfl) ?_
  have HB8 : Aside0 (Below w.heap.size w w8) := ⟨pw_below_grown (below_step HBw.out HB7.out) _ (below_step HBw.out HB7.out).size HG8.out (fun k e => by cases e; exact HGO.out)⟩
  have HF : Aside0 (cs8.toList.take n = (setAtL l (64 * L) (H ++ Rs)).map (Value.int .u8)) := ⟨setAtL_cells HN.out HTK.out HSO.out (by have := HLN.out; omega) HL8.out⟩
  have HCC : Aside0 (co = cs8.size) := ⟨by rw [HS8.out, HSZ.out]⟩
  refine go_on40 ?_
  go_wp2
  go_ret
  exact ⟨go, co, cs8, rfl, ⟨HGO.out, HCO.out, HCC.out, BK8.out, HF.out⟩, HB8.out⟩
end Go.Proofs.Ytdkbhbolkieeiaa.K
namespace Go.Proofs.Ytdkbhbolkieeiaa.K
open Go.RowKit Go.Proofs.YtdkbhbolkieeiaaW.PrintWords Go.Proofs.YtdkbhbolkieeiaaW.PrintLast Go.Proofs.YtdkbhbolkieeiaaW.PrintMore
set_option linter.unusedVariables false
def oneW : List (Int × List Int) := [(14, List.replicate 64 7)]
def laidB : List Int := setAtL baseImg (64 * logN baseImg) (headN oneW ++ recsN oneW)
def bytsC (l : List Int) : Bool := l.all (fun x => decide (0 ≤ x) && decide (x < 256))
theorem byts_ofC {l : List Int} (h : bytsC l = true) : Byts l := fun x hx => by
  have h1 := List.all_eq_true.1 h x hx
  simpa using h1
theorem base_length : baseImg.length = 1920 := by decide +kernel
theorem base_byts : Byts baseImg := byts_ofC (by decide +kernel)
theorem base_geo : geoG baseImg = ((1, 5, 6, 5), 0) := by decide +kernel
theorem base_log : logN baseImg = 25 := by decide +kernel
theorem base_read : readJ baseImg = ([], false) := by decide +kernel
theorem laid_read : readJ laidB = (oneW, true) := by decide +kernel
theorem laidB_byts : Byts laidB := byts_ofC (by decide +kernel)
theorem laidB_length : laidB.length = 1920 := by decide +kernel
end Go.Proofs.Ytdkbhbolkieeiaa.K
namespace Go.Proofs.Ytdkbhbolkieeiaa.K
open Go.RowKit Go.Proofs.YtdkbhbolkieeiaaW.PrintWords Go.Proofs.YtdkbhbolkieeiaaW.PrintLast Go.Proofs.YtdkbhbolkieeiaaW.PrintMore
set_option linter.unusedVariables false
set_option linter.unusedSimpArgs false
set_option maxHeartbeats 1000000 in
set_option maxRecDepth 100000 in
theorem rUp_walk (a b c d s : Int) (w0 : World) :
    Calls Try.prog 63 #[.agg #[.int .i64 a, .int .i64 b, .int .i64 c, .int .i64 d], .int .i64 s] w0 fun e w' => e = .returned (.bool (geoUp a b c d s)) ∧ Below w0.heap.size w0 w' := by
  have EU : Aside0 (geoUp a b c d s = (geoOk a b c d && win s (geoB a b c d 0) (geoL a b c d - 1))) := ⟨rfl⟩
  have WK : Aside0 (∀ W, Calls Try.prog 60 #[.agg #[.int .i64 a, .int .i64 b, .int .i64 c, .int .i64 d]] W fun e w' => e = .returned (.int .i64 (geoE a b c d)) ∧ Below W.heap.size W w') := ⟨fun W => (rCheck_walk a b c d W).mono fun e w' h => ⟨h.1, by rw [h.2]; exact below_alloc (Below.refl _ _) _⟩⟩
  have WP : Aside0 (∀ W, Calls Try.prog 100 #[.agg #[.int .i64 a, .int .i64 b, .int .i64 c, .int .i64 d], .int .i64 0] W fun e w' => e = .returned (.int .i64 (geoB a b c d 0)) ∧ Below W.heap.size W w') := ⟨fun W => rStart_walk a b c d 0 W⟩
  have WL : Aside0 (∀ W, Calls Try.prog 41 #[.agg #[.int .i64 a, .int .i64 b, .int .i64 c, .int .i64 d]] W fun e w' => e = .returned (.int .i64 (geoL a b c d)) ∧ Below W.heap.size W w') := ⟨fun W => rLog_walk a b c d W⟩
  obtain ⟨R, hR⟩ : ∃ R, R = geoUp a b c d s := ⟨_, rfl⟩
  rw [← hR] at EU
  rw [← hR]
  clear hR
  by_cases hok : geoOk a b c d = true
  case neg =>
    have hf : geoOk a b c d = false := by simpa using hok
    have E0 : Aside0 (R = false) := ⟨by rw [EU.out, hf]; rfl⟩
    have e1 : geoE a b c d = 1 := by unfold geoE; rw [if_neg hok]
    rw [e1] at WK
    clear hok hf e1
    go_enter Try.func63, Try.ntmps63
    go_upto_region 1 with (fail)
    obtain ⟨w, hw⟩ : ∃ w, w = w0.alloc (.cells #[.int .i64 a, .int .i64 b, .int .i64 c, .int .i64 d] 38) := ⟨_, rfl⟩
    refine go_on40 ?_
    rw [← hw]
    have HW := Aside0.mk hw
    have HB := Aside0.mk (Below.refl w.heap.size w)
    have H0 : Aside0 (Below w0.heap.size w0 w) := ⟨by rw [hw]; exact below_alloc (Below.refl _ _) _⟩
    have k0 : w.cell? ⟨w0.heap.size, 0, none⟩ = some (.int .i64 a) := by rw [hw]; go_simp
    have k1 : w.cell? ⟨w0.heap.size, 1, none⟩ = some (.int .i64 b) := by rw [hw]; go_simp
    have k2 : w.cell? ⟨w0.heap.size, 2, none⟩ = some (.int .i64 c) := by rw [hw]; go_simp
    have k3 : w.cell? ⟨w0.heap.size, 3, none⟩ = some (.int .i64 d) := by rw [hw]; go_simp
    have hlt0 : w0.heap.size < w.heap.size := by rw [hw]; simp
    clear hw
    go_wp2_with (go_at_call 60; (with_reducible refine (WK.out _).mono ?_); rintro e w1 ⟨rfl, hb⟩; have n1_ : Aside0 (Below w.heap.size w w1) := ⟨below_step (by repeat (first | (with_reducible first | exact HB.out | apply below_alloc | apply pw_below_drewN | apply below_drew1) | exact HB.out)) hb⟩; clear HB; have HB := n1_; clear n1_; clear hb)
    go_ret
    exact ⟨by rw [E0.out]; rfl, below_step H0.out HB.out⟩
  have e1 : geoE a b c d = 0 := by unfold geoE; rw [if_pos hok]
  rw [e1] at WK
  rw [hok] at EU
  obtain ⟨p, hpB⟩ : ∃ p, p = geoB a b c d 0 := ⟨_, rfl⟩
  obtain ⟨q, hqL⟩ : ∃ q, q = geoL a b c d := ⟨_, rfl⟩
  rw [← hpB] at WP EU
  rw [← hqL] at WL EU
  clear hok e1 hpB hqL
  by_cases h1 : s ≥ p
  case neg =>
    have E0 : Aside0 (R = false) := ⟨by rw [EU.out]; unfold win; rw [decide_eq_false (by omega : ¬ p ≤ s)]; rfl⟩
    clear EU
    go_enter Try.func63, Try.ntmps63
    go_upto_region 1 with (fail)
    obtain ⟨w, hw⟩ : ∃ w, w = w0.alloc (.cells #[.int .i64 a, .int .i64 b, .int .i64 c, .int .i64 d] 38) := ⟨_, rfl⟩
    refine go_on40 ?_
    rw [← hw]
    have HW := Aside0.mk hw
    have HB := Aside0.mk (Below.refl w.heap.size w)
    have H0 : Aside0 (Below w0.heap.size w0 w) := ⟨by rw [hw]; exact below_alloc (Below.refl _ _) _⟩
    have k0 : w.cell? ⟨w0.heap.size, 0, none⟩ = some (.int .i64 a) := by rw [hw]; go_simp
    have k1 : w.cell? ⟨w0.heap.size, 1, none⟩ = some (.int .i64 b) := by rw [hw]; go_simp
    have k2 : w.cell? ⟨w0.heap.size, 2, none⟩ = some (.int .i64 c) := by rw [hw]; go_simp
    have k3 : w.cell? ⟨w0.heap.size, 3, none⟩ = some (.int .i64 d) := by rw [hw]; go_simp
    have hlt0 : w0.heap.size < w.heap.size := by rw [hw]; simp
    clear hw
    go_wp2_with (first | (go_at_call 60; (with_reducible refine (WK.out _).mono ?_); rintro e w1 ⟨rfl, hb⟩; have n1_ : Aside0 (Below w.heap.size w w1) := ⟨below_step (by repeat (first | (with_reducible first | exact HB.out | apply below_alloc | apply pw_below_drewN | apply below_drew1) | exact HB.out)) hb⟩; clear HB; have HB := n1_; clear n1_; have m0 := pw_cell_below HB.out k0; have m1 := pw_cell_below HB.out k1; have m2 := pw_cell_below HB.out k2; have m3 := pw_cell_below HB.out k3; clear hb) | (go_at_call 100; (with_reducible refine (WP.out _).mono ?_); rintro e w2 ⟨rfl, hb⟩; have n1_ : Aside0 (Below w.heap.size w w2) := ⟨below_step (by repeat (first | (with_reducible first | exact HB.out | apply below_alloc | apply pw_below_drewN | apply below_drew1) | exact HB.out)) hb⟩; clear HB; have HB := n1_; clear n1_; have n0 := pw_cell_below HB.out k0; have n1 := pw_cell_below HB.out k1; have n2 := pw_cell_below HB.out k2; have n3 := pw_cell_below HB.out k3; clear hb))
    go_ret
    exact ⟨by rw [E0.out]; rfl, below_step H0.out HB.out⟩
  have E0 : Aside0 (R = decide (s < q)) := ⟨by rw [EU.out]; unfold win; rw [decide_eq_true (by omega : p ≤ s), Bool.true_and, Bool.true_and, decide_eq_decide]; omega⟩
  clear EU
  go_enter Try.func63, Try.ntmps63
  go_upto_region 1 with (fail)
  obtain ⟨w, hw⟩ : ∃ w, w = w0.alloc (.cells #[.int .i64 a, .int .i64 b, .int .i64 c, .int .i64 d] 38) := ⟨_, rfl⟩
  refine go_on40 ?_
  rw [← hw]
  have HW := Aside0.mk hw
  have HB := Aside0.mk (Below.refl w.heap.size w)
  have H0 : Aside0 (Below w0.heap.size w0 w) := ⟨by rw [hw]; exact below_alloc (Below.refl _ _) _⟩
  have k0 : w.cell? ⟨w0.heap.size, 0, none⟩ = some (.int .i64 a) := by rw [hw]; go_simp
  have k1 : w.cell? ⟨w0.heap.size, 1, none⟩ = some (.int .i64 b) := by rw [hw]; go_simp
  have k2 : w.cell? ⟨w0.heap.size, 2, none⟩ = some (.int .i64 c) := by rw [hw]; go_simp
  have k3 : w.cell? ⟨w0.heap.size, 3, none⟩ = some (.int .i64 d) := by rw [hw]; go_simp
  have hlt0 : w0.heap.size < w.heap.size := by rw [hw]; simp
  clear hw
  go_wp2_with (first | (go_at_call 60; (with_reducible refine (WK.out _).mono ?_); rintro e w1 ⟨rfl, hb⟩; have n1_ : Aside0 (Below w.heap.size w w1) := ⟨below_step (by repeat (first | (with_reducible first | exact HB.out | apply below_alloc | apply pw_below_drewN | apply below_drew1) | exact HB.out)) hb⟩; clear HB; have HB := n1_; clear n1_; have m0 := pw_cell_below HB.out k0; have m1 := pw_cell_below HB.out k1; have m2 := pw_cell_below HB.out k2; have m3 := pw_cell_below HB.out k3; clear hb) | (go_at_call 100; (with_reducible refine (WP.out _).mono ?_); rintro e w2 ⟨rfl, hb⟩; have n1_ : Aside0 (Below w.heap.size w w2) := ⟨below_step (by repeat (first | (with_reducible first | exact HB.out | apply below_alloc | apply pw_below_drewN | apply below_drew1) | exact HB.out)) hb⟩; clear HB; have HB := n1_; clear n1_; have n0 := pw_cell_below HB.out k0; have n1 := pw_cell_below HB.out k1; have n2 := pw_cell_below HB.out k2; have n3 := pw_cell_below HB.out k3; clear hb) | (go_at_call 41; (with_reducible refine (WL.out _).mono ?_); rintro e w3 ⟨rfl, hb⟩; have n1_ : Aside0 (Below w.heap.size w w3) := ⟨below_step (by repeat (first | (with_reducible first | exact HB.out | apply below_alloc | apply pw_below_drewN | apply below_drew1) | exact HB.out)) hb⟩; clear HB; have HB := n1_; clear n1_; clear hb))
  go_ret
  exact ⟨by rw [E0.out]; rfl, below_step H0.out HB.out⟩
set_option maxRecDepth 100000 in
theorem rCap27_walk (a b c d : Int) (w : World) :
    Calls Try.prog 25 #[.agg #[.int .i64 a, .int .i64 b, .int .i64 c, .int .i64 d]] w fun e w' => e = .returned (.int .i64 (capJ a b c d)) ∧ Below w.heap.size w w' := by
  have WK : Aside0 (∀ W, Calls Try.prog 60 #[.agg #[.int .i64 a, .int .i64 b, .int .i64 c, .int .i64 d]] W fun e w' => e = .returned (.int .i64 (geoE a b c d)) ∧ w' = W.alloc (.cells #[.int .i64 a, .int .i64 b, .int .i64 c, .int .i64 d] 38)) := ⟨fun W => rCheck_walk a b c d W⟩
  by_cases hok : geoOk a b c d = true
  case neg =>
    have E0 : Aside0 (capJ a b c d = 0) := ⟨by unfold capJ; rw [if_neg hok]⟩
    have e1 : geoE a b c d = 1 := by unfold geoE; rw [if_neg hok]
    rw [e1] at WK
    clear hok e1
    go_enter Try.func25, Try.ntmps25
    go_wp2_with (go_at_call 60; (with_reducible refine (WK.out _).mono ?_); rintro e w' ⟨rfl, h_⟩; have h_ := h_.symm; subst h_)
    go_ret
    exact ⟨by rw [E0.out]; rfl, below_alloc (below_alloc (Below.refl _ _) _) _⟩
  have hp := geoOk_parts hok
  have E0 : Aside0 (capJ a b c d = RowKit.wrap64 ((d - 1).tdiv 2)) := ⟨by unfold capJ; rw [if_pos hok, Int.tdiv_eq_ediv_of_nonneg (by omega)]; unfold RowKit.wrap64; omega⟩
  have e1 : geoE a b c d = 0 := by unfold geoE; rw [if_pos hok]
  have hw : RowKit.wrap64 (d - 1) = d - 1 := by unfold RowKit.wrap64; omega
  rw [e1] at WK
  clear hp hok e1
  go_enter Try.func25, Try.ntmps25
  go_wp2_with (go_at_call 60; (with_reducible refine (WK.out _).mono ?_); rintro e w' ⟨rfl, h_⟩; have h_ := h_.symm; subst h_)
  go_ret
  exact ⟨by rw [E0.out]; rfl, below_alloc (below_alloc (Below.refl _ _) _) _⟩
set_option maxHeartbeats 1000000 in
set_option maxRecDepth 100000 in
theorem rRight27_walk (a b c d : Int) (A : Option Addr) (cp : Nat) (l : List Wr) (w0 : World) (hr : Kd.C kWr w0 A l.length l) (hl : l.length ≤ 9223372036854775807) :
    Calls Try.prog 27 #[.agg #[.int .i64 a, .int .i64 b, .int .i64 c, .int .i64 d], .slice A l.length cp] w0 fun e w' => e = .returned (.bool (rightW (capJ a b c d) (geoUp a b c d) l)) ∧ Below w0.heap.size w0 w' := by
  have EF : Aside0 (rightW (capJ a b c d) (geoUp a b c d) l = (decide (l.length ≠ 0 ∧ (l.length : Int) ≤ capJ a b c d) && !l.any (badW (geoUp a b c d)))) := ⟨rfl⟩
  have HK := Aside0.mk (rCap27_walk a b c d)
  have HU := Aside0.mk (rUp_walk a b c d)
  have HR := Aside0.mk hr
  have HL := Aside0.mk hl
  obtain ⟨cap, hcap⟩ : ∃ R, R = capJ a b c d := ⟨_, rfl⟩
  obtain ⟨up, hup⟩ : ∃ R, R = geoUp a b c d := ⟨_, rfl⟩
  obtain ⟨R, hR⟩ : ∃ R, R = rightW cap up l := ⟨_, rfl⟩
  rw [← hcap] at EF HK
  simp only [← hup] at EF HU
  rw [← hcap, ← hup, ← hR]
  rw [← hR] at EF
  obtain ⟨n, hn⟩ : ∃ n, n = l.length := ⟨_, rfl⟩
  have HN := Aside0.mk hn
  rw [← hn] at HR EF ⊢
  have hnl : n ≤ 9223372036854775807 := by omega
  clear hr hl hn hR hcap hup
  by_cases h0 : n = 0
  · have E0 : Aside0 (R = false) := ⟨by rw [EF.out]; simp [h0]⟩
    have hi : (n : Int) < 1 := by omega
    clear h0 hnl
    go_enter Try.func27, Try.ntmps27
    go_wp2
    go_ret
    exact ⟨by rw [E0.out]; rfl, below_alloc (Below.refl _ _) _⟩
  have hi : ¬ (n : Int) < 1 := by omega
  by_cases h1 : (n : Int) ≤ cap
  case neg =>
    have E0 : Aside0 (R = false) := ⟨by rw [EF.out]; simp [h1]⟩
    have hi2 : (n : Int) > cap := by omega
    clear h0 h1 hnl
    go_enter Try.func27, Try.ntmps27
    go_wp2_with (go_at_call 25; go_loud ((with_reducible refine (HK.out _).mono ?_); rintro e w5 ⟨rfl, hb⟩; have HB5 : Aside0 (Below w0.heap.size w0 w5) := ⟨below_step (below_alloc (Below.refl _ _) _) hb⟩; clear hb))
    go_ret
    exact ⟨by rw [E0.out]; rfl, HB5.out⟩
  have E0 : Aside0 (R = !l.any (badW up)) := ⟨by rw [EF.out]; simp [h1, h0]⟩
  have hi2 : ¬ (n : Int) > cap := by omega
  clear h0 h1 EF
  go_enter Try.func27, Try.ntmps27
  go_upto_region 1 with (fail)
  obtain ⟨w, hw⟩ : ∃ w, w = w0.alloc (.cells #[.int .i64 a, .int .i64 b, .int .i64 c, .int .i64 d] 38) := ⟨_, rfl⟩
  refine go_on40 ?_
  rw [← hw]
  have HW := Aside0.mk hw
  have HB := Aside0.mk (Below.refl w.heap.size w)
  have H0 : Aside0 (Below w0.heap.size w0 w) := ⟨by rw [hw]; exact below_alloc (Below.refl _ _) _⟩
  have k0 : w.cell? ⟨w0.heap.size, 0, none⟩ = some (.int .i64 a) := by rw [hw]; go_simp
  have k1 : w.cell? ⟨w0.heap.size, 1, none⟩ = some (.int .i64 b) := by rw [hw]; go_simp
  have k2 : w.cell? ⟨w0.heap.size, 2, none⟩ = some (.int .i64 c) := by rw [hw]; go_simp
  have k3 : w.cell? ⟨w0.heap.size, 3, none⟩ = some (.int .i64 d) := by rw [hw]; go_simp
  have hlt0 : w0.heap.size < w.heap.size := by rw [hw]; simp
  clear hw
  go_wp2_with (go_at_call 25; go_loud ((with_reducible refine (HK.out _).mono ?_); rintro e w1 ⟨rfl, hb⟩; have n1_ : Aside0 (Below w.heap.size w w1) := ⟨below_step (by repeat (first | (with_reducible first | exact HB.out | apply below_alloc | apply pw_below_drewN | apply below_drew1) | exact HB.out)) hb⟩; clear HB; have HB := n1_; clear n1_; clear hb))
  go_loopw [5] (fun v5 w' => ∃ m : Nat, v5 = .int .i64 m ∧ Aside0 (m ≤ n) ∧ Aside0 (∀ j (hj : j < l.length), j < m → badW up l[j] = false) ∧ Aside0 (Below w.heap.size w w')) (fun v5 _ => n - (intOf v5).toNat)
  case atStart => exact ⟨0, rfl, ⟨by omega⟩, ⟨fun j _ hj => absurd hj (by omega)⟩, HB⟩
  case round =>
    clear HB
    obtain ⟨m, rfl, hm, HA, HB⟩ := hrel
    have hm' := hm.out
    by_cases hlt : m < n
    · have hml : m < l.length := by rw [← HN.out]; exact hlt
      have hlt' : (m : Int) < n := by omega
      have hm0 : (0 : Int) ≤ m := by omega
      obtain ⟨ad, rfl, hx, hxs⟩ := at_wrA (Kd.C_below HR.out (below_step H0.out HB.out)) hml
      obtain ⟨x, hxx⟩ : ∃ x, x = l[m] := ⟨_, rfl⟩
      have EB : Aside0 (badW up l[m] = (!decide (x.s.l.length = 64) || !up x.at_)) := ⟨by rw [hxx]; rfl⟩
      have WU := Aside0.mk (fun W => HU.out x.at_ W)
      rw [← hxx] at hx hxs
      obtain ⟨xn, hxn⟩ : ∃ xn, xn = x.s.l.length := ⟨_, rfl⟩
      rw [← hxn] at EB
      have x0 := hx _ rfl
      have x1 := hxs 0 (.slice x.s.A xn x.s.c) (by rw [hxn]; rfl)
      have y0 := pw_cell_below HB.out k0
      have y1 := pw_cell_below HB.out k1
      have y2 := pw_cell_below HB.out k2
      have y3 := pw_cell_below HB.out k3
      have HAL : Aside0 (badW up l[m] = true → l.any (badW up) = true) := ⟨fun h => List.any_eq_true.2 ⟨l[m], List.getElem_mem hml, h⟩⟩
      by_cases h64 : xn = 64
      case neg =>
        have hi : ((xn : Int) != 64) = true := by simp; omega
        have E1 : Aside0 (R = false) := ⟨by rw [E0.out, HAL.out (by rw [EB.out]; simp [h64])]; rfl⟩
        clear h64 hx hxs hxx hml hxn EB HAL
        go_wp2
        refine start_ (n := 17) (S := fun w' => w'.cell? (ad.add (m * 2)) = some (.int .i64 x.at_) ∧ w'.cell? ⟨(ad.add (m * 2)).block, (ad.add (m * 2)).off + 1, none⟩ = some (.slice x.s.A xn x.s.c) ∧ w'.cell? ⟨w0.heap.size, 0, none⟩ = some (.int .i64 a) ∧ w'.cell? ⟨w0.heap.size, 1, none⟩ = some (.int .i64 b) ∧ w'.cell? ⟨w0.heap.size, 2, none⟩ = some (.int .i64 c) ∧ w'.cell? ⟨w0.heap.size, 3, none⟩ = some (.int .i64 d)) (ds := []) #[false, false, false, false, false, false, false, false, false, false, false, false, false, false, false, false, false] (by kernel_rfl) rfl rfl ⟨(show wr.drew.cell? _ = _ from x0), (show wr.drew.cell? _ = _ from x1), (show wr.drew.cell? _ = _ from y0), (show wr.drew.cell? _ = _ from y1), (show wr.drew.cell? _ = _ from y2), (show wr.drew.cell? _ = _ from y3)⟩ (fun hHeld => ?_)
        refine pure_ (i := 0) (N := some 22) (v := ?_) (a' := ?_) #[true, false, false, false, false, false, false, false, false, false, false, false, false, false, false, false, false] rfl rfl (by kernel_rfl) (fun _ _ _ h => h) (Or.inl ⟨by rfl, ?_⟩) ?_ ?_
        rotate_left
        · intro w'
          go_simp
          with_reducible rfl
        rotate_left
        · simp only [Act.put, List.setIfInBounds_toArray, List.set_cons_zero, List.set_cons_succ, i64_w, i32_w]
          rfl
        refine pure_ (i := 1) (N := some 23) (v := ?_) (a' := ?_) #[true, true, false, false, false, false, false, false, false, false, false, false, false, false, false, false, false] rfl rfl (by kernel_rfl) (fun _ _ _ h => h) (Or.inl ⟨by rfl, ?_⟩) ?_ ?_
        rotate_left
        · intro w'
          go_simp
          with_reducible rfl
        rotate_left
        · simp only [Act.put, List.setIfInBounds_toArray, List.set_cons_zero, List.set_cons_succ, i64_w, i32_w]
          rfl
        refine pure_ (i := 2) (N := some 24) (v := ?_) (a' := ?_) #[true, true, true, false, false, false, false, false, false, false, false, false, false, false, false, false, false] rfl rfl (by kernel_rfl) (fun _ _ _ h => h) (Or.inl ⟨by rfl, ?_⟩) ?_ ?_
        rotate_left
        · intro w'
          go_simp
          with_reducible rfl
        rotate_left
        · simp only [Act.put, List.setIfInBounds_toArray, List.set_cons_zero, List.set_cons_succ, i64_w, i32_w]
          rfl
        refine pure_ (i := 3) (N := some 25) (v := ?_) (a' := ?_) #[true, true, true, true, false, false, false, false, false, false, false, false, false, false, false, false, false] rfl rfl (by kernel_rfl) (fun _ _ _ h => h) (Or.inl ⟨by rfl, ?_⟩) ?_ ?_
        rotate_left
        · intro w'
          go_simp
          with_reducible rfl
        rotate_left
        · simp only [Act.put, List.setIfInBounds_toArray, List.set_cons_zero, List.set_cons_succ, i64_w, i32_w]
          rfl
        refine take_ (i := 4) (N := some 26) (v := ?_) (a' := ?_) #[true, true, true, true, true, false, false, false, false, false, false, false, false, false, false, false, false] rfl rfl (by kernel_rfl) (fun _ _ _ h => h) (Or.inl ⟨by rfl, ?_⟩) hHeld ?_ ?_
        rotate_left
        · rintro w' ⟨s0, s1, s2, s3, s4, s5⟩
          go_simp
          with_reducible rfl
        rotate_left
        · simp only [Act.put, List.setIfInBounds_toArray, List.set_cons_zero, List.set_cons_succ, i64_w, i32_w]
          rfl
        refine pure_ (i := 5) (N := some 27) (v := ?_) (a' := ?_) #[true, true, true, true, true, true, false, false, false, false, false, false, false, false, false, false, false] rfl rfl (by kernel_rfl) (fun _ _ _ h => h) (Or.inl ⟨by rfl, ?_⟩) ?_ ?_
        rotate_left
        · intro w'
          go_simp
          with_reducible rfl
        rotate_left
        · simp only [Act.put, List.setIfInBounds_toArray, List.set_cons_zero, List.set_cons_succ, i64_w, i32_w]
          rfl
        refine pure_ (i := 6) (N := some 28) (v := ?_) (a' := ?_) #[true, true, true, true, true, true, true, false, false, false, false, false, false, false, false, false, false] rfl rfl (by kernel_rfl) (fun _ _ _ h => h) (Or.inl ⟨by rfl, ?_⟩) ?_ ?_
        rotate_left
        · intro w'
          go_simp
          with_reducible rfl
        rotate_left
        · simp only [Act.put, List.setIfInBounds_toArray, List.set_cons_zero, List.set_cons_succ, i64_w, i32_w]
          rfl
        refine pure_ (i := 7) (N := some 29) (v := ?_) (a' := ?_) #[true, true, true, true, true, true, true, true, false, false, false, false, false, false, false, false, false] rfl rfl (by kernel_rfl) (fun _ _ _ h => h) (Or.inl ⟨by rfl, ?_⟩) ?_ ?_
        rotate_left
        · intro w'
          go_simp
          with_reducible rfl
        rotate_left
        · simp only [Act.put, List.setIfInBounds_toArray, List.set_cons_zero, List.set_cons_succ, i64_w, i32_w]
          rfl
        refine pure_ (i := 8) (N := some 30) (v := undef) (a' := ?_) #[true, true, true, true, true, true, true, true, true, false, false, false, false, false, false, false, false] rfl rfl (by kernel_rfl) (fun _ _ _ h => h) (Or.inr ⟨by rfl, rfl⟩) ?_ ?_
        rotate_left
        · simp only [Act.put, List.setIfInBounds_toArray, List.set_cons_zero, List.set_cons_succ, i64_w, i32_w]
          rfl
        refine pure_ (i := 9) (N := some 31) (v := undef) (a' := ?_) #[true, true, true, true, true, true, true, true, true, true, false, false, false, false, false, false, false] rfl rfl (by kernel_rfl) (fun _ _ _ h => h) (Or.inr ⟨by rfl, rfl⟩) ?_ ?_
        rotate_left
        · simp only [Act.put, List.setIfInBounds_toArray, List.set_cons_zero, List.set_cons_succ, i64_w, i32_w]
          rfl
        refine pure_ (i := 10) (N := some 32) (v := undef) (a' := ?_) #[true, true, true, true, true, true, true, true, true, true, true, false, false, false, false, false, false] rfl rfl (by kernel_rfl) (fun _ _ _ h => h) (Or.inr ⟨by rfl, rfl⟩) ?_ ?_
        rotate_left
        · simp only [Act.put, List.setIfInBounds_toArray, List.set_cons_zero, List.set_cons_succ, i64_w, i32_w]
          rfl
        refine pure_ (i := 11) (N := some 33) (v := undef) (a' := ?_) #[true, true, true, true, true, true, true, true, true, true, true, true, false, false, false, false, false] rfl rfl (by kernel_rfl) (fun _ _ _ h => h) (Or.inr ⟨by rfl, rfl⟩) ?_ ?_
        rotate_left
        · simp only [Act.put, List.setIfInBounds_toArray, List.set_cons_zero, List.set_cons_succ, i64_w, i32_w]
          rfl
        refine pure_ (i := 12) (N := some 34) (v := undef) (a' := ?_) #[true, true, true, true, true, true, true, true, true, true, true, true, true, false, false, false, false] rfl rfl (by kernel_rfl) (fun _ _ _ h => h) (Or.inr ⟨by rfl, rfl⟩) ?_ ?_
        rotate_left
        · simp only [Act.put, List.setIfInBounds_toArray, List.set_cons_zero, List.set_cons_succ, i64_w, i32_w]
          rfl
        refine pure_ (i := 13) (N := some 35) (v := undef) (a' := ?_) #[true, true, true, true, true, true, true, true, true, true, true, true, true, true, false, false, false] rfl rfl (by kernel_rfl) (fun _ _ _ h => h) (Or.inr ⟨by rfl, rfl⟩) ?_ ?_
        rotate_left
        · simp only [Act.put, List.setIfInBounds_toArray, List.set_cons_zero, List.set_cons_succ, i64_w, i32_w]
          rfl
        refine pure_ (i := 14) (N := some 36) (v := undef) (a' := ?_) #[true, true, true, true, true, true, true, true, true, true, true, true, true, true, true, false, false] rfl rfl (by kernel_rfl) (fun _ _ _ h => h) (Or.inr ⟨by rfl, rfl⟩) ?_ ?_
        rotate_left
        · simp only [Act.put, List.setIfInBounds_toArray, List.set_cons_zero, List.set_cons_succ, i64_w, i32_w]
          rfl
        refine pure_ (i := 15) (N := some 37) (v := undef) (a' := ?_) #[true, true, true, true, true, true, true, true, true, true, true, true, true, true, true, true, false] rfl rfl (by kernel_rfl) (fun _ _ _ h => h) (Or.inr ⟨by rfl, rfl⟩) ?_ ?_
        rotate_left
        · simp only [Act.put, List.setIfInBounds_toArray, List.set_cons_zero, List.set_cons_succ, i64_w, i32_w]
          rfl
        refine pure_ (i := 16) (N := some 38) (v := ?_) (a' := ?_) #[true, true, true, true, true, true, true, true, true, true, true, true, true, true, true, true, true] rfl rfl (by kernel_rfl) (fun _ _ _ h => h) (Or.inl ⟨by rfl, ?_⟩) ?_ ?_
        rotate_left
        · intro w'
          go_simp
          with_reducible rfl
        rotate_left
        · simp only [Act.put, List.setIfInBounds_toArray, List.set_cons_zero, List.set_cons_succ, i64_w, i32_w]
          rfl
        refine done_ (by kernel_rfl) ?_
        clear hHeld
        refine go_on40 ?_
        go_wp2
        go_ret
        exact ⟨by rw [E1.out]; rfl, below_drew1 (below_step H0.out HB.out)⟩
      have hi : ((xn : Int) != 64) = false := by simp; omega
      have EB1 : Aside0 (badW up l[m] = !up x.at_) := ⟨by rw [EB.out]; simp [h64]⟩
      obtain ⟨q, hq⟩ : ∃ q, q = up x.at_ := ⟨_, rfl⟩
      rw [← hq] at WU EB1
      clear h64 hx hxs hxx hxn EB hq
      cases q with
      | false =>
        have E1 : Aside0 (R = false) := ⟨by rw [E0.out, HAL.out (by rw [EB1.out]; rfl)]; rfl⟩
        clear hml EB1 HAL
        go_wp2
        refine start_ (n := 17) (S := fun w' => w'.cell? (ad.add (m * 2)) = some (.int .i64 x.at_) ∧ w'.cell? ⟨(ad.add (m * 2)).block, (ad.add (m * 2)).off + 1, none⟩ = some (.slice x.s.A xn x.s.c) ∧ w'.cell? ⟨w0.heap.size, 0, none⟩ = some (.int .i64 a) ∧ w'.cell? ⟨w0.heap.size, 1, none⟩ = some (.int .i64 b) ∧ w'.cell? ⟨w0.heap.size, 2, none⟩ = some (.int .i64 c) ∧ w'.cell? ⟨w0.heap.size, 3, none⟩ = some (.int .i64 d)) (ds := []) #[false, false, false, false, false, false, false, false, false, false, false, false, false, false, false, false, false] (by kernel_rfl) rfl rfl ⟨(show wr.drew.cell? _ = _ from x0), (show wr.drew.cell? _ = _ from x1), (show wr.drew.cell? _ = _ from y0), (show wr.drew.cell? _ = _ from y1), (show wr.drew.cell? _ = _ from y2), (show wr.drew.cell? _ = _ from y3)⟩ (fun hHeld => ?_)
        refine pure_ (i := 0) (N := some 22) (v := ?_) (a' := ?_) #[true, false, false, false, false, false, false, false, false, false, false, false, false, false, false, false, false] rfl rfl (by kernel_rfl) (fun _ _ _ h => h) (Or.inl ⟨by rfl, ?_⟩) ?_ ?_
        rotate_left
        · intro w'
          go_simp
          with_reducible rfl
        rotate_left
        · simp only [Act.put, List.setIfInBounds_toArray, List.set_cons_zero, List.set_cons_succ, i64_w, i32_w]
          rfl
        refine pure_ (i := 1) (N := some 23) (v := ?_) (a' := ?_) #[true, true, false, false, false, false, false, false, false, false, false, false, false, false, false, false, false] rfl rfl (by kernel_rfl) (fun _ _ _ h => h) (Or.inl ⟨by rfl, ?_⟩) ?_ ?_
        rotate_left
        · intro w'
          go_simp
          with_reducible rfl
        rotate_left
        · simp only [Act.put, List.setIfInBounds_toArray, List.set_cons_zero, List.set_cons_succ, i64_w, i32_w]
          rfl
        refine pure_ (i := 2) (N := some 24) (v := ?_) (a' := ?_) #[true, true, true, false, false, false, false, false, false, false, false, false, false, false, false, false, false] rfl rfl (by kernel_rfl) (fun _ _ _ h => h) (Or.inl ⟨by rfl, ?_⟩) ?_ ?_
        rotate_left
        · intro w'
          go_simp
          with_reducible rfl
        rotate_left
        · simp only [Act.put, List.setIfInBounds_toArray, List.set_cons_zero, List.set_cons_succ, i64_w, i32_w]
          rfl
        refine pure_ (i := 3) (N := some 25) (v := ?_) (a' := ?_) #[true, true, true, true, false, false, false, false, false, false, false, false, false, false, false, false, false] rfl rfl (by kernel_rfl) (fun _ _ _ h => h) (Or.inl ⟨by rfl, ?_⟩) ?_ ?_
        rotate_left
        · intro w'
          go_simp
          with_reducible rfl
        rotate_left
        · simp only [Act.put, List.setIfInBounds_toArray, List.set_cons_zero, List.set_cons_succ, i64_w, i32_w]
          rfl
        refine take_ (i := 4) (N := some 26) (v := ?_) (a' := ?_) #[true, true, true, true, true, false, false, false, false, false, false, false, false, false, false, false, false] rfl rfl (by kernel_rfl) (fun _ _ _ h => h) (Or.inl ⟨by rfl, ?_⟩) hHeld ?_ ?_
        rotate_left
        · rintro w' ⟨s0, s1, s2, s3, s4, s5⟩
          go_simp
          with_reducible rfl
        rotate_left
        · simp only [Act.put, List.setIfInBounds_toArray, List.set_cons_zero, List.set_cons_succ, i64_w, i32_w]
          rfl
        refine pure_ (i := 5) (N := some 27) (v := ?_) (a' := ?_) #[true, true, true, true, true, true, false, false, false, false, false, false, false, false, false, false, false] rfl rfl (by kernel_rfl) (fun _ _ _ h => h) (Or.inl ⟨by rfl, ?_⟩) ?_ ?_
        rotate_left
        · intro w'
          go_simp
          with_reducible rfl
        rotate_left
        · simp only [Act.put, List.setIfInBounds_toArray, List.set_cons_zero, List.set_cons_succ, i64_w, i32_w]
          rfl
        refine pure_ (i := 6) (N := some 28) (v := ?_) (a' := ?_) #[true, true, true, true, true, true, true, false, false, false, false, false, false, false, false, false, false] rfl rfl (by kernel_rfl) (fun _ _ _ h => h) (Or.inl ⟨by rfl, ?_⟩) ?_ ?_
        rotate_left
        · intro w'
          go_simp
          with_reducible rfl
        rotate_left
        · simp only [Act.put, List.setIfInBounds_toArray, List.set_cons_zero, List.set_cons_succ, i64_w, i32_w]
          rfl
        refine pure_ (i := 7) (N := some 29) (v := ?_) (a' := ?_) #[true, true, true, true, true, true, true, true, false, false, false, false, false, false, false, false, false] rfl rfl (by kernel_rfl) (fun _ _ _ h => h) (Or.inl ⟨by rfl, ?_⟩) ?_ ?_
        rotate_left
        · intro w'
          go_simp
          with_reducible rfl
        rotate_left
        · simp only [Act.put, List.setIfInBounds_toArray, List.set_cons_zero, List.set_cons_succ, i64_w, i32_w]
          rfl
        refine pure_ (i := 9) (N := some 31) (v := ?_) (a' := ?_) #[true, true, true, true, true, true, true, true, false, true, false, false, false, false, false, false, false] rfl rfl (by kernel_rfl) (fun _ _ _ h => h) (Or.inl ⟨by rfl, ?_⟩) ?_ ?_
        rotate_left
        · intro w'
          go_simp
          with_reducible rfl
        rotate_left
        · simp only [Act.put, List.setIfInBounds_toArray, List.set_cons_zero, List.set_cons_succ, i64_w, i32_w]
          rfl
        refine pure_ (i := 10) (N := some 32) (v := ?_) (a' := ?_) #[true, true, true, true, true, true, true, true, false, true, true, false, false, false, false, false, false] rfl rfl (by kernel_rfl) (fun _ _ _ h => h) (Or.inl ⟨by rfl, ?_⟩) ?_ ?_
        rotate_left
        · intro w'
          go_simp
          with_reducible rfl
        rotate_left
        · simp only [Act.put, List.setIfInBounds_toArray, List.set_cons_zero, List.set_cons_succ, i64_w, i32_w]
          rfl
        refine pure_ (i := 11) (N := some 33) (v := ?_) (a' := ?_) #[true, true, true, true, true, true, true, true, false, true, true, true, false, false, false, false, false] rfl rfl (by kernel_rfl) (fun _ _ _ h => h) (Or.inl ⟨by rfl, ?_⟩) ?_ ?_
        rotate_left
        · intro w'
          go_simp
          with_reducible rfl
        rotate_left
        · simp only [Act.put, List.setIfInBounds_toArray, List.set_cons_zero, List.set_cons_succ, i64_w, i32_w]
          rfl
        refine pure_ (i := 12) (N := some 34) (v := ?_) (a' := ?_) #[true, true, true, true, true, true, true, true, false, true, true, true, true, false, false, false, false] rfl rfl (by kernel_rfl) (fun _ _ _ h => h) (Or.inl ⟨by rfl, ?_⟩) ?_ ?_
        rotate_left
        · intro w'
          go_simp
          with_reducible rfl
        rotate_left
        · simp only [Act.put, List.setIfInBounds_toArray, List.set_cons_zero, List.set_cons_succ, i64_w, i32_w]
          rfl
        refine take_ (i := 8) (N := some 30) (v := ?_) (a' := ?_) #[true, true, true, true, true, true, true, true, true, true, true, true, true, false, false, false, false] rfl rfl (by kernel_rfl) (fun _ _ _ h => h) (Or.inl ⟨by rfl, ?_⟩) hHeld ?_ ?_
        rotate_left
        · rintro w' ⟨s0, s1, s2, s3, s4, s5⟩
          go_simp
          with_reducible rfl
        rotate_left
        · simp only [Act.put, List.setIfInBounds_toArray, List.set_cons_zero, List.set_cons_succ, i64_w, i32_w]
          rfl
        refine take_ (i := 13) (N := some 35) (v := ?_) (a' := ?_) #[true, true, true, true, true, true, true, true, true, true, true, true, true, true, false, false, false] rfl rfl (by kernel_rfl) (fun _ _ _ h => h) (Or.inl ⟨by rfl, ?_⟩) hHeld ?_ ?_
        rotate_left
        · rintro w' ⟨s0, s1, s2, s3, s4, s5⟩
          go_simp
          with_reducible rfl
        rotate_left
        · simp only [Act.put, List.setIfInBounds_toArray, List.set_cons_zero, List.set_cons_succ, i64_w, i32_w]
          rfl
        refine one_ (i := 14) (N := some 36) #[true, true, true, true, true, true, true, true, true, true, true, true, true, true, true, false, false] rfl rfl (by kernel_rfl) (by decide) (fun K hK => ?_)
        refine goes_ Try.func63 (by kernel_rfl) rfl #[.agg #[.int .i64 a, .int .i64 b, .int .i64 c, .int .i64 d], .int .i64 x.at_] (by rfl) rfl rfl (by simp only [List.map_toArray, List.map_cons, List.map_nil]; rfl) ?_
        with_reducible refine (WU.out _).mono ?_
        rintro e w5 ⟨rfl, hb5⟩
        refine ⟨_, rfl, ?_⟩
        refine hK.out _ _ ⟨(pw_cell_below hb5 (show wr.drew.cell? _ = _ from x0)), (pw_cell_below hb5 (show wr.drew.cell? _ = _ from x1)), (pw_cell_below hb5 (show wr.drew.cell? _ = _ from y0)), (pw_cell_below hb5 (show wr.drew.cell? _ = _ from y1)), (pw_cell_below hb5 (show wr.drew.cell? _ = _ from y2)), (pw_cell_below hb5 (show wr.drew.cell? _ = _ from y3))⟩ (fun hHeld => ?_)
        clear hK K
        refine norm_ (a' := ?_) ?_ ?_
        rotate_left
        · show Act.put _ (some 36) _ = _
          simp only [Act.put, List.setIfInBounds_toArray, List.set_cons_zero, List.set_cons_succ, i64_w, i32_w]
          rfl
        refine pure_ (i := 15) (N := some 37) (v := ?_) (a' := ?_) #[true, true, true, true, true, true, true, true, true, true, true, true, true, true, true, true, false] rfl rfl (by kernel_rfl) (fun _ _ _ h => h) (Or.inl ⟨by rfl, ?_⟩) ?_ ?_
        rotate_left
        · intro w'
          go_simp
          with_reducible rfl
        rotate_left
        · simp only [Act.put, List.setIfInBounds_toArray, List.set_cons_zero, List.set_cons_succ, i64_w, i32_w]
          rfl
        refine pure_ (i := 16) (N := some 38) (v := ?_) (a' := ?_) #[true, true, true, true, true, true, true, true, true, true, true, true, true, true, true, true, true] rfl rfl (by kernel_rfl) (fun _ _ _ h => h) (Or.inl ⟨by rfl, ?_⟩) ?_ ?_
        rotate_left
        · intro w'
          go_simp
          with_reducible rfl
        rotate_left
        · simp only [Act.put, List.setIfInBounds_toArray, List.set_cons_zero, List.set_cons_succ, i64_w, i32_w]
          rfl
        refine done_ (by kernel_rfl) ?_
        have HB5 : Aside0 (Below w0.heap.size w0 w5) := ⟨below_step (below_drew1 (below_step H0.out HB.out)) hb5⟩
        clear hHeld hb5
        refine go_on40 ?_
        go_wp2
        go_ret
        exact ⟨by rw [E1.out]; rfl, HB5.out⟩
      | true =>
        have HA2 : Aside0 (∀ j (hj : j < l.length), j < m + 1 → badW up l[j] = false) := ⟨fun j hj h => by
          by_cases hjm : j = m
          · subst hjm; rw [EB1.out]; rfl
          · exact HA.out j hj (by omega)⟩
        clear hml EB1 HAL
        go_wp2
        refine start_ (n := 17) (S := fun w' => w'.cell? (ad.add (m * 2)) = some (.int .i64 x.at_) ∧ w'.cell? ⟨(ad.add (m * 2)).block, (ad.add (m * 2)).off + 1, none⟩ = some (.slice x.s.A xn x.s.c) ∧ w'.cell? ⟨w0.heap.size, 0, none⟩ = some (.int .i64 a) ∧ w'.cell? ⟨w0.heap.size, 1, none⟩ = some (.int .i64 b) ∧ w'.cell? ⟨w0.heap.size, 2, none⟩ = some (.int .i64 c) ∧ w'.cell? ⟨w0.heap.size, 3, none⟩ = some (.int .i64 d)) (ds := []) #[false, false, false, false, false, false, false, false, false, false, false, false, false, false, false, false, false] (by kernel_rfl) rfl rfl ⟨(show wr.drew.cell? _ = _ from x0), (show wr.drew.cell? _ = _ from x1), (show wr.drew.cell? _ = _ from y0), (show wr.drew.cell? _ = _ from y1), (show wr.drew.cell? _ = _ from y2), (show wr.drew.cell? _ = _ from y3)⟩ (fun hHeld => ?_)
        refine pure_ (i := 0) (N := some 22) (v := ?_) (a' := ?_) #[true, false, false, false, false, false, false, false, false, false, false, false, false, false, false, false, false] rfl rfl (by kernel_rfl) (fun _ _ _ h => h) (Or.inl ⟨by rfl, ?_⟩) ?_ ?_
        rotate_left
        · intro w'
          go_simp
          with_reducible rfl
        rotate_left
        · simp only [Act.put, List.setIfInBounds_toArray, List.set_cons_zero, List.set_cons_succ, i64_w, i32_w]
          rfl
        refine pure_ (i := 1) (N := some 23) (v := ?_) (a' := ?_) #[true, true, false, false, false, false, false, false, false, false, false, false, false, false, false, false, false] rfl rfl (by kernel_rfl) (fun _ _ _ h => h) (Or.inl ⟨by rfl, ?_⟩) ?_ ?_
        rotate_left
        · intro w'
          go_simp
          with_reducible rfl
        rotate_left
        · simp only [Act.put, List.setIfInBounds_toArray, List.set_cons_zero, List.set_cons_succ, i64_w, i32_w]
          rfl
        refine pure_ (i := 2) (N := some 24) (v := ?_) (a' := ?_) #[true, true, true, false, false, false, false, false, false, false, false, false, false, false, false, false, false] rfl rfl (by kernel_rfl) (fun _ _ _ h => h) (Or.inl ⟨by rfl, ?_⟩) ?_ ?_
        rotate_left
        · intro w'
          go_simp
          with_reducible rfl
        rotate_left
        · simp only [Act.put, List.setIfInBounds_toArray, List.set_cons_zero, List.set_cons_succ, i64_w, i32_w]
          rfl
        refine pure_ (i := 3) (N := some 25) (v := ?_) (a' := ?_) #[true, true, true, true, false, false, false, false, false, false, false, false, false, false, false, false, false] rfl rfl (by kernel_rfl) (fun _ _ _ h => h) (Or.inl ⟨by rfl, ?_⟩) ?_ ?_
        rotate_left
        · intro w'
          go_simp
          with_reducible rfl
        rotate_left
        · simp only [Act.put, List.setIfInBounds_toArray, List.set_cons_zero, List.set_cons_succ, i64_w, i32_w]
          rfl
        refine take_ (i := 4) (N := some 26) (v := ?_) (a' := ?_) #[true, true, true, true, true, false, false, false, false, false, false, false, false, false, false, false, false] rfl rfl (by kernel_rfl) (fun _ _ _ h => h) (Or.inl ⟨by rfl, ?_⟩) hHeld ?_ ?_
        rotate_left
        · rintro w' ⟨s0, s1, s2, s3, s4, s5⟩
          go_simp
          with_reducible rfl
        rotate_left
        · simp only [Act.put, List.setIfInBounds_toArray, List.set_cons_zero, List.set_cons_succ, i64_w, i32_w]
          rfl
        refine pure_ (i := 5) (N := some 27) (v := ?_) (a' := ?_) #[true, true, true, true, true, true, false, false, false, false, false, false, false, false, false, false, false] rfl rfl (by kernel_rfl) (fun _ _ _ h => h) (Or.inl ⟨by rfl, ?_⟩) ?_ ?_
        rotate_left
        · intro w'
          go_simp
          with_reducible rfl
        rotate_left
        · simp only [Act.put, List.setIfInBounds_toArray, List.set_cons_zero, List.set_cons_succ, i64_w, i32_w]
          rfl
        refine pure_ (i := 6) (N := some 28) (v := ?_) (a' := ?_) #[true, true, true, true, true, true, true, false, false, false, false, false, false, false, false, false, false] rfl rfl (by kernel_rfl) (fun _ _ _ h => h) (Or.inl ⟨by rfl, ?_⟩) ?_ ?_
        rotate_left
        · intro w'
          go_simp
          with_reducible rfl
        rotate_left
        · simp only [Act.put, List.setIfInBounds_toArray, List.set_cons_zero, List.set_cons_succ, i64_w, i32_w]
          rfl
        refine pure_ (i := 7) (N := some 29) (v := ?_) (a' := ?_) #[true, true, true, true, true, true, true, true, false, false, false, false, false, false, false, false, false] rfl rfl (by kernel_rfl) (fun _ _ _ h => h) (Or.inl ⟨by rfl, ?_⟩) ?_ ?_
        rotate_left
        · intro w'
          go_simp
          with_reducible rfl
        rotate_left
        · simp only [Act.put, List.setIfInBounds_toArray, List.set_cons_zero, List.set_cons_succ, i64_w, i32_w]
          rfl
        refine pure_ (i := 9) (N := some 31) (v := ?_) (a' := ?_) #[true, true, true, true, true, true, true, true, false, true, false, false, false, false, false, false, false] rfl rfl (by kernel_rfl) (fun _ _ _ h => h) (Or.inl ⟨by rfl, ?_⟩) ?_ ?_
        rotate_left
        · intro w'
          go_simp
          with_reducible rfl
        rotate_left
        · simp only [Act.put, List.setIfInBounds_toArray, List.set_cons_zero, List.set_cons_succ, i64_w, i32_w]
          rfl
        refine pure_ (i := 10) (N := some 32) (v := ?_) (a' := ?_) #[true, true, true, true, true, true, true, true, false, true, true, false, false, false, false, false, false] rfl rfl (by kernel_rfl) (fun _ _ _ h => h) (Or.inl ⟨by rfl, ?_⟩) ?_ ?_
        rotate_left
        · intro w'
          go_simp
          with_reducible rfl
        rotate_left
        · simp only [Act.put, List.setIfInBounds_toArray, List.set_cons_zero, List.set_cons_succ, i64_w, i32_w]
          rfl
        refine pure_ (i := 11) (N := some 33) (v := ?_) (a' := ?_) #[true, true, true, true, true, true, true, true, false, true, true, true, false, false, false, false, false] rfl rfl (by kernel_rfl) (fun _ _ _ h => h) (Or.inl ⟨by rfl, ?_⟩) ?_ ?_
        rotate_left
        · intro w'
          go_simp
          with_reducible rfl
        rotate_left
        · simp only [Act.put, List.setIfInBounds_toArray, List.set_cons_zero, List.set_cons_succ, i64_w, i32_w]
          rfl
        refine pure_ (i := 12) (N := some 34) (v := ?_) (a' := ?_) #[true, true, true, true, true, true, true, true, false, true, true, true, true, false, false, false, false] rfl rfl (by kernel_rfl) (fun _ _ _ h => h) (Or.inl ⟨by rfl, ?_⟩) ?_ ?_
        rotate_left
        · intro w'
          go_simp
          with_reducible rfl
        rotate_left
        · simp only [Act.put, List.setIfInBounds_toArray, List.set_cons_zero, List.set_cons_succ, i64_w, i32_w]
          rfl
        refine take_ (i := 8) (N := some 30) (v := ?_) (a' := ?_) #[true, true, true, true, true, true, true, true, true, true, true, true, true, false, false, false, false] rfl rfl (by kernel_rfl) (fun _ _ _ h => h) (Or.inl ⟨by rfl, ?_⟩) hHeld ?_ ?_
        rotate_left
        · rintro w' ⟨s0, s1, s2, s3, s4, s5⟩
          go_simp
          with_reducible rfl
        rotate_left
        · simp only [Act.put, List.setIfInBounds_toArray, List.set_cons_zero, List.set_cons_succ, i64_w, i32_w]
          rfl
        refine take_ (i := 13) (N := some 35) (v := ?_) (a' := ?_) #[true, true, true, true, true, true, true, true, true, true, true, true, true, true, false, false, false] rfl rfl (by kernel_rfl) (fun _ _ _ h => h) (Or.inl ⟨by rfl, ?_⟩) hHeld ?_ ?_
        rotate_left
        · rintro w' ⟨s0, s1, s2, s3, s4, s5⟩
          go_simp
          with_reducible rfl
        rotate_left
        · simp only [Act.put, List.setIfInBounds_toArray, List.set_cons_zero, List.set_cons_succ, i64_w, i32_w]
          rfl
        refine one_ (i := 14) (N := some 36) #[true, true, true, true, true, true, true, true, true, true, true, true, true, true, true, false, false] rfl rfl (by kernel_rfl) (by decide) (fun K hK => ?_)
        refine goes_ Try.func63 (by kernel_rfl) rfl #[.agg #[.int .i64 a, .int .i64 b, .int .i64 c, .int .i64 d], .int .i64 x.at_] (by rfl) rfl rfl (by simp only [List.map_toArray, List.map_cons, List.map_nil]; rfl) ?_
        with_reducible refine (WU.out _).mono ?_
        rintro e w5 ⟨rfl, hb5⟩
        refine ⟨_, rfl, ?_⟩
        refine hK.out _ _ ⟨(pw_cell_below hb5 (show wr.drew.cell? _ = _ from x0)), (pw_cell_below hb5 (show wr.drew.cell? _ = _ from x1)), (pw_cell_below hb5 (show wr.drew.cell? _ = _ from y0)), (pw_cell_below hb5 (show wr.drew.cell? _ = _ from y1)), (pw_cell_below hb5 (show wr.drew.cell? _ = _ from y2)), (pw_cell_below hb5 (show wr.drew.cell? _ = _ from y3))⟩ (fun hHeld => ?_)
        clear hK K
        refine norm_ (a' := ?_) ?_ ?_
        rotate_left
        · show Act.put _ (some 36) _ = _
          simp only [Act.put, List.setIfInBounds_toArray, List.set_cons_zero, List.set_cons_succ, i64_w, i32_w]
          rfl
        refine pure_ (i := 15) (N := some 37) (v := ?_) (a' := ?_) #[true, true, true, true, true, true, true, true, true, true, true, true, true, true, true, true, false] rfl rfl (by kernel_rfl) (fun _ _ _ h => h) (Or.inl ⟨by rfl, ?_⟩) ?_ ?_
        rotate_left
        · intro w'
          go_simp
          with_reducible rfl
        rotate_left
        · simp only [Act.put, List.setIfInBounds_toArray, List.set_cons_zero, List.set_cons_succ, i64_w, i32_w]
          rfl
        refine pure_ (i := 16) (N := some 38) (v := ?_) (a' := ?_) #[true, true, true, true, true, true, true, true, true, true, true, true, true, true, true, true, true] rfl rfl (by kernel_rfl) (fun _ _ _ h => h) (Or.inl ⟨by rfl, ?_⟩) ?_ ?_
        rotate_left
        · intro w'
          go_simp
          with_reducible rfl
        rotate_left
        · simp only [Act.put, List.setIfInBounds_toArray, List.set_cons_zero, List.set_cons_succ, i64_w, i32_w]
          rfl
        refine done_ (by kernel_rfl) ?_
        have HB5 : Aside0 (Below w.heap.size w w5) := ⟨below_step (below_drew1 HB.out) hb5⟩
        clear hHeld hb5 x0 x1 y0 y1 y2 y3
        refine go_on40 ?_
        go_wp2
        exact ⟨⟨m + 1, rfl, ⟨by omega⟩, HA2, HB5⟩, by simp [intOf]; omega⟩
    · have hmn : m = n := by omega
      subst hmn
      have E1 : Aside0 (R = true) := ⟨by
        rw [E0.out]
        have : l.any (badW up) = false := List.any_eq_false.2 fun y hy => by
          obtain ⟨j, hj, rfl⟩ := List.getElem_of_mem hy
          rw [HA.out j hj (by have := HN.out; omega)]
          exact Bool.false_ne_true
        rw [this]; rfl⟩
      go_wp2
      go_ret
      exact ⟨by rw [E1.out]; rfl, below_step H0.out HB.out⟩
end Go.Proofs.Ytdkbhbolkieeiaa.K
namespace Go.Proofs.Ytdkbhbolkieeiaa.K
open Go.RowKit Go.Proofs.YtdkbhbolkieeiaaW.PrintWords Go.Proofs.YtdkbhbolkieeiaaW.PrintLast Go.Proofs.YtdkbhbolkieeiaaW.PrintMore
set_option linter.unusedVariables false
set_option linter.unusedSimpArgs false
theorem whole64_step (l : List Int) {m : Nat} (hm : m < 64) : (whole64 l).take (m + 1) = (whole64 l).take m ++ [if h : m < l.length then l[m] else 0] := by
  have hl := whole64_length l
  rw [List.take_succ_eq_append_getElem (by omega)]
  congr 2
  unfold whole64
  rw [List.getElem_take]
  split
  · rename_i h; rw [List.getElem_append_left h]
  · rename_i h; rw [List.getElem_append_right (by omega), List.getElem_replicate]
set_option maxHeartbeats 1000000 in
set_option maxRecDepth 100000 in
theorem rWhole27_walk (A : Option Addr) (c : Nat) (l : List Int) (w : World) (hr : Kd.C (Kd.int .u8) w A l.length l) :
    Calls Try.prog 68 #[.slice A l.length c] w fun e w' => ∃ v : Value, e = .returned v ∧ Kd.R (Kd.int .u8) 5 w' w.heap.size (fun _ => True) v (whole64 l) ∧ Below w.heap.size w w' := by
  have HR := Aside0.mk hr
  have HB := Aside0.mk (Below.refl w.heap.size w)
  have HS := Aside0.mk (fun m h => whole64_step l (m := m) h)
  have HW := Aside0.mk (whole64_length l)
  obtain ⟨Wl, hWl⟩ : ∃ x, x = whole64 l := ⟨_, rfl⟩
  rw [← hWl] at HS HW ⊢
  obtain ⟨n, hn⟩ : ∃ n, n = l.length := ⟨_, rfl⟩
  have HN := Aside0.mk hn
  rw [← hn] at HR ⊢
  clear hr hWl hn
  go_enter Try.func68, Try.ntmps68
  go_wp2_with (((with_reducible refine gate_dst (N := 5) rfl ?_); refine Kd.R_lit (Kd.int .u8) _ 5 ?hg (N := 5) ?hd (xs := ([] : List Int)) (inner := []) (ok := fun _ => True) (okp := fun _ => True) ?hr ?hp (fun _ hk => hk) trivial (Below.refl _ _) (Nat.le_refl _) (by simp) ?_; (case hd => rfl); (case hg => rfl); (case hr => first | (go_simp; done) | (go_simp; rfl)); (case hp => exact (Reps.none _ _)); intro v114 w3 ho4 hb hg_ hnew_; clear hg_ hnew_; have n0_ := Aside0.mk (Kd.R_lower ho4 (below_size (by repeat (first | (with_reducible first | exact HB.out | apply below_alloc | apply pw_below_drewN | apply below_drew1) | exact HB.out)))); have n1_ := Aside0.mk (below_step (by repeat (first | (with_reducible first | exact HB.out | apply below_alloc | apply pw_below_drewN | apply below_drew1) | exact HB.out)) hb); clear HB; have HO1 := n0_; have HB := n1_; clear n0_ n1_; clear hb ho4))
  go_loopw [3, 4] (fun v3 v4 w' => ∃ m : Nat, v4 = .int .i64 m ∧ Aside0 (m ≤ 64) ∧ Aside0 (Kd.R (Kd.int .u8) 5 w' w.heap.size (fun _ => True) v3 (Wl.take m)) ∧ Aside0 (Below w.heap.size w w')) (fun _ i _ => 64 - (intOf i).toNat)
  case atStart => exact ⟨0, rfl, ⟨by omega⟩, HO1, HB⟩
  case round =>
    clear HB HO1
    obtain ⟨m, rfl, hm, HO1, HB⟩ := hrel
    have hm' := hm.out
    by_cases hlt : m < 64
    · have hlt' : (m : Int) < 64 := by omega
      have hl := Aside0.mk (show (Wl.take m).length ≤ 64 by rw [List.length_take]; omega)
      by_cases hml : m < n
      · have hml' : (m : Int) < n := by omega
        obtain ⟨ad, rfl, hx⟩ := Kd.at_int (Kd.C_below HR.out HB.out) (m : Int) (by omega) (by have := HN.out; omega)
        have hs := Aside0.mk (HS.out m hlt)
        rw [dif_pos (by rw [← HN.out]; exact hml)] at hs
        rw [rd_get (by rw [← HN.out]; exact hml), Int.toNat_natCast] at hx
        obtain ⟨x, hxx⟩ : ∃ x, x = l[m]'(by rw [← HN.out]; exact hml) := ⟨_, rfl⟩
        rw [← hxx] at hs hx
        clear hxx
        go_wp2_with (first | ((with_reducible refine gate_builtin (b := .append) (xs := #[.tmp 14, .tmp 19]) rfl ?_); at_builtin; refine Kd.R_append (Kd.int .u8) (w0 := w) w.heap.size rfl (.tmp 14) (.tmp 19) 44 5 (.int .u8 0) 1 rfl Try.underlying44 u8info rfl (by decide) (by omega) _ (Wl.take m) x [.int .u8 x] (fun _ => True) (fun _ => False) rfl rfl ?aP (fun _ hk => hk.elim) ?aF ?aO ?aB ?aS ?aL ?_; (case aP => exact rfl); (case aB => exact (by repeat (first | (with_reducible first | exact HB.out | apply below_alloc | apply pw_below_drewN | apply below_drew1) | exact HB.out))); (case aF => exact (fun _ _ => trivial)); (case aO => exact (by (with_reducible repeat (first | apply Kd.R_alloc | apply Kd.R_drewN | apply Kd.R_drew)); exact HO1.out)); (case aS => exact (below_size (by repeat (first | (with_reducible first | exact HB.out | apply below_alloc | apply pw_below_drewN | apply below_drew1) | exact HB.out)))); (case aL => have := hl.out; omega); intro v9 w11 ho hb hg hat; have n0_ := Aside0.mk (hb); have n1_ := Aside0.mk (ho); clear HB; clear HO1; have HB := n0_; have HO2 := n1_; clear n0_ n1_; clear ho hb hg hat))
        exact ⟨⟨m + 1, rfl, ⟨by omega⟩, ⟨by rw [hs.out]; exact HO2.out⟩, HB⟩, by simp [intOf]; omega⟩
      · have hml' : ¬ (m : Int) < n := by omega
        have hs := Aside0.mk (HS.out m hlt)
        rw [dif_neg (by rw [← HN.out]; exact hml)] at hs
        go_wp2_with (first | ((with_reducible refine gate_builtin (b := .append) (xs := #[.tmp 21, .tmp 22]) rfl ?_); at_builtin; refine Kd.R_append (Kd.int .u8) (w0 := w) w.heap.size rfl (.tmp 21) (.tmp 22) 44 5 (.int .u8 0) 1 rfl Try.underlying44 u8info rfl (by decide) (by omega) _ (Wl.take m) 0 [.int .u8 0] (fun _ => True) (fun _ => False) rfl rfl ?aP (fun _ hk => hk.elim) ?aF ?aO ?aB ?aS ?aL ?_; (case aP => exact rfl); (case aB => exact (by repeat (first | (with_reducible first | exact HB.out | apply below_alloc | apply pw_below_drewN | apply below_drew1) | exact HB.out))); (case aF => exact (fun _ _ => trivial)); (case aO => exact (by (with_reducible repeat (first | apply Kd.R_alloc | apply Kd.R_drewN | apply Kd.R_drew)); exact HO1.out)); (case aS => exact (below_size (by repeat (first | (with_reducible first | exact HB.out | apply below_alloc | apply pw_below_drewN | apply below_drew1) | exact HB.out)))); (case aL => have := hl.out; omega); intro v9 w11 ho hb hg hat; have n0_ := Aside0.mk (hb); have n1_ := Aside0.mk (ho); clear HB; clear HO1; have HB := n0_; have HO2 := n1_; clear n0_ n1_; clear ho hb hg hat))
        exact ⟨⟨m + 1, rfl, ⟨by omega⟩, ⟨by rw [hs.out]; exact HO2.out⟩, HB⟩, by simp [intOf]; omega⟩
    · have hm64 : m = 64 := by omega
      subst hm64
      have e0 : Wl.take 64 = Wl := List.take_of_length_le (Nat.le_of_eq HW.out)
      rw [e0] at HO1
      go_wp2
      go_ret
      exact ⟨_, rfl, HO1.out, HB.out⟩
set_option maxHeartbeats 4000000 in
set_option maxRecDepth 100000 in
theorem rRecords_walk (A : Option Addr) (c : Nat) (l : List Wr) (w : World) (hr : Kd.C kWr w A l.length l) (hl : l.length ≤ 1000000) :
    Calls Try.prog 32 #[.slice A l.length c] w fun e w' => ∃ v : Value, e = .returned v ∧ Kd.R (Kd.int .u8) 5 w' w.heap.size (fun _ => True) v (recsN (l.map wrP)) ∧ Below w.heap.size w w' := by
  have HR := Aside0.mk hr
  have HB := Aside0.mk (Below.refl w.heap.size w)
  obtain ⟨n, hn⟩ : ∃ n, n = l.length := ⟨_, rfl⟩
  rw [← hn] at HR ⊢
  have HN := Aside0.mk hn
  have hn1 : n ≤ 1000000 := by omega
  clear hr hl hn
  go_enter Try.func32, Try.ntmps32
  go_wp2_with (((with_reducible refine gate_dst (N := 5) rfl ?_); refine Kd.R_lit (Kd.int .u8) _ 5 ?hg (N := 5) ?hd (xs := ([] : List Int)) (inner := []) (ok := fun _ => True) (okp := fun _ => True) ?hr ?hp (fun _ hk => hk) trivial (Below.refl _ _) (Nat.le_refl _) (by simp) ?_; (case hd => rfl); (case hg => rfl); (case hr => first | (go_simp; done) | (go_simp; rfl)); (case hp => exact (Reps.none _ _)); intro v114 w3 ho4 hb hg_ hnew_; clear hg_ hnew_; have n0_ := Aside0.mk (Kd.R_lower ho4 (below_size (by repeat (first | (with_reducible first | exact HB.out | apply below_alloc | apply pw_below_drewN | apply below_drew1) | exact HB.out)))); have n1_ := Aside0.mk (below_step (by repeat (first | (with_reducible first | exact HB.out | apply below_alloc | apply pw_below_drewN | apply below_drew1) | exact HB.out)) hb); clear HB; have HO := n0_; have HB := n1_; clear n0_ n1_; clear hb ho4))
  go_loopw [3, 4] (fun v3 v4 w' => ∃ m : Nat, v4 = .int .i64 m ∧ Aside0 (m ≤ n) ∧ Aside0 (Kd.R (Kd.int .u8) 5 w' w.heap.size (fun _ => True) v3 (recsN ((l.take m).map wrP))) ∧ Aside0 (Below w.heap.size w w')) (fun _ i _ => n - (intOf i).toNat)
  case atStart => exact ⟨0, rfl, ⟨by omega⟩, HO, HB⟩
  case round =>
    clear HB HO
    obtain ⟨m, rfl, hm, HO, HB⟩ := hrel
    have hm' := hm.out
    by_cases hlt : m < n
    · have hml : m < l.length := by rw [← HN.out]; exact hlt
      have hlt' : (m : Int) < n := by omega
      obtain ⟨ad, rfl, hx, hxs⟩ := at_wrA HR.out hml
      have HXB := Aside0.mk (at_wr HR.out hml).choose_spec.2.2.1
      have HT := Aside0.mk (recsN_take hml)
      obtain ⟨x, hxx⟩ : ∃ x, x = l[m] := ⟨_, rfl⟩
      rw [← hxx] at hx hxs HXB HT
      obtain ⟨xn, hxn⟩ : ∃ xn, xn = x.s.l.length := ⟨_, rfl⟩
      have X1 := Aside0.mk (hxs 0 (.slice x.s.A xn x.s.c) (by rw [hxn]; rfl))
      have x0 := pw_cell_below HB.out (hx _ rfl)
      have ET : recsN ((l.take (m + 1)).map wrP) = recsN ((l.take m).map wrP) ++ sealS (numP [] x.at_ 4) ++ whole64 x.s.l := by rw [HT.out, List.append_assoc]; rfl
      have ET := Aside0.mk ET
      have WP : Aside0 (∀ W, Calls Try.prog 67 #[.slice none 0 0, .int .i64 x.at_, .int .i64 4] W fun e w' => ∃ v : Value, e = .returned v ∧ Kd.R (Kd.int .u8) 5 w' W.heap.size (fun _ => True) v (numP [] x.at_ 4) ∧ Below W.heap.size W w') := ⟨fun W => rP_walk none 0 [] x.at_ 4 W (Kd.C_nil _ _) (by decide) (by decide)⟩
      have WS := Aside0.mk (fun A c W h => rSeal_walk A c (numP [] x.at_ 4) W h (numP4_byts _) (by unfold numP; split; (· rw [List.length_append, leB_length]; decide); decide) : ∀ A c W, Kd.C (Kd.int .u8) W A (numP [] x.at_ 4).length (numP [] x.at_ 4) → _)
      have WW : Aside0 (∀ W, Kd.C (Kd.int .u8) W x.s.A x.s.l.length x.s.l → Calls Try.prog 68 #[.slice x.s.A xn x.s.c] W fun e w' => ∃ v : Value, e = .returned v ∧ Kd.R (Kd.int .u8) 5 w' W.heap.size (fun _ => True) v (whole64 x.s.l) ∧ Below W.heap.size W w') := ⟨fun W h => by rw [hxn]; exact rWhole27_walk _ _ _ W h⟩
      have HL1 : Aside0 ((recsN ((l.take m).map wrP)).length ≤ 128000000) := ⟨by rw [recsN_length, List.length_map, List.length_take]; omega⟩
      have HS64 : Aside0 ((sealS (numP [] x.at_ 4)).length = 64) := ⟨sealS_length _⟩
      have HW64 : Aside0 ((whole64 x.s.l).length = 64) := ⟨whole64_length _⟩
      obtain ⟨P, hP⟩ : ∃ P, P = numP [] x.at_ 4 := ⟨_, rfl⟩
      obtain ⟨D, hD⟩ : ∃ D, D = recsN ((l.take m).map wrP) := ⟨_, rfl⟩
      obtain ⟨V, hV⟩ : ∃ V, V = whole64 x.s.l := ⟨_, rfl⟩
      rw [← hP] at WP HS64 ET
      simp only [← hP] at WS
      rw [← hD] at HL1 ET HO
      rw [← hV] at WW HW64 ET
      clear hx hxs hxx hml hxn HT hP hD hV
      go_wp2_with (first | (go_at_call 67; go_loud ((with_reducible refine (WP.out _).mono ?_); rintro e w9 ⟨v9, rfl, ho, hb⟩; obtain ⟨A9, c9, rfl⟩ := Kd.R_slice ho; have HC9 := Aside0.mk (Kd.R_reads' ho).2.2; have n0_ : Aside0 (Kd.R (Kd.int .u8) 5 w9 w.heap.size (fun _ => True) _ D) := ⟨Kd.R_below (by (with_reducible repeat (first | apply Kd.R_alloc | apply Kd.R_drewN | apply Kd.R_drew)); exact HO.out) hb⟩; clear HO; have HO := n0_; clear n0_; have n1_ : Aside0 (Below w.heap.size w w9) := ⟨below_step (by repeat (first | (with_reducible first | exact HB.out | apply below_alloc | apply pw_below_drewN | apply below_drew1) | exact HB.out)) hb⟩; clear HB; have HB := n1_; clear n1_; clear ho hb)) | (go_at_call 65; go_loud ((with_reducible refine (WS.out _ _ _ HC9.out).mono ?_); rintro e w10 ⟨v10, rfl, ho, hb⟩; obtain ⟨A10, c10, rfl⟩ := Kd.R_slice ho; have HC10 := Aside0.mk (Kd.R_reads' ho).2.2; have n0_ : Aside0 (Kd.R (Kd.int .u8) 5 w10 w.heap.size (fun _ => True) _ D) := ⟨Kd.R_below (by (with_reducible repeat (first | apply Kd.R_alloc | apply Kd.R_drewN | apply Kd.R_drew)); exact HO.out) hb⟩; clear HO; have HO := n0_; clear n0_; have n1_ : Aside0 (Below w.heap.size w w10) := ⟨below_step (by repeat (first | (with_reducible first | exact HB.out | apply below_alloc | apply pw_below_drewN | apply below_drew1) | exact HB.out)) hb⟩; clear HB; have HB := n1_; clear n1_; clear ho hb)) | ((with_reducible refine gate_builtin (b := .append) (xs := #[.tmp 12, .tmp 19]) rfl ?_); at_builtin; refine Kd.R_append_rows (Kd.int .u8) (w0 := w) w.heap.size rfl (.tmp 12) (.tmp 19) 44 5 (.int .u8 0) 1 rfl Try.underlying44 u8info rfl (by decide) (by omega) _ D (sealS P) _ _ _ (fun _ => True) (fun _ => False) rfl rfl ?aO ?aR (fun _ _ h => h) (fun _ h => h.elim) ?aF ?aB ?aS ?aL ?_; (case aR => exact (by first | exact HC10.out | (refine Kd.C_drewN ?_ _; exact HC10.out) | (refine Kd.C_alloc ?_ _; exact HC10.out))); (case aB => exact (by repeat (first | (with_reducible first | exact HB.out | apply below_alloc | apply pw_below_drewN | apply below_drew1) | exact HB.out))); (case aF => exact (fun _ _ => trivial)); (case aO => exact (by (with_reducible repeat (first | apply Kd.R_alloc | apply Kd.R_drewN | apply Kd.R_drew)); exact HO.out)); (case aS => exact (below_size (by repeat (first | (with_reducible first | exact HB.out | apply below_alloc | apply pw_below_drewN | apply below_drew1) | exact HB.out)))); (case aL => have := HL1.out; have := HS64.out; omega); intro v11 w11 ho hb hg hat; have n0_ := Aside0.mk (hb); have n1_ := Aside0.mk (ho); clear HB; clear HO; have HB := n0_; have HO2 := n1_; clear n0_ n1_; clear ho hb hg hat; have x1 := pw_cell_below HB.out X1.out) | (go_at_call 68; go_loud ((with_reducible refine (WW.out _ (Kd.C_below HXB.out HB.out)).mono ?_); rintro e w12 ⟨v12, rfl, ho, hb⟩; obtain ⟨A12, c12, rfl⟩ := Kd.R_slice ho; have HC12 := Aside0.mk (Kd.R_reads' ho).2.2; have n0_ : Aside0 (Kd.R (Kd.int .u8) 5 w12 w.heap.size (fun _ => True) _ (D ++ sealS P)) := ⟨Kd.R_below (by (with_reducible repeat (first | apply Kd.R_alloc | apply Kd.R_drewN | apply Kd.R_drew)); exact HO2.out) hb⟩; clear HO2; have HO2 := n0_; clear n0_; have n1_ : Aside0 (Below w.heap.size w w12) := ⟨below_step (by repeat (first | (with_reducible first | exact HB.out | apply below_alloc | apply pw_below_drewN | apply below_drew1) | exact HB.out)) hb⟩; clear HB; have HB := n1_; clear n1_; clear ho hb)) | ((with_reducible refine gate_builtin (b := .append) (xs := #[.tmp 21, .tmp 27]) rfl ?_); at_builtin; refine Kd.R_append_rows (Kd.int .u8) (w0 := w) w.heap.size rfl (.tmp 21) (.tmp 27) 44 5 (.int .u8 0) 1 rfl Try.underlying44 u8info rfl (by decide) (by omega) _ (D ++ sealS P) V _ _ _ (fun _ => True) (fun _ => False) rfl rfl ?aO ?aR (fun _ _ h => h) (fun _ h => h.elim) ?aF ?aB ?aS ?aL ?_; (case aR => exact (by first | exact HC12.out | (refine Kd.C_drewN ?_ _; exact HC12.out) | (refine Kd.C_alloc ?_ _; exact HC12.out))); (case aB => exact (by repeat (first | (with_reducible first | exact HB.out | apply below_alloc | apply pw_below_drewN | apply below_drew1) | exact HB.out))); (case aF => exact (fun _ _ => trivial)); (case aO => exact (by (with_reducible repeat (first | apply Kd.R_alloc | apply Kd.R_drewN | apply Kd.R_drew)); exact HO2.out)); (case aS => exact (below_size (by repeat (first | (with_reducible first | exact HB.out | apply below_alloc | apply pw_below_drewN | apply below_drew1) | exact HB.out)))); (case aL => have := HL1.out; have := HS64.out; have := HW64.out; rw [List.length_append]; omega); intro v13 w13 ho hb hg hat; have n0_ := Aside0.mk (hb); have n1_ := Aside0.mk (ho); clear HB; clear HO2; have HB := n0_; have HO3 := n1_; clear n0_ n1_; clear ho hb hg hat))
      exact ⟨⟨m + 1, rfl, ⟨by omega⟩, ⟨by rw [ET.out]; exact HO3.out⟩, HB⟩, by simp [intOf]; omega⟩
    · have hmn : m = n := by omega
      subst hmn
      have e0 : l.take m = l := List.take_of_length_le (Nat.le_of_eq HN.out.symm)
      rw [e0] at HO
      go_wp2
      go_ret
      exact ⟨_, rfl, HO.out, HB.out⟩
set_option maxHeartbeats 4000000 in
set_option maxRecDepth 100000 in
theorem rHead_walk (A : Option Addr) (c : Nat) (l : List Wr) (w : World) (hr : Kd.C kWr w A l.length l) (hl : l.length ≤ 1000000) (hb : ∀ x ∈ l, Byts x.s.l) :
    Calls Try.prog 34 #[.slice A l.length c] w fun e w' => ∃ v : Value, e = .returned v ∧ Kd.R (Kd.int .u8) 5 w' w.heap.size (fun _ => True) v (headN (l.map wrP)) ∧ Below w.heap.size w w' := by
  have HR := Aside0.mk hr
  have HB := Aside0.mk (Below.refl w.heap.size w)
  obtain ⟨n, hn⟩ : ∃ n, n = l.length := ⟨_, rfl⟩
  obtain ⟨M, hM⟩ : ∃ M, M = numP magic1 (n : Int) 2 := ⟨_, rfl⟩
  obtain ⟨R, hRs⟩ : ∃ R, R = recsN (l.map wrP) := ⟨_, rfl⟩
  have hML : M.length ≤ 100 := by rw [hM]; unfold numP; split; (· rw [List.length_append, leB_length]; decide); decide
  have hMB : Byts M := by rw [hM]; exact numP_byts magic1_byts _ _
  have hRB : Byts R := by rw [hRs]; exact recsN_byts (fun y hy => by obtain ⟨x, hx, rfl⟩ := List.mem_map.1 hy; exact hb x hx)
  have hRL : R.length < 140737488355328 := by rw [hRs, recsN_length, List.length_map]; omega
  have EH : Aside0 (headN (l.map wrP) = sealS (numP M (of02 R) 4)) := ⟨by rw [headN, List.length_map, ← hn, ← hM, ← hRs]⟩
  have hPL : (numP M (of02 R) 4).length < 140737488355328 := by unfold numP; split; (· rw [List.length_append, leB_length]; omega); omega
  have WP1 : Aside0 (∀ A c W, Kd.C (Kd.int .u8) W A 5 magic1 → 5 ≤ c → Calls Try.prog 67 #[.slice A 5 c, .int .i64 n, .int .i64 2] W fun e w' => ∃ v : Value, e = .returned v ∧ Kd.R (Kd.int .u8) 5 w' W.heap.size (fun _ => True) v M ∧ Below W.heap.size W w') := ⟨fun A c W h1 h2 => by rw [hM]; exact rP_walk A c magic1 n 2 W h1 h2 (by decide)⟩
  have WP2 : Aside0 (∀ A c W, Kd.C (Kd.int .u8) W A M.length M → M.length ≤ c → Calls Try.prog 67 #[.slice A M.length c, .int .i64 (of02 R), .int .i64 4] W fun e w' => ∃ v : Value, e = .returned v ∧ Kd.R (Kd.int .u8) 5 w' W.heap.size (fun _ => True) v (numP M (of02 R) 4) ∧ Below W.heap.size W w') := ⟨fun A c W h1 h2 => rP_walk A c M _ 4 W h1 h2 (by omega)⟩
  have WR : Aside0 (∀ W, Kd.C kWr W A n l → Calls Try.prog 32 #[.slice A n c] W fun e w' => ∃ v : Value, e = .returned v ∧ Kd.R (Kd.int .u8) 5 w' W.heap.size (fun _ => True) v R ∧ Below W.heap.size W w') := ⟨fun W h => by rw [hRs]; have := rRecords_walk A c l W (by rw [← hn]; exact h) hl; rwa [← hn] at this⟩
  have WO := Aside0.mk (fun A c W h => rOf_walk A c R W h hRB hRL : ∀ A c W, Kd.C (Kd.int .u8) W A R.length R → _)
  have WS := Aside0.mk (fun A c W h => rSeal_walk A c (numP M (of02 R) 4) W h (numP_byts hMB _ _) hPL : ∀ A c W, Kd.C (Kd.int .u8) W A (numP M (of02 R) 4).length (numP M (of02 R) 4) → _)
  rw [← hn] at HR ⊢
  clear hr hl hb hn hM hRs hML hMB hRB hRL hPL
  go_enter Try.func34, Try.ntmps34
  go_wp2_with (first | ((with_reducible refine gate_dst (N := 4) rfl ?_); refine Kd.R_lit (Kd.int .u8) _ 5 ?hg (N := 4) ?hd (xs := ([(74 : Int), (82 : Int), (78 : Int), (76 : Int), (1 : Int)] : List (Int))) (inner := [.int .u8 74, .int .u8 82, .int .u8 78, .int .u8 76, .int .u8 1]) (ok := fun _ => True) (okp := fun _ => True) ?hr ?hp (fun _ hk => hk) trivial (Below.refl _ _) (Nat.le_refl _) (by simp) ?_; (case hd => rfl); (case hg => rfl); (case hr => first | (go_simp; done) | (go_simp; rfl)); (case hp => exact (Reps.one (show Kd.M (Kd.int .u8) _ _ _ (74 : Int) [.int .u8 74] from rfl) (Reps.one (show Kd.M (Kd.int .u8) _ _ _ (82 : Int) [.int .u8 82] from rfl) (Reps.one (show Kd.M (Kd.int .u8) _ _ _ (78 : Int) [.int .u8 78] from rfl) (Reps.one (show Kd.M (Kd.int .u8) _ _ _ (76 : Int) [.int .u8 76] from rfl) (Reps.one (show Kd.M (Kd.int .u8) _ _ _ (1 : Int) [.int .u8 1] from rfl) (Reps.none _ _))))))); intro v1 w1 ho hb hg_ hnew_; clear hg_ hnew_; obtain ⟨g1, c1, rfl, hg1, hl1, _, _⟩ := Kd.R_form ho (by simp); have HG1 := Aside0.mk hg1; have HGL1 := Aside0.mk hl1; clear hg1 hl1; have HR1 := Aside0.mk (Kd.R_reads' ho).2.2; have HC1 := Aside0.mk (Kd.R_reads' ho).2.1; have n1_ : Aside0 (Below w.heap.size w w1) := ⟨below_step (by repeat (first | (with_reducible first | exact HB.out | apply below_alloc | apply pw_below_drewN | apply below_drew1) | exact HB.out)) hb⟩; clear HB; have HB := n1_; clear n1_; clear ho hb) | (go_at_call 67; go_loud ((with_reducible refine (WP1.out _ _ _ HR1.out (Nat.le_trans (by decide) HC1.out)).mono ?_); rintro e w2 ⟨v2, rfl, ho, hb⟩; obtain ⟨A2, c2, rfl⟩ := Kd.R_slice ho; have HM := Aside0.mk (Kd.R_reads' ho).2.2; have HMC := Aside0.mk (Kd.R_reads' ho).2.1; have n1_ : Aside0 (Below w.heap.size w w2) := ⟨below_step (by repeat (first | (with_reducible first | exact HB.out | apply below_alloc | apply pw_below_drewN | apply below_drew1) | exact HB.out)) hb⟩; clear HB; have HB := n1_; clear n1_; clear ho hb)) | (go_at_call 32; go_loud ((with_reducible refine (WR.out _ (Kd.C_below HR.out HB.out)).mono ?_); rintro e w3 ⟨v3, rfl, ho, hb⟩; obtain ⟨A3, c3, rfl⟩ := Kd.R_slice ho; have HQ := Aside0.mk (Kd.R_reads' ho).2.2; have n_ := Aside0.mk (Kd.C_below HM.out hb); clear HM; have HM := n_; clear n_; have n1_ : Aside0 (Below w.heap.size w w3) := ⟨below_step (by repeat (first | (with_reducible first | exact HB.out | apply below_alloc | apply pw_below_drewN | apply below_drew1) | exact HB.out)) hb⟩; clear HB; have HB := n1_; clear n1_; clear ho hb)) | (go_at_call 70; go_loud ((with_reducible refine (WO.out _ _ _ HQ.out).mono ?_); rintro e w' ⟨rfl, h_⟩; have h_ := h_.symm; subst h_)) | (go_at_call 67; go_loud ((with_reducible refine (WP2.out _ _ _ HM.out HMC.out).mono ?_); rintro e w4 ⟨v4, rfl, ho, hb⟩; obtain ⟨A4, c4, rfl⟩ := Kd.R_slice ho; have HN4 := Aside0.mk (Kd.R_reads' ho).2.2; have n1_ : Aside0 (Below w.heap.size w w4) := ⟨below_step (by repeat (first | (with_reducible first | exact HB.out | apply below_alloc | apply pw_below_drewN | apply below_drew1) | exact HB.out)) hb⟩; clear HB; have HB := n1_; clear n1_; clear ho hb)) | (go_at_call 65; go_loud ((with_reducible refine (WS.out _ _ _ HN4.out).mono ?_); rintro e w5 ⟨v5, rfl, ho, hb⟩; have HO := Aside0.mk (Kd.R_lower ho (below_size HB.out)); have n1_ : Aside0 (Below w.heap.size w w5) := ⟨below_step (by repeat (first | (with_reducible first | exact HB.out | apply below_alloc | apply pw_below_drewN | apply below_drew1) | exact HB.out)) hb⟩; clear HB; have HB := n1_; clear n1_; clear ho hb)))
  go_ret
  rw [EH.out]
  exact ⟨_, rfl, HO.out, HB.out⟩
end Go.Proofs.Ytdkbhbolkieeiaa.K
namespace Go.Proofs.Ytdkbhbolkieeiaa.K
open Go.RowKit Go.Proofs.YtdkbhbolkieeiaaW.PrintWords Go.Proofs.YtdkbhbolkieeiaaW.PrintLast Go.Proofs.YtdkbhbolkieeiaaW.PrintMore
set_option linter.unusedVariables false
set_option linter.unusedSimpArgs false
def stepA (n : Nat) (o : List Int) (x : PW) : List Int := if 0 ≤ x.1 ∧ x.1 < (n : Int) / 64 ∧ x.2.length = 64 then setAtL o (64 * x.1.toNat) x.2 else o
def applyP (l : List Int) (ws : List PW) : List Int := ws.foldl (stepA l.length) l
theorem stepA_length {n : Nat} {o : List Int} (x : PW) (h : o.length = n) : (stepA n o x).length = n := by
  unfold stepA
  split
  · rename_i hh
    rw [setAtL_length _ _ _ (by omega), h]
  · exact h
theorem foldA_length {n : Nat} : ∀ (ws : List PW) (o : List Int), o.length = n → (ws.foldl (stepA n) o).length = n
  | [], _, h => h
  | x :: ws, o, h => by rw [List.foldl_cons]; exact foldA_length ws _ (stepA_length x h)
theorem applyP_length (l : List Int) (ws : List PW) : (applyP l ws).length = l.length := foldA_length ws l rfl
theorem applyP_take {l : List Int} {ws : List Wr} {m : Nat} (h : m < ws.length) : applyP l ((ws.take (m + 1)).map wrP) = stepA l.length (applyP l ((ws.take m).map wrP)) (wrP ws[m]) := by
  unfold applyP
  rw [List.take_add_one, List.getElem?_eq_getElem h, Option.toList_some, List.map_append, List.foldl_append]
  rfl
/-- A row of one's own, of its block. -/
theorem R_blkR {W : World} {g base n c : Nat} {cs : Array Value} {xs : List Int} (hg : base ≤ g) (bk : W.heap[g]? = some (.cells cs 5 (0, 0))) (hx : xs.length = n) (hn : n ≤ c) (hc : cs.size = c) (hcm : c ≤ 9223372036854775807) (ht : cs.toList.take n = xs.map (Value.int .u8)) :
    Kd.R (Kd.int .u8) 5 W base (fun _ => True) (.slice (some ⟨g, 0, none⟩) n c) xs := by
  subst hx
  exact Kd.R_of_own ⟨by simp [encs], .inr ⟨g, c, cs, rfl, hg, bk, hn, by simpa [maxLen] using hcm, by omega, by rw [Nat.mul_one]; exact ht⟩⟩ (fun _ _ => trivial)
set_option maxHeartbeats 4000000 in
set_option maxRecDepth 100000 in
theorem apply_walk (A : Option Addr) (c : Nat) (l : List Int) (Al : Option Addr) (cl : Nat) (ws : List Wr) (w : World) (hr : Kd.C (Kd.int .u8) w A l.length l) (hc : l.length ≤ c) (hl : l.length ≤ 100000)
    (hw : Kd.C kWr w Al ws.length ws) (hwl : ws.length ≤ 1000000) :
    Calls Try.prog 85 #[.slice A l.length c, .slice Al ws.length cl] w fun e w' => ∃ v : Value, e = .returned v ∧ Kd.R (Kd.int .u8) 5 w' w.heap.size (fun _ => True) v (applyP l (ws.map wrP)) ∧ Below w.heap.size w w' := by
  have HW := Aside0.mk hw
  have WC : Aside0 (∀ W, Below w.heap.size w W → Calls Try.prog 81 #[.slice A l.length c] W fun e w' => ∃ v : Value, e = .returned v ∧ Kd.R (Kd.int .u8) 5 w' W.heap.size (fun _ => True) v l ∧ Below W.heap.size W w') := ⟨fun W hB => numC_walk A c l W (Kd.C_below hr hB) hc (by omega)⟩
  obtain ⟨n, hn⟩ : ∃ n, n = l.length := ⟨_, rfl⟩
  obtain ⟨k, hk⟩ : ∃ n, n = ws.length := ⟨_, rfl⟩
  have HN := Aside0.mk hn
  have HK := Aside0.mk hk
  have HNL : Aside0 (n ≤ 100000) := ⟨by omega⟩
  have HKL : Aside0 (k ≤ 1000000) := ⟨by omega⟩
  rw [← hn] at WC ⊢
  rw [← hk] at HW ⊢
  have hq1 : RowKit.wrap64 ((n : Int) / 64) = (n : Int) / 64 := by unfold RowKit.wrap64; omega
  have hk1 : k ≤ 1000000 := by omega
  clear hr hc hl hw hwl hn hk
  have HB := Aside0.mk (Below.refl w.heap.size w)
  go_enter Try.func85, Try.ntmps85
  go_wp2_with (go_at_call 81; go_loud ((with_reducible refine (WC.out _ HB.out).mono ?_); rintro e w3 ⟨v3, rfl, ho, hb⟩; obtain ⟨Ao, co, hvo⟩ := Kd.R_slice ho; subst hvo; rw [← HN.out] at ho ⊢; have HO := Aside0.mk (Kd.R_lower ho (below_size HB.out)); have n1_ : Aside0 (Below w.heap.size w w3) := ⟨below_step (by repeat (first | (with_reducible first | exact HB.out | apply below_alloc | apply pw_below_drewN | apply below_drew1) | exact HB.out)) hb⟩; clear HB; have HB := n1_; clear n1_; clear ho hb))
  go_loopw [12] (fun v12 w' => ∃ m : Nat, v12 = .int .i64 m ∧ Aside0 (m ≤ k) ∧ Aside0 (Kd.R (Kd.int .u8) 5 w' w.heap.size (fun _ => True) (.slice Ao n co) (applyP l ((ws.take m).map wrP))) ∧ Aside0 (Below w.heap.size w w')) (fun i _ => k - (intOf i).toNat)
  case atStart => exact ⟨0, rfl, ⟨Nat.zero_le _⟩, HO, HB⟩
  case round =>
    clear HB HO
    obtain ⟨m, rfl, hm, HO, HB⟩ := hrel
    have hm' := hm.out
    by_cases hlt : m < k
    · have hml : m < ws.length := by rw [← HK.out]; exact hlt
      obtain ⟨ad, rfl, hx, hxs⟩ := at_wrA (Kd.C_below HW.out HB.out) hml
      have HXB := Aside0.mk (at_wr (Kd.C_below HW.out HB.out) hml).choose_spec.2.2.1
      have HT := Aside0.mk (applyP_take (l := l) hml)
      have HYL : Aside0 ((applyP l ((ws.take m).map wrP)).length = n) := ⟨by rw [applyP_length]; exact HN.out.symm⟩
      rw [← HN.out] at HT
      obtain ⟨Y, hY⟩ : ∃ Y, Y = applyP l ((ws.take m).map wrP) := ⟨_, rfl⟩
      obtain ⟨x, hxx⟩ : ∃ x, x = ws[m] := ⟨_, rfl⟩
      rw [← hxx] at hx hxs HXB HT
      rw [← hY] at HO HT HYL
      obtain ⟨xl, hxl⟩ : ∃ xl, xl = x.s.l := ⟨_, rfl⟩
      obtain ⟨xa, hxa⟩ : ∃ xa, xa = x.at_ := ⟨_, rfl⟩
      obtain ⟨xA, hxA⟩ : ∃ xA, xA = x.s.A := ⟨_, rfl⟩
      obtain ⟨xc, hxc⟩ : ∃ xA, xA = x.s.c := ⟨_, rfl⟩
      obtain ⟨xn, hxn⟩ : ∃ xn, xn = xl.length := ⟨_, rfl⟩
      have x0 := hx _ rfl
      have x1 := hxs 0 (.slice x.s.A x.s.l.length x.s.c) rfl
      have ET : wrP x = (xa, xl) := by rw [hxa, hxl]
      rw [← hxl, ← hxA] at HXB
      rw [← hxl, ← hxA, ← hxc, ← hxn] at x1
      rw [← hxa] at x0
      rw [ET] at HT
      rw [← hxn] at HXB
      have HXN := Aside0.mk hxn
      clear hx hxs hxx hml hY hxl hxa hxA hxc hxn ET
      have HB6s : Aside0 (w.heap.size ≤ wr.heap.size) := ⟨HB.out.size⟩
      by_cases g1 : 0 ≤ xa
      case neg =>
        have ES : Aside0 (stepA n Y (xa, xl) = Y) := ⟨by unfold stepA; rw [if_neg (fun h => g1 h.1)]⟩
        rw [ES.out] at HT
        go_wp2_with ((with_reducible refine gate_store (p := 7) rfl ?_); go_loud (refine wpList_store_newL (w0 := wr) rfl rfl 82 (.tmp 7) (.tmp 15) rfl #[.int .i64 xa, .slice xA xn xc] 82 #[.int .i64 0, .slice none 0 0] rfl (by rfl) (by rfl) (by kernel_rfl) rfl (by simp [Value.oneCell']) ?_; intro w6 bk_ hb; have BK6 := Aside0.mk bk_; clear bk_; have n_ := Aside0.mk (Kd.R_below HO.out hb); clear HO; have HO := n_; clear n_; have n1_ : Aside0 (Below w.heap.size w w6) := ⟨below_step (by repeat (first | (with_reducible first | exact HB.out | apply below_alloc | apply pw_below_drewN | apply below_drew1) | exact HB.out)) hb⟩; clear HB; have HB := n1_; clear n1_; clear hb; have q0 : w6.cell? ⟨wr.heap.size, 0, none⟩ = some (.int .i64 xa) := (blk_cell BK6.out 0).trans rfl; have q1 : w6.cell? ⟨wr.heap.size, 1, none⟩ = some (.slice xA xn xc) := (blk_cell BK6.out 1).trans rfl))
        exact ⟨⟨m + 1, rfl, ⟨by omega⟩, ⟨by rw [HT.out]; exact HO.out⟩, HB⟩, by simp [intOf]; omega⟩
      by_cases g2 : xa < (n : Int) / 64
      case neg =>
        have ES : Aside0 (stepA n Y (xa, xl) = Y) := ⟨by unfold stepA; rw [if_neg (fun h => g2 h.2.1)]⟩
        rw [ES.out] at HT
        go_wp2_with ((with_reducible refine gate_store (p := 7) rfl ?_); go_loud (refine wpList_store_newL (w0 := wr) rfl rfl 82 (.tmp 7) (.tmp 15) rfl #[.int .i64 xa, .slice xA xn xc] 82 #[.int .i64 0, .slice none 0 0] rfl (by rfl) (by rfl) (by kernel_rfl) rfl (by simp [Value.oneCell']) ?_; intro w6 bk_ hb; have BK6 := Aside0.mk bk_; clear bk_; have n_ := Aside0.mk (Kd.R_below HO.out hb); clear HO; have HO := n_; clear n_; have n1_ : Aside0 (Below w.heap.size w w6) := ⟨below_step (by repeat (first | (with_reducible first | exact HB.out | apply below_alloc | apply pw_below_drewN | apply below_drew1) | exact HB.out)) hb⟩; clear HB; have HB := n1_; clear n1_; clear hb; have q0 : w6.cell? ⟨wr.heap.size, 0, none⟩ = some (.int .i64 xa) := (blk_cell BK6.out 0).trans rfl; have q1 : w6.cell? ⟨wr.heap.size, 1, none⟩ = some (.slice xA xn xc) := (blk_cell BK6.out 1).trans rfl))
        exact ⟨⟨m + 1, rfl, ⟨by omega⟩, ⟨by rw [HT.out]; exact HO.out⟩, HB⟩, by simp [intOf]; omega⟩
      by_cases g3 : xn = 64
      case neg =>
        have ES : Aside0 (stepA n Y (xa, xl) = Y) := ⟨by unfold stepA; rw [if_neg (fun h => g3 (HXN.out.trans h.2.2))]⟩
        rw [ES.out] at HT
        have g3i : ((xn : Int) == 64) = false := by simp; omega
        go_wp2_with ((with_reducible refine gate_store (p := 7) rfl ?_); go_loud (refine wpList_store_newL (w0 := wr) rfl rfl 82 (.tmp 7) (.tmp 15) rfl #[.int .i64 xa, .slice xA xn xc] 82 #[.int .i64 0, .slice none 0 0] rfl (by rfl) (by rfl) (by kernel_rfl) rfl (by simp [Value.oneCell']) ?_; intro w6 bk_ hb; have BK6 := Aside0.mk bk_; clear bk_; have n_ := Aside0.mk (Kd.R_below HO.out hb); clear HO; have HO := n_; clear n_; have n1_ : Aside0 (Below w.heap.size w w6) := ⟨below_step (by repeat (first | (with_reducible first | exact HB.out | apply below_alloc | apply pw_below_drewN | apply below_drew1) | exact HB.out)) hb⟩; clear HB; have HB := n1_; clear n1_; clear hb; have q0 : w6.cell? ⟨wr.heap.size, 0, none⟩ = some (.int .i64 xa) := (blk_cell BK6.out 0).trans rfl; have q1 : w6.cell? ⟨wr.heap.size, 1, none⟩ = some (.slice xA xn xc) := (blk_cell BK6.out 1).trans rfl))
        exact ⟨⟨m + 1, rfl, ⟨by omega⟩, ⟨by rw [HT.out]; exact HO.out⟩, HB⟩, by simp [intOf]; omega⟩
      subst g3
      obtain ⟨a, ha⟩ : ∃ a : Nat, xa = a := ⟨xa.toNat, by omega⟩
      subst ha
      have HAN : Aside0 (64 * a + 64 ≤ n) := ⟨by omega⟩
      have g4 : ((a : Int)) < (n : Int) / 64 := g2
      have ES : Aside0 (stepA n Y ((a : Int), xl) = setAtL Y (64 * a) xl) := ⟨by unfold stepA; rw [if_pos ⟨g1, g2, HXN.out.symm⟩]; rfl⟩
      rw [ES.out] at HT
      have ha1 : RowKit.wrap64 (64 * (a : Int)) = 64 * (a : Int) := by unfold RowKit.wrap64; have := HAN.out; have := HNL.out; omega
      go_wp2_with ((with_reducible refine gate_store (p := 7) rfl ?_); go_loud (refine wpList_store_newL (w0 := wr) rfl rfl 82 (.tmp 7) (.tmp 15) rfl #[.int .i64 a, .slice xA 64 xc] 82 #[.int .i64 0, .slice none 0 0] rfl (by rfl) (by rfl) (by kernel_rfl) rfl (by simp [Value.oneCell']) ?_; intro w6 bk_ hb; have BK6 := Aside0.mk bk_; clear bk_; have n_ := Aside0.mk (Kd.R_below HO.out hb); clear HO; have HO := n_; clear n_; have n_ := Aside0.mk (Kd.C_below HXB.out hb); clear HXB; have HXB := n_; clear n_; have n1_ : Aside0 (Below w.heap.size w w6) := ⟨below_step (by repeat (first | (with_reducible first | exact HB.out | apply below_alloc | apply pw_below_drewN | apply below_drew1) | exact HB.out)) hb⟩; clear HB; have HB := n1_; clear n1_; clear hb; have q0 : w6.cell? ⟨wr.heap.size, 0, none⟩ = some (.int .i64 a) := (blk_cell BK6.out 0).trans rfl; have q1 : w6.cell? ⟨wr.heap.size, 1, none⟩ = some (.slice xA 64 xc) := (blk_cell BK6.out 1).trans rfl))
      obtain ⟨wz, rfl⟩ : ∃ wz : World, wz = w6 := ⟨w6, rfl⟩
      obtain ⟨go, co', cso, hv3, hgo, hco, hcm, hbz, hsz, htk⟩ := Kd.R_blkS HO.out (by have := HYL.out; have := HAN.out; omega)
      obtain ⟨h1_, h2_, h3_⟩ := Value.slice.inj hv3
      subst h1_ h3_
      clear h2_ hv3
      rw [HYL.out] at hco htk
      have BO := Aside0.mk hbz
      have HGO := Aside0.mk hgo
      have HCO := Aside0.mk hco
      have HCM := Aside0.mk hcm
      have HSZ := Aside0.mk hsz
      have HTK := Aside0.mk htk
      have HSO : Aside0 (n ≤ cso.size) := ⟨by omega⟩
      have HGN : Aside0 (wr.heap.size ≠ go) := ⟨fun e_ => by have h_ := BK6.out; rw [e_, hbz] at h_; cases h_⟩
      have HBw := HB
      have HB : Aside0 (Below wz.heap.size wz wz) := ⟨Below.refl _ _⟩
      have hcut : ∀ W : World, (Instr.slice 44 (.slice (some ⟨go, 0, none⟩) n co) (some (.int .i64 (64 * (a : Int)))) none none).run Try.prog W = .ok (.slice (some ⟨go, 64 * a, none⟩) (n - 64 * a) (co - 64 * a)) W := fun W => by
        have h_ := cutA ⟨go, 0, none⟩ n co (64 * a) (by have := HAN.out; omega) (.inr (by have := HAN.out; omega)) (64 * (a : Int)) (by omega) W
        rw [add_plain] at h_
        exact h_
      clear hgo hco hcm hbz hsz htk HO hq1 x0 x1
      refine start_ (n := 8) (S := fun w' => w'.cell? ⟨wr.heap.size, 0, none⟩ = some (.int .i64 (a : Int)) ∧ w'.cell? ⟨wr.heap.size, 1, none⟩ = some (.slice xA 64 xc)) (ds := []) #[false, false, false, false, false, false, false, false] (by kernel_rfl) rfl rfl ⟨(show wz.drew.cell? _ = _ from q0), (show wz.drew.cell? _ = _ from q1)⟩ (fun hHeld => ?_)
      refine pure_ (i := 0) (N := some 33) (v := ?_) (a' := ?_) #[true, false, false, false, false, false, false, false] rfl rfl (by kernel_rfl) (fun _ _ _ h => h) (Or.inl ⟨by rfl, ?_⟩) ?_ ?_
      rotate_left
      · intro w'
        go_simp
        with_reducible rfl
      rotate_left
      · simp only [Act.put, List.setIfInBounds_toArray, List.set_cons_zero, List.set_cons_succ, i64_w, i32_w]
        rfl
      refine pure_ (i := 1) (N := some 34) (v := ?_) (a' := ?_) #[true, true, false, false, false, false, false, false] rfl rfl (by kernel_rfl) (fun _ _ _ h => h) (Or.inl ⟨by rfl, ?_⟩) ?_ ?_
      rotate_left
      · intro w'
        go_simp
        with_reducible rfl
      rotate_left
      · simp only [Act.put, List.setIfInBounds_toArray, List.set_cons_zero, List.set_cons_succ, i64_w, i32_w]
        rfl
      refine pure_ (i := 5) (N := some 38) (v := ?_) (a' := ?_) #[true, true, false, false, false, true, false, false] rfl rfl (by kernel_rfl) (fun _ _ _ h => h) (Or.inl ⟨by rfl, ?_⟩) ?_ ?_
      rotate_left
      · intro w'
        go_simp
        with_reducible rfl
      rotate_left
      · simp only [Act.put, List.setIfInBounds_toArray, List.set_cons_zero, List.set_cons_succ, i64_w, i32_w]
        rfl
      refine take_ (i := 2) (N := some 35) (v := ?_) (a' := ?_) #[true, true, true, false, false, true, false, false] rfl rfl (by kernel_rfl) (fun _ _ _ h => h) (Or.inl ⟨by rfl, ?_⟩) hHeld ?_ ?_
      rotate_left
      · rintro w' ⟨s0, s1⟩
        go_simp
        with_reducible rfl
      rotate_left
      · simp only [Act.put, List.setIfInBounds_toArray, List.set_cons_zero, List.set_cons_succ, i64_w, i32_w]
        rfl
      refine pure_ (i := 3) (N := some 36) (v := ?_) (a' := ?_) #[true, true, true, true, false, true, false, false] rfl rfl (by kernel_rfl) (fun _ _ _ h => h) (Or.inl ⟨by rfl, ?_⟩) ?_ ?_
      rotate_left
      · intro w'
        go_simp
        with_reducible rfl
      rotate_left
      · simp only [Act.put, List.setIfInBounds_toArray, List.set_cons_zero, List.set_cons_succ, i64_w, i32_w]
        rfl
      refine pure_ (i := 4) (N := some 37) (v := ?_) (a' := ?_) #[true, true, true, true, true, true, false, false] rfl rfl (by kernel_rfl) (fun _ _ _ h => h) (Or.inl ⟨by rfl, ?_⟩) ?_ ?_
      rotate_left
      · intro w'
        go_simp
        with_reducible rfl
      rotate_left
      · simp only [Act.put, List.setIfInBounds_toArray, List.set_cons_zero, List.set_cons_succ, i64_w, i32_w]
        rfl
      refine take_ (i := 6) (N := some 39) (v := ?_) (a' := ?_) #[true, true, true, true, true, true, true, false] rfl rfl (by kernel_rfl) (fun _ _ _ h => h) (Or.inl ⟨by rfl, ?_⟩) hHeld ?_ ?_
      rotate_left
      · rintro w' ⟨s0, s1⟩
        go_simp
        with_reducible rfl
      rotate_left
      · simp only [Act.put, List.setIfInBounds_toArray, List.set_cons_zero, List.set_cons_succ, i64_w, i32_w]
        rfl
      refine one_ (i := 7) (N := some 40) #[true, true, true, true, true, true, true, true] rfl rfl (by kernel_rfl) (by decide) (fun K hK => ?_)
      clear hHeld
      obtain ⟨w8, cs8, hrun, bk8, hs8, hl8, hg8⟩ := run_copyBlkG (P := Try.prog) 3 44 44 5 Try.underlying44 (by kernel_rfl) go (64 * a) (n - 64 * a) (co - 64 * a) xl xA 64 xc (blk_drew BO.out) (by have := HSO.out; have := HAN.out; omega) (Kd.C_below HXB.out (below_drew1 (Below.refl _ _)))
      have HRUN := Aside0.mk hrun
      have BK8 := Aside0.mk bk8
      have HS8 := Aside0.mk hs8
      have HL8 := Aside0.mk hl8
      have HG8 := Aside0.mk hg8
      clear hrun bk8 hs8 hl8 hg8
      refine value_ (w1 := w8) (v := _) (by rfl) rfl (exec_copy (d := .tmp 37) (x := .tmp 39) rfl rfl rfl HRUN.out) ?_
      clear HRUN
      refine hK.out _ _ ⟨((blk_cell (blk_grown (blk_drew BK6.out) HG8.out (by have := HGN.out; intro e_; have := Option.some.inj e_; omega)) 0).trans rfl), ((blk_cell (blk_grown (blk_drew BK6.out) HG8.out (by have := HGN.out; intro e_; have := Option.some.inj e_; omega)) 1).trans rfl)⟩ (fun hHeld => ?_)
      clear hK K
      refine norm_ (a' := ?_) ?_ ?_
      rotate_left
      · show Act.put _ (some 40) _ = _
        simp only [Act.put, List.setIfInBounds_toArray, List.set_cons_zero, List.set_cons_succ, i64_w, i32_w]
        rfl
      refine done_ (by kernel_rfl) ?_
      have HB8 : Aside0 (Below w.heap.size w w8) := ⟨pw_below_grown (below_drew1 HBw.out) _ (below_drew1 HBw.out).size HG8.out (fun k e => by cases e; exact HGO.out)⟩
      have HO8 : Aside0 (Kd.R (Kd.int .u8) 5 w8 w.heap.size (fun _ => True) (.slice (some ⟨go, 0, none⟩) n co) (setAtL Y (64 * a) xl)) := ⟨R_blkR HGO.out BK8.out (by rw [setAtL_length _ _ _ (by have := HYL.out; have := HAN.out; omega)]; exact HYL.out) HCO.out (by rw [HS8.out]; exact HSZ.out) HCM.out (setAtL_cells HYL.out.symm HTK.out HSO.out (by have := HAN.out; omega) (by have h_ := HL8.out; rw [show min 64 (n - 64 * a) = min xl.length (n - 64 * a) from by rw [← HXN.out]] at h_; exact h_))⟩
      refine go_on40 ?_
      go_wp2
      exact ⟨⟨m + 1, rfl, ⟨by omega⟩, ⟨by rw [HT.out]; exact HO8.out⟩, HB8⟩, by simp [intOf]; omega⟩
    · have hmn : m = k := by omega
      subst hmn
      have e0 : ws.take m = ws := List.take_of_length_le (Nat.le_of_eq HK.out.symm)
      rw [e0] at HO
      go_wp2
      go_ret
      exact ⟨_, rfl, HO.out, HB.out⟩
end Go.Proofs.Ytdkbhbolkieeiaa.K
namespace Go.Proofs.Ytdkbhbolkieeiaa.K
open Go.RowKit Go.Proofs.YtdkbhbolkieeiaaW.PrintWords Go.Proofs.YtdkbhbolkieeiaaW.PrintLast Go.Proofs.YtdkbhbolkieeiaaW.PrintMore
set_option linter.unusedVariables false
set_option linter.unusedSimpArgs false
def pendB : List Int := inoP 1 0 9 0 0 0 0 0 0 0
def pendW : List PW := [(14, pendB)]
def pendL : List Int := headN pendW ++ recsN pendW
def pendImg : List Int := setAtL baseImg 1600 pendL
theorem u8size33 : (Try.prog.info? 5).map (·.size) = some 1 := by kernel_rfl
theorem pendB_length : pendB.length = 64 := by decide +kernel
theorem pendB_byts : Byts pendB := byts_ofC (by decide +kernel)
theorem pendL_length : pendL.length = 192 := by decide +kernel
theorem pend_length : pendImg.length = 1920 := by decide +kernel
theorem C_oneW1 {W : World} {g : Nat} {at_ : Int} {A : Option Addr} {c : Nat} {l : List Int} {n : Nat} (h : W.heap[g]? = some (.cells #[.int .i64 at_, .slice A n c] 82 (0, 0))) (hn : n = l.length) (hC : Kd.C (Kd.int .u8) W A l.length l) (hc : l.length ≤ c) : Kd.C kWr W (some ⟨g, 0, none⟩) 1 [⟨at_, ⟨A, c, l⟩⟩] := by
  refine ⟨rfl, by decide, fun _ => ⟨⟨g, 0, none⟩, rfl, fun j p hp => ?_⟩⟩
  have hj : j = 0 := by
    have := (List.getElem?_eq_some_iff.1 hp).1
    simpa using this
  subst hj
  obtain rfl : ⟨at_, ⟨A, c, l⟩⟩ = p := by simpa using hp
  refine ⟨[.int .i64 at_, .slice A n c], rfl, ⟨by rw [hn]; rfl, hC, hc⟩, fun i u hu => ?_⟩
  rw [show (0 * kWr.sz + i) = i by omega, add_plain, blk_cell h]
  simpa using hu
set_option maxHeartbeats 4000000 in
set_option maxRecDepth 100000 in
theorem pending_walk (w : World) : Calls Try.prog 82 #[] w fun e w' => ∃ v : Value, e = .returned v ∧ Kd.R (Kd.int .u8) 5 w' w.heap.size (fun _ => True) v pendImg ∧ Below w.heap.size w w' := by
  have HB := Aside0.mk (Below.refl w.heap.size w)
  have WB := Aside0.mk base_walk
  have W7 : Aside0 (∀ W, Calls Try.prog 112 #[.agg #[.int .i64 1, .int .i64 0, .int .i64 9, .int .i64 0, .int .i64 0, .int .i64 0, .int .i64 0, .int .i64 0, .int .i64 0, .int .i64 0]] W fun e w' => ∃ v : Value, e = .returned v ∧ Kd.R (Kd.int .u8) 5 w' W.heap.size (fun _ => True) v pendB ∧ Below W.heap.size W w') := ⟨fun W => rBytes07_walk 1 0 9 0 0 0 0 0 0 0 W (by decide)⟩
  go_enter Try.func82, Try.ntmps82
  go_upto_region 3 with (first | (go_at_call 57; go_loud ((with_reducible refine (WB.out _).mono ?_); rintro e w1 ⟨gu, gl, gn, ge, gd, rfl, hM, hb⟩; have HM := Aside0.mk hM; have n1_ : Aside0 (Below w.heap.size w w1) := ⟨below_step (by repeat (first | (with_reducible first | exact HB.out | apply below_alloc | apply pw_below_drewN | apply below_drew1) | exact HB.out)) hb⟩; clear HB; have HB := n1_; clear n1_; clear hM hb)) | (go_at_call 56; go_loud ((with_reducible refine (baseBytes_walk HM.out).mono ?_); rintro e w2 ⟨v2, rfl, ho, hb⟩; have HO := Aside0.mk (Kd.R_lower ho HB.out.size); obtain ⟨A2, c2, hv_⟩ := Kd.R_slice ho; subst hv_; rw [base_length] at HO ⊢; have n1_ : Aside0 (Below w.heap.size w w2) := ⟨below_step (by repeat (first | (with_reducible first | exact HB.out | apply below_alloc | apply pw_below_drewN | apply below_drew1) | exact HB.out)) hb⟩; clear HB; have HB := n1_; clear n1_; clear ho hb)) | (go_at_call 112; go_loud ((with_reducible refine (W7.out _).mono ?_); rintro e w4 ⟨v4, rfl, ho, hb⟩; obtain ⟨A4, c4, hv_⟩ := Kd.R_slice ho; subst hv_; have HC4 := Aside0.mk (Kd.R_reads' ho).2.2; have HQ4 := Aside0.mk (Kd.R_reads' ho).2.1; rw [pendB_length]; have n0_ := Aside0.mk (Kd.R_below HO.out hb); clear HO; have HO := n0_; clear n0_; have n1_ : Aside0 (Below w.heap.size w w4) := ⟨below_step (by repeat (first | (with_reducible first | exact HB.out | apply below_alloc | apply pw_below_drewN | apply below_drew1) | exact HB.out)) hb⟩; clear HB; have HB := n1_; clear n1_; clear ho hb)))
  obtain ⟨w5, hw5⟩ : ∃ w5, w5 = w4.alloc (.cells #[.int .i64 14, .slice A4 64 c4] 82) := ⟨_, rfl⟩
  refine go_on40 ?_
  rw [← hw5]
  obtain ⟨x, hxe⟩ : ∃ x : Wr, x = ⟨14, ⟨A4, c4, pendB⟩⟩ := ⟨_, rfl⟩
  have HL : Aside0 (Kd.C kWr w5 (some ⟨w4.heap.size, 0, none⟩) 1 [x]) := ⟨by rw [hxe, hw5]; exact C_oneW1 (heap_alloc_new _ _) pendB_length.symm (Kd.C_alloc HC4.out _) HQ4.out⟩
  have HXM : Aside0 ([x].map wrP = pendW) := ⟨by rw [hxe]; rfl⟩
  have HXB : Aside0 (∀ y ∈ [x], Byts y.s.l) := ⟨fun y hy => by obtain rfl := List.mem_singleton.1 hy; rw [hxe]; exact pendB_byts⟩
  have n_ : Aside0 (Kd.R (Kd.int .u8) 5 w5 w.heap.size (fun _ => True) (.slice A2 1920 c2) baseImg) := ⟨by rw [hw5]; exact Kd.R_alloc HO.out _⟩
  have m_ : Aside0 (Below w.heap.size w w5) := ⟨by rw [hw5]; exact below_alloc HB.out _⟩
  obtain ⟨g2, c2', cs2, hv2, hg2, hc2, hcm2, hbk2, hsz2, htk2⟩ := Kd.R_blkS n_.out (by rw [base_length]; decide)
  obtain ⟨q1_, q2_, q3_⟩ := Value.slice.inj hv2
  clear q2_
  subst q1_ q3_
  rw [base_length] at hc2 htk2
  have BO := Aside0.mk hbk2
  have HG2 : Aside0 (w.heap.size ≤ g2 ∧ g2 < w5.heap.size) := ⟨hg2, blk_lt hbk2⟩
  have HCA : Aside0 (1920 ≤ c2 ∧ c2 ≤ 9223372036854775807 ∧ cs2.size = c2) := ⟨hc2, hcm2, hsz2⟩
  have HTK := Aside0.mk htk2
  have hcut : ∀ W : World, (Instr.slice 44 (.slice (some ⟨g2, 0, none⟩) 1920 c2) (some (.int .i64 1600)) none none).run Try.prog W = .ok (.slice (some ⟨g2, 1600, none⟩) 320 (c2 - 1600)) W := fun W => by
    have h_ := cutA ⟨g2, 0, none⟩ 1920 c2 1600 (by decide) (.inr (by have := HCA.out; omega)) 1600 (by decide) W
    rw [add_plain] at h_
    exact h_
  clear HO HB hw5 hxe HM HC4 HQ4 WB W7 hv2 hg2 hc2 hcm2 hbk2 hsz2 htk2 n_
  have HB := m_
  clear m_
  have WH : Aside0 (∀ W, Kd.C kWr W (some ⟨w4.heap.size, 0, none⟩) 1 [x] → Calls Try.prog 34 #[.slice (some ⟨w4.heap.size, 0, none⟩) 1 1] W fun e w' => ∃ v : Value, e = .returned v ∧ Kd.R (Kd.int .u8) 5 w' W.heap.size (fun _ => True) v (headN pendW) ∧ Below W.heap.size W w') := ⟨fun W h => by rw [← HXM.out]; exact rHead_walk _ 1 [x] W h (by simp) HXB.out⟩
  have WR : Aside0 (∀ W, Kd.C kWr W (some ⟨w4.heap.size, 0, none⟩) 1 [x] → Calls Try.prog 32 #[.slice (some ⟨w4.heap.size, 0, none⟩) 1 1] W fun e w' => ∃ v : Value, e = .returned v ∧ Kd.R (Kd.int .u8) 5 w' W.heap.size (fun _ => True) v (recsN pendW) ∧ Below W.heap.size W w') := ⟨fun W h => by rw [← HXM.out]; exact rRecords_walk _ 1 [x] W h (by simp)⟩
  have EL : Aside0 (pendL = headN pendW ++ recsN pendW) := ⟨rfl⟩
  have HLL := Aside0.mk pendL_length
  have HHL : Aside0 ((headN pendW).length = 64) := ⟨by decide +kernel⟩
  have HRL : Aside0 ((recsN pendW).length = 128) := ⟨by decide +kernel⟩
  obtain ⟨Hh, hHh⟩ : ∃ H, H = headN pendW := ⟨_, rfl⟩
  obtain ⟨Rr, hRr⟩ : ∃ H, H = recsN pendW := ⟨_, rfl⟩
  rw [← hHh] at WH EL HHL
  rw [← hRr] at WR EL HRL
  clear hHh hRr
  go_wp2_with (first | (go_at_call 34; go_loud ((with_reducible refine (WH.out _ HL.out).mono ?_); rintro e w6 ⟨v6, rfl, ho, hb⟩; have HH := Aside0.mk (Kd.R_lower ho HB.out.size); have HHB : Aside0 (∀ k, v6.ownBlock = some k → w5.heap.size ≤ k) := ⟨fun k hk => ((Kd.R_bound ho).1 k hk).2.1⟩; have n_ := Aside0.mk (Kd.C_below (by first | exact HL.out | exact Kd.C_alloc HL.out _) hb); clear HL; have HL := n_; clear n_; have n0_ := Aside0.mk (blk_below BO.out hb); clear BO; have BO := n0_; clear n0_; have n1_ : Aside0 (Below w.heap.size w w6) := ⟨below_step (by repeat (first | (with_reducible first | exact HB.out | apply below_alloc | apply pw_below_drewN | apply below_drew1) | exact HB.out)) hb⟩; clear HB; have HB := n1_; clear n1_; clear ho hb)) | (go_at_call 32; go_loud ((with_reducible refine (WR.out _ HL.out).mono ?_); rintro e w7 ⟨v7, rfl, ho, hb⟩; obtain ⟨A7, c7, hv_⟩ := Kd.R_slice ho; subst hv_; have HC7 := Aside0.mk (Kd.R_reads' ho).2.2; have n0_ := Aside0.mk (blk_below BO.out hb); clear BO; have BO := n0_; clear n0_; have n0_ := Aside0.mk (Kd.R_below HH.out hb); clear HH; have HH := n0_; clear n0_; have n1_ : Aside0 (Below w.heap.size w w7) := ⟨below_step (by repeat (first | (with_reducible first | exact HB.out | apply below_alloc | apply pw_below_drewN | apply below_drew1) | exact HB.out)) hb⟩; clear HB; have HB := n1_; clear n1_; clear ho hb HL)) | ((with_reducible refine gate_builtin (b := .append) (xs := #[.tmp 11, .tmp 13]) rfl ?_); at_builtin; go_loud (refine Kd.R_append_rows (Kd.int .u8) (w0 := w) w.heap.size rfl (.tmp 11) (.tmp 13) 44 5 (.int .u8 0) 1 rfl Try.underlying44 u8info rfl (by decide) (by omega) v6 Hh Rr _ _ _ (fun _ => True) (fun _ => False) rfl rfl ?aO ?aR (fun _ _ h => h) (fun _ h => h.elim) ?aF ?aB ?aS ?aL ?_); (case aR => exact HC7.out); (case aB => exact (by repeat (first | (with_reducible first | exact HB.out | apply below_alloc | apply pw_below_drewN | apply below_drew1) | exact HB.out))); (case aF => exact (fun _ _ => trivial)); (case aO => exact (by (with_reducible repeat (first | apply Kd.R_alloc | apply Kd.R_drewN | apply Kd.R_drew)); exact HH.out)); (case aS => exact (below_size (by repeat (first | (with_reducible first | exact HB.out | apply below_alloc | apply pw_below_drewN | apply below_drew1) | exact HB.out)))); (case aL => (have h1_ := HHL.out; have h2_ := HRL.out; omega)); intro v8 w11 ho hb hg hat; have n0_ := Aside0.mk (hb); have n1_ := Aside0.mk (ho); clear HB; clear HH; have HB := n0_; have HH8 := n1_; clear n0_ n1_; have n0_ := Aside0.mk (blk_grown BO.out hg (fun e_ => by have h1_ := HHB.out _ e_.symm; have h2_ := HG2.out; omega)); clear BO; have BO := n0_; clear n0_; clear ho hb hg hat))
  obtain ⟨A8, c8, hv8⟩ := Kd.R_slice HH8.out
  subst hv8
  have HC8 := Aside0.mk (Kd.R_reads' HH8.out).2.2
  rw [← EL.out] at HC8 ⊢
  rw [pendL_length] at HC8 ⊢
  obtain ⟨w12, cs3, hrun, bk3, hs3, ht3, hg3⟩ := Kd.run_copyBlk (P := Try.prog) (0 : Int) 3 44 44 5 Try.underlying44 u8size33 g2 1600 320 (c2 - 1600) pendL A8 192 c8 (by decide) BO.out (by have := HCA.out; omega) HC8.out
  have BK3 := Aside0.mk bk3
  have HS3 := Aside0.mk hs3
  have HT3 := Aside0.mk ht3
  have HB3 := Aside0.mk (pw_below_grown HB.out (some g2) HB.out.size hg3 (fun k e => by cases e; exact HG2.out.1))
  clear bk3 hs3 ht3 hg3
  simp only [hrun, Result.andThen_ok]
  go_wp2
  go_ret
  exact ⟨_, rfl, R_blkR HG2.out.1 BK3.out pend_length HCA.out.1 (by rw [HS3.out]; exact HCA.out.2.2) HCA.out.2.1 (setAtL_cells (X := pendL) base_length.symm HTK.out (by have := HCA.out; omega) (by decide) (by rw [HLL.out]; exact HT3.out)), HB3.out⟩
end Go.Proofs.Ytdkbhbolkieeiaa.K
