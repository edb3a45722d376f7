/- Walks and plain laws of this claim, merged: R27d, L27d, L27e. -/
import Derived.Test.YtdkbhbolkieeiaaCH
import Derived.Test.YtdkbhbolkieeiaaCE
import Derived.Test.YtdkbhbolkieeiaaKFlat
import Derived.Test.YtdkbhbolkieeiaaCG
import Derived.Test.YtdkbhbolkieeiaaCA
namespace Go.Proofs.Ytdkbhbolkieeiaa.K
open Go.RowKit Go.Proofs.YtdkbhbolkieeiaaW.PrintWords Go.Proofs.YtdkbhbolkieeiaaW.PrintLast Go.Proofs.YtdkbhbolkieeiaaW.PrintMore
set_option linter.unusedVariables false
set_option linter.unusedSimpArgs false
def logB (l : List Int) : List Int := l.drop (64 * logN l)
theorem numG_take {l : List Int} {k : Nat} {i s : Int} (h : i + s ≤ k) (hk : k ≤ l.length) : numG (l.take k) i s = numG l i s := by
  by_cases hw : numW s = true ∧ 0 ≤ i
  · have e1 : numT (l.take k) i s = true := by unfold numT; rw [hw.1, List.length_take]; simp; omega
    have e2 : numT l i s = true := by unfold numT; rw [hw.1]; simp; omega
    unfold numG
    rw [if_pos e1, if_pos e2]
    have hs : 0 ≤ s := by have := hw.1; unfold numW at this; simp at this; omega
    congr 2
    rw [List.drop_take, List.take_take]
    congr 1
    omega
  · have e1 : numT (l.take k) i s = false := by
      unfold numT
      by_cases hq : numW s = true
      · rw [decide_eq_false (fun h0 => hw ⟨hq, h0⟩)]; simp
      · simp [hq]
    have e2 : numT l i s = false := by
      unfold numT
      by_cases hq : numW s = true
      · rw [decide_eq_false (fun h0 => hw ⟨hq, h0⟩)]; simp
      · simp [hq]
    unfold numG
    rw [e1, e2]; rfl
theorem numG_drop {l : List Int} {k : Nat} {i s : Int} (h0 : 0 ≤ i) (hk : k ≤ l.length) : numG (l.drop k) i s = numG l (k + i) s := by
  have e : numT (l.drop k) i s = numT l (k + i) s := by
    unfold numT
    rw [List.length_drop]
    congr 1
    · congr 1
      rw [decide_eq_decide]; omega
    · rw [decide_eq_decide]; omega
  unfold numG
  rw [e, List.drop_drop, show ((k : Int) + i).toNat = k + i.toNat by omega]
theorem many_log {l : List Int} (h : 64 * logN l + 64 ≤ l.length) : (numG (logB l) 5 2).1 = manyL l := by
  unfold manyL headL logB
  rw [numG_take (by decide) (by rw [List.length_drop]; omega)]
theorem rest_log (l : List Int) : restL l = (logB l).drop 64 := by unfold restL logB; rw [List.drop_drop]; congr 1
theorem head_log (l : List Int) : headL l = (logB l).take 64 := rfl
theorem wrAt_log {l : List Int} {j : Nat} (h : 128 * (j + 1) ≤ (restL l).length) : wrAt (restL l) j = ((numG (logB l) (64 + 128 * (j : Int)) 4).1, ((logB l).take (192 + 128 * j)).drop (128 + 128 * j)) := by
  unfold wrAt
  have hl : (restL l).length = (logB l).length - 64 := by rw [rest_log, List.length_drop]
  rw [rest_log, List.drop_drop]
  congr 1
  · rw [numG_take (by decide) (by rw [List.length_drop]; omega), numG_drop (by decide) (by omega)]
    congr 2
    try omega
  · rw [List.take_drop, List.drop_drop]
    rw [show 64 + 128 * j + 64 = 128 + 128 * j by omega, show 64 + 128 * j + 128 = 192 + 128 * j by omega]
/-- Writes as cells, whatever their bytes are. -/
abbrev kWrF : Kd Wr := Kd.flat 2 Wr.enc Wr.len Wr.one
theorem C_wrF {W : World} {A : Option Addr} {n : Nat} {xs : List Wr} (h : Kd.C kWrF W A n xs) (hb : ∀ x ∈ xs, Kd.C (Kd.int .u8) W x.s.A x.s.l.length x.s.l ∧ x.s.l.length ≤ x.s.c) : Kd.C kWr W A n xs := by
  refine ⟨h.1, h.2.1, fun h0 => ?_⟩
  obtain ⟨ad, hA, hx⟩ := h.2.2 h0
  refine ⟨ad, hA, fun j p hp => ?_⟩
  obtain ⟨cs, hl, hk, hc⟩ := hx j p hp
  have hm := hb p (List.mem_of_getElem? hp)
  exact ⟨cs, hl, ⟨hk, hm.1, hm.2⟩, hc⟩
theorem wrinfo2 : (Try.prog.info? 82).map (fun i => (i.zero, i.size, i.bytes)) = some (some (.agg #[.int .i64 0, .slice none 0 0]), 2, 32) := by kernel_rfl
/-- A reading of writes, told by their values. -/
structure RdW (W : World) (v : Value) (xs : List PW) : Prop where
  ex : ∃ (A : Option Addr) (c : Nat) (ys : List Wr), v = .slice A ys.length c ∧ Kd.C kWr W A ys.length ys ∧ ys.map wrP = xs
theorem RdW.nil (W : World) : RdW W (.slice none 0 0) [] := ⟨⟨none, 0, [], rfl, Kd.C_nil _ _, rfl⟩⟩
/-- The write at a place of a log, as it lies there. -/
def wrF (l : List Int) (ad : Addr) (c j : Nat) : Wr := ⟨(numG (logB l) (64 + 128 * (j : Int)) 4).1, ⟨if c = 128 + 128 * j then some ad else (some ad).map (·.add ((128 + 128 * j) * 1)), c - (128 + 128 * j), ((logB l).take (192 + 128 * j)).drop (128 + 128 * j)⟩⟩
def wsF (l : List Int) (ad : Addr) (c n : Nat) : List Wr := (List.range n).map (wrF l ad c)
theorem wsF_succ (l : List Int) (ad : Addr) (c n : Nat) : wsF l ad c (n + 1) = wsF l ad c n ++ [wrF l ad c n] := by unfold wsF; rw [List.range_succ, List.map_append]; rfl
theorem wsF_length (l : List Int) (ad : Addr) (c n : Nat) : (wsF l ad c n).length = n := by unfold wsF; simp
theorem wsF_map {l : List Int} {ad : Addr} {c n : Nat} (h : 128 * n ≤ (restL l).length) : (wsF l ad c n).map wrP = readN (restL l) n := by
  unfold wsF readN
  rw [List.map_map]
  apply List.ext_getElem
  · simp
  · intro j h1 h2
    have hj : j < n := by simpa using h1
    simp only [List.getElem_map, List.getElem_range, List.getElem_finRange]
    show wrP (wrF l ad c j) = wrAt (restL l) j
    rw [wrAt_log (by omega)]
    rfl
theorem wrF_reads {l : List Int} {ad : Addr} {c j : Nat} {W : World} (h : Kd.C (Kd.int .u8) W (some ad) (logB l).length (logB l)) (hc : (logB l).length ≤ c) (hj : 192 + 128 * j ≤ (logB l).length) : Kd.C (Kd.int .u8) W (wrF l ad c j).s.A (wrF l ad c j).s.l.length (wrF l ad c j).s.l ∧ (wrF l ad c j).s.l.length ≤ (wrF l ad c j).s.c := by
  have h4 := Kd.C_mid (c := c) (lo := 128 + 128 * j) (hi := 192 + 128 * j) h (by omega) hj hc
  refine ⟨h4, ?_⟩
  show (((logB l).take (192 + 128 * j)).drop (128 + 128 * j)).length ≤ c - (128 + 128 * j)
  rw [List.length_drop, List.length_take]; omega
theorem wrF_cut {l : List Int} {ad : Addr} {c j : Nat} (hc : (logB l).length ≤ c) (hj : 192 + 128 * j ≤ (logB l).length) (W : World) : (Instr.slice 44 (.slice (some ad) (logB l).length c) (some (.int .i64 (128 + 128 * (j : Int)))) (some (.int .i64 (192 + 128 * (j : Int)))) none).run Try.prog W = .ok (.slice (wrF l ad c j).s.A 64 (wrF l ad c j).s.c) W := by
  obtain ⟨i0, hi0, hz0⟩ := Option.map_eq_some_iff.1 u8info
  have := cut_mid (P := Try.prog) 44 5 .i64 .i64 Try.underlying44 hi0 1 (by simpa using congrArg (fun x => x.2.1) hz0) (some ad) (logB l).length c (128 + 128 * (j : Int)) (192 + 128 * (j : Int)) (by omega) (by omega) (by omega) hc W
  rw [this]
  rw [show (128 + 128 * (j : Int)).toNat = 128 + 128 * j by omega, show (192 + 128 * (j : Int)).toNat = 192 + 128 * j by omega, show 192 + 128 * j - (128 + 128 * j) = 64 by omega]
  rfl
theorem wrF_len {l : List Int} {ad : Addr} {c j : Nat} (hj : 192 + 128 * j ≤ (logB l).length) : (wrF l ad c j).s.l.length = 64 := by
  show (((logB l).take (192 + 128 * j)).drop (128 + 128 * j)).length = 64
  rw [List.length_drop, List.length_take]; omega
set_option maxHeartbeats 4000000 in
set_option maxRecDepth 100000 in
theorem rRead27_walk (A : Option Addr) (c : Nat) (l : List Int) (w : World) (hr : Kd.C (Kd.int .u8) w A l.length l) (hc : l.length ≤ c) (hl : l.length < 140737488355320) (hb : Byts l) :
    Calls Try.prog 36 #[.slice A l.length c] w fun e w' => ∃ v : Value, e = .returned (.tuple #[v, .bool (readJ l).2]) ∧ RdW w' v (readJ l).1 ∧ Below w.heap.size w w' := by
  have HR := Aside0.mk hr
  have HY := Aside0.mk hb
  have ER : Aside0 (readJ l = if (geoG l).2 = 0 ∧ manyL l ≠ 0 ∧ manyL l ≤ capL l ∧ fitL l = true then (wsL l, true) else ([], false)) := ⟨rfl⟩
  obtain ⟨R, hR⟩ : ∃ R, R = readJ l := ⟨_, rfl⟩
  rw [← hR] at ER
  rw [← hR]
  clear hR
  have WG := Aside0.mk (rGet06_walk A c l w hr hc hl hb)
  have HB := Aside0.mk (Below.refl w.heap.size w)
  by_cases hok : (geoG l).2 = 0
  case neg =>
    have E0 : Aside0 (R = ([], false)) := ⟨by rw [ER.out, if_neg (fun h => hok h.1)]⟩
    have e2 : geoG l = ((0, 0, 0, 0), 2) := by
      unfold geoG at hok ⊢
      split
      · rename_i h; rw [if_pos h] at hok; exact absurd rfl hok
      · rfl
    rw [e2] at WG
    simp only at WG
    clear hr hb hc hl hok e2 ER
    go_enter Try.func36, Try.ntmps36
    go_wp2_with (first | (go_at_call 39; go_loud ((with_reducible refine (WG.out).mono ?_); rintro e w2 ⟨rfl, hb⟩; have n1_ : Aside0 (Below w.heap.size w w2) := ⟨below_step (by repeat (first | (with_reducible first | exact HB.out | apply below_alloc | apply pw_below_drewN | apply below_drew1) | exact HB.out)) hb⟩; clear HB; have HB := n1_; clear n1_; clear hb WG)) | ((with_reducible refine gate_store (p := 4) rfl ?_); go_loud (refine wpList_store_newL (w0 := w2) rfl rfl 38 (.tmp 4) (.tmp 16) rfl #[.int .i64 0, .int .i64 0, .int .i64 0, .int .i64 0] 38 #[.int .i64 0, .int .i64 0, .int .i64 0, .int .i64 0] rfl (by rfl) (by rfl) (by kernel_rfl) rfl (by simp [Value.oneCell']) ?_; intro w3 bk_ hb; have BK3 := Aside0.mk bk_; clear bk_; have n1_ : Aside0 (Below w.heap.size w w3) := ⟨below_step (by repeat (first | (with_reducible first | exact HB.out | apply below_alloc | apply pw_below_drewN | apply below_drew1) | exact HB.out)) hb⟩; clear HB; have HB := n1_; clear n1_; clear hb)))
    go_ret2
    exact ⟨.slice none 0 0, by rw [E0.out]; rfl, by rw [E0.out]; exact RdW.nil _, HB.out⟩
  obtain ⟨a, b, d, h, L, hG, hgo, hL1, hL2, hlen, h1, h64, hLs⟩ := logFacts hok
  have hlen2 : 64 * L + 64 ≤ l.length := len_ok hlen h1
  have WL : Aside0 (∀ W, Calls Try.prog 41 #[.agg #[.int .i64 a, .int .i64 b, .int .i64 d, .int .i64 h]] W fun e w' => e = .returned (.int .i64 (L : Int)) ∧ Below W.heap.size W w') := ⟨fun W => by rw [← hL1]; exact rLog_walk a b d h W⟩
  obtain ⟨hw1, _, _⟩ := wrapsL hLs
  obtain ⟨ad, hA⟩ : ∃ ad, A = some ad := by
    obtain ⟨ad, hA, _⟩ := hr.2.2 (by omega)
    exact ⟨ad, hA⟩
  subst hA
  obtain ⟨kl, hkl⟩ : ∃ k, k = (logB l).length := ⟨_, rfl⟩
  have hkl2 : kl = l.length - 64 * L := by rw [hkl]; unfold logB; rw [← hL2, List.length_drop]
  obtain ⟨adl, hadl⟩ : ∃ x, x = ad.add (64 * L) := ⟨_, rfl⟩
  obtain ⟨cl, hcl⟩ : ∃ x, x = c - 64 * L := ⟨_, rfl⟩
  have hkc : kl ≤ cl := by omega
  have HKC : Aside0 ((logB l).length ≤ cl) := ⟨by omega⟩
  have hcut1 : ∀ W : World, (Instr.slice 44 (.slice (some ad) l.length c) (some (.int .i64 (64 * (L : Int)))) none none).run Try.prog W = .ok (.slice (some adl) kl cl) W := fun W => by
    rw [cutA ad l.length c (64 * L) (by omega) (.inr (by omega)) (64 * (L : Int)) (by omega) W, hadl, hkl2, hcl]
  have HLB : Aside0 (∀ W, Below w.heap.size w W → Kd.C (Kd.int .u8) W (some adl) (logB l).length (logB l)) := ⟨fun W hB => by
    have h4 := Kd.C_drop (c := c) (m := 64 * L) (Kd.C_below hr hB) (by omega) (by omega)
    rw [if_neg (by omega)] at h4
    have e3 : (some ad).map (·.add (64 * L * (Kd.int .u8).sz)) = some adl := by show some (ad.add (64 * L * 1)) = _; rw [Nat.mul_one, hadl]
    rw [e3] at h4
    have e4 : l.drop (64 * L) = logB l := by unfold logB; rw [← hL2]
    rw [e4] at h4
    exact h4⟩
  have hLl : logN l = L := hL2.symm
  have HMY : Aside0 ((numG (logB l) 5 2).1 = manyL l) := ⟨many_log (by omega)⟩
  have hyb : Byts (logB l) := hb.drop _
  have hm0 : 0 ≤ manyL l := numG_nonneg ((hb.drop _).take _) _ _
  have WN : Aside0 (∀ (i s : Int) W, Below w.heap.size w W → Calls Try.prog 75 #[.slice (some adl) kl cl, .int .i64 i, .int .i64 s] W fun e w' => e = .returned (.tuple #[.int .i64 (numG (logB l) i s).1, .bool (numG (logB l) i s).2]) ∧ Drawn0 W w') := ⟨fun i s W hB => by
    have := rG_walk (some adl) cl (logB l) i s W (HLB.out W hB) (by omega) hyb
    rwa [← hkl] at this⟩
  have WN5 : Aside0 (∀ W, Below w.heap.size w W → Calls Try.prog 75 #[.slice (some adl) kl cl, .int .i64 5, .int .i64 2] W fun e w' => e = .returned (.tuple #[.int .i64 (manyL l), .bool (numG (logB l) 5 2).2]) ∧ Drawn0 W w') := ⟨fun W hB => by rw [← HMY.out]; exact WN.out 5 2 W hB⟩
  have EC : Aside0 (capL l = capJ a b d h) := ⟨by unfold capL; rw [hG]⟩
  have WK : Aside0 (∀ W, Calls Try.prog 25 #[.agg #[.int .i64 a, .int .i64 b, .int .i64 d, .int .i64 h]] W fun e w' => e = .returned (.int .i64 (capL l)) ∧ Below W.heap.size W w') := ⟨fun W => by rw [EC.out]; exact rCap27_walk a b d h W⟩
  have hrl : (restL l).length = l.length - 64 * (L + 1) := by unfold restL; rw [← hL2, List.length_drop]
  have HFL : Aside0 (manyL l ≠ 0 → manyL l ≤ capL l → 1 ≤ (manyL l).toNat ∧ (manyL l).toNat ≤ 1000 ∧ 128 * (manyL l).toNat ≤ (restL l).length ∧ (((manyL l).toNat : Nat) : Int) = manyL l ∧ 64 + 128 * (manyL l).toNat ≤ kl) := ⟨fun h0 h2 => by
    have h5 := fits_len hm0 h0 h2 (by rw [EC.out]; unfold capJ; rw [if_pos hgo]) h64 (k := (restL l).length) (L := L) (n := l.length) (by omega) hlen
    exact ⟨h5.1, h5.2.1, h5.2.2.1, h5.2.2.2.1, by omega⟩⟩
  have EF : Aside0 (fitL l = (rightP a b d h (wsL l) && (decide (headL l = headN (wsL l)) && prefB (restL l) (recsN (wsL l))))) := ⟨by unfold fitL; rw [hG]⟩
  rw [hG] at WG
  simp only at WG
  have eg : (geoG l).2 = 0 := by rw [hG]
  rw [eg] at ER
  obtain ⟨n, hn⟩ : ∃ n, n = l.length := ⟨_, rfl⟩
  have HN := Aside0.mk hn
  rw [← hn] at WG hcut1 ⊢
  have HKL := Aside0.mk hkl
  have HYB := Aside0.mk hyb
  have HM0 := Aside0.mk hm0
  obtain ⟨m, hmm⟩ : ∃ m, m = manyL l := ⟨_, rfl⟩
  obtain ⟨cap, hcap⟩ : ∃ m, m = capL l := ⟨_, rfl⟩
  have HMM := Aside0.mk hmm
  rw [← hmm, ← hcap] at ER
  rw [← hcap] at WK
  simp only [← hmm] at WN5
  simp only [← hmm, ← hcap] at HFL
  rw [← hmm] at HM0
  clear hr hc hl hb hok hG hgo hL1 hL2 hlen h1 h64 hLs hlen2 hkl hkl2 hadl hcl hkc hLl hyb hm0 hrl eg hn hmm hcap EC
  go_enter Try.func36, Try.ntmps36
  go_upto_region 6 with (first | (go_at_call 39; go_loud ((with_reducible refine (WG.out).mono ?_); rintro e w2 ⟨rfl, hb⟩; have n1_ : Aside0 (Below w.heap.size w w2) := ⟨below_step (by repeat (first | (with_reducible first | exact HB.out | apply below_alloc | apply pw_below_drewN | apply below_drew1) | exact HB.out)) hb⟩; clear HB; have HB := n1_; clear n1_; clear hb WG)) | ((with_reducible refine gate_store (p := 4) rfl ?_); go_loud (refine wpList_store_newL (w0 := w2) rfl rfl 38 (.tmp 4) (.tmp 16) rfl #[.int .i64 a, .int .i64 b, .int .i64 d, .int .i64 h] 38 #[.int .i64 0, .int .i64 0, .int .i64 0, .int .i64 0] rfl (by rfl) (by rfl) (by kernel_rfl) rfl (by simp [Value.oneCell']) ?_; intro w3 bk_ hb; have BK3 := Aside0.mk bk_; clear bk_; have n1_ : Aside0 (Below w.heap.size w w3) := ⟨below_step (by repeat (first | (with_reducible first | exact HB.out | apply below_alloc | apply pw_below_drewN | apply below_drew1) | exact HB.out)) hb⟩; clear HB; have HB := n1_; clear n1_; clear hb; have x0 : w3.cell? ⟨w2.heap.size, 0, none⟩ = some (.int .i64 a) := (blk_cell BK3.out 0).trans rfl; have x1 : w3.cell? ⟨w2.heap.size, 1, none⟩ = some (.int .i64 b) := (blk_cell BK3.out 1).trans rfl; have x2 : w3.cell? ⟨w2.heap.size, 2, none⟩ = some (.int .i64 d) := (blk_cell BK3.out 2).trans rfl; have x3 : w3.cell? ⟨w2.heap.size, 3, none⟩ = some (.int .i64 h) := (blk_cell BK3.out 3).trans rfl)) | (go_at_call 41; go_loud ((with_reducible refine (WL.out _).mono ?_); rintro e w4 ⟨rfl, hb⟩; have n1_ : Aside0 (Below w.heap.size w w4) := ⟨below_step (by repeat (first | (with_reducible first | exact HB.out | apply below_alloc | apply pw_below_drewN | apply below_drew1) | exact HB.out)) hb⟩; clear HB; have HB := n1_; clear n1_; have BK4 := Aside0.mk (blk_below BK3.out hb); have y0 : w4.cell? ⟨w2.heap.size, 0, none⟩ = some (.int .i64 a) := (blk_cell BK4.out 0).trans rfl; have y1 : w4.cell? ⟨w2.heap.size, 1, none⟩ = some (.int .i64 b) := (blk_cell BK4.out 1).trans rfl; have y2 : w4.cell? ⟨w2.heap.size, 2, none⟩ = some (.int .i64 d) := (blk_cell BK4.out 2).trans rfl; have y3 : w4.cell? ⟨w2.heap.size, 3, none⟩ = some (.int .i64 h) := (blk_cell BK4.out 3).trans rfl; clear hb)) | (go_at_call 75; go_loud ((with_reducible refine (WN5.out _ HB.out).mono ?_); rintro e w' ⟨rfl, ⟨nd, rfl⟩⟩)))
  obtain ⟨wq, hwq⟩ : ∃ wq, wq = w4.drewN nd := ⟨_, rfl⟩
  refine go_on40 ?_
  rw [← hwq]
  have n_ : Aside0 (Below w.heap.size w wq) := ⟨by rw [hwq]; exact pw_below_drewN HB.out nd⟩
  have BQ : Aside0 (wq.heap[w2.heap.size]? = some (.cells #[.int .i64 a, .int .i64 b, .int .i64 d, .int .i64 h] 38 (0, 0))) := ⟨by rw [hwq]; exact blk_drewN BK4.out _⟩
  clear HB x0 x1 x2 x3 y0 y1 y2 y3 BK3 BK4 hwq WN5
  have HB := n_
  clear n_
  have x0 : wq.cell? ⟨w2.heap.size, 0, none⟩ = some (.int .i64 a) := (blk_cell BQ.out 0).trans rfl
  have x1 : wq.cell? ⟨w2.heap.size, 1, none⟩ = some (.int .i64 b) := (blk_cell BQ.out 1).trans rfl
  have x2 : wq.cell? ⟨w2.heap.size, 2, none⟩ = some (.int .i64 d) := (blk_cell BQ.out 2).trans rfl
  have x3 : wq.cell? ⟨w2.heap.size, 3, none⟩ = some (.int .i64 h) := (blk_cell BQ.out 3).trans rfl
  by_cases hm1 : m < 1
  · have E0 : Aside0 (R = ([], false)) := ⟨by rw [ER.out, if_neg (fun h => h.2.1 (by have := HM0.out; omega))]⟩
    clear ER
    go_wp2
    go_ret2
    exact ⟨.slice none 0 0, by rw [E0.out]; rfl, by rw [E0.out]; exact RdW.nil _, HB.out⟩
  have WKw := WK
  by_cases hcm : m ≤ cap
  case neg =>
    have hgt : m > cap := by omega
    have E0 : Aside0 (R = ([], false)) := ⟨by rw [ER.out, if_neg (fun h => hcm h.2.2.1)]⟩
    clear ER hcm
    go_wp2_with (first | (go_at_call 25; go_loud ((with_reducible refine (WK.out _).mono ?_); rintro e w6 ⟨rfl, hb⟩; have n1_ : Aside0 (Below w.heap.size w w6) := ⟨below_step (by repeat (first | (with_reducible first | exact HB.out | apply below_alloc | apply pw_below_drewN | apply below_drew1) | exact HB.out)) hb⟩; clear HB; have HB := n1_; clear n1_; clear hb)))
    go_ret2
    exact ⟨.slice none 0 0, by rw [E0.out]; rfl, by rw [E0.out]; exact RdW.nil _, HB.out⟩
  have hngt : ¬ m > cap := by omega
  have hne : m ≠ 0 := by omega
  obtain ⟨f1, f2, f3, f4, f5⟩ := HFL.out hne hcm
  obtain ⟨mn, hmn⟩ : ∃ k, k = m.toNat := ⟨_, rfl⟩
  rw [← hmn] at f1 f2 f3 f4 f5
  subst f4
  have HMC := Aside0.mk (And.intro hne hcm)
  have HF3 := Aside0.mk f3
  have HF5 : Aside0 (64 + 128 * mn ≤ (logB l).length) := ⟨by rw [← HKL.out]; exact f5⟩
  have hmi : (mn : Int) ≤ 1000 := by omega
  clear hmn hne hcm f3 HFL
  go_upto_block 3 with (first | (go_at_call 25; go_loud ((with_reducible refine (WK.out _).mono ?_); rintro e w6 ⟨rfl, hb⟩; have n1_ : Aside0 (Below w.heap.size w w6) := ⟨below_step (by repeat (first | (with_reducible first | exact HB.out | apply below_alloc | apply pw_below_drewN | apply below_drew1) | exact HB.out)) hb⟩; clear HB; have HB := n1_; clear n1_; have BK6 := Aside0.mk (blk_below BQ.out hb); clear hb)) | ((with_reducible refine gate_dst (N := 38) rfl ?_); refine Kd.R_lit kWrF _ 82 ?hg (N := 38) ?hd (xs := ([] : List Wr)) (inner := []) (ok := fun _ => True) (okp := fun _ => True) ?hr ?hp (fun _ hk => hk) trivial (Below.refl _ _) (Nat.le_refl _) (by simp) ?_; (case hd => rfl); (case hg => rfl); (case hr => first | (go_simp; done) | (go_simp; rfl)); (case hp => exact (Reps.none _ _)); intro v9_ w3 ho4 hb hg_ hnew_; clear hg_ hnew_; have n0_ := Aside0.mk (Kd.R_lower ho4 (below_size (by repeat (first | (with_reducible first | exact HB.out | apply below_alloc | apply pw_below_drewN | apply below_drew1) | exact HB.out)))); have n1_ := Aside0.mk (below_step (by repeat (first | (with_reducible first | exact HB.out | apply below_alloc | apply pw_below_drewN | apply below_drew1) | exact HB.out)) hb); clear HB; have HO := n0_; have HB := n1_; clear n0_ n1_; have BK := Aside0.mk (blk_below BK6.out hb); clear hb ho4))
  clear x0 x1 x2 x3 BQ BK6
  go_loopw [9, 10] (fun v9 v10 w' => ∃ j : Nat, v10 = .int .i64 j ∧ Aside0 (j ≤ mn) ∧ Aside0 (Kd.R kWrF 82 w' w.heap.size (fun _ => True) v9 (wsF l adl cl j)) ∧ Aside0 (w'.heap[w2.heap.size]? = some (.cells #[.int .i64 a, .int .i64 b, .int .i64 d, .int .i64 h] 38 (0, 0))) ∧ Aside0 (Below w.heap.size w w')) (fun _ v _ => mn - (intOf v).toNat)
  case atStart => exact ⟨0, rfl, ⟨by omega⟩, HO, BK, HB⟩
  case round =>
    clear HB HO BK
    obtain ⟨j, rfl, hj, HO, BK, HB⟩ := hrel
    have hj' := hj.out
    by_cases hlt : j < mn
    · have hlt' : (j : Int) < mn := by omega
      have h5 := HF5.out
      have HX64 : Aside0 ((wrF l adl cl j).s.l.length = 64) := ⟨wrF_len (by omega)⟩
      have hcutj : ∀ W : World, (Instr.slice 44 (.slice (some adl) kl cl) (some (.int .i64 (128 + 128 * (j : Int)))) (some (.int .i64 (192 + 128 * (j : Int)))) none).run Try.prog W = .ok (.slice (wrF l adl cl j).s.A 64 (wrF l adl cl j).s.c) W := fun W => by
        rw [HKL.out]; exact wrF_cut HKC.out (by omega) W
      have WGj : Aside0 (∀ W, Below w.heap.size w W → Calls Try.prog 75 #[.slice (some adl) kl cl, .int .i64 (64 + 128 * (j : Int)), .int .i64 4] W fun e w' => e = .returned (.tuple #[.int .i64 (wrF l adl cl j).at_, .bool (numG (logB l) (64 + 128 * (j : Int)) 4).2]) ∧ Drawn0 W w') := ⟨fun W hB => WN.out (64 + 128 * (j : Int)) 4 W hB⟩
      have HSU := Aside0.mk (wsF_succ l adl cl j)
      have hlen : Aside0 ((wsF l adl cl j).length ≤ 1000) := ⟨by rw [wsF_length]; omega⟩
      obtain ⟨x, hx⟩ : ∃ x, x = wrF l adl cl j := ⟨_, rfl⟩
      rw [← hx] at HX64 WGj HSU
      simp only [← hx] at hcutj
      clear hx h5
      go_wp2_with (first | (go_at_call 75; go_loud ((with_reducible refine (WGj.out _ HB.out).mono ?_); rintro e w' ⟨rfl, ⟨nd, rfl⟩⟩)) | ((with_reducible refine gate_builtin (b := .append) (xs := #[.tmp 52, .tmp 63]) rfl ?_); at_builtin; go_loud (refine Kd.R_append kWrF (w0 := w) w.heap.size rfl (.tmp 52) (.tmp 63) 39 82 (.agg #[.int .i64 0, .slice none 0 0]) 32 rfl Try.underlying39 wrinfo2 rfl (by decide) (by omega) _ (wsF l adl cl j) x [.int .i64 x.at_, .slice x.s.A 64 x.s.c] (fun _ => True) (fun _ => False) rfl rfl ?aP (fun _ hk => hk.elim) ?aF ?aO ?aB ?aS ?aL ?_); (case aP => exact (show ([.int .i64 x.at_, .slice x.s.A 64 x.s.c] : List Value) = Wr.enc x from by rw [Wr.enc, HX64.out])); (case aB => exact (by repeat (first | (with_reducible first | exact HB.out | apply below_alloc | apply pw_below_drewN | apply below_drew1) | exact HB.out))); (case aF => exact (fun _ _ => trivial)); (case aO => exact (by (with_reducible repeat (first | apply Kd.R_alloc | apply Kd.R_drewN | apply Kd.R_drew)); exact HO.out)); (case aS => exact (below_size (by repeat (first | (with_reducible first | exact HB.out | apply below_alloc | apply pw_below_drewN | apply below_drew1) | exact HB.out)))); (case aL => have := hlen.out; omega); intro v11 w11 ho hb hg hat; go_loud (have b_ := Aside0.mk (blk_grown (g := w2.heap.size) (o := .cells #[.int .i64 a, .int .i64 b, .int .i64 d, .int .i64 h] 38 (0, 0)) (blk_drewN BK.out nd) hg (Kd.R_ne (Kd.R_drewN HO.out nd) (blk_drewN BK.out nd) (by decide)))); clear BK; have BK := b_; clear b_; have n0_ := Aside0.mk (hb); have n1_ := Aside0.mk (ho); clear HB; clear HO; have HB := n0_; have HO2 := n1_; clear n0_ n1_; clear ho hb hg hat))
      exact ⟨⟨j + 1, rfl, ⟨by omega⟩, ⟨by rw [HSU.out]; exact HO2.out⟩, BK, HB⟩, by simp [intOf]; omega⟩
    · have hjn : j = mn := by omega
      subst hjn
      obtain ⟨Ak, ck, hv9⟩ := Kd.R_slice HO.out
      subst hv9
      obtain ⟨wz, rfl⟩ : ∃ wz : World, wz = wr := ⟨wr, rfl⟩
      have HCF := Aside0.mk (Kd.R_reads' HO.out).2.2
      have HBw := HB
      have HCW : Aside0 (∀ W, Below wz.heap.size wz W → Kd.C kWr W Ak (wsF l adl cl j).length (wsF l adl cl j)) := ⟨fun W hB => C_wrF (Kd.C_below HCF.out hB) (fun x hx => by
        obtain ⟨i, hi, rfl⟩ := List.mem_map.1 hx
        rw [List.mem_range] at hi
        exact wrF_reads (HLB.out W (below_step HBw.out hB)) HKC.out (by have := HF5.out; omega))⟩
      have EM : Aside0 ((wsF l adl cl j).map wrP = wsL l) := ⟨by rw [wsF_map HF3.out]; unfold wsL; rw [← HMM.out, Int.toNat_natCast]⟩
      have hjl : (wsF l adl cl j).length = j := wsF_length _ _ _ _
      have HBYT : Aside0 (∀ x ∈ wsF l adl cl j, Byts x.s.l) := ⟨fun x hx => by
        obtain ⟨i, hi, rfl⟩ := List.mem_map.1 hx
        exact (HYB.out.take _).drop _⟩
      rw [hjl] at HCW ⊢
      obtain ⟨ys, hys⟩ : ∃ y, y = wsF l adl cl j := ⟨_, rfl⟩
      rw [← hys] at HCW EM HBYT hjl HO HCF
      have WR : Aside0 (∀ W, Below wz.heap.size wz W → Calls Try.prog 27 #[.agg #[.int .i64 a, .int .i64 b, .int .i64 d, .int .i64 h], .slice Ak j ck] W fun e w' => e = .returned (.bool (rightP a b d h (wsL l))) ∧ Below W.heap.size W w') := ⟨fun W hB => by
        have h9 := rRight27_walk a b d h Ak ck ys W (by rw [hjl]; exact HCW.out W hB) (by omega)
        rw [hjl] at h9
        have e : rightW (capJ a b d h) (geoUp a b d h) ys = rightP a b d h (wsL l) := by
          unfold rightW rightP
          rw [← EM.out, List.any_map, List.length_map]
          rfl
        rw [e] at h9
        exact h9⟩
      have WH : Aside0 (∀ W, Below wz.heap.size wz W → Calls Try.prog 34 #[.slice Ak j ck] W fun e w' => ∃ v : Value, e = .returned v ∧ Kd.R (Kd.int .u8) 5 w' W.heap.size (fun _ => True) v (headN (wsL l)) ∧ Below W.heap.size W w') := ⟨fun W hB => by
        have h9 := rHead_walk Ak ck ys W (by rw [hjl]; exact HCW.out W hB) (by omega) HBYT.out
        rw [hjl, EM.out] at h9
        exact h9⟩
      have WC : Aside0 (∀ W, Below wz.heap.size wz W → Calls Try.prog 32 #[.slice Ak j ck] W fun e w' => ∃ v : Value, e = .returned v ∧ Kd.R (Kd.int .u8) 5 w' W.heap.size (fun _ => True) v (recsN (wsL l)) ∧ Below W.heap.size W w') := ⟨fun W hB => by
        have h9 := rRecords_walk Ak ck ys W (by rw [hjl]; exact HCW.out W hB) (by omega)
        rw [hjl, EM.out] at h9
        exact h9⟩
      have HLW : Aside0 (∀ W, Below wz.heap.size wz W → Kd.C (Kd.int .u8) W (some adl) (logB l).length (logB l)) := ⟨fun W hB => HLB.out W (below_step HBw.out hB)⟩
      have h64l : 64 ≤ (logB l).length := by have := HF5.out; omega
      have e64 : (headL l).length = 64 := by rw [head_log, List.length_take]; omega
      have WE1 : Aside0 (∀ (A : Option Addr) (c : Nat) W, Below wz.heap.size wz W → Kd.C (Kd.int .u8) W A (headN (wsL l)).length (headN (wsL l)) → Calls Try.prog 76 #[.slice (some adl) 64 cl, .slice A (headN (wsL l)).length c] W fun e w' => e = .returned (.bool (decide (headL l = headN (wsL l)))) ∧ Below W.heap.size W w') := ⟨fun A c W hB hC => by
        have h8 := Kd.C_take (HLW.out W hB) h64l
        have h9 := rSame_walk (some adl) cl (headL l) A c (headN (wsL l)) W h8 hC (by omega)
        rw [e64] at h9
        exact h9.mono fun e w' h => ⟨h.1, h.2.below⟩⟩
      obtain ⟨A3, cR, hcut3, hrd3⟩ : ∃ (A3 : Option Addr) (cR : Nat), (∀ W : World, (Instr.slice 44 (.slice (some adl) kl cl) (some (.int .i64 64)) (some (.int .i64 (64 + 128 * (j : Int)))) none).run Try.prog W = .ok (.slice A3 (128 * j) cR) W) ∧ (∀ W : World, Kd.C (Kd.int .u8) W (some adl) (logB l).length (logB l) → Kd.C (Kd.int .u8) W A3 ((restL l).take (128 * j)).length ((restL l).take (128 * j))) := by
        obtain ⟨i0, hi0, hz0⟩ := Option.map_eq_some_iff.1 u8info
        refine ⟨if cl = 64 then some adl else (some adl).map (·.add (64 * 1)), cl - 64, fun W => ?_, fun W hC => ?_⟩
        rotate_left
        · have h4 := Kd.C_mid (c := cl) (lo := 64) (hi := 64 + 128 * j) hC (by omega) HF5.out HKC.out
          have e : ((logB l).take (64 + 128 * j)).drop 64 = (restL l).take (128 * j) := by rw [rest_log, List.take_drop]
          rw [e] at h4
          exact h4
        · have := cut_mid (P := Try.prog) 44 5 .i64 .i64 Try.underlying44 hi0 1 (by simpa using congrArg (fun x => x.2.1) hz0) (some adl) kl cl 64 (64 + 128 * (j : Int)) (by omega) (by omega) (by have := HF5.out; have := HKL.out; omega) (by have := HKL.out; have := HKC.out; omega) W
          rw [this]
          rw [show (64 : Int).toNat = 64 from rfl, show (64 + 128 * (j : Int)).toNat = 64 + 128 * j by omega, show 64 + 128 * j - 64 = 128 * j by omega]
      have e128 : ((restL l).take (128 * j)).length = 128 * j := by rw [List.length_take]; have := HF3.out; omega
      have eRs : (recsN (wsL l)).length = 128 * j := by rw [recsN_length, ← EM.out, List.length_map, hjl]
      have EPF : Aside0 (prefB (restL l) (recsN (wsL l)) = decide ((restL l).take (128 * j) = recsN (wsL l))) := ⟨by unfold prefB; rw [eRs, decide_eq_true HF3.out, Bool.true_and]⟩
      have WE2 : Aside0 (∀ (A : Option Addr) (c : Nat) W, Below wz.heap.size wz W → Kd.C (Kd.int .u8) W A (recsN (wsL l)).length (recsN (wsL l)) → Calls Try.prog 76 #[.slice A3 (128 * j) cR, .slice A (recsN (wsL l)).length c] W fun e w' => e = .returned (.bool (prefB (restL l) (recsN (wsL l)))) ∧ Below W.heap.size W w') := ⟨fun A c W hB hC => by
        have h9 := rSame_walk A3 cR ((restL l).take (128 * j)) A c (recsN (wsL l)) W (hrd3 W (HLW.out W hB)) hC (by omega)
        rw [e128, ← EPF.out] at h9
        exact h9.mono fun e w' h => ⟨h.1, h.2.below⟩⟩
      have hcut2 : ∀ W : World, (Instr.slice 44 (.slice (some adl) kl cl) none (some (.int .i64 64)) none).run Try.prog W = .ok (.slice (some adl) 64 cl) W := fun W => cutB adl kl cl (by have := HKL.out; omega) (by have := HKL.out; have := HKC.out; omega) W
      have hji : (j : Int) ≤ 1000 := by omega
      have hwr1 : RowKit.wrap64 (128 * (j : Int)) = 128 * j := by unfold RowKit.wrap64; omega
      have hwr2 : RowKit.wrap64 (64 + 128 * (j : Int)) = 64 + 128 * j := by unfold RowKit.wrap64; omega
      have hRV : Aside0 (∀ W, Below wz.heap.size wz W → RdW W (.slice Ak j ck) (wsL l)) := ⟨fun W hB => ⟨⟨Ak, ck, ys, by rw [hjl], by rw [hjl]; exact HCW.out W hB, EM.out⟩⟩⟩
      have y0 : wz.cell? ⟨w2.heap.size, 0, none⟩ = some (.int .i64 a) := (blk_cell BK.out 0).trans rfl
      have y1 : wz.cell? ⟨w2.heap.size, 1, none⟩ = some (.int .i64 b) := (blk_cell BK.out 1).trans rfl
      have y2 : wz.cell? ⟨w2.heap.size, 2, none⟩ = some (.int .i64 d) := (blk_cell BK.out 2).trans rfl
      have y3 : wz.cell? ⟨w2.heap.size, 3, none⟩ = some (.int .i64 h) := (blk_cell BK.out 3).trans rfl
      obtain ⟨H, hH⟩ : ∃ q, q = headN (wsL l) := ⟨_, rfl⟩
      obtain ⟨Rs, hRs⟩ : ∃ q, q = recsN (wsL l) := ⟨_, rfl⟩
      obtain ⟨q1, hq1⟩ : ∃ q, q = rightP a b d h (wsL l) := ⟨_, rfl⟩
      rw [← hq1] at WR EF
      rw [← hH] at WH WE1 EF
      rw [← hRs] at WC WE2 EF
      obtain ⟨q2, hq2⟩ : ∃ q, q = decide (headL l = H) := ⟨_, rfl⟩
      obtain ⟨q3, hq3⟩ : ∃ q, q = prefB (restL l) Rs := ⟨_, rfl⟩
      rw [← hq2] at WE1 EF
      rw [← hq3] at WE2 EF
      have HB : Aside0 (Below wz.heap.size wz wz) := ⟨Below.refl _ _⟩
      clear hjl hys hrd3 e128 eRs EPF e64 h64l hH hRs hq1 hq2 hq3 HO HCF HCW EM HBYT HLW hm1 hlt hj'
      have HW0 : Aside0 (∀ W, Below wz.heap.size wz W → Below w.heap.size w W) := ⟨fun W hB => below_step HBw.out hB⟩
      go_wp2
      cases q1 with
      | false =>
        have E0 : Aside0 (R = ([], false)) := ⟨by rw [ER.out, if_neg (fun h => by have h2 := h.2.2.2; rw [EF.out] at h2; simp at h2)]⟩
        clear ER EF
        refine start_ (n := 23) (S := fun w' => w'.cell? ⟨w2.heap.size, 0, none⟩ = some (.int .i64 a) ∧ w'.cell? ⟨w2.heap.size, 1, none⟩ = some (.int .i64 b) ∧ w'.cell? ⟨w2.heap.size, 2, none⟩ = some (.int .i64 d) ∧ w'.cell? ⟨w2.heap.size, 3, none⟩ = some (.int .i64 h)) (ds := []) #[false, false, false, false, false, false, false, false, false, false, false, false, false, false, false, false, false, false, false, false, false, false, false] (by kernel_rfl) rfl rfl ⟨(show wz.drew.cell? _ = _ from y0), (show wz.drew.cell? _ = _ from y1), (show wz.drew.cell? _ = _ from y2), (show wz.drew.cell? _ = _ from y3)⟩ (fun hHeld => ?_)
        refine pure_ (i := 1) (N := some 66) (v := ?_) (a' := ?_) #[false, true, false, false, false, false, false, false, false, false, false, false, false, false, false, false, false, false, false, false, false, false, false] rfl rfl (by kernel_rfl) (fun _ _ _ h => h) (Or.inl ⟨by rfl, ?_⟩) ?_ ?_
        rotate_left
        · intro w'
          go_simp
          with_reducible rfl
        rotate_left
        · simp only [Act.put, List.setIfInBounds_toArray, List.set_cons_zero, List.set_cons_succ, i64_w, i32_w]
          rfl
        refine take_ (i := 0) (N := some 65) (v := ?_) (a' := ?_) #[true, true, false, false, false, false, false, false, false, false, false, false, false, false, false, false, false, false, false, false, false, false, false] rfl rfl (by kernel_rfl) (fun _ _ _ h => h) (Or.inl ⟨by rfl, ?_⟩) hHeld ?_ ?_
        rotate_left
        · rintro w' ⟨s0, s1, s2, s3⟩
          go_simp
          with_reducible rfl
        rotate_left
        · simp only [Act.put, List.setIfInBounds_toArray, List.set_cons_zero, List.set_cons_succ, i64_w, i32_w]
          rfl
        refine one_ (i := 2) (N := some 67) #[true, true, true, false, false, false, false, false, false, false, false, false, false, false, false, false, false, false, false, false, false, false, false] rfl rfl (by kernel_rfl) (by decide) (fun K hK => ?_)
        clear hHeld
        refine goes_ Try.func27 (by kernel_rfl) rfl #[.agg #[.int .i64 a, .int .i64 b, .int .i64 d, .int .i64 h], .slice Ak j ck] (by rfl) rfl rfl (by simp only [List.map_toArray, List.map_cons, List.map_nil]; rfl) ?_
        with_reducible refine (WR.out _ (below_drew1 HB.out)).mono ?_
        rintro e w20 ⟨rfl, hb20⟩
        refine ⟨_, rfl, ?_⟩
        have HB20 := Aside0.mk (below_step (below_drew1 HB.out) hb20)
        clear hb20
        refine hK.out _ _ ⟨(pw_cell_below HB20.out y0), (pw_cell_below HB20.out y1), (pw_cell_below HB20.out y2), (pw_cell_below HB20.out y3)⟩ (fun hHeld => ?_)
        clear hK K
        refine norm_ (a' := ?_) ?_ ?_
        rotate_left
        · show Act.put _ (some 67) _ = _
          simp only [Act.put, List.setIfInBounds_toArray, List.set_cons_zero, List.set_cons_succ, i64_w, i32_w]
          rfl
        refine pure_ (i := 3) (N := some 68) (v := ?_) (a' := ?_) #[true, true, true, true, false, false, false, false, false, false, false, false, false, false, false, false, false, false, false, false, false, false, false] rfl rfl (by kernel_rfl) (fun _ _ _ h => h) (Or.inl ⟨by rfl, ?_⟩) ?_ ?_
        rotate_left
        · intro w'
          go_simp
          with_reducible rfl
        rotate_left
        · simp only [Act.put, List.setIfInBounds_toArray, List.set_cons_zero, List.set_cons_succ, i64_w, i32_w]
          rfl
        refine pure_ (i := 4) (N := some 69) (v := ?_) (a' := ?_) #[true, true, true, true, true, false, false, false, false, false, false, false, false, false, false, false, false, false, false, false, false, false, false] rfl rfl (by kernel_rfl) (fun _ _ _ h => h) (Or.inl ⟨by rfl, ?_⟩) ?_ ?_
        rotate_left
        · intro w'
          go_simp
          with_reducible rfl
        rotate_left
        · simp only [Act.put, List.setIfInBounds_toArray, List.set_cons_zero, List.set_cons_succ, i64_w, i32_w]
          rfl
        refine pure_ (i := 5) (N := some 70) (v := undef) (a' := ?_) #[true, true, true, true, true, true, false, false, false, false, false, false, false, false, false, false, false, false, false, false, false, false, false] rfl rfl (by kernel_rfl) (fun _ _ _ h => h) (Or.inr ⟨by rfl, rfl⟩) ?_ ?_
        rotate_left
        · simp only [Act.put, List.setIfInBounds_toArray, List.set_cons_zero, List.set_cons_succ, i64_w, i32_w]
          rfl
        refine pure_ (i := 6) (N := some 71) (v := undef) (a' := ?_) #[true, true, true, true, true, true, true, false, false, false, false, false, false, false, false, false, false, false, false, false, false, false, false] rfl rfl (by kernel_rfl) (fun _ _ _ h => h) (Or.inr ⟨by rfl, rfl⟩) ?_ ?_
        rotate_left
        · simp only [Act.put, List.setIfInBounds_toArray, List.set_cons_zero, List.set_cons_succ, i64_w, i32_w]
          rfl
        refine pure_ (i := 7) (N := some 72) (v := undef) (a' := ?_) #[true, true, true, true, true, true, true, true, false, false, false, false, false, false, false, false, false, false, false, false, false, false, false] rfl rfl (by kernel_rfl) (fun _ _ _ h => h) (Or.inr ⟨by rfl, rfl⟩) ?_ ?_
        rotate_left
        · simp only [Act.put, List.setIfInBounds_toArray, List.set_cons_zero, List.set_cons_succ, i64_w, i32_w]
          rfl
        refine pure_ (i := 8) (N := some 73) (v := undef) (a' := ?_) #[true, true, true, true, true, true, true, true, true, false, false, false, false, false, false, false, false, false, false, false, false, false, false] rfl rfl (by kernel_rfl) (fun _ _ _ h => h) (Or.inr ⟨by rfl, rfl⟩) ?_ ?_
        rotate_left
        · simp only [Act.put, List.setIfInBounds_toArray, List.set_cons_zero, List.set_cons_succ, i64_w, i32_w]
          rfl
        refine pure_ (i := 9) (N := some 74) (v := undef) (a' := ?_) #[true, true, true, true, true, true, true, true, true, true, false, false, false, false, false, false, false, false, false, false, false, false, false] rfl rfl (by kernel_rfl) (fun _ _ _ h => h) (Or.inr ⟨by rfl, rfl⟩) ?_ ?_
        rotate_left
        · simp only [Act.put, List.setIfInBounds_toArray, List.set_cons_zero, List.set_cons_succ, i64_w, i32_w]
          rfl
        refine pure_ (i := 10) (N := some 75) (v := undef) (a' := ?_) #[true, true, true, true, true, true, true, true, true, true, true, false, false, false, false, false, false, false, false, false, false, false, false] rfl rfl (by kernel_rfl) (fun _ _ _ h => h) (Or.inr ⟨by rfl, rfl⟩) ?_ ?_
        rotate_left
        · simp only [Act.put, List.setIfInBounds_toArray, List.set_cons_zero, List.set_cons_succ, i64_w, i32_w]
          rfl
        refine pure_ (i := 11) (N := some 76) (v := ?_) (a' := ?_) #[true, true, true, true, true, true, true, true, true, true, true, true, false, false, false, false, false, false, false, false, false, false, false] rfl rfl (by kernel_rfl) (fun _ _ _ h => h) (Or.inl ⟨by rfl, ?_⟩) ?_ ?_
        rotate_left
        · intro w'
          go_simp
          with_reducible rfl
        rotate_left
        · simp only [Act.put, List.setIfInBounds_toArray, List.set_cons_zero, List.set_cons_succ, i64_w, i32_w]
          rfl
        refine pure_ (i := 12) (N := some 77) (v := ?_) (a' := ?_) #[true, true, true, true, true, true, true, true, true, true, true, true, true, false, false, false, false, false, false, false, false, false, false] rfl rfl (by kernel_rfl) (fun _ _ _ h => h) (Or.inl ⟨by rfl, ?_⟩) ?_ ?_
        rotate_left
        · intro w'
          go_simp
          with_reducible rfl
        rotate_left
        · simp only [Act.put, List.setIfInBounds_toArray, List.set_cons_zero, List.set_cons_succ, i64_w, i32_w]
          rfl
        refine pure_ (i := 13) (N := some 78) (v := undef) (a' := ?_) #[true, true, true, true, true, true, true, true, true, true, true, true, true, true, false, false, false, false, false, false, false, false, false] rfl rfl (by kernel_rfl) (fun _ _ _ h => h) (Or.inr ⟨by rfl, rfl⟩) ?_ ?_
        rotate_left
        · simp only [Act.put, List.setIfInBounds_toArray, List.set_cons_zero, List.set_cons_succ, i64_w, i32_w]
          rfl
        refine pure_ (i := 14) (N := some 79) (v := undef) (a' := ?_) #[true, true, true, true, true, true, true, true, true, true, true, true, true, true, true, false, false, false, false, false, false, false, false] rfl rfl (by kernel_rfl) (fun _ _ _ h => h) (Or.inr ⟨by rfl, rfl⟩) ?_ ?_
        rotate_left
        · simp only [Act.put, List.setIfInBounds_toArray, List.set_cons_zero, List.set_cons_succ, i64_w, i32_w]
          rfl
        refine pure_ (i := 15) (N := some 80) (v := undef) (a' := ?_) #[true, true, true, true, true, true, true, true, true, true, true, true, true, true, true, true, false, false, false, false, false, false, false] rfl rfl (by kernel_rfl) (fun _ _ _ h => h) (Or.inr ⟨by rfl, rfl⟩) ?_ ?_
        rotate_left
        · simp only [Act.put, List.setIfInBounds_toArray, List.set_cons_zero, List.set_cons_succ, i64_w, i32_w]
          rfl
        refine pure_ (i := 16) (N := some 81) (v := undef) (a' := ?_) #[true, true, true, true, true, true, true, true, true, true, true, true, true, true, true, true, true, false, false, false, false, false, false] rfl rfl (by kernel_rfl) (fun _ _ _ h => h) (Or.inr ⟨by rfl, rfl⟩) ?_ ?_
        rotate_left
        · simp only [Act.put, List.setIfInBounds_toArray, List.set_cons_zero, List.set_cons_succ, i64_w, i32_w]
          rfl
        refine pure_ (i := 17) (N := some 82) (v := undef) (a' := ?_) #[true, true, true, true, true, true, true, true, true, true, true, true, true, true, true, true, true, true, false, false, false, false, false] rfl rfl (by kernel_rfl) (fun _ _ _ h => h) (Or.inr ⟨by rfl, rfl⟩) ?_ ?_
        rotate_left
        · simp only [Act.put, List.setIfInBounds_toArray, List.set_cons_zero, List.set_cons_succ, i64_w, i32_w]
          rfl
        refine pure_ (i := 18) (N := some 83) (v := undef) (a' := ?_) #[true, true, true, true, true, true, true, true, true, true, true, true, true, true, true, true, true, true, true, false, false, false, false] rfl rfl (by kernel_rfl) (fun _ _ _ h => h) (Or.inr ⟨by rfl, rfl⟩) ?_ ?_
        rotate_left
        · simp only [Act.put, List.setIfInBounds_toArray, List.set_cons_zero, List.set_cons_succ, i64_w, i32_w]
          rfl
        refine pure_ (i := 19) (N := some 84) (v := undef) (a' := ?_) #[true, true, true, true, true, true, true, true, true, true, true, true, true, true, true, true, true, true, true, true, false, false, false] rfl rfl (by kernel_rfl) (fun _ _ _ h => h) (Or.inr ⟨by rfl, rfl⟩) ?_ ?_
        rotate_left
        · simp only [Act.put, List.setIfInBounds_toArray, List.set_cons_zero, List.set_cons_succ, i64_w, i32_w]
          rfl
        refine pure_ (i := 20) (N := some 85) (v := undef) (a' := ?_) #[true, true, true, true, true, true, true, true, true, true, true, true, true, true, true, true, true, true, true, true, true, false, false] rfl rfl (by kernel_rfl) (fun _ _ _ h => h) (Or.inr ⟨by rfl, rfl⟩) ?_ ?_
        rotate_left
        · simp only [Act.put, List.setIfInBounds_toArray, List.set_cons_zero, List.set_cons_succ, i64_w, i32_w]
          rfl
        refine pure_ (i := 21) (N := some 86) (v := undef) (a' := ?_) #[true, true, true, true, true, true, true, true, true, true, true, true, true, true, true, true, true, true, true, true, true, true, false] rfl rfl (by kernel_rfl) (fun _ _ _ h => h) (Or.inr ⟨by rfl, rfl⟩) ?_ ?_
        rotate_left
        · simp only [Act.put, List.setIfInBounds_toArray, List.set_cons_zero, List.set_cons_succ, i64_w, i32_w]
          rfl
        refine pure_ (i := 22) (N := some 87) (v := ?_) (a' := ?_) #[true, true, true, true, true, true, true, true, true, true, true, true, true, true, true, true, true, true, true, true, true, true, true] rfl rfl (by kernel_rfl) (fun _ _ _ h => h) (Or.inl ⟨by rfl, ?_⟩) ?_ ?_
        rotate_left
        · intro w'
          go_simp
          with_reducible rfl
        rotate_left
        · simp only [Act.put, List.setIfInBounds_toArray, List.set_cons_zero, List.set_cons_succ, i64_w, i32_w]
          rfl
        refine done_ (by kernel_rfl) ?_
        clear hHeld
        refine go_on40 ?_
        go_wp2
        go_ret2
        exact ⟨.slice none 0 0, by rw [E0.out]; rfl, by rw [E0.out]; exact RdW.nil _, HW0.out _ HB20.out⟩
      | true =>
        cases q2 with
        | false =>
          have E0 : Aside0 (R = ([], false)) := ⟨by rw [ER.out, if_neg (fun h => by have h2 := h.2.2.2; rw [EF.out] at h2; simp at h2)]⟩
          clear ER EF
          refine start_ (n := 23) (S := fun w' => w'.cell? ⟨w2.heap.size, 0, none⟩ = some (.int .i64 a) ∧ w'.cell? ⟨w2.heap.size, 1, none⟩ = some (.int .i64 b) ∧ w'.cell? ⟨w2.heap.size, 2, none⟩ = some (.int .i64 d) ∧ w'.cell? ⟨w2.heap.size, 3, none⟩ = some (.int .i64 h)) (ds := []) #[false, false, false, false, false, false, false, false, false, false, false, false, false, false, false, false, false, false, false, false, false, false, false] (by kernel_rfl) rfl rfl ⟨(show wz.drew.cell? _ = _ from y0), (show wz.drew.cell? _ = _ from y1), (show wz.drew.cell? _ = _ from y2), (show wz.drew.cell? _ = _ from y3)⟩ (fun hHeld => ?_)
          refine pure_ (i := 1) (N := some 66) (v := ?_) (a' := ?_) #[false, true, false, false, false, false, false, false, false, false, false, false, false, false, false, false, false, false, false, false, false, false, false] rfl rfl (by kernel_rfl) (fun _ _ _ h => h) (Or.inl ⟨by rfl, ?_⟩) ?_ ?_
          rotate_left
          · intro w'
            go_simp
            with_reducible rfl
          rotate_left
          · simp only [Act.put, List.setIfInBounds_toArray, List.set_cons_zero, List.set_cons_succ, i64_w, i32_w]
            rfl
          refine take_ (i := 0) (N := some 65) (v := ?_) (a' := ?_) #[true, true, false, false, false, false, false, false, false, false, false, false, false, false, false, false, false, false, false, false, false, false, false] rfl rfl (by kernel_rfl) (fun _ _ _ h => h) (Or.inl ⟨by rfl, ?_⟩) hHeld ?_ ?_
          rotate_left
          · rintro w' ⟨s0, s1, s2, s3⟩
            go_simp
            with_reducible rfl
          rotate_left
          · simp only [Act.put, List.setIfInBounds_toArray, List.set_cons_zero, List.set_cons_succ, i64_w, i32_w]
            rfl
          refine one_ (i := 2) (N := some 67) #[true, true, true, false, false, false, false, false, false, false, false, false, false, false, false, false, false, false, false, false, false, false, false] rfl rfl (by kernel_rfl) (by decide) (fun K hK => ?_)
          clear hHeld
          refine goes_ Try.func27 (by kernel_rfl) rfl #[.agg #[.int .i64 a, .int .i64 b, .int .i64 d, .int .i64 h], .slice Ak j ck] (by rfl) rfl rfl (by simp only [List.map_toArray, List.map_cons, List.map_nil]; rfl) ?_
          with_reducible refine (WR.out _ (below_drew1 HB.out)).mono ?_
          rintro e w20 ⟨rfl, hb20⟩
          refine ⟨_, rfl, ?_⟩
          have HB20 := Aside0.mk (below_step (below_drew1 HB.out) hb20)
          clear hb20
          refine hK.out _ _ ⟨(pw_cell_below HB20.out y0), (pw_cell_below HB20.out y1), (pw_cell_below HB20.out y2), (pw_cell_below HB20.out y3)⟩ (fun hHeld => ?_)
          clear hK K
          refine norm_ (a' := ?_) ?_ ?_
          rotate_left
          · show Act.put _ (some 67) _ = _
            simp only [Act.put, List.setIfInBounds_toArray, List.set_cons_zero, List.set_cons_succ, i64_w, i32_w]
            rfl
          refine pure_ (i := 3) (N := some 68) (v := ?_) (a' := ?_) #[true, true, true, true, false, false, false, false, false, false, false, false, false, false, false, false, false, false, false, false, false, false, false] rfl rfl (by kernel_rfl) (fun _ _ _ h => h) (Or.inl ⟨by rfl, ?_⟩) ?_ ?_
          rotate_left
          · intro w'
            go_simp
            with_reducible rfl
          rotate_left
          · simp only [Act.put, List.setIfInBounds_toArray, List.set_cons_zero, List.set_cons_succ, i64_w, i32_w]
            rfl
          refine pure_ (i := 4) (N := some 69) (v := ?_) (a' := ?_) #[true, true, true, true, true, false, false, false, false, false, false, false, false, false, false, false, false, false, false, false, false, false, false] rfl rfl (by kernel_rfl) (fun _ _ _ h => h) (Or.inl ⟨by rfl, ?_⟩) ?_ ?_
          rotate_left
          · intro w'
            go_simp
            with_reducible rfl
          rotate_left
          · simp only [Act.put, List.setIfInBounds_toArray, List.set_cons_zero, List.set_cons_succ, i64_w, i32_w]
            rfl
          refine pure_ (i := 5) (N := some 70) (v := ?_) (a' := ?_) #[true, true, true, true, true, true, false, false, false, false, false, false, false, false, false, false, false, false, false, false, false, false, false] rfl rfl (by kernel_rfl) (fun _ _ _ h => h) (Or.inl ⟨by rfl, ?_⟩) ?_ ?_
          rotate_left
          · intro w'
            go_simp
            with_reducible rfl
          rotate_left
          · simp only [Act.put, List.setIfInBounds_toArray, List.set_cons_zero, List.set_cons_succ, i64_w, i32_w]
            rfl
          refine pure_ (i := 6) (N := some 71) (v := ?_) (a' := ?_) #[true, true, true, true, true, true, true, false, false, false, false, false, false, false, false, false, false, false, false, false, false, false, false] rfl rfl (by kernel_rfl) (fun _ _ _ h => h) (Or.inl ⟨by rfl, ?_⟩) ?_ ?_
          rotate_left
          · intro w'
            go_simp
            with_reducible rfl
          rotate_left
          · simp only [Act.put, List.setIfInBounds_toArray, List.set_cons_zero, List.set_cons_succ, i64_w, i32_w]
            rfl
          refine pure_ (i := 7) (N := some 72) (v := ?_) (a' := ?_) #[true, true, true, true, true, true, true, true, false, false, false, false, false, false, false, false, false, false, false, false, false, false, false] rfl rfl (by kernel_rfl) (fun _ _ _ h => h) (Or.inl ⟨by rfl, ?_⟩) ?_ ?_
          rotate_left
          · intro w'
            go_simp
            with_reducible rfl
          rotate_left
          · simp only [Act.put, List.setIfInBounds_toArray, List.set_cons_zero, List.set_cons_succ, i64_w, i32_w]
            rfl
          refine one_ (i := 8) (N := some 73) #[true, true, true, true, true, true, true, true, true, false, false, false, false, false, false, false, false, false, false, false, false, false, false] rfl rfl (by kernel_rfl) (by decide) (fun K hK => ?_)
          clear hHeld
          refine goes_ Try.func34 (by kernel_rfl) rfl #[.slice Ak j ck] (by rfl) rfl rfl (by simp only [List.map_toArray, List.map_cons, List.map_nil]; rfl) ?_
          with_reducible refine (WH.out _ HB20.out).mono ?_
          rintro e w21 ⟨v21, rfl, ho21, hb21⟩
          refine ⟨_, rfl, ?_⟩
          obtain ⟨A21, c21, hv21⟩ := Kd.R_slice ho21
          subst hv21
          have HC21 := Aside0.mk (Kd.R_reads' ho21).2.2
          clear ho21
          have HB21 := Aside0.mk (below_step HB20.out hb21)
          clear hb21
          refine hK.out _ _ ⟨(pw_cell_below HB21.out y0), (pw_cell_below HB21.out y1), (pw_cell_below HB21.out y2), (pw_cell_below HB21.out y3)⟩ (fun hHeld => ?_)
          clear hK K
          refine norm_ (a' := ?_) ?_ ?_
          rotate_left
          · show Act.put _ (some 73) _ = _
            simp only [Act.put, List.setIfInBounds_toArray, List.set_cons_zero, List.set_cons_succ, i64_w, i32_w]
            rfl
          refine one_ (i := 9) (N := some 74) #[true, true, true, true, true, true, true, true, true, true, false, false, false, false, false, false, false, false, false, false, false, false, false] rfl rfl (by kernel_rfl) (by decide) (fun K hK => ?_)
          clear hHeld
          refine goes_ Try.func76 (by kernel_rfl) rfl #[.slice (some adl) 64 cl, .slice A21 H.length c21] (by rfl) rfl rfl (by simp only [List.map_toArray, List.map_cons, List.map_nil]; rfl) ?_
          with_reducible refine (WE1.out _ _ _ HB21.out HC21.out).mono ?_
          rintro e w22 ⟨rfl, hb22⟩
          refine ⟨_, rfl, ?_⟩
          have HB22 := Aside0.mk (below_step HB21.out hb22)
          clear hb22
          refine hK.out _ _ ⟨(pw_cell_below HB22.out y0), (pw_cell_below HB22.out y1), (pw_cell_below HB22.out y2), (pw_cell_below HB22.out y3)⟩ (fun hHeld => ?_)
          clear hK K
          refine norm_ (a' := ?_) ?_ ?_
          rotate_left
          · show Act.put _ (some 74) _ = _
            simp only [Act.put, List.setIfInBounds_toArray, List.set_cons_zero, List.set_cons_succ, i64_w, i32_w]
            rfl
          refine pure_ (i := 10) (N := some 75) (v := ?_) (a' := ?_) #[true, true, true, true, true, true, true, true, true, true, true, false, false, false, false, false, false, false, false, false, false, false, false] rfl rfl (by kernel_rfl) (fun _ _ _ h => h) (Or.inl ⟨by rfl, ?_⟩) ?_ ?_
          rotate_left
          · intro w'
            go_simp
            with_reducible rfl
          rotate_left
          · simp only [Act.put, List.setIfInBounds_toArray, List.set_cons_zero, List.set_cons_succ, i64_w, i32_w]
            rfl
          refine pure_ (i := 11) (N := some 76) (v := ?_) (a' := ?_) #[true, true, true, true, true, true, true, true, true, true, true, true, false, false, false, false, false, false, false, false, false, false, false] rfl rfl (by kernel_rfl) (fun _ _ _ h => h) (Or.inl ⟨by rfl, ?_⟩) ?_ ?_
          rotate_left
          · intro w'
            go_simp
            with_reducible rfl
          rotate_left
          · simp only [Act.put, List.setIfInBounds_toArray, List.set_cons_zero, List.set_cons_succ, i64_w, i32_w]
            rfl
          refine pure_ (i := 12) (N := some 77) (v := ?_) (a' := ?_) #[true, true, true, true, true, true, true, true, true, true, true, true, true, false, false, false, false, false, false, false, false, false, false] rfl rfl (by kernel_rfl) (fun _ _ _ h => h) (Or.inl ⟨by rfl, ?_⟩) ?_ ?_
          rotate_left
          · intro w'
            go_simp
            with_reducible rfl
          rotate_left
          · simp only [Act.put, List.setIfInBounds_toArray, List.set_cons_zero, List.set_cons_succ, i64_w, i32_w]
            rfl
          refine pure_ (i := 13) (N := some 78) (v := undef) (a' := ?_) #[true, true, true, true, true, true, true, true, true, true, true, true, true, true, false, false, false, false, false, false, false, false, false] rfl rfl (by kernel_rfl) (fun _ _ _ h => h) (Or.inr ⟨by rfl, rfl⟩) ?_ ?_
          rotate_left
          · simp only [Act.put, List.setIfInBounds_toArray, List.set_cons_zero, List.set_cons_succ, i64_w, i32_w]
            rfl
          refine pure_ (i := 14) (N := some 79) (v := undef) (a' := ?_) #[true, true, true, true, true, true, true, true, true, true, true, true, true, true, true, false, false, false, false, false, false, false, false] rfl rfl (by kernel_rfl) (fun _ _ _ h => h) (Or.inr ⟨by rfl, rfl⟩) ?_ ?_
          rotate_left
          · simp only [Act.put, List.setIfInBounds_toArray, List.set_cons_zero, List.set_cons_succ, i64_w, i32_w]
            rfl
          refine pure_ (i := 15) (N := some 80) (v := undef) (a' := ?_) #[true, true, true, true, true, true, true, true, true, true, true, true, true, true, true, true, false, false, false, false, false, false, false] rfl rfl (by kernel_rfl) (fun _ _ _ h => h) (Or.inr ⟨by rfl, rfl⟩) ?_ ?_
          rotate_left
          · simp only [Act.put, List.setIfInBounds_toArray, List.set_cons_zero, List.set_cons_succ, i64_w, i32_w]
            rfl
          refine pure_ (i := 16) (N := some 81) (v := undef) (a' := ?_) #[true, true, true, true, true, true, true, true, true, true, true, true, true, true, true, true, true, false, false, false, false, false, false] rfl rfl (by kernel_rfl) (fun _ _ _ h => h) (Or.inr ⟨by rfl, rfl⟩) ?_ ?_
          rotate_left
          · simp only [Act.put, List.setIfInBounds_toArray, List.set_cons_zero, List.set_cons_succ, i64_w, i32_w]
            rfl
          refine pure_ (i := 17) (N := some 82) (v := undef) (a' := ?_) #[true, true, true, true, true, true, true, true, true, true, true, true, true, true, true, true, true, true, false, false, false, false, false] rfl rfl (by kernel_rfl) (fun _ _ _ h => h) (Or.inr ⟨by rfl, rfl⟩) ?_ ?_
          rotate_left
          · simp only [Act.put, List.setIfInBounds_toArray, List.set_cons_zero, List.set_cons_succ, i64_w, i32_w]
            rfl
          refine pure_ (i := 18) (N := some 83) (v := undef) (a' := ?_) #[true, true, true, true, true, true, true, true, true, true, true, true, true, true, true, true, true, true, true, false, false, false, false] rfl rfl (by kernel_rfl) (fun _ _ _ h => h) (Or.inr ⟨by rfl, rfl⟩) ?_ ?_
          rotate_left
          · simp only [Act.put, List.setIfInBounds_toArray, List.set_cons_zero, List.set_cons_succ, i64_w, i32_w]
            rfl
          refine pure_ (i := 19) (N := some 84) (v := undef) (a' := ?_) #[true, true, true, true, true, true, true, true, true, true, true, true, true, true, true, true, true, true, true, true, false, false, false] rfl rfl (by kernel_rfl) (fun _ _ _ h => h) (Or.inr ⟨by rfl, rfl⟩) ?_ ?_
          rotate_left
          · simp only [Act.put, List.setIfInBounds_toArray, List.set_cons_zero, List.set_cons_succ, i64_w, i32_w]
            rfl
          refine pure_ (i := 20) (N := some 85) (v := undef) (a' := ?_) #[true, true, true, true, true, true, true, true, true, true, true, true, true, true, true, true, true, true, true, true, true, false, false] rfl rfl (by kernel_rfl) (fun _ _ _ h => h) (Or.inr ⟨by rfl, rfl⟩) ?_ ?_
          rotate_left
          · simp only [Act.put, List.setIfInBounds_toArray, List.set_cons_zero, List.set_cons_succ, i64_w, i32_w]
            rfl
          refine pure_ (i := 21) (N := some 86) (v := undef) (a' := ?_) #[true, true, true, true, true, true, true, true, true, true, true, true, true, true, true, true, true, true, true, true, true, true, false] rfl rfl (by kernel_rfl) (fun _ _ _ h => h) (Or.inr ⟨by rfl, rfl⟩) ?_ ?_
          rotate_left
          · simp only [Act.put, List.setIfInBounds_toArray, List.set_cons_zero, List.set_cons_succ, i64_w, i32_w]
            rfl
          refine pure_ (i := 22) (N := some 87) (v := ?_) (a' := ?_) #[true, true, true, true, true, true, true, true, true, true, true, true, true, true, true, true, true, true, true, true, true, true, true] rfl rfl (by kernel_rfl) (fun _ _ _ h => h) (Or.inl ⟨by rfl, ?_⟩) ?_ ?_
          rotate_left
          · intro w'
            go_simp
            with_reducible rfl
          rotate_left
          · simp only [Act.put, List.setIfInBounds_toArray, List.set_cons_zero, List.set_cons_succ, i64_w, i32_w]
            rfl
          refine done_ (by kernel_rfl) ?_
          clear hHeld
          refine go_on40 ?_
          go_wp2
          go_ret2
          exact ⟨.slice none 0 0, by rw [E0.out]; rfl, by rw [E0.out]; exact RdW.nil _, HW0.out _ HB22.out⟩
        | true =>
          cases q3 with
          | false =>
            have E0 : Aside0 (R = ([], false)) := ⟨by rw [ER.out, if_neg (fun h => by have h2 := h.2.2.2; rw [EF.out] at h2; simp at h2)]⟩
            clear ER EF
            refine start_ (n := 23) (S := fun w' => w'.cell? ⟨w2.heap.size, 0, none⟩ = some (.int .i64 a) ∧ w'.cell? ⟨w2.heap.size, 1, none⟩ = some (.int .i64 b) ∧ w'.cell? ⟨w2.heap.size, 2, none⟩ = some (.int .i64 d) ∧ w'.cell? ⟨w2.heap.size, 3, none⟩ = some (.int .i64 h)) (ds := []) #[false, false, false, false, false, false, false, false, false, false, false, false, false, false, false, false, false, false, false, false, false, false, false] (by kernel_rfl) rfl rfl ⟨(show wz.drew.cell? _ = _ from y0), (show wz.drew.cell? _ = _ from y1), (show wz.drew.cell? _ = _ from y2), (show wz.drew.cell? _ = _ from y3)⟩ (fun hHeld => ?_)
            refine pure_ (i := 1) (N := some 66) (v := ?_) (a' := ?_) #[false, true, false, false, false, false, false, false, false, false, false, false, false, false, false, false, false, false, false, false, false, false, false] rfl rfl (by kernel_rfl) (fun _ _ _ h => h) (Or.inl ⟨by rfl, ?_⟩) ?_ ?_
            rotate_left
            · intro w'
              go_simp
              with_reducible rfl
            rotate_left
            · simp only [Act.put, List.setIfInBounds_toArray, List.set_cons_zero, List.set_cons_succ, i64_w, i32_w]
              rfl
            refine take_ (i := 0) (N := some 65) (v := ?_) (a' := ?_) #[true, true, false, false, false, false, false, false, false, false, false, false, false, false, false, false, false, false, false, false, false, false, false] rfl rfl (by kernel_rfl) (fun _ _ _ h => h) (Or.inl ⟨by rfl, ?_⟩) hHeld ?_ ?_
            rotate_left
            · rintro w' ⟨s0, s1, s2, s3⟩
              go_simp
              with_reducible rfl
            rotate_left
            · simp only [Act.put, List.setIfInBounds_toArray, List.set_cons_zero, List.set_cons_succ, i64_w, i32_w]
              rfl
            refine one_ (i := 2) (N := some 67) #[true, true, true, false, false, false, false, false, false, false, false, false, false, false, false, false, false, false, false, false, false, false, false] rfl rfl (by kernel_rfl) (by decide) (fun K hK => ?_)
            clear hHeld
            refine goes_ Try.func27 (by kernel_rfl) rfl #[.agg #[.int .i64 a, .int .i64 b, .int .i64 d, .int .i64 h], .slice Ak j ck] (by rfl) rfl rfl (by simp only [List.map_toArray, List.map_cons, List.map_nil]; rfl) ?_
            with_reducible refine (WR.out _ (below_drew1 HB.out)).mono ?_
            rintro e w20 ⟨rfl, hb20⟩
            refine ⟨_, rfl, ?_⟩
            have HB20 := Aside0.mk (below_step (below_drew1 HB.out) hb20)
            clear hb20
            refine hK.out _ _ ⟨(pw_cell_below HB20.out y0), (pw_cell_below HB20.out y1), (pw_cell_below HB20.out y2), (pw_cell_below HB20.out y3)⟩ (fun hHeld => ?_)
            clear hK K
            refine norm_ (a' := ?_) ?_ ?_
            rotate_left
            · show Act.put _ (some 67) _ = _
              simp only [Act.put, List.setIfInBounds_toArray, List.set_cons_zero, List.set_cons_succ, i64_w, i32_w]
              rfl
            refine pure_ (i := 3) (N := some 68) (v := ?_) (a' := ?_) #[true, true, true, true, false, false, false, false, false, false, false, false, false, false, false, false, false, false, false, false, false, false, false] rfl rfl (by kernel_rfl) (fun _ _ _ h => h) (Or.inl ⟨by rfl, ?_⟩) ?_ ?_
            rotate_left
            · intro w'
              go_simp
              with_reducible rfl
            rotate_left
            · simp only [Act.put, List.setIfInBounds_toArray, List.set_cons_zero, List.set_cons_succ, i64_w, i32_w]
              rfl
            refine pure_ (i := 4) (N := some 69) (v := ?_) (a' := ?_) #[true, true, true, true, true, false, false, false, false, false, false, false, false, false, false, false, false, false, false, false, false, false, false] rfl rfl (by kernel_rfl) (fun _ _ _ h => h) (Or.inl ⟨by rfl, ?_⟩) ?_ ?_
            rotate_left
            · intro w'
              go_simp
              with_reducible rfl
            rotate_left
            · simp only [Act.put, List.setIfInBounds_toArray, List.set_cons_zero, List.set_cons_succ, i64_w, i32_w]
              rfl
            refine pure_ (i := 5) (N := some 70) (v := ?_) (a' := ?_) #[true, true, true, true, true, true, false, false, false, false, false, false, false, false, false, false, false, false, false, false, false, false, false] rfl rfl (by kernel_rfl) (fun _ _ _ h => h) (Or.inl ⟨by rfl, ?_⟩) ?_ ?_
            rotate_left
            · intro w'
              go_simp
              with_reducible rfl
            rotate_left
            · simp only [Act.put, List.setIfInBounds_toArray, List.set_cons_zero, List.set_cons_succ, i64_w, i32_w]
              rfl
            refine pure_ (i := 6) (N := some 71) (v := ?_) (a' := ?_) #[true, true, true, true, true, true, true, false, false, false, false, false, false, false, false, false, false, false, false, false, false, false, false] rfl rfl (by kernel_rfl) (fun _ _ _ h => h) (Or.inl ⟨by rfl, ?_⟩) ?_ ?_
            rotate_left
            · intro w'
              go_simp
              with_reducible rfl
            rotate_left
            · simp only [Act.put, List.setIfInBounds_toArray, List.set_cons_zero, List.set_cons_succ, i64_w, i32_w]
              rfl
            refine pure_ (i := 7) (N := some 72) (v := ?_) (a' := ?_) #[true, true, true, true, true, true, true, true, false, false, false, false, false, false, false, false, false, false, false, false, false, false, false] rfl rfl (by kernel_rfl) (fun _ _ _ h => h) (Or.inl ⟨by rfl, ?_⟩) ?_ ?_
            rotate_left
            · intro w'
              go_simp
              with_reducible rfl
            rotate_left
            · simp only [Act.put, List.setIfInBounds_toArray, List.set_cons_zero, List.set_cons_succ, i64_w, i32_w]
              rfl
            refine one_ (i := 8) (N := some 73) #[true, true, true, true, true, true, true, true, true, false, false, false, false, false, false, false, false, false, false, false, false, false, false] rfl rfl (by kernel_rfl) (by decide) (fun K hK => ?_)
            clear hHeld
            refine goes_ Try.func34 (by kernel_rfl) rfl #[.slice Ak j ck] (by rfl) rfl rfl (by simp only [List.map_toArray, List.map_cons, List.map_nil]; rfl) ?_
            with_reducible refine (WH.out _ HB20.out).mono ?_
            rintro e w21 ⟨v21, rfl, ho21, hb21⟩
            refine ⟨_, rfl, ?_⟩
            obtain ⟨A21, c21, hv21⟩ := Kd.R_slice ho21
            subst hv21
            have HC21 := Aside0.mk (Kd.R_reads' ho21).2.2
            clear ho21
            have HB21 := Aside0.mk (below_step HB20.out hb21)
            clear hb21
            refine hK.out _ _ ⟨(pw_cell_below HB21.out y0), (pw_cell_below HB21.out y1), (pw_cell_below HB21.out y2), (pw_cell_below HB21.out y3)⟩ (fun hHeld => ?_)
            clear hK K
            refine norm_ (a' := ?_) ?_ ?_
            rotate_left
            · show Act.put _ (some 73) _ = _
              simp only [Act.put, List.setIfInBounds_toArray, List.set_cons_zero, List.set_cons_succ, i64_w, i32_w]
              rfl
            refine one_ (i := 9) (N := some 74) #[true, true, true, true, true, true, true, true, true, true, false, false, false, false, false, false, false, false, false, false, false, false, false] rfl rfl (by kernel_rfl) (by decide) (fun K hK => ?_)
            clear hHeld
            refine goes_ Try.func76 (by kernel_rfl) rfl #[.slice (some adl) 64 cl, .slice A21 H.length c21] (by rfl) rfl rfl (by simp only [List.map_toArray, List.map_cons, List.map_nil]; rfl) ?_
            with_reducible refine (WE1.out _ _ _ HB21.out HC21.out).mono ?_
            rintro e w22 ⟨rfl, hb22⟩
            refine ⟨_, rfl, ?_⟩
            have HB22 := Aside0.mk (below_step HB21.out hb22)
            clear hb22
            refine hK.out _ _ ⟨(pw_cell_below HB22.out y0), (pw_cell_below HB22.out y1), (pw_cell_below HB22.out y2), (pw_cell_below HB22.out y3)⟩ (fun hHeld => ?_)
            clear hK K
            refine norm_ (a' := ?_) ?_ ?_
            rotate_left
            · show Act.put _ (some 74) _ = _
              simp only [Act.put, List.setIfInBounds_toArray, List.set_cons_zero, List.set_cons_succ, i64_w, i32_w]
              rfl
            refine pure_ (i := 10) (N := some 75) (v := ?_) (a' := ?_) #[true, true, true, true, true, true, true, true, true, true, true, false, false, false, false, false, false, false, false, false, false, false, false] rfl rfl (by kernel_rfl) (fun _ _ _ h => h) (Or.inl ⟨by rfl, ?_⟩) ?_ ?_
            rotate_left
            · intro w'
              go_simp
              with_reducible rfl
            rotate_left
            · simp only [Act.put, List.setIfInBounds_toArray, List.set_cons_zero, List.set_cons_succ, i64_w, i32_w]
              rfl
            refine pure_ (i := 11) (N := some 76) (v := ?_) (a' := ?_) #[true, true, true, true, true, true, true, true, true, true, true, true, false, false, false, false, false, false, false, false, false, false, false] rfl rfl (by kernel_rfl) (fun _ _ _ h => h) (Or.inl ⟨by rfl, ?_⟩) ?_ ?_
            rotate_left
            · intro w'
              go_simp
              with_reducible rfl
            rotate_left
            · simp only [Act.put, List.setIfInBounds_toArray, List.set_cons_zero, List.set_cons_succ, i64_w, i32_w]
              rfl
            refine pure_ (i := 12) (N := some 77) (v := ?_) (a' := ?_) #[true, true, true, true, true, true, true, true, true, true, true, true, true, false, false, false, false, false, false, false, false, false, false] rfl rfl (by kernel_rfl) (fun _ _ _ h => h) (Or.inl ⟨by rfl, ?_⟩) ?_ ?_
            rotate_left
            · intro w'
              go_simp
              with_reducible rfl
            rotate_left
            · simp only [Act.put, List.setIfInBounds_toArray, List.set_cons_zero, List.set_cons_succ, i64_w, i32_w]
              rfl
            refine pure_ (i := 13) (N := some 78) (v := ?_) (a' := ?_) #[true, true, true, true, true, true, true, true, true, true, true, true, true, true, false, false, false, false, false, false, false, false, false] rfl rfl (by kernel_rfl) (fun _ _ _ h => h) (Or.inl ⟨by rfl, ?_⟩) ?_ ?_
            rotate_left
            · intro w'
              go_simp
              with_reducible rfl
            rotate_left
            · simp only [Act.put, List.setIfInBounds_toArray, List.set_cons_zero, List.set_cons_succ, i64_w, i32_w]
              rfl
            refine pure_ (i := 14) (N := some 79) (v := ?_) (a' := ?_) #[true, true, true, true, true, true, true, true, true, true, true, true, true, true, true, false, false, false, false, false, false, false, false] rfl rfl (by kernel_rfl) (fun _ _ _ h => h) (Or.inl ⟨by rfl, ?_⟩) ?_ ?_
            rotate_left
            · intro w'
              go_simp
              with_reducible rfl
            rotate_left
            · simp only [Act.put, List.setIfInBounds_toArray, List.set_cons_zero, List.set_cons_succ, i64_w, i32_w]
              rfl
            refine pure_ (i := 15) (N := some 80) (v := ?_) (a' := ?_) #[true, true, true, true, true, true, true, true, true, true, true, true, true, true, true, true, false, false, false, false, false, false, false] rfl rfl (by kernel_rfl) (fun _ _ _ h => h) (Or.inl ⟨by rfl, ?_⟩) ?_ ?_
            rotate_left
            · intro w'
              go_simp
              with_reducible rfl
            rotate_left
            · simp only [Act.put, List.setIfInBounds_toArray, List.set_cons_zero, List.set_cons_succ, i64_w, i32_w]
              rfl
            refine pure_ (i := 16) (N := some 81) (v := ?_) (a' := ?_) #[true, true, true, true, true, true, true, true, true, true, true, true, true, true, true, true, true, false, false, false, false, false, false] rfl rfl (by kernel_rfl) (fun _ _ _ h => h) (Or.inl ⟨by rfl, ?_⟩) ?_ ?_
            rotate_left
            · intro w'
              go_simp
              with_reducible rfl
            rotate_left
            · simp only [Act.put, List.setIfInBounds_toArray, List.set_cons_zero, List.set_cons_succ, i64_w, i32_w]
              rfl
            refine pure_ (i := 17) (N := some 82) (v := ?_) (a' := ?_) #[true, true, true, true, true, true, true, true, true, true, true, true, true, true, true, true, true, true, false, false, false, false, false] rfl rfl (by kernel_rfl) (fun _ _ _ h => h) (Or.inl ⟨by rfl, ?_⟩) ?_ ?_
            rotate_left
            · intro w'
              go_simp
              with_reducible rfl
            rotate_left
            · simp only [Act.put, List.setIfInBounds_toArray, List.set_cons_zero, List.set_cons_succ, i64_w, i32_w]
              rfl
            refine pure_ (i := 18) (N := some 83) (v := ?_) (a' := ?_) #[true, true, true, true, true, true, true, true, true, true, true, true, true, true, true, true, true, true, true, false, false, false, false] rfl rfl (by kernel_rfl) (fun _ _ _ h => h) (Or.inl ⟨by rfl, ?_⟩) ?_ ?_
            rotate_left
            · intro w'
              go_simp
              with_reducible rfl
            rotate_left
            · simp only [Act.put, List.setIfInBounds_toArray, List.set_cons_zero, List.set_cons_succ, i64_w, i32_w]
              rfl
            refine one_ (i := 19) (N := some 84) #[true, true, true, true, true, true, true, true, true, true, true, true, true, true, true, true, true, true, true, true, false, false, false] rfl rfl (by kernel_rfl) (by decide) (fun K hK => ?_)
            clear hHeld
            refine goes_ Try.func32 (by kernel_rfl) rfl #[.slice Ak j ck] (by rfl) rfl rfl (by simp only [List.map_toArray, List.map_cons, List.map_nil]; rfl) ?_
            with_reducible refine (WC.out _ HB22.out).mono ?_
            rintro e w23 ⟨v23, rfl, ho23, hb23⟩
            refine ⟨_, rfl, ?_⟩
            obtain ⟨A23, c23, hv23⟩ := Kd.R_slice ho23
            subst hv23
            have HC23 := Aside0.mk (Kd.R_reads' ho23).2.2
            clear ho23
            have HB23 := Aside0.mk (below_step HB22.out hb23)
            clear hb23
            refine hK.out _ _ ⟨(pw_cell_below HB23.out y0), (pw_cell_below HB23.out y1), (pw_cell_below HB23.out y2), (pw_cell_below HB23.out y3)⟩ (fun hHeld => ?_)
            clear hK K
            refine norm_ (a' := ?_) ?_ ?_
            rotate_left
            · show Act.put _ (some 84) _ = _
              simp only [Act.put, List.setIfInBounds_toArray, List.set_cons_zero, List.set_cons_succ, i64_w, i32_w]
              rfl
            refine one_ (i := 20) (N := some 85) #[true, true, true, true, true, true, true, true, true, true, true, true, true, true, true, true, true, true, true, true, true, false, false] rfl rfl (by kernel_rfl) (by decide) (fun K hK => ?_)
            clear hHeld
            refine goes_ Try.func76 (by kernel_rfl) rfl #[.slice A3 (128 * j) cR, .slice A23 Rs.length c23] (by rfl) rfl rfl (by simp only [List.map_toArray, List.map_cons, List.map_nil]; rfl) ?_
            with_reducible refine (WE2.out _ _ _ HB23.out HC23.out).mono ?_
            rintro e w24 ⟨rfl, hb24⟩
            refine ⟨_, rfl, ?_⟩
            have HB24 := Aside0.mk (below_step HB23.out hb24)
            clear hb24
            refine hK.out _ _ ⟨(pw_cell_below HB24.out y0), (pw_cell_below HB24.out y1), (pw_cell_below HB24.out y2), (pw_cell_below HB24.out y3)⟩ (fun hHeld => ?_)
            clear hK K
            refine norm_ (a' := ?_) ?_ ?_
            rotate_left
            · show Act.put _ (some 85) _ = _
              simp only [Act.put, List.setIfInBounds_toArray, List.set_cons_zero, List.set_cons_succ, i64_w, i32_w]
              rfl
            refine pure_ (i := 21) (N := some 86) (v := ?_) (a' := ?_) #[true, true, true, true, true, true, true, true, true, true, true, true, true, true, true, true, true, true, true, true, true, true, false] rfl rfl (by kernel_rfl) (fun _ _ _ h => h) (Or.inl ⟨by rfl, ?_⟩) ?_ ?_
            rotate_left
            · intro w'
              go_simp
              with_reducible rfl
            rotate_left
            · simp only [Act.put, List.setIfInBounds_toArray, List.set_cons_zero, List.set_cons_succ, i64_w, i32_w]
              rfl
            refine pure_ (i := 22) (N := some 87) (v := ?_) (a' := ?_) #[true, true, true, true, true, true, true, true, true, true, true, true, true, true, true, true, true, true, true, true, true, true, true] rfl rfl (by kernel_rfl) (fun _ _ _ h => h) (Or.inl ⟨by rfl, ?_⟩) ?_ ?_
            rotate_left
            · intro w'
              go_simp
              with_reducible rfl
            rotate_left
            · simp only [Act.put, List.setIfInBounds_toArray, List.set_cons_zero, List.set_cons_succ, i64_w, i32_w]
              rfl
            refine done_ (by kernel_rfl) ?_
            clear hHeld
            refine go_on40 ?_
            go_wp2
            go_ret2
            exact ⟨.slice none 0 0, by rw [E0.out]; rfl, by rw [E0.out]; exact RdW.nil _, HW0.out _ HB24.out⟩
          | true =>
            have E0 : Aside0 (R = (wsL l, true)) := ⟨by rw [ER.out, if_pos ⟨by trivial, HMC.out.1, HMC.out.2, by rw [EF.out]; rfl⟩]⟩
            clear ER EF
            refine start_ (n := 23) (S := fun w' => w'.cell? ⟨w2.heap.size, 0, none⟩ = some (.int .i64 a) ∧ w'.cell? ⟨w2.heap.size, 1, none⟩ = some (.int .i64 b) ∧ w'.cell? ⟨w2.heap.size, 2, none⟩ = some (.int .i64 d) ∧ w'.cell? ⟨w2.heap.size, 3, none⟩ = some (.int .i64 h)) (ds := []) #[false, false, false, false, false, false, false, false, false, false, false, false, false, false, false, false, false, false, false, false, false, false, false] (by kernel_rfl) rfl rfl ⟨(show wz.drew.cell? _ = _ from y0), (show wz.drew.cell? _ = _ from y1), (show wz.drew.cell? _ = _ from y2), (show wz.drew.cell? _ = _ from y3)⟩ (fun hHeld => ?_)
            refine pure_ (i := 1) (N := some 66) (v := ?_) (a' := ?_) #[false, true, false, false, false, false, false, false, false, false, false, false, false, false, false, false, false, false, false, false, false, false, false] rfl rfl (by kernel_rfl) (fun _ _ _ h => h) (Or.inl ⟨by rfl, ?_⟩) ?_ ?_
            rotate_left
            · intro w'
              go_simp
              with_reducible rfl
            rotate_left
            · simp only [Act.put, List.setIfInBounds_toArray, List.set_cons_zero, List.set_cons_succ, i64_w, i32_w]
              rfl
            refine take_ (i := 0) (N := some 65) (v := ?_) (a' := ?_) #[true, true, false, false, false, false, false, false, false, false, false, false, false, false, false, false, false, false, false, false, false, false, false] rfl rfl (by kernel_rfl) (fun _ _ _ h => h) (Or.inl ⟨by rfl, ?_⟩) hHeld ?_ ?_
            rotate_left
            · rintro w' ⟨s0, s1, s2, s3⟩
              go_simp
              with_reducible rfl
            rotate_left
            · simp only [Act.put, List.setIfInBounds_toArray, List.set_cons_zero, List.set_cons_succ, i64_w, i32_w]
              rfl
            refine one_ (i := 2) (N := some 67) #[true, true, true, false, false, false, false, false, false, false, false, false, false, false, false, false, false, false, false, false, false, false, false] rfl rfl (by kernel_rfl) (by decide) (fun K hK => ?_)
            clear hHeld
            refine goes_ Try.func27 (by kernel_rfl) rfl #[.agg #[.int .i64 a, .int .i64 b, .int .i64 d, .int .i64 h], .slice Ak j ck] (by rfl) rfl rfl (by simp only [List.map_toArray, List.map_cons, List.map_nil]; rfl) ?_
            with_reducible refine (WR.out _ (below_drew1 HB.out)).mono ?_
            rintro e w20 ⟨rfl, hb20⟩
            refine ⟨_, rfl, ?_⟩
            have HB20 := Aside0.mk (below_step (below_drew1 HB.out) hb20)
            clear hb20
            refine hK.out _ _ ⟨(pw_cell_below HB20.out y0), (pw_cell_below HB20.out y1), (pw_cell_below HB20.out y2), (pw_cell_below HB20.out y3)⟩ (fun hHeld => ?_)
            clear hK K
            refine norm_ (a' := ?_) ?_ ?_
            rotate_left
            · show Act.put _ (some 67) _ = _
              simp only [Act.put, List.setIfInBounds_toArray, List.set_cons_zero, List.set_cons_succ, i64_w, i32_w]
              rfl
            refine pure_ (i := 3) (N := some 68) (v := ?_) (a' := ?_) #[true, true, true, true, false, false, false, false, false, false, false, false, false, false, false, false, false, false, false, false, false, false, false] rfl rfl (by kernel_rfl) (fun _ _ _ h => h) (Or.inl ⟨by rfl, ?_⟩) ?_ ?_
            rotate_left
            · intro w'
              go_simp
              with_reducible rfl
            rotate_left
            · simp only [Act.put, List.setIfInBounds_toArray, List.set_cons_zero, List.set_cons_succ, i64_w, i32_w]
              rfl
            refine pure_ (i := 4) (N := some 69) (v := ?_) (a' := ?_) #[true, true, true, true, true, false, false, false, false, false, false, false, false, false, false, false, false, false, false, false, false, false, false] rfl rfl (by kernel_rfl) (fun _ _ _ h => h) (Or.inl ⟨by rfl, ?_⟩) ?_ ?_
            rotate_left
            · intro w'
              go_simp
              with_reducible rfl
            rotate_left
            · simp only [Act.put, List.setIfInBounds_toArray, List.set_cons_zero, List.set_cons_succ, i64_w, i32_w]
              rfl
            refine pure_ (i := 5) (N := some 70) (v := ?_) (a' := ?_) #[true, true, true, true, true, true, false, false, false, false, false, false, false, false, false, false, false, false, false, false, false, false, false] rfl rfl (by kernel_rfl) (fun _ _ _ h => h) (Or.inl ⟨by rfl, ?_⟩) ?_ ?_
            rotate_left
            · intro w'
              go_simp
              with_reducible rfl
            rotate_left
            · simp only [Act.put, List.setIfInBounds_toArray, List.set_cons_zero, List.set_cons_succ, i64_w, i32_w]
              rfl
            refine pure_ (i := 6) (N := some 71) (v := ?_) (a' := ?_) #[true, true, true, true, true, true, true, false, false, false, false, false, false, false, false, false, false, false, false, false, false, false, false] rfl rfl (by kernel_rfl) (fun _ _ _ h => h) (Or.inl ⟨by rfl, ?_⟩) ?_ ?_
            rotate_left
            · intro w'
              go_simp
              with_reducible rfl
            rotate_left
            · simp only [Act.put, List.setIfInBounds_toArray, List.set_cons_zero, List.set_cons_succ, i64_w, i32_w]
              rfl
            refine pure_ (i := 7) (N := some 72) (v := ?_) (a' := ?_) #[true, true, true, true, true, true, true, true, false, false, false, false, false, false, false, false, false, false, false, false, false, false, false] rfl rfl (by kernel_rfl) (fun _ _ _ h => h) (Or.inl ⟨by rfl, ?_⟩) ?_ ?_
            rotate_left
            · intro w'
              go_simp
              with_reducible rfl
            rotate_left
            · simp only [Act.put, List.setIfInBounds_toArray, List.set_cons_zero, List.set_cons_succ, i64_w, i32_w]
              rfl
            refine one_ (i := 8) (N := some 73) #[true, true, true, true, true, true, true, true, true, false, false, false, false, false, false, false, false, false, false, false, false, false, false] rfl rfl (by kernel_rfl) (by decide) (fun K hK => ?_)
            clear hHeld
            refine goes_ Try.func34 (by kernel_rfl) rfl #[.slice Ak j ck] (by rfl) rfl rfl (by simp only [List.map_toArray, List.map_cons, List.map_nil]; rfl) ?_
            with_reducible refine (WH.out _ HB20.out).mono ?_
            rintro e w21 ⟨v21, rfl, ho21, hb21⟩
            refine ⟨_, rfl, ?_⟩
            obtain ⟨A21, c21, hv21⟩ := Kd.R_slice ho21
            subst hv21
            have HC21 := Aside0.mk (Kd.R_reads' ho21).2.2
            clear ho21
            have HB21 := Aside0.mk (below_step HB20.out hb21)
            clear hb21
            refine hK.out _ _ ⟨(pw_cell_below HB21.out y0), (pw_cell_below HB21.out y1), (pw_cell_below HB21.out y2), (pw_cell_below HB21.out y3)⟩ (fun hHeld => ?_)
            clear hK K
            refine norm_ (a' := ?_) ?_ ?_
            rotate_left
            · show Act.put _ (some 73) _ = _
              simp only [Act.put, List.setIfInBounds_toArray, List.set_cons_zero, List.set_cons_succ, i64_w, i32_w]
              rfl
            refine one_ (i := 9) (N := some 74) #[true, true, true, true, true, true, true, true, true, true, false, false, false, false, false, false, false, false, false, false, false, false, false] rfl rfl (by kernel_rfl) (by decide) (fun K hK => ?_)
            clear hHeld
            refine goes_ Try.func76 (by kernel_rfl) rfl #[.slice (some adl) 64 cl, .slice A21 H.length c21] (by rfl) rfl rfl (by simp only [List.map_toArray, List.map_cons, List.map_nil]; rfl) ?_
            with_reducible refine (WE1.out _ _ _ HB21.out HC21.out).mono ?_
            rintro e w22 ⟨rfl, hb22⟩
            refine ⟨_, rfl, ?_⟩
            have HB22 := Aside0.mk (below_step HB21.out hb22)
            clear hb22
            refine hK.out _ _ ⟨(pw_cell_below HB22.out y0), (pw_cell_below HB22.out y1), (pw_cell_below HB22.out y2), (pw_cell_below HB22.out y3)⟩ (fun hHeld => ?_)
            clear hK K
            refine norm_ (a' := ?_) ?_ ?_
            rotate_left
            · show Act.put _ (some 74) _ = _
              simp only [Act.put, List.setIfInBounds_toArray, List.set_cons_zero, List.set_cons_succ, i64_w, i32_w]
              rfl
            refine pure_ (i := 10) (N := some 75) (v := ?_) (a' := ?_) #[true, true, true, true, true, true, true, true, true, true, true, false, false, false, false, false, false, false, false, false, false, false, false] rfl rfl (by kernel_rfl) (fun _ _ _ h => h) (Or.inl ⟨by rfl, ?_⟩) ?_ ?_
            rotate_left
            · intro w'
              go_simp
              with_reducible rfl
            rotate_left
            · simp only [Act.put, List.setIfInBounds_toArray, List.set_cons_zero, List.set_cons_succ, i64_w, i32_w]
              rfl
            refine pure_ (i := 11) (N := some 76) (v := ?_) (a' := ?_) #[true, true, true, true, true, true, true, true, true, true, true, true, false, false, false, false, false, false, false, false, false, false, false] rfl rfl (by kernel_rfl) (fun _ _ _ h => h) (Or.inl ⟨by rfl, ?_⟩) ?_ ?_
            rotate_left
            · intro w'
              go_simp
              with_reducible rfl
            rotate_left
            · simp only [Act.put, List.setIfInBounds_toArray, List.set_cons_zero, List.set_cons_succ, i64_w, i32_w]
              rfl
            refine pure_ (i := 12) (N := some 77) (v := ?_) (a' := ?_) #[true, true, true, true, true, true, true, true, true, true, true, true, true, false, false, false, false, false, false, false, false, false, false] rfl rfl (by kernel_rfl) (fun _ _ _ h => h) (Or.inl ⟨by rfl, ?_⟩) ?_ ?_
            rotate_left
            · intro w'
              go_simp
              with_reducible rfl
            rotate_left
            · simp only [Act.put, List.setIfInBounds_toArray, List.set_cons_zero, List.set_cons_succ, i64_w, i32_w]
              rfl
            refine pure_ (i := 13) (N := some 78) (v := ?_) (a' := ?_) #[true, true, true, true, true, true, true, true, true, true, true, true, true, true, false, false, false, false, false, false, false, false, false] rfl rfl (by kernel_rfl) (fun _ _ _ h => h) (Or.inl ⟨by rfl, ?_⟩) ?_ ?_
            rotate_left
            · intro w'
              go_simp
              with_reducible rfl
            rotate_left
            · simp only [Act.put, List.setIfInBounds_toArray, List.set_cons_zero, List.set_cons_succ, i64_w, i32_w]
              rfl
            refine pure_ (i := 14) (N := some 79) (v := ?_) (a' := ?_) #[true, true, true, true, true, true, true, true, true, true, true, true, true, true, true, false, false, false, false, false, false, false, false] rfl rfl (by kernel_rfl) (fun _ _ _ h => h) (Or.inl ⟨by rfl, ?_⟩) ?_ ?_
            rotate_left
            · intro w'
              go_simp
              with_reducible rfl
            rotate_left
            · simp only [Act.put, List.setIfInBounds_toArray, List.set_cons_zero, List.set_cons_succ, i64_w, i32_w]
              rfl
            refine pure_ (i := 15) (N := some 80) (v := ?_) (a' := ?_) #[true, true, true, true, true, true, true, true, true, true, true, true, true, true, true, true, false, false, false, false, false, false, false] rfl rfl (by kernel_rfl) (fun _ _ _ h => h) (Or.inl ⟨by rfl, ?_⟩) ?_ ?_
            rotate_left
            · intro w'
              go_simp
              with_reducible rfl
            rotate_left
            · simp only [Act.put, List.setIfInBounds_toArray, List.set_cons_zero, List.set_cons_succ, i64_w, i32_w]
              rfl
            refine pure_ (i := 16) (N := some 81) (v := ?_) (a' := ?_) #[true, true, true, true, true, true, true, true, true, true, true, true, true, true, true, true, true, false, false, false, false, false, false] rfl rfl (by kernel_rfl) (fun _ _ _ h => h) (Or.inl ⟨by rfl, ?_⟩) ?_ ?_
            rotate_left
            · intro w'
              go_simp
              with_reducible rfl
            rotate_left
            · simp only [Act.put, List.setIfInBounds_toArray, List.set_cons_zero, List.set_cons_succ, i64_w, i32_w]
              rfl
            refine pure_ (i := 17) (N := some 82) (v := ?_) (a' := ?_) #[true, true, true, true, true, true, true, true, true, true, true, true, true, true, true, true, true, true, false, false, false, false, false] rfl rfl (by kernel_rfl) (fun _ _ _ h => h) (Or.inl ⟨by rfl, ?_⟩) ?_ ?_
            rotate_left
            · intro w'
              go_simp
              with_reducible rfl
            rotate_left
            · simp only [Act.put, List.setIfInBounds_toArray, List.set_cons_zero, List.set_cons_succ, i64_w, i32_w]
              rfl
            refine pure_ (i := 18) (N := some 83) (v := ?_) (a' := ?_) #[true, true, true, true, true, true, true, true, true, true, true, true, true, true, true, true, true, true, true, false, false, false, false] rfl rfl (by kernel_rfl) (fun _ _ _ h => h) (Or.inl ⟨by rfl, ?_⟩) ?_ ?_
            rotate_left
            · intro w'
              go_simp
              with_reducible rfl
            rotate_left
            · simp only [Act.put, List.setIfInBounds_toArray, List.set_cons_zero, List.set_cons_succ, i64_w, i32_w]
              rfl
            refine one_ (i := 19) (N := some 84) #[true, true, true, true, true, true, true, true, true, true, true, true, true, true, true, true, true, true, true, true, false, false, false] rfl rfl (by kernel_rfl) (by decide) (fun K hK => ?_)
            clear hHeld
            refine goes_ Try.func32 (by kernel_rfl) rfl #[.slice Ak j ck] (by rfl) rfl rfl (by simp only [List.map_toArray, List.map_cons, List.map_nil]; rfl) ?_
            with_reducible refine (WC.out _ HB22.out).mono ?_
            rintro e w23 ⟨v23, rfl, ho23, hb23⟩
            refine ⟨_, rfl, ?_⟩
            obtain ⟨A23, c23, hv23⟩ := Kd.R_slice ho23
            subst hv23
            have HC23 := Aside0.mk (Kd.R_reads' ho23).2.2
            clear ho23
            have HB23 := Aside0.mk (below_step HB22.out hb23)
            clear hb23
            refine hK.out _ _ ⟨(pw_cell_below HB23.out y0), (pw_cell_below HB23.out y1), (pw_cell_below HB23.out y2), (pw_cell_below HB23.out y3)⟩ (fun hHeld => ?_)
            clear hK K
            refine norm_ (a' := ?_) ?_ ?_
            rotate_left
            · show Act.put _ (some 84) _ = _
              simp only [Act.put, List.setIfInBounds_toArray, List.set_cons_zero, List.set_cons_succ, i64_w, i32_w]
              rfl
            refine one_ (i := 20) (N := some 85) #[true, true, true, true, true, true, true, true, true, true, true, true, true, true, true, true, true, true, true, true, true, false, false] rfl rfl (by kernel_rfl) (by decide) (fun K hK => ?_)
            clear hHeld
            refine goes_ Try.func76 (by kernel_rfl) rfl #[.slice A3 (128 * j) cR, .slice A23 Rs.length c23] (by rfl) rfl rfl (by simp only [List.map_toArray, List.map_cons, List.map_nil]; rfl) ?_
            with_reducible refine (WE2.out _ _ _ HB23.out HC23.out).mono ?_
            rintro e w24 ⟨rfl, hb24⟩
            refine ⟨_, rfl, ?_⟩
            have HB24 := Aside0.mk (below_step HB23.out hb24)
            clear hb24
            refine hK.out _ _ ⟨(pw_cell_below HB24.out y0), (pw_cell_below HB24.out y1), (pw_cell_below HB24.out y2), (pw_cell_below HB24.out y3)⟩ (fun hHeld => ?_)
            clear hK K
            refine norm_ (a' := ?_) ?_ ?_
            rotate_left
            · show Act.put _ (some 85) _ = _
              simp only [Act.put, List.setIfInBounds_toArray, List.set_cons_zero, List.set_cons_succ, i64_w, i32_w]
              rfl
            refine pure_ (i := 21) (N := some 86) (v := ?_) (a' := ?_) #[true, true, true, true, true, true, true, true, true, true, true, true, true, true, true, true, true, true, true, true, true, true, false] rfl rfl (by kernel_rfl) (fun _ _ _ h => h) (Or.inl ⟨by rfl, ?_⟩) ?_ ?_
            rotate_left
            · intro w'
              go_simp
              with_reducible rfl
            rotate_left
            · simp only [Act.put, List.setIfInBounds_toArray, List.set_cons_zero, List.set_cons_succ, i64_w, i32_w]
              rfl
            refine pure_ (i := 22) (N := some 87) (v := ?_) (a' := ?_) #[true, true, true, true, true, true, true, true, true, true, true, true, true, true, true, true, true, true, true, true, true, true, true] rfl rfl (by kernel_rfl) (fun _ _ _ h => h) (Or.inl ⟨by rfl, ?_⟩) ?_ ?_
            rotate_left
            · intro w'
              go_simp
              with_reducible rfl
            rotate_left
            · simp only [Act.put, List.setIfInBounds_toArray, List.set_cons_zero, List.set_cons_succ, i64_w, i32_w]
              rfl
            refine done_ (by kernel_rfl) ?_
            clear hHeld
            refine go_on40 ?_
            go_wp2
            go_ret2
            exact ⟨.slice Ak j ck, by rw [E0.out]; rfl, by rw [E0.out]; exact hRV.out _ HB24.out, HW0.out _ HB24.out⟩
end Go.Proofs.Ytdkbhbolkieeiaa.K
namespace Go.Proofs.Ytdkbhbolkieeiaa.K
open Go.RowKit Go.Proofs.YtdkbhbolkieeiaaW.PrintWords Go.Proofs.YtdkbhbolkieeiaaW.PrintLast Go.Proofs.YtdkbhbolkieeiaaW.PrintMore
set_option linter.unusedVariables false
set_option linter.unusedSimpArgs false
theorem readJ_ok {l : List Int} (h : (readJ l).2 = true) : (geoG l).2 = 0 ∧ rightP (geoG l).1.1 (geoG l).1.2.1 (geoG l).1.2.2.1 (geoG l).1.2.2.2 (readJ l).1 = true := by
  unfold readJ at h ⊢
  split at h
  · rename_i hc
    rw [if_pos hc]
    refine ⟨hc.1, ?_⟩
    have := hc.2.2.2
    unfold fitL at this
    simp only [Bool.and_eq_true] at this
    exact this.1
  · cases h
theorem readJ_small (l : List Int) : ∀ x ∈ (readJ l).1, x.2.length < 140737488355328 := fun x hx => by
  unfold readJ at hx
  split at hx
  · unfold wsL readN at hx
    obtain ⟨j, _, rfl⟩ := List.mem_map.1 hx
    show ((((restL l).drop (128 * j.val)).take 128).drop 64).length < _
    rw [List.length_drop, List.length_take]; omega
  · cases hx
theorem samePW (A7 A8 : Option Addr) (c7 c8 : Nat) (xs : List PW) (ys : List Wr) (w : World) (h7 : Kd.C kWP w A7 xs.length xs) (h8 : Kd.C kWr w A8 ys.length ys) (hm : ys.map wrP = xs) (hs : ∀ x ∈ xs, x.2.length < 140737488355328) :
    Calls Try.prog 37 #[.slice A7 xs.length c7, .slice A8 ys.length c8] w fun e w' => e = .returned (.bool true) ∧ Below w.heap.size w w' := by
  have hmax := h7.2.1
  obtain ⟨zs, hC, hz⟩ := turnP h7
  have hl : zs.length = xs.length := by rw [← hz, List.length_map]
  have h := rSame27_walk A7 A8 c7 c8 zs ys w (by rw [hl]; exact hC) h8 (fun y hy => hs (wrP y) (by rw [← hz]; exact List.mem_map.2 ⟨y, hy, rfl⟩)) (by omega)
  rw [hl, hz, hm] at h
  refine h.mono ?_
  rintro e w' ⟨rfl, hd⟩
  exact ⟨by simp, hd.below⟩
set_option maxHeartbeats 4000000 in
set_option maxRecDepth 100000 in
theorem reads_walk (A : Option Addr) (c : Nat) (l : List Int) (w : World) (hr : Kd.C (Kd.int .u8) w A l.length l) (hc : l.length ≤ c) (hb : Byts l) (hlm : l.length ≤ 9223372036854775807) :
    Calls Try.prog 6 #[.slice A l.length c] w fun e w' => e = .returned (.bool true) ∧ Below w.heap.size w w' := by
  have WA := Aside0.mk awake27_walk
  have HB := Aside0.mk (Below.refl w.heap.size w)
  by_cases hbig : l.length ≤ 30000
  case neg =>
    obtain ⟨n, hn⟩ : ∃ n, n = l.length := ⟨_, rfl⟩
    rw [← hn]
    have hi : (n : Int) > 30000 := by omega
    clear hr hc hb hbig hn hlm
    go_enter Try.func6, Try.ntmps6
    go_wp2_with (first | (go_at_call 23; go_loud ((with_reducible refine (WA.out _).mono ?_); rintro e w2 ⟨rfl, hb⟩; have n1_ : Aside0 (Below w.heap.size w w2) := ⟨below_step (by repeat (first | (with_reducible first | exact HB.out | apply below_alloc | apply pw_below_drewN | apply below_drew1) | exact HB.out)) hb⟩; clear HB; have HB := n1_; clear n1_; clear hb)))
    go_ret
    exact ⟨rfl, HB.out⟩
  have W1 := Aside0.mk (jRead_walk A c l w hr hc (by omega) hb)
  have W2 : Aside0 (∀ W, Below w.heap.size w W → Calls Try.prog 36 #[.slice A l.length c] W fun e w' => ∃ v : Value, e = .returned (.tuple #[v, .bool (readJ l).2]) ∧ RdW w' v (readJ l).1 ∧ Below W.heap.size W w') := ⟨fun W hB => rRead27_walk A c l W (Kd.C_below hr hB) hc (by omega) hb⟩
  have W3 : Aside0 (∀ W, Below w.heap.size w W → Calls Try.prog 38 #[.slice A l.length c] W fun e w' => e = .returned (.tuple #[.agg #[.int .i64 (geoG l).1.1, .int .i64 (geoG l).1.2.1, .int .i64 (geoG l).1.2.2.1, .int .i64 (geoG l).1.2.2.2], .int .i64 (geoG l).2]) ∧ Below W.heap.size W w') := ⟨fun W hB => geoGet_walk A c l W (Kd.C_below hr hB) hc (by omega) hb⟩
  have HSM := Aside0.mk (readJ_small l)
  have HOK := Aside0.mk (fun h => readJ_ok (l := l) h)
  have WR : Aside0 (∀ (A1 : Option Addr) (c1 : Nat) W, Kd.C kWP W A1 (readJ l).1.length (readJ l).1 → Calls Try.prog 26 #[.agg #[.int .i64 (geoG l).1.1, .int .i64 (geoG l).1.2.1, .int .i64 (geoG l).1.2.2.1, .int .i64 (geoG l).1.2.2.2], .slice A1 (readJ l).1.length c1] W fun e w' => e = .returned (.bool (rightP (geoG l).1.1 (geoG l).1.2.1 (geoG l).1.2.2.1 (geoG l).1.2.2.2 (readJ l).1)) ∧ Below W.heap.size W w') := ⟨fun A1 c1 W hC => rightP_walk _ _ _ _ A1 c1 _ W hC hC.2.1⟩
  obtain ⟨q, hq⟩ : ∃ q, q = (readJ l).2 := ⟨_, rfl⟩
  obtain ⟨xs, hxs⟩ : ∃ q, q = (readJ l).1 := ⟨_, rfl⟩
  obtain ⟨a, ha⟩ : ∃ q, q = (geoG l).1.1 := ⟨_, rfl⟩
  obtain ⟨b, hb1⟩ : ∃ q, q = (geoG l).1.2.1 := ⟨_, rfl⟩
  obtain ⟨d, hd⟩ : ∃ q, q = (geoG l).1.2.2.1 := ⟨_, rfl⟩
  obtain ⟨h, hh⟩ : ∃ q, q = (geoG l).1.2.2.2 := ⟨_, rfl⟩
  obtain ⟨ge, hge⟩ : ∃ q, q = (geoG l).2 := ⟨_, rfl⟩
  rw [← hq] at W1 HOK
  simp only [← hq] at W2
  rw [← hxs] at W1 HOK HSM
  simp only [← hxs] at W2 WR
  rw [← ha, ← hb1, ← hd, ← hh, ← hge] at HOK
  simp only [← ha, ← hb1, ← hd, ← hh, ← hge] at W3 WR
  obtain ⟨n, hn⟩ : ∃ n, n = l.length := ⟨_, rfl⟩
  rw [← hn] at W1 W2 W3 hbig ⊢
  have hi : ¬ (n : Int) > 30000 := by omega
  clear hr hc hb hq hxs ha hb1 hd hh hge hn hlm
  cases q with
  | false =>
    clear HOK WR
    go_enter Try.func6, Try.ntmps6
    go_wp2_with (first | (go_at_call 35; go_loud ((with_reducible refine (W1.out).mono ?_); rintro e w1 ⟨v1, rfl, hR, hb⟩; obtain ⟨A1, c1, hv_⟩ := Kd.R_slice hR; subst hv_; have HC1 := Aside0.mk (Kd.R_reads' hR).2.2; have n1_ : Aside0 (Below w.heap.size w w1) := ⟨below_step (by repeat (first | (with_reducible first | exact HB.out | apply below_alloc | apply pw_below_drewN | apply below_drew1) | exact HB.out)) hb⟩; clear HB; have HB := n1_; clear n1_; clear hR hb W1)) | (go_at_call 36; go_loud ((with_reducible refine (W2.out _ HB.out).mono ?_); rintro e w2 ⟨v2, rfl, ⟨A2, c2, ys, hv_, hC, hm⟩, hb⟩; subst hv_; have HC2 := Aside0.mk hC; have HM := Aside0.mk hm; have n_ := Aside0.mk (Kd.C_below (by first | exact HC1.out | exact Kd.C_alloc HC1.out _) hb); clear HC1; have HC1 := n_; clear n_; have n1_ : Aside0 (Below w.heap.size w w2) := ⟨below_step (by repeat (first | (with_reducible first | exact HB.out | apply below_alloc | apply pw_below_drewN | apply below_drew1) | exact HB.out)) hb⟩; clear HB; have HB := n1_; clear n1_; clear hC hm hb)) | (go_at_call 37; go_loud ((with_reducible refine (samePW _ _ _ _ xs ys _ HC1.out HC2.out HM.out HSM.out).mono ?_); rintro e w3 ⟨rfl, hb⟩; have n_ := Aside0.mk (Kd.C_below (by first | exact HC1.out | exact Kd.C_alloc HC1.out _) hb); clear HC1; have HC1 := n_; clear n_; have n1_ : Aside0 (Below w.heap.size w w3) := ⟨below_step (by repeat (first | (with_reducible first | exact HB.out | apply below_alloc | apply pw_below_drewN | apply below_drew1) | exact HB.out)) hb⟩; clear HB; have HB := n1_; clear n1_; clear hb)) | (go_at_call 38; go_loud ((with_reducible refine (W3.out _ HB.out).mono ?_); rintro e w4 ⟨rfl, hb⟩; have n1_ : Aside0 (Below w.heap.size w w4) := ⟨below_step (by repeat (first | (with_reducible first | exact HB.out | apply below_alloc | apply pw_below_drewN | apply below_drew1) | exact HB.out)) hb⟩; clear HB; have HB := n1_; clear n1_; clear hb)) | ((with_reducible refine gate_store (p := 7) rfl ?_); go_loud (refine wpList_store_newL (w0 := w4) rfl rfl 38 (.tmp 7) (.tmp 35) rfl #[.int .i64 a, .int .i64 b, .int .i64 d, .int .i64 h] 38 #[.int .i64 0, .int .i64 0, .int .i64 0, .int .i64 0] rfl (by rfl) (by rfl) (by kernel_rfl) rfl (by simp [Value.oneCell']) ?_; intro w5 bk_ hb; have BK5 := Aside0.mk bk_; clear bk_; have n1_ : Aside0 (Below w.heap.size w w5) := ⟨below_step (by repeat (first | (with_reducible first | exact HB.out | apply below_alloc | apply pw_below_drewN | apply below_drew1) | exact HB.out)) hb⟩; clear HB; have HB := n1_; clear n1_; clear hb)) | (go_at_call 23; go_loud ((with_reducible refine (WA.out _).mono ?_); rintro e w6 ⟨rfl, hb⟩; have n1_ : Aside0 (Below w.heap.size w w6) := ⟨below_step (by repeat (first | (with_reducible first | exact HB.out | apply below_alloc | apply pw_below_drewN | apply below_drew1) | exact HB.out)) hb⟩; clear HB; have HB := n1_; clear n1_; clear hb)))
    go_ret
    exact ⟨rfl, HB.out⟩
  | true =>
    obtain ⟨e1, e2⟩ := HOK.out rfl
    subst e1
    simp only [e2] at WR
    clear HOK e2
    go_enter Try.func6, Try.ntmps6
    go_wp2_with (first | (go_at_call 35; go_loud ((with_reducible refine (W1.out).mono ?_); rintro e w1 ⟨v1, rfl, hR, hb⟩; obtain ⟨A1, c1, hv_⟩ := Kd.R_slice hR; subst hv_; have HC1 := Aside0.mk (Kd.R_reads' hR).2.2; have n1_ : Aside0 (Below w.heap.size w w1) := ⟨below_step (by repeat (first | (with_reducible first | exact HB.out | apply below_alloc | apply pw_below_drewN | apply below_drew1) | exact HB.out)) hb⟩; clear HB; have HB := n1_; clear n1_; clear hR hb W1)) | (go_at_call 36; go_loud ((with_reducible refine (W2.out _ HB.out).mono ?_); rintro e w2 ⟨v2, rfl, ⟨A2, c2, ys, hv_, hC, hm⟩, hb⟩; subst hv_; have HC2 := Aside0.mk hC; have HM := Aside0.mk hm; have n_ := Aside0.mk (Kd.C_below (by first | exact HC1.out | exact Kd.C_alloc HC1.out _) hb); clear HC1; have HC1 := n_; clear n_; have n1_ : Aside0 (Below w.heap.size w w2) := ⟨below_step (by repeat (first | (with_reducible first | exact HB.out | apply below_alloc | apply pw_below_drewN | apply below_drew1) | exact HB.out)) hb⟩; clear HB; have HB := n1_; clear n1_; clear hC hm hb)) | (go_at_call 37; go_loud ((with_reducible refine (samePW _ _ _ _ xs ys _ HC1.out HC2.out HM.out HSM.out).mono ?_); rintro e w3 ⟨rfl, hb⟩; have n_ := Aside0.mk (Kd.C_below (by first | exact HC1.out | exact Kd.C_alloc HC1.out _) hb); clear HC1; have HC1 := n_; clear n_; have n1_ : Aside0 (Below w.heap.size w w3) := ⟨below_step (by repeat (first | (with_reducible first | exact HB.out | apply below_alloc | apply pw_below_drewN | apply below_drew1) | exact HB.out)) hb⟩; clear HB; have HB := n1_; clear n1_; clear hb)) | (go_at_call 38; go_loud ((with_reducible refine (W3.out _ HB.out).mono ?_); rintro e w4 ⟨rfl, hb⟩; have n_ := Aside0.mk (Kd.C_below (by first | exact HC1.out | exact Kd.C_alloc HC1.out _) hb); clear HC1; have HC1 := n_; clear n_; have n1_ : Aside0 (Below w.heap.size w w4) := ⟨below_step (by repeat (first | (with_reducible first | exact HB.out | apply below_alloc | apply pw_below_drewN | apply below_drew1) | exact HB.out)) hb⟩; clear HB; have HB := n1_; clear n1_; clear hb)) | ((with_reducible refine gate_store (p := 7) rfl ?_); go_loud (refine wpList_store_newL (w0 := w4) rfl rfl 38 (.tmp 7) (.tmp 35) rfl #[.int .i64 a, .int .i64 b, .int .i64 d, .int .i64 h] 38 #[.int .i64 0, .int .i64 0, .int .i64 0, .int .i64 0] rfl (by rfl) (by rfl) (by kernel_rfl) rfl (by simp [Value.oneCell']) ?_; intro w5 bk_ hb; have BK5 := Aside0.mk bk_; clear bk_; have n_ := Aside0.mk (Kd.C_below (by first | exact HC1.out | exact Kd.C_alloc HC1.out _) hb); clear HC1; have HC1 := n_; clear n_; have n1_ : Aside0 (Below w.heap.size w w5) := ⟨below_step (by repeat (first | (with_reducible first | exact HB.out | apply below_alloc | apply pw_below_drewN | apply below_drew1) | exact HB.out)) hb⟩; clear HB; have HB := n1_; clear n1_; clear hb; have k0 : w5.cell? ⟨w4.heap.size, 0, none⟩ = some (.int .i64 a) := (blk_cell BK5.out 0).trans rfl; have k1 : w5.cell? ⟨w4.heap.size, 1, none⟩ = some (.int .i64 b) := (blk_cell BK5.out 1).trans rfl; have k2 : w5.cell? ⟨w4.heap.size, 2, none⟩ = some (.int .i64 d) := (blk_cell BK5.out 2).trans rfl; have k3 : w5.cell? ⟨w4.heap.size, 3, none⟩ = some (.int .i64 h) := (blk_cell BK5.out 3).trans rfl)) | (go_at_call 26; go_loud ((with_reducible refine (WR.out _ _ _ HC1.out).mono ?_); rintro e w7 ⟨rfl, hb⟩; have n1_ : Aside0 (Below w.heap.size w w7) := ⟨below_step (by repeat (first | (with_reducible first | exact HB.out | apply below_alloc | apply pw_below_drewN | apply below_drew1) | exact HB.out)) hb⟩; clear HB; have HB := n1_; clear n1_; clear hb)) | (go_at_call 23; go_loud ((with_reducible refine (WA.out _).mono ?_); rintro e w6 ⟨rfl, hb⟩; have n1_ : Aside0 (Below w.heap.size w w6) := ⟨below_step (by repeat (first | (with_reducible first | exact HB.out | apply below_alloc | apply pw_below_drewN | apply below_drew1) | exact HB.out)) hb⟩; clear HB; have HB := n1_; clear n1_; clear hb)))
    go_ret
    exact ⟨rfl, HB.out⟩
end Go.Proofs.Ytdkbhbolkieeiaa.K
namespace Go.Proofs.Ytdkbhbolkieeiaa.K
open Go.RowKit Go.Proofs.YtdkbhbolkieeiaaW.PrintWords Go.Proofs.YtdkbhbolkieeiaaW.PrintLast Go.Proofs.YtdkbhbolkieeiaaW.PrintMore
set_option linter.unusedVariables false
theorem setAtL_parts {l : List Int} {o : Nat} {X : List Int} (h : o + X.length ≤ l.length) : setAtL l o X = l.take o ++ X ++ l.drop (o + X.length) := by
  unfold setAtL
  rw [Nat.min_eq_left (by omega), List.take_length]
theorem geoG_congr {l x : List Int} (hl : x.length = l.length) (ht : x.take 64 = l.take 64) : geoG x = geoG l := by
  have hb : ∀ i, i < 64 → byN x i = byN l i := fun i hi => by
    unfold byN
    rw [List.getD_eq_getElem?_getD, List.getD_eq_getElem?_getD, ← List.getElem?_take_of_lt hi, ht, List.getElem?_take_of_lt hi]
  unfold geoG geoGok
  rw [hl, ht, hb 5 (by omega), hb 6 (by omega), hb 7 (by omega), hb 8 (by omega)]
theorem sealS_head {l : List Int} (h : l.length ≤ 60) : ∃ t, sealS l = l ++ t := by
  unfold sealS seal60
  rw [List.take_of_length_le h, List.append_assoc]
  exact ⟨_, rfl⟩
theorem headN_many {ws : List PW} (h : ws.length < 65536) : (numG (headN ws) 5 2).1 = ws.length := by
  unfold headN
  have e1 : numP magic1 (ws.length : Int) 2 = magic1 ++ leB ws.length 2 := by
    unfold numP
    rw [if_pos (by unfold numR numW; simp; omega)]; rfl
  have e2 : ∃ t, numP (numP magic1 (ws.length : Int) 2) (of02 (recsN ws)) 4 = magic1 ++ leB ws.length 2 ++ t ∧ t.length ≤ 4 := by
    rw [e1]
    unfold numP
    split
    · exact ⟨_, rfl, by rw [leB_length]; exact Nat.le_refl _⟩
    · exact ⟨[], by rw [List.append_nil], by decide⟩
  obtain ⟨t, ht, htl⟩ := e2
  rw [ht]
  obtain ⟨u, hu⟩ := sealS_head (l := magic1 ++ leB ws.length 2 ++ t) (by rw [List.length_append, List.length_append, leB_length]; have : magic1.length = 5 := rfl; omega)
  rw [hu, List.append_assoc]
  have := gN_one (xs := magic1) (a := leB (ws.length : Int) 2) (ys := t ++ u) (i := 5) (s := 2) rfl (leB_length _ _) (by decide)
  unfold gN at this
  rw [show ((5 : Nat) : Int) = 5 from rfl, show ((2 : Nat) : Int) = 2 from rfl] at this
  rw [this, leN_leB 2 _ (by omega) (by omega)]
theorem recN_parts {x : PW} (h0 : 0 ≤ x.1) (h1 : x.1 < 4294967296) (h2 : x.2.length = 64) : (numG (recN x) 0 4).1 = x.1 ∧ (recN x).drop 64 = x.2 := by
  unfold recN
  have e1 : numP [] x.1 4 = leB x.1 4 := by
    unfold numP
    rw [if_pos (by unfold numR numW; simp; omega)]; rfl
  have ew : whole64 x.2 = x.2 := by
    unfold whole64
    rw [List.take_append_of_le_length (by omega), List.take_of_length_le (by omega)]
  refine ⟨?_, ?_⟩
  · obtain ⟨u, hu⟩ := sealS_head (l := leB x.1 4) (by rw [leB_length]; decide)
    rw [e1, hu, List.append_assoc]
    have := gN_two (a := leB x.1 4) (ys := u ++ whole64 x.2) (s := 4) (leB_length _ _) (by decide)
    unfold gN at this
    rw [show ((4 : Nat) : Int) = 4 from rfl] at this
    rw [this, leN_leB 4 _ h0 (by omega)]
  · rw [List.drop_append_of_le_length (by rw [sealS_length]; exact Nat.le_refl _), List.drop_of_length_le (by rw [sealS_length]; exact Nat.le_refl _), List.nil_append, ew]
theorem recsN_append (a b : List PW) : recsN (a ++ b) = recsN a ++ recsN b := by unfold recsN; rw [List.flatMap_append]
theorem wrAt_recs {ws : List PW} (tail : List Int) (hx : ∀ x ∈ ws, (0 ≤ x.1 ∧ x.1 < 4294967296) ∧ x.2.length = 64) {j : Nat} (hj : j < ws.length) : wrAt (recsN ws ++ tail) j = ws[j] := by
  have e : (recsN ws ++ tail).drop (128 * j) = recN ws[j] ++ (recsN (ws.drop (j + 1)) ++ tail) := by
    have h1 : ws = ws.take j ++ ([ws[j]] ++ ws.drop (j + 1)) := by
      rw [List.singleton_append, ← List.drop_eq_getElem_cons hj, List.take_append_drop]
    have h2 : recsN ws = recsN (ws.take j) ++ (recN ws[j] ++ recsN (ws.drop (j + 1))) := by
      conv => lhs; rw [h1]
      rw [recsN_append, recsN_append]
      congr 2
      unfold recsN
      rw [List.flatMap_singleton]
    have hl : (recsN (ws.take j)).length = 128 * j := by rw [recsN_length, List.length_take]; omega
    rw [h2, List.append_assoc, List.drop_append_of_le_length (by omega), List.drop_of_length_le (by omega), List.nil_append, List.append_assoc]
  have e2 : ((recsN ws ++ tail).drop (128 * j)).take 128 = recN ws[j] := by
    rw [e, List.take_append_of_le_length (by rw [recN_length]; exact Nat.le_refl _), List.take_of_length_le (by rw [recN_length]; exact Nat.le_refl _)]
  obtain ⟨h0, h2⟩ := hx _ (List.getElem_mem hj)
  obtain ⟨p1, p2⟩ := recN_parts h0.1 h0.2 h2
  unfold wrAt
  rw [e2, p1, p2]
theorem readN_recs {ws : List PW} (tail : List Int) (hx : ∀ x ∈ ws, (0 ≤ x.1 ∧ x.1 < 4294967296) ∧ x.2.length = 64) : readN (recsN ws ++ tail) ws.length = ws := by
  unfold readN
  apply List.ext_getElem
  · simp
  · intro j h1 h2
    rw [List.getElem_map, List.getElem_finRange]
    exact wrAt_recs tail hx h2
/-- Writes that may be, in numbers. -/
theorem rightP_facts {a b c d : Int} {ws : List PW} (h : rightP a b c d ws = true) : geoOk a b c d = true ∧ ws.length ≠ 0 ∧ (ws.length : Int) ≤ (d - 1) / 2 ∧ ∀ x ∈ ws, (0 ≤ x.1 ∧ x.1 < 4294967296) ∧ x.2.length = 64 := by
  unfold rightP at h
  simp only [Bool.and_eq_true, decide_eq_true_eq, Bool.not_eq_true', List.any_eq_false, Bool.or_eq_true, not_or] at h
  obtain ⟨⟨h1, h2⟩, h3⟩ := h
  have hok : geoOk a b c d = true := by
    cases hg : geoOk a b c d with
    | true => rfl
    | false => unfold capJ at h2; rw [if_neg (by rw [hg]; decide)] at h2; omega
  unfold capJ at h2
  rw [if_pos hok] at h2
  refine ⟨hok, h1, h2, fun x hx => ?_⟩
  obtain ⟨p1, p2⟩ := h3 x hx
  have p2' : geoUp a b c d x.1 = true := by simpa using p2
  have p1' : x.2.length = 64 := by simpa using p1
  refine ⟨?_, p1'⟩
  unfold geoUp at p2'
  simp only [Bool.and_eq_true, win, decide_eq_true_eq] at p2'
  obtain ⟨_, q1, q2⟩ := p2'
  have hp := geoOk_parts hok
  have hm1 : a * (1 + b + c) ≤ 3 * (1 + b + c) := Int.mul_le_mul_of_nonneg_right (by omega) (by omega)
  have hm2 : 0 ≤ a * (1 + b + c) := Int.mul_nonneg (by omega) (by omega)
  have hm3 : (a + 1) * (1 + b + c) ≤ 4 * (1 + b + c) := Int.mul_le_mul_of_nonneg_right (by omega) (by omega)
  rw [geoB_zero hok] at q1
  unfold geoL at q2
  rw [if_pos hok] at q2
  omega
theorem logN_of {l : List Int} {a b d h : Int} {L : Nat} (hG : geoG l = ((a, b, d, h), 0)) (hL1 : geoL a b d h = L) : logN l = L := by unfold logN; rw [hG]; simp only; rw [hL1]; rfl
theorem read_laid {l : List Int} {ws : List PW} (hok : (geoG l).2 = 0) (hr : rightP (geoG l).1.1 (geoG l).1.2.1 (geoG l).1.2.2.1 (geoG l).1.2.2.2 ws = true) :
    readJ (setAtL l (64 * logN l) (headN ws ++ recsN ws)) = (ws, true) ∧ geoG (setAtL l (64 * logN l) (headN ws ++ recsN ws)) = geoG l := by
  obtain ⟨a, b, d, h, L, hG, hgo, hL1, hL2, hlen, h1, h64, hLs⟩ := logFacts hok
  rw [hG] at hr
  simp only at hr
  obtain ⟨_, r1, r2, r3⟩ := rightP_facts hr
  have hL0 : 1 ≤ L := by
    have hp := geoOk_parts hgo
    have hm2 : 0 ≤ (a + 1) * (1 + b + d) := Int.mul_nonneg (by omega) (by omega)
    unfold geoL at hL1
    rw [if_pos hgo] at hL1
    omega
  rw [← hL2]
  have hXl : (headN ws ++ recsN ws).length = 64 + 128 * ws.length := by
    rw [List.length_append, recsN_length]
    unfold headN
    rw [sealS_length]
  have hfit : 64 * L + (headN ws ++ recsN ws).length ≤ l.length := by rw [hXl]; omega
  obtain ⟨x, hx⟩ : ∃ x, x = setAtL l (64 * L) (headN ws ++ recsN ws) := ⟨_, rfl⟩
  rw [← hx]
  have hxl : x.length = l.length := by rw [hx]; exact setAtL_length _ _ _ (by omega)
  have hxp : x = l.take (64 * L) ++ (headN ws ++ recsN ws) ++ l.drop (64 * L + (headN ws ++ recsN ws).length) := by rw [hx]; exact setAtL_parts hfit
  have hxg : geoG x = geoG l := geoG_congr hxl (by
    rw [hxp, List.append_assoc, List.take_append_of_le_length (by rw [List.length_take]; omega), List.take_take, Nat.min_eq_left (by omega)])
  refine ⟨?_, hxg⟩
  have hLx : logN x = L := logN_of (hxg.trans hG) hL1
  have hlog : logB x = headN ws ++ (recsN ws ++ l.drop (64 * L + (headN ws ++ recsN ws).length)) := by
    unfold logB
    rw [hLx, hxp, List.append_assoc, List.drop_append_of_le_length (by rw [List.length_take]; omega), List.drop_of_length_le (by rw [List.length_take]; omega), List.nil_append, List.append_assoc]
  have hH : (headN ws).length = 64 := by unfold headN; exact sealS_length _
  have hhd : headL x = headN ws := by rw [head_log, hlog, List.take_append_of_le_length (by omega), List.take_of_length_le (by omega)]
  have hrs : restL x = recsN ws ++ l.drop (64 * L + (headN ws ++ recsN ws).length) := by rw [rest_log, hlog, List.drop_append_of_le_length (by omega), List.drop_of_length_le (by omega), List.nil_append]
  have hmany : manyL x = ws.length := by unfold manyL; rw [hhd]; exact headN_many (by omega)
  have hws : wsL x = ws := by unfold wsL; rw [hmany, Int.toNat_natCast, hrs]; exact readN_recs _ r3
  have hcap : capL x = capJ a b d h := by unfold capL; rw [hxg, hG]
  have hfitL : fitL x = true := by
    unfold fitL
    rw [hws, hxg, hG]
    simp only
    have e1 : decide (headN ws = headN ws) = true := decide_eq_true (Eq.refl _)
    have e2 : prefB (recsN ws ++ l.drop (64 * L + (headN ws ++ recsN ws).length)) (recsN ws) = true := by
      unfold prefB
      rw [List.take_append_of_le_length (Nat.le_refl _), List.take_length]
      simp
    rw [hr, hhd, hrs, e1, e2]
    rfl
  unfold readJ
  rw [if_pos ⟨by rw [hxg, hG], by rw [hmany]; omega, by rw [hmany, hcap]; unfold capJ; rw [if_pos hgo]; exact r2, hfitL⟩, hws]
theorem read_over {l x : List Int} {Y : List Int} (hok : (geoG l).2 = 0) (hg : geoG x = geoG l) (hxl : x.length = l.length) (hY : Y.length = 64) (hm : (numG Y 5 2).1 = 0) :
    readJ (setAtL x (64 * logN l) Y) = ([], false) ∧ geoG (setAtL x (64 * logN l) Y) = geoG l ∧ (setAtL x (64 * logN l) Y).length = l.length := by
  obtain ⟨a, b, d, h, L, hG, hgo, hL1, hL2, hlen, h1, h64, hLs⟩ := logFacts hok
  have hlen2 := len_ok hlen h1
  have hL0 : 1 ≤ L := by
    have hp := geoOk_parts hgo
    have hm2 : 0 ≤ (a + 1) * (1 + b + d) := Int.mul_nonneg (by omega) (by omega)
    unfold geoL at hL1
    rw [if_pos hgo] at hL1
    omega
  rw [← hL2]
  obtain ⟨y, hy⟩ : ∃ y, y = setAtL x (64 * L) Y := ⟨_, rfl⟩
  rw [← hy]
  have hyl : y.length = l.length := by rw [hy, setAtL_length _ _ _ (by omega)]; exact hxl
  have hyp : y = x.take (64 * L) ++ Y ++ x.drop (64 * L + Y.length) := by rw [hy]; exact setAtL_parts (by omega)
  have hyg : geoG y = geoG l := (geoG_congr (l := x) (by omega) (by
    rw [hyp, List.append_assoc, List.take_append_of_le_length (by rw [List.length_take]; omega), List.take_take, Nat.min_eq_left (by omega)])).trans hg
  refine ⟨?_, hyg, hyl⟩
  have hLy : logN y = L := logN_of (hyg.trans hG) hL1
  have hhd : headL y = Y := by
    rw [head_log]
    unfold logB
    rw [hLy, hyp, List.append_assoc, List.drop_append_of_le_length (by rw [List.length_take]; omega), List.drop_of_length_le (by rw [List.length_take]; omega), List.nil_append, List.take_append_of_le_length (by omega), List.take_of_length_le (by omega)]
  have hmany : manyL y = 0 := by unfold manyL; rw [hhd]; exact hm
  unfold readJ
  rw [if_neg (fun h => h.2.1 hmany)]
theorem empty_many : (numG (sealS magic0) 5 2).1 = 0 := by decide +kernel
theorem zero64_many : (numG (List.replicate (64 : Int).toNat 0) 5 2).1 = 0 := by decide +kernel
end Go.Proofs.Ytdkbhbolkieeiaa.K
