/- Walks and plain laws of this claim, merged: K40f, K40g, K40h, K40i, K40j. -/
import Derived.Test.YtdkbhbolkieeiaaCA
import Derived.Test.YtdkbhbolkieeiaaCF
import Derived.Test.YtdkbhbolkieeiaaCC
import Derived.Test.YtdkbhbolkieeiaaKBlk
import Derived.Test.YtdkbhbolkieeiaaCD
import Derived.Test.YtdkbhbolkieeiaaKBlk2
import Derived.Test.YtdkbhbolkieeiaaKRes
import Derived.Deep.MidRow
namespace Go.Proofs.Ytdkbhbolkieeiaa.K
open Go.RowKit Go.Proofs.YtdkbhbolkieeiaaW.PrintWords Go.Proofs.YtdkbhbolkieeiaaW.PrintLast Go.Proofs.YtdkbhbolkieeiaaW.PrintMore
set_option linter.unusedVariables false
set_option linter.unusedSimpArgs false
theorem inoX_set {a b c d e p0 p1 p2 p3 z v : Value} {k : Nat} (hk : k < 4) : (#[a, b, c, d, e, p0, p1, p2, p3, z] : Array Value).setIfInBounds (5 + k) v = #[a, b, c, d, e, if 0 = k then v else p0, if 1 = k then v else p1, if 2 = k then v else p2, if 3 = k then v else p3, z] := by
  rcases (by omega : k = 0 ∨ k = 1 ∨ k = 2 ∨ k = 3) with rfl | rfl | rfl | rfl <;> rfl
theorem if_int {p : Prop} [Decidable p] (a b : Int) : (if p then Value.int .i64 a else Value.int .i64 b) = Value.int .i64 (if p then a else b) := by split <;> rfl
theorem exec_load40b {P : Program} {ops : Array Oper} {rest : List Oper} {op : Oper} {a : Act} {W : World} {Q : Exit → Act → World → Prop} {v u : Value} (hgd : op.guard = none) (ty : TypeId) (x : Operand) (ho : op.op = .load ty x) (hx : a.eval x = v)
    (h : (Instr.loadAt ty v).run P W = .ok u W) (hk : wpList P ops Q rest (a.put op.dst u) W) : wpList P ops Q (op :: rest) a W :=
  wpList_plain hgd fun _ hK => by
    unfold Oper.wp
    rw [exec_load40 ho hx h]
    exact hK _ _ hk
set_option maxHeartbeats 4000000 in
set_option maxRecDepth 100000 in
theorem sectors_walk (g0 g1 g2 g3 : Int) (ab : Addr) (cb : Nat) (nd : Nat → Nd) (t : Nat → Nat → Bool) (bl : Nat → Nat → List Int) (w0 : World)
    (ht4 : ∀ i, i < 5 → t i 4 = false)
    (hbl : ∀ m, m < 5 → ∀ j, j < 5 → t m j = true → (bl m j).length ≤ 64)
    (hok : ∀ i, i < 5 → inoOk (nd i).kd (nd i).im (nd i).nl (nd i).ge (nd i).n4 (ptrT (t i) (secU t i) 5 0) (ptrT (t i) (secU t i) 5 1) (ptrT (t i) (secU t i) 5 2) (ptrT (t i) (secU t i) 5 3) 0 = true)
    (hg2 : (secU t 5 : Int) ≤ g2) (hg2' : g2 ≤ 65535)
    (hN : ∀ i, i < 5 → ∀ W, Below w0.heap.size w0 W → (Instr.loadAt 129 (.pointer (some (ab.add (i * 13))))).run Try.prog W = .ok (.agg (nd i).vals.toArray) W)
    (hT : ∀ i, i < 5 → ∀ k, k < 5 → ∀ W, Below w0.heap.size w0 W → Calls Try.prog 130 #[.agg (nd i).vals.toArray, .int .i64 (k : Nat)] W fun e w' => e = .returned (.bool (t i k)) ∧ Below W.heap.size W w')
    (hB : ∀ i, i < 5 → ∀ k, k < 5 → t i k = true → ∀ W, Below w0.heap.size w0 W → Calls Try.prog 131 #[.agg (nd i).vals.toArray, .int .i64 (k : Nat)] W fun e w' => ∃ v : Value, e = .returned v ∧ Kd.R (Kd.int .u8) 5 w' W.heap.size (fun _ => True) v (bl i k) ∧ Below W.heap.size W w') :
    Calls Try.prog 119 #[.agg #[.int .i64 g0, .int .i64 g1, .int .i64 g2, .int .i64 g3], .agg #[.slice (some ab) 5 cb]] w0 fun e w' => ∃ v : Value, e = .returned (.tuple #[v, .bool true]) ∧ Kd.R (Kd.int .u8) 5 w' w0.heap.size (fun _ => True) v (secL nd t bl g2.toNat) ∧ Below w0.heap.size w0 w' := by
  have HT4 := Aside0.mk ht4
  have HBL := Aside0.mk hbl
  have HOK := Aside0.mk hok
  have HN := Aside0.mk hN
  have HT := Aside0.mk hT
  have HBK := Aside0.mk hB
  have HG2 := Aside0.mk (And.intro hg2 hg2')
  clear ht4 hbl hok hN hT hB hg2 hg2'
  go_enter Try.func119, Try.ntmps119
  go_upto_region 1 with (fail)
  obtain ⟨w, hw⟩ : ∃ w, w = (w0.alloc (.cells #[.int .i64 g0, .int .i64 g1, .int .i64 g2, .int .i64 g3] 38)).alloc (.cells #[.slice (some ab) 5 cb] 87) := ⟨_, rfl⟩
  refine go_on40 ?_
  rw [← hw]
  have H0 : Aside0 (Below w0.heap.size w0 w) := ⟨by rw [hw]; exact below_alloc (below_alloc (Below.refl _ _) _) _⟩
  have KG : Aside0 (w.cell? ⟨w0.heap.size, 2, none⟩ = some (.int .i64 g2)) := ⟨by rw [hw]; go_simp⟩
  have KB : Aside0 (w.cell? ⟨w0.heap.size + 1, 0, none⟩ = some (.slice (some ab) 5 cb)) := ⟨by rw [hw]; go_simp⟩
  have hlt0 : w0.heap.size + 1 < w.heap.size := by rw [hw]; simp
  clear hw
  have HB := Aside0.mk (Below.refl w.heap.size w)
  go_wp2_with (first | ((with_reducible refine gate_dst (N := 14) rfl ?_); refine Kd.R_lit (Kd.int .u8) _ 5 ?hg (N := 14) ?hd (xs := ([] : List Int)) (inner := []) (ok := fun _ => True) (okp := fun _ => True) ?hr ?hp (fun _ hk => hk) trivial (Below.refl _ _) (Nat.le_refl _) (by simp) ?_; (case hd => rfl); (case hg => rfl); (case hr => first | (go_simp; done) | (go_simp; rfl)); (case hp => exact (Reps.none _ _)); intro v6_ w3 ho4 hb hg_ hnew_; clear hg_ hnew_; have n0_ := Aside0.mk (Kd.R_lower ho4 (below_size (by repeat (first | (with_reducible first | exact HB.out | apply below_alloc | apply pw_below_drewN | apply below_drew1) | exact HB.out)))); have n1_ := Aside0.mk (below_step (by repeat (first | (with_reducible first | exact HB.out | apply below_alloc | apply pw_below_drewN | apply below_drew1) | exact HB.out)) hb); clear HB; have HO6 := n0_; have HB := n1_; clear n0_ n1_; clear hb ho4) | ((with_reducible refine gate_dst (N := 15) rfl ?_); refine Kd.R_lit (Kd.int .u8) _ 5 ?hg (N := 15) ?hd (xs := ([] : List Int)) (inner := []) (ok := fun _ => True) (okp := fun _ => True) ?hr ?hp (fun _ hk => hk) trivial (Below.refl _ _) (Nat.le_refl _) (by simp) ?_; (case hd => rfl); (case hg => rfl); (case hr => first | (go_simp; done) | (go_simp; rfl)); (case hp => exact (Reps.none _ _)); intro v7_ w3 ho4 hb hg_ hnew_; have NE := Aside0.mk (rows_ne1 HO6.out (v7 := .slice none 0 0) (fun b _ h => by simp [Value.ownBlock] at h) (.inr hnew_)); have m_ := Aside0.mk (Kd.R_grown2 HO6.out rfl hg_ (fun k e => by cases e)); clear HO6; have HO6 := m_; clear m_; clear hg_ hnew_; have n0_ := Aside0.mk (Kd.R_lower ho4 (below_size (by repeat (first | (with_reducible first | exact HB.out | apply below_alloc | apply pw_below_drewN | apply below_drew1) | exact HB.out)))); have n1_ := Aside0.mk (below_step (by repeat (first | (with_reducible first | exact HB.out | apply below_alloc | apply pw_below_drewN | apply below_drew1) | exact HB.out)) hb); clear HB; have HO7 := n0_; have HB := n1_; clear n0_ n1_; clear hb ho4) | ((with_reducible refine gate_dst (N := 16) rfl ?_); refine Kd.R_lit Kd.bool _ 4 ?hg (N := 16) ?hd (xs := ([] : List Bool)) (inner := []) (ok := fun _ => True) (okp := fun _ => True) ?hr ?hp (fun _ hk => hk) trivial (Below.refl _ _) (Nat.le_refl _) (by simp) ?_; (case hd => rfl); (case hg => rfl); (case hr => first | (go_simp; done) | (go_simp; rfl)); (case hp => exact (Reps.none _ _)); intro v8_ w3 ho4 hb hg_ hnew_; have m_ := Aside0.mk (Kd.R_grown2 HO6.out rfl hg_ (fun k e => by cases e)); clear HO6; have HO6 := m_; clear m_; have m_ := Aside0.mk (Kd.R_grown2 HO7.out rfl hg_ (fun k e => by cases e)); clear HO7; have HO7 := m_; clear m_; clear hg_ hnew_; have n0_ := Aside0.mk (Kd.R_lower ho4 (below_size (by repeat (first | (with_reducible first | exact HB.out | apply below_alloc | apply pw_below_drewN | apply below_drew1) | exact HB.out)))); have n1_ := Aside0.mk (below_step (by repeat (first | (with_reducible first | exact HB.out | apply below_alloc | apply pw_below_drewN | apply below_drew1) | exact HB.out)) hb); clear HB; have HO8 := n0_; have HB := n1_; clear n0_ n1_; clear hb ho4))
  have HR3 : Aside0 (Rows3 w w3 v6_ v7_ v8_ (secI nd t 0) (secB t bl 0) (List.replicate (secU t 0) true)) := ⟨⟨HO6.out, HO7.out, HO8.out, NE.out, HB.out⟩⟩
  clear HO6 HO7 HO8 NE HB
  go_loopw [6, 7, 8, 9] (fun v6 v7 v8 v9 w' => ∃ i : Nat, v9 = .int .i64 i ∧ Aside0 (i ≤ 5) ∧ Aside0 (Rows3 w w' v6 v7 v8 (secI nd t i) (secB t bl i) (List.replicate (secU t i) true))) (fun _ _ _ v _ => 5 - (intOf v).toNat)
  case atStart => exact ⟨0, rfl, ⟨by omega⟩, HR3⟩
  case round =>
    clear HR3
    obtain ⟨i, rfl, hi, HR3⟩ := hrel
    obtain ⟨wo, rfl⟩ : ∃ wo : World, wo = wr := ⟨wr, rfl⟩
    have hi' := hi.out
    have y0 := pw_cell_below HR3.out.hb KB.out
    by_cases hlt : i < 5
    · have hlt' : (i : Int) < 5 := by omega
      obtain ⟨x, hx⟩ : ∃ x, x = nd i := ⟨_, rfl⟩
      have hld := HN.out i hlt wo (below_step H0.out HR3.out.hb)
      have HIO := Aside0.mk (HOK.out i hlt)
      have EI : Aside0 (secI nd t (i + 1) = secI nd t i ++ inoT nd t i 5) := ⟨rfl⟩
      have EB : Aside0 (secB t bl (i + 1) = secB t bl i ++ blkT (t i) (bl i) 5) := ⟨rfl⟩
      have EU : Aside0 (secU t (i + 1) = secU t i + cntT (t i) 5) := ⟨rfl⟩
      have ET : Aside0 (inoT nd t i 5 = inoP (nd i).kd (nd i).im (nd i).nl (nd i).ge (nd i).n4 (ptrT (t i) (secU t i) 5 0) (ptrT (t i) (secU t i) 5 1) (ptrT (t i) (secU t i) 5 2) (ptrT (t i) (secU t i) 5 3) 0) := ⟨rfl⟩
      have WTi := Aside0.mk (HT.out i hlt)
      have WBi := Aside0.mk (HBK.out i hlt)
      have HT4i := Aside0.mk (HT4.out i hlt)
      have HBLi := Aside0.mk (HBL.out i hlt)
      have LB : Aside0 ((secB t bl i).length ≤ 1600) := ⟨Nat.le_trans (secB_len i (fun m hm => HBL.out m (by omega))) (by omega)⟩
      have LI : Aside0 ((secI nd t i).length ≤ 320) := ⟨Nat.le_trans (secI_len i (fun m hm => Nat.le_of_eq (inoP_length (HOK.out m (by omega))))) (by omega)⟩
      have LU : Aside0 (secU t i ≤ 25) := ⟨Nat.le_trans (secU_le t i) (by omega)⟩
      rw [← hx] at hld HIO ET WTi WBi
      clear hx
      obtain ⟨kd, im, nl, ge, A4, n4, c4, A5, n5, c5⟩ := x
      simp only [Nd.vals] at hld HIO ET WTi WBi
      obtain ⟨I, hI⟩ : ∃ I, I = secI nd t i := ⟨_, rfl⟩
      obtain ⟨B0, hB0⟩ : ∃ I, I = secB t bl i := ⟨_, rfl⟩
      obtain ⟨u, hu⟩ : ∃ I, I = secU t i := ⟨_, rfl⟩
      obtain ⟨ti, hti⟩ : ∃ I, I = t i := ⟨_, rfl⟩
      obtain ⟨bi, hbi⟩ : ∃ I, I = bl i := ⟨_, rfl⟩
      simp only [← hI, ← hB0, ← hu, ← hti, ← hbi] at HR3 HIO EI EB EU ET WTi WBi HT4i HBLi LB LI LU
      clear hI hB0 hu hti hbi
      have HRB : Aside0 (w.heap.size ≤ wo.heap.size) := ⟨HR3.out.hb.size⟩
      go_wp2_with (first | ((with_reducible refine gate_dst (N := 28) rfl ?_); refine exec_load40b rfl 129 (.tmp 27) rfl rfl hld ?_) | ((with_reducible refine gate_store (p := 10) rfl ?_); go_loud (refine wpList_store_newL (w0 := wo) rfl rfl 129 (.tmp 10) (.tmp 28) rfl #[.int .i64 kd, .int .i64 im, .int .i64 nl, .int .i64 ge, .slice A4 n4 c4, .slice A5 n5 c5, .int .i64 0, .int .i64 0, .string ⟨#[]⟩, .int .i64 0, .int .i64 0, .int .i64 0, .int .i64 0] 129 #[.int .i64 0, .int .i64 0, .int .i64 0, .int .i64 0, .slice none 0 0, .slice none 0 0, .int .i64 0, .int .i64 0, .string ⟨#[]⟩, .int .i64 0, .int .i64 0, .int .i64 0, .int .i64 0] rfl (by rfl) (by rfl) (by kernel_rfl) rfl (by simp [Value.oneCell']) ?_; intro w6 bk_ hb; have BK6 := Aside0.mk bk_; clear bk_; have n_ := Aside0.mk (HR3.out.below hb); clear HR3; have HR3 := n_; clear n_; skip; clear hb; have nn0 : w6.cell? ⟨wo.heap.size, 0, none⟩ = some (.int .i64 kd) := (blk_cell BK6.out 0).trans rfl; have nn1 : w6.cell? ⟨wo.heap.size, 1, none⟩ = some (.int .i64 im) := (blk_cell BK6.out 1).trans rfl; have nn2 : w6.cell? ⟨wo.heap.size, 2, none⟩ = some (.int .i64 nl) := (blk_cell BK6.out 2).trans rfl; have nn3 : w6.cell? ⟨wo.heap.size, 3, none⟩ = some (.int .i64 ge) := (blk_cell BK6.out 3).trans rfl; have nn4 : w6.cell? ⟨wo.heap.size, 4, none⟩ = some (.slice A4 n4 c4) := (blk_cell BK6.out 4).trans rfl; have nn5 : w6.cell? ⟨wo.heap.size, 5, none⟩ = some (.slice A5 n5 c5) := (blk_cell BK6.out 5).trans rfl; have BKA_ := Aside0.mk (blk_lt BK6.out))) | ((with_reducible refine gate_store (p := 11) rfl ?_); go_loud (refine wpList_store_newL (w0 := w6) rfl rfl 70 (.tmp 11) (.tmp 40) rfl #[.int .i64 kd, .int .i64 im, .int .i64 nl, .int .i64 ge, .int .i64 n4, .int .i64 0, .int .i64 0, .int .i64 0, .int .i64 0, .int .i64 0] 70 #[.int .i64 0, .int .i64 0, .int .i64 0, .int .i64 0, .int .i64 0, .int .i64 0, .int .i64 0, .int .i64 0, .int .i64 0, .int .i64 0] rfl (by rfl) (by rfl) (by kernel_rfl) rfl (by simp [Value.oneCell']) ?_; intro w7 bk_ hb; have BK7 := Aside0.mk bk_; clear bk_; have n_ := Aside0.mk (HR3.out.below hb); clear HR3; have HR3 := n_; clear n_; have n_ := Aside0.mk (blk_below (by first | exact BK6.out | exact blk_drewN BK6.out _ | exact blk_alloc BK6.out _) hb); clear BK6; have BK6 := n_; clear n_; skip; clear hb)))
      have BN := BK6
      have BX := BK7
      have HGX : Aside0 (wo.heap.size < w6.heap.size ∧ w.heap.size ≤ wo.heap.size) := ⟨BKA_.out, HRB.out⟩
      clear y0 hld
      go_loopw [7, 8, 12] (fun v7 v8 v12 w' => ∃ k : Nat, v12 = .int .i64 k ∧ Aside0 (k ≤ 5) ∧ Aside0 (Rows3 w w' u6 v7 v8 I (B0 ++ blkT ti bi k) (List.replicate (u + cntT ti k) true)) ∧ Aside0 (w'.heap[wo.heap.size]? = some (.cells #[.int .i64 kd, .int .i64 im, .int .i64 nl, .int .i64 ge, .slice A4 n4 c4, .slice A5 n5 c5, .int .i64 0, .int .i64 0, .string ⟨#[]⟩, .int .i64 0, .int .i64 0, .int .i64 0, .int .i64 0] 129 (0, 0))) ∧ Aside0 (w'.heap[w6.heap.size]? = some (.cells #[.int .i64 kd, .int .i64 im, .int .i64 nl, .int .i64 ge, .int .i64 n4, .int .i64 (ptrT ti u k 0), .int .i64 (ptrT ti u k 1), .int .i64 (ptrT ti u k 2), .int .i64 (ptrT ti u k 3), .int .i64 0] 70 (0, 0)))) (fun _ _ v _ => 5 - (intOf v).toNat)
      case atStart => exact ⟨0, rfl, ⟨by omega⟩, ⟨by rw [show blkT ti bi 0 = [] from rfl, List.append_nil]; exact HR3.out⟩, BN, BX⟩
      case round =>
        clear HR3 BN BX
        obtain ⟨k, rfl, hk, HR3, BN, BX⟩ := hrel
        have hk' := hk.out
        by_cases hkl : k < 5
        · have hkl' : (k : Int) < 5 := by omega
          have k0 : wr.cell? ⟨wo.heap.size, 0, none⟩ = some (.int .i64 kd) := (blk_cell BN.out 0).trans rfl; have k1 : wr.cell? ⟨wo.heap.size, 1, none⟩ = some (.int .i64 im) := (blk_cell BN.out 1).trans rfl; have k2 : wr.cell? ⟨wo.heap.size, 2, none⟩ = some (.int .i64 nl) := (blk_cell BN.out 2).trans rfl; have k3 : wr.cell? ⟨wo.heap.size, 3, none⟩ = some (.int .i64 ge) := (blk_cell BN.out 3).trans rfl; have k4 : wr.cell? ⟨wo.heap.size, 4, none⟩ = some (.slice A4 n4 c4) := (blk_cell BN.out 4).trans rfl; have k5 : wr.cell? ⟨wo.heap.size, 5, none⟩ = some (.slice A5 n5 c5) := (blk_cell BN.out 5).trans rfl; have k6 : wr.cell? ⟨wo.heap.size, 6, none⟩ = some (.int .i64 0) := (blk_cell BN.out 6).trans rfl; have k7 : wr.cell? ⟨wo.heap.size, 7, none⟩ = some (.int .i64 0) := (blk_cell BN.out 7).trans rfl; have k8 : wr.cell? ⟨wo.heap.size, 8, none⟩ = some (.string ⟨#[]⟩) := (blk_cell BN.out 8).trans rfl; have k9 : wr.cell? ⟨wo.heap.size, 9, none⟩ = some (.int .i64 0) := (blk_cell BN.out 9).trans rfl; have k10 : wr.cell? ⟨wo.heap.size, 10, none⟩ = some (.int .i64 0) := (blk_cell BN.out 10).trans rfl; have k11 : wr.cell? ⟨wo.heap.size, 11, none⟩ = some (.int .i64 0) := (blk_cell BN.out 11).trans rfl; have k12 : wr.cell? ⟨wo.heap.size, 12, none⟩ = some (.int .i64 0) := (blk_cell BN.out 12).trans rfl
          have WT := Aside0.mk (WTi.out k hkl)
          have EC : Aside0 (cntT ti (k + 1) = cntT ti k + if ti k then 1 else 0) := ⟨rfl⟩
          have EK : Aside0 (blkT ti bi (k + 1) = blkT ti bi k ++ if ti k then bi k else []) := ⟨rfl⟩
          have EP1 := Aside0.mk (fun h => ptrT_yes (t := ti) (u := u) (k := k) h)
          have EP0 := Aside0.mk (fun h => ptrT_no (t := ti) (u := u) (k := k) h)
          cases hc : ti k with
          | false =>
            rw [hc] at WT EC EK
            have EP := Aside0.mk (EP0.out hc)
            clear hc EP0 EP1
            go_wp2_with (first | (go_at_call 130; go_loud ((with_reducible refine (WT.out _ (below_step H0.out HR3.out.hb)).mono ?_); rintro e w8 ⟨rfl, hb⟩; have n_ := Aside0.mk (HR3.out.below hb); clear HR3; have HR3 := n_; clear n_; have n_ := Aside0.mk (blk_below BN.out hb); clear BN; have BN := n_; clear n_; have n_ := Aside0.mk (blk_below BX.out hb); clear BX; have BX := n_; clear n_; have q0 : w8.cell? ⟨wo.heap.size, 0, none⟩ = some (.int .i64 kd) := (blk_cell BN.out 0).trans rfl; have q1 : w8.cell? ⟨wo.heap.size, 1, none⟩ = some (.int .i64 im) := (blk_cell BN.out 1).trans rfl; have q2 : w8.cell? ⟨wo.heap.size, 2, none⟩ = some (.int .i64 nl) := (blk_cell BN.out 2).trans rfl; have q3 : w8.cell? ⟨wo.heap.size, 3, none⟩ = some (.int .i64 ge) := (blk_cell BN.out 3).trans rfl; have q4 : w8.cell? ⟨wo.heap.size, 4, none⟩ = some (.slice A4 n4 c4) := (blk_cell BN.out 4).trans rfl; have q5 : w8.cell? ⟨wo.heap.size, 5, none⟩ = some (.slice A5 n5 c5) := (blk_cell BN.out 5).trans rfl; have q6 : w8.cell? ⟨wo.heap.size, 6, none⟩ = some (.int .i64 0) := (blk_cell BN.out 6).trans rfl; have q7 : w8.cell? ⟨wo.heap.size, 7, none⟩ = some (.int .i64 0) := (blk_cell BN.out 7).trans rfl; have q8 : w8.cell? ⟨wo.heap.size, 8, none⟩ = some (.string ⟨#[]⟩) := (blk_cell BN.out 8).trans rfl; have q9 : w8.cell? ⟨wo.heap.size, 9, none⟩ = some (.int .i64 0) := (blk_cell BN.out 9).trans rfl; have q10 : w8.cell? ⟨wo.heap.size, 10, none⟩ = some (.int .i64 0) := (blk_cell BN.out 10).trans rfl; have q11 : w8.cell? ⟨wo.heap.size, 11, none⟩ = some (.int .i64 0) := (blk_cell BN.out 11).trans rfl; have q12 : w8.cell? ⟨wo.heap.size, 12, none⟩ = some (.int .i64 0) := (blk_cell BN.out 12).trans rfl; clear hb)))
            refine ⟨⟨k + 1, rfl, ⟨by omega⟩, ⟨by rw [EK.out, EC.out]; simpa using HR3.out⟩, BN, ⟨by rw [EP.out, EP.out, EP.out, EP.out]; exact BX.out⟩⟩, by simp [intOf]; omega⟩
          | true =>
            have hk4 : k ≠ 4 := fun e => by rw [e, HT4i.out] at hc; cases hc
            have hkb : ((k : Int) == 4) = false := by simp; omega
            have WB := Aside0.mk (WBi.out k hkl hc)
            have hbl := Aside0.mk (HBLi.out k hkl hc)
            have EP := Aside0.mk (EP1.out hc)
            have LBk : Aside0 ((B0 ++ blkT ti bi k).length ≤ 2000) := ⟨by have h1_ := LB.out; have h2_ := blkT_len (t := ti) (bl := bi) k (fun j hj h => HBLi.out j (by omega) h); rw [List.length_append]; omega⟩
            have LUk : Aside0 (u + cntT ti k ≤ 30) := ⟨by have h1_ := LU.out; have h2_ := cntT_le ti k; omega⟩
            rw [hc] at WT EC EK
            obtain ⟨cn, hcn⟩ : ∃ n, n = u + cntT ti k := ⟨_, rfl⟩
            have ECN := Aside0.mk hcn
            rw [← hcn] at HR3 LUk
            obtain ⟨Us, hUs⟩ : ∃ l, l = List.replicate cn true := ⟨_, rfl⟩
            have EUS : Aside0 (Us ++ [true] = List.replicate (cn + 1) true) := ⟨by rw [hUs, List.replicate_succ']⟩
            have hUl : Aside0 (Us.length ≤ 30) := ⟨by rw [hUs, List.length_replicate]; exact LUk.out⟩
            have hUn : Aside0 (Us.length = cn) := ⟨by rw [hUs, List.length_replicate]⟩
            obtain ⟨B, hBe⟩ : ∃ l, l = B0 ++ blkT ti bi k := ⟨_, rfl⟩
            have EBK : Aside0 (B0 ++ (blkT ti bi k ++ bi k) = B ++ bi k) := ⟨by rw [hBe, List.append_assoc]⟩
            obtain ⟨b_, hb_⟩ : ∃ l, l = bi k := ⟨_, rfl⟩
            obtain ⟨p0, hp0⟩ : ∃ l, l = ptrT ti u k 0 := ⟨_, rfl⟩
            obtain ⟨p1, hp1⟩ : ∃ l, l = ptrT ti u k 1 := ⟨_, rfl⟩
            obtain ⟨p2, hp2⟩ : ∃ l, l = ptrT ti u k 2 := ⟨_, rfl⟩
            obtain ⟨p3, hp3⟩ : ∃ l, l = ptrT ti u k 3 := ⟨_, rfl⟩
            have PX : Aside0 (ptrT ti u (k + 1) 0 = (if 0 = k then ((cn + 1 : Nat) : Int) else p0) ∧ ptrT ti u (k + 1) 1 = (if 1 = k then ((cn + 1 : Nat) : Int) else p1) ∧ ptrT ti u (k + 1) 2 = (if 2 = k then ((cn + 1 : Nat) : Int) else p2) ∧ ptrT ti u (k + 1) 3 = (if 3 = k then ((cn + 1 : Nat) : Int) else p3)) := ⟨by rw [EP.out, EP.out, EP.out, EP.out, hp0, hp1, hp2, hp3, hcn]; exact ⟨rfl, rfl, rfl, rfl⟩⟩
            have HBb := Aside0.mk hb_
            rw [← hUs, ← hBe] at HR3
            rw [← hBe] at LBk
            rw [← hb_] at WB hbl EBK
            rw [← hp0, ← hp1, ← hp2, ← hp3] at BX
            have hBl := LBk
            obtain ⟨A8, c8, hv8⟩ := Kd.R_slice HR3.out.r8
            subst hv8
            clear hc EP0 EP1 EP hcn hUs hBe hp0 hp1 hp2 hp3 hb_
            have hk4l : Aside0 (k < 4) := ⟨by omega⟩
            go_wp2_with (first | (go_at_call 130; go_loud ((with_reducible refine (WT.out _ (below_step H0.out HR3.out.hb)).mono ?_); rintro e w8 ⟨rfl, hb⟩; have n_ := Aside0.mk (HR3.out.below hb); clear HR3; have HR3 := n_; clear n_; have n_ := Aside0.mk (blk_below BN.out hb); clear BN; have BN := n_; clear n_; have n_ := Aside0.mk (blk_below BX.out hb); clear BX; have BX := n_; clear n_; have q0 : w8.cell? ⟨wo.heap.size, 0, none⟩ = some (.int .i64 kd) := (blk_cell BN.out 0).trans rfl; have q1 : w8.cell? ⟨wo.heap.size, 1, none⟩ = some (.int .i64 im) := (blk_cell BN.out 1).trans rfl; have q2 : w8.cell? ⟨wo.heap.size, 2, none⟩ = some (.int .i64 nl) := (blk_cell BN.out 2).trans rfl; have q3 : w8.cell? ⟨wo.heap.size, 3, none⟩ = some (.int .i64 ge) := (blk_cell BN.out 3).trans rfl; have q4 : w8.cell? ⟨wo.heap.size, 4, none⟩ = some (.slice A4 n4 c4) := (blk_cell BN.out 4).trans rfl; have q5 : w8.cell? ⟨wo.heap.size, 5, none⟩ = some (.slice A5 n5 c5) := (blk_cell BN.out 5).trans rfl; have q6 : w8.cell? ⟨wo.heap.size, 6, none⟩ = some (.int .i64 0) := (blk_cell BN.out 6).trans rfl; have q7 : w8.cell? ⟨wo.heap.size, 7, none⟩ = some (.int .i64 0) := (blk_cell BN.out 7).trans rfl; have q8 : w8.cell? ⟨wo.heap.size, 8, none⟩ = some (.string ⟨#[]⟩) := (blk_cell BN.out 8).trans rfl; have q9 : w8.cell? ⟨wo.heap.size, 9, none⟩ = some (.int .i64 0) := (blk_cell BN.out 9).trans rfl; have q10 : w8.cell? ⟨wo.heap.size, 10, none⟩ = some (.int .i64 0) := (blk_cell BN.out 10).trans rfl; have q11 : w8.cell? ⟨wo.heap.size, 11, none⟩ = some (.int .i64 0) := (blk_cell BN.out 11).trans rfl; have q12 : w8.cell? ⟨wo.heap.size, 12, none⟩ = some (.int .i64 0) := (blk_cell BN.out 12).trans rfl; clear hb)) | ((with_reducible refine gate_builtin (b := .append) (xs := #[.tmp 49, .tmp 50]) rfl ?_); at_builtin; go_loud (refine Kd.R_append Kd.bool (w0 := w) w.heap.size rfl (.tmp 49) (.tmp 50) 33 4 (.bool false) 1 rfl Try.underlying33 boolinfo rfl (by decide) (by omega) _ Us true [.bool true] (fun _ => True) (fun _ => False) rfl rfl ?aP (fun _ hk => hk.elim) ?aF ?aO ?aB ?aS ?aL ?_; (case aP => exact rfl); (case aB => exact (by (with_reducible repeat (first | apply below_alloc | apply pw_below_drewN | apply below_drew1)); exact HR3.out.hb)); (case aF => exact (fun _ _ => trivial)); (case aO => exact (by (with_reducible repeat (first | apply Kd.R_alloc | apply Kd.R_drewN | apply Kd.R_drew)); exact HR3.out.r8)); (case aS => exact (below_size (by (with_reducible repeat (first | apply below_alloc | apply pw_below_drewN | apply below_drew1)); exact HR3.out.hb))); (case aL => have := hUl.out; omega); intro v9 w9 ho hb hg hat; have n_ := Aside0.mk (HR3.out.grow8 ho hb hg); have m_ := Aside0.mk (blk_row HR3.out.r8 BN.out (by decide) hg); have q_ := Aside0.mk (blk_row HR3.out.r8 BX.out (by decide) hg); clear HR3 BN BX; have HR3 := n_; have BN := m_; have BX := q_; clear n_ m_ q_; obtain ⟨A9, c9, hv9⟩ := Kd.R_slice ho; subst hv9; have pp0 : w9.cell? ⟨wo.heap.size, 0, none⟩ = some (.int .i64 kd) := (blk_cell BN.out 0).trans rfl; have pp1 : w9.cell? ⟨wo.heap.size, 1, none⟩ = some (.int .i64 im) := (blk_cell BN.out 1).trans rfl; have pp2 : w9.cell? ⟨wo.heap.size, 2, none⟩ = some (.int .i64 nl) := (blk_cell BN.out 2).trans rfl; have pp3 : w9.cell? ⟨wo.heap.size, 3, none⟩ = some (.int .i64 ge) := (blk_cell BN.out 3).trans rfl; have pp4 : w9.cell? ⟨wo.heap.size, 4, none⟩ = some (.slice A4 n4 c4) := (blk_cell BN.out 4).trans rfl; have pp5 : w9.cell? ⟨wo.heap.size, 5, none⟩ = some (.slice A5 n5 c5) := (blk_cell BN.out 5).trans rfl; have pp6 : w9.cell? ⟨wo.heap.size, 6, none⟩ = some (.int .i64 0) := (blk_cell BN.out 6).trans rfl; have pp7 : w9.cell? ⟨wo.heap.size, 7, none⟩ = some (.int .i64 0) := (blk_cell BN.out 7).trans rfl; have pp8 : w9.cell? ⟨wo.heap.size, 8, none⟩ = some (.string ⟨#[]⟩) := (blk_cell BN.out 8).trans rfl; have pp9 : w9.cell? ⟨wo.heap.size, 9, none⟩ = some (.int .i64 0) := (blk_cell BN.out 9).trans rfl; have pp10 : w9.cell? ⟨wo.heap.size, 10, none⟩ = some (.int .i64 0) := (blk_cell BN.out 10).trans rfl; have pp11 : w9.cell? ⟨wo.heap.size, 11, none⟩ = some (.int .i64 0) := (blk_cell BN.out 11).trans rfl; have pp12 : w9.cell? ⟨wo.heap.size, 12, none⟩ = some (.int .i64 0) := (blk_cell BN.out 12).trans rfl; clear ho hb hg hat)) | (go_at_call 131; go_loud ((with_reducible refine (WB.out _ (below_step H0.out HR3.out.hb)).mono ?_); rintro e w10 ⟨v10, rfl, ho, hb⟩; obtain ⟨A10, c10, hv10⟩ := Kd.R_slice ho; subst hv10; have HC10 := Aside0.mk (Kd.R_reads' ho).2.2; have n_ := Aside0.mk (HR3.out.below hb); clear HR3; have HR3 := n_; clear n_; have n_ := Aside0.mk (blk_below BN.out hb); clear BN; have BN := n_; clear n_; have n_ := Aside0.mk (blk_below BX.out hb); clear BX; have BX := n_; clear n_; clear ho hb)) | ((with_reducible refine gate_builtin (b := .append) (xs := #[.tmp 52, .tmp 55]) rfl ?_); at_builtin; go_loud (refine Kd.R_append_rows (Kd.int .u8) (w0 := w) w.heap.size rfl (.tmp 52) (.tmp 55) 44 5 (.int .u8 0) 1 rfl Try.underlying44 u8info rfl (by decide) (by omega) _ B b_ _ _ _ (fun _ => True) (fun _ => False) rfl rfl ?aO ?aR (fun _ _ h => h) (fun _ h => h.elim) ?aF ?aB ?aS ?aL ?_; (case aR => exact HC10.out); (case aB => exact (by (with_reducible repeat (first | apply below_alloc | apply pw_below_drewN | apply below_drew1)); exact HR3.out.hb)); (case aF => exact (fun _ _ => trivial)); (case aO => exact (by (with_reducible repeat (first | apply Kd.R_alloc | apply Kd.R_drewN | apply Kd.R_drew)); exact HR3.out.r7)); (case aS => exact (below_size (by (with_reducible repeat (first | apply below_alloc | apply pw_below_drewN | apply below_drew1)); exact HR3.out.hb))); (case aL => have := hBl.out; have := hbl.out; omega); intro v11 w11 ho hb hg hat; have n_ := Aside0.mk (HR3.out.grow7 ho hb hg hat); have m_ := Aside0.mk (blk_row HR3.out.r7 BN.out (by decide) hg); have q_ := Aside0.mk (blk_row HR3.out.r7 BX.out (by decide) hg); clear HR3 BN BX; have HR3 := n_; have BN := m_; have BX := q_; clear n_ m_ q_; clear ho hb hg hat)) | ((with_reducible refine gate_store (p := 66) rfl ?_); go_loud (refine wpList_store_blk rfl rfl 3 (.tmp 66) (.tmp 64) rfl w6.heap.size (5 + k) (.int .i64 ((Us.length : Int) + 1)) rfl rfl rfl (by kernel_rfl) (cs := #[.int .i64 kd, .int .i64 im, .int .i64 nl, .int .i64 ge, .int .i64 n4, .int .i64 p0, .int .i64 p1, .int .i64 p2, .int .i64 p3, .int .i64 0]) (t := 70) BX.out (show 5 + k < 10 by have := hk4l.out; omega) ?_; intro w12 bk_ hg_; have n_ := Aside0.mk (HR3.out.other BX.out (by decide) (by decide) (by have := HGX.out; omega) hg_); have m_ := Aside0.mk (blk_grown BN.out hg_ (by have := HGX.out; intro e; have := Option.some.inj e; omega)); have q_ := Aside0.mk bk_; clear HR3 BN BX bk_ hg_; have HR3 := n_; have BN := m_; have BX := q_; clear n_ m_ q_)))
            have hlen : ((Us.length : Int) + 1) = ((cn + 1 : Nat) : Int) := by rw [hUn.out]; omega
            rw [inoX_set hk4l.out, hlen, if_int, if_int, if_int, if_int, ← PX.out.1, ← PX.out.2.1, ← PX.out.2.2.1, ← PX.out.2.2.2] at BX
            have ER : List.replicate (u + cntT ti (k + 1)) true = Us ++ [true] := by rw [EUS.out, EC.out, ECN.out]; rfl
            have EB2 : B0 ++ blkT ti bi (k + 1) = B ++ b_ := by rw [EK.out, if_pos (by trivial), ← HBb.out, EBK.out]
            refine ⟨⟨k + 1, rfl, ⟨by omega⟩, ⟨by rw [ER, EB2]; have h_ := HR3.out; rw [List.length_append] at h_; exact h_⟩, BN, BX⟩, by simp [intOf]; omega⟩
        · have hk5 : k = 5 := by omega
          subst hk5
          have BX0 := BX.out
          have ZI := Aside0.mk HIO.out
          have WI : Aside0 (∀ W, Calls Try.prog 112 #[.agg #[.int .i64 kd, .int .i64 im, .int .i64 nl, .int .i64 ge, .int .i64 n4, .int .i64 (ptrT ti u 5 0), .int .i64 (ptrT ti u 5 1), .int .i64 (ptrT ti u 5 2), .int .i64 (ptrT ti u 5 3), .int .i64 0]] W fun e w' => ∃ v : Value, e = .returned v ∧ Kd.R (Kd.int .u8) 5 w' W.heap.size (fun _ => True) v (inoT nd t i 5) ∧ Below W.heap.size W w') := ⟨fun W => by rw [ET.out]; exact rBytes07_walk _ _ _ _ _ _ _ _ _ _ W HIO.out⟩
          have HIL : Aside0 ((inoT nd t i 5).length ≤ 64) := ⟨by rw [ET.out]; exact Nat.le_of_eq (inoP_length HIO.out)⟩
          have EBB := EB
          have EUU := EU
          rw [← EB.out, ← EU.out] at HR3
          obtain ⟨J, hJ⟩ : ∃ l, l = inoT nd t i 5 := ⟨_, rfl⟩
          rw [← hJ] at WI EI HIL
          obtain ⟨q0, hq0⟩ : ∃ l, l = ptrT ti u 5 0 := ⟨_, rfl⟩
          obtain ⟨q1, hq1⟩ : ∃ l, l = ptrT ti u 5 1 := ⟨_, rfl⟩
          obtain ⟨q2, hq2⟩ : ∃ l, l = ptrT ti u 5 2 := ⟨_, rfl⟩
          obtain ⟨q3, hq3⟩ : ∃ l, l = ptrT ti u 5 3 := ⟨_, rfl⟩
          rw [← hq0, ← hq1, ← hq2, ← hq3] at WI BX
          have z0 : wr.cell? ⟨w6.heap.size, 0, none⟩ = some (.int .i64 kd) := (blk_cell BX.out 0).trans rfl; have z1 : wr.cell? ⟨w6.heap.size, 1, none⟩ = some (.int .i64 im) := (blk_cell BX.out 1).trans rfl; have z2 : wr.cell? ⟨w6.heap.size, 2, none⟩ = some (.int .i64 nl) := (blk_cell BX.out 2).trans rfl; have z3 : wr.cell? ⟨w6.heap.size, 3, none⟩ = some (.int .i64 ge) := (blk_cell BX.out 3).trans rfl; have z4 : wr.cell? ⟨w6.heap.size, 4, none⟩ = some (.int .i64 n4) := (blk_cell BX.out 4).trans rfl; have z5 : wr.cell? ⟨w6.heap.size, 5, none⟩ = some (.int .i64 q0) := (blk_cell BX.out 5).trans rfl; have z6 : wr.cell? ⟨w6.heap.size, 6, none⟩ = some (.int .i64 q1) := (blk_cell BX.out 6).trans rfl; have z7 : wr.cell? ⟨w6.heap.size, 7, none⟩ = some (.int .i64 q2) := (blk_cell BX.out 7).trans rfl; have z8 : wr.cell? ⟨w6.heap.size, 8, none⟩ = some (.int .i64 q3) := (blk_cell BX.out 8).trans rfl; have z9 : wr.cell? ⟨w6.heap.size, 9, none⟩ = some (.int .i64 0) := (blk_cell BX.out 9).trans rfl
          clear hJ hq0 hq1 hq2 hq3 ET HIO BX0 ZI
          go_wp2_with (first | (go_at_call 112; go_loud ((with_reducible refine (WI.out _).mono ?_); rintro e w10 ⟨v10, rfl, ho, hb⟩; obtain ⟨A10, c10, hv10⟩ := Kd.R_slice ho; subst hv10; have HC10 := Aside0.mk (Kd.R_reads' ho).2.2; have n_ := Aside0.mk (HR3.out.below hb); clear HR3; have HR3 := n_; clear n_; clear ho hb)) | ((with_reducible refine gate_builtin (b := .append) (xs := #[.tmp 67, .tmp 69]) rfl ?_); at_builtin; go_loud (refine Kd.R_append_rows (Kd.int .u8) (w0 := w) w.heap.size rfl (.tmp 67) (.tmp 69) 44 5 (.int .u8 0) 1 rfl Try.underlying44 u8info rfl (by decide) (by omega) _ I J _ _ _ (fun _ => True) (fun _ => False) rfl rfl ?aO ?aR (fun _ _ h => h) (fun _ h => h.elim) ?aF ?aB ?aS ?aL ?_; (case aR => exact HC10.out); (case aB => exact (by (with_reducible repeat (first | apply below_alloc | apply pw_below_drewN | apply below_drew1)); exact HR3.out.hb)); (case aF => exact (fun _ _ => trivial)); (case aO => exact (by (with_reducible repeat (first | apply Kd.R_alloc | apply Kd.R_drewN | apply Kd.R_drew)); exact HR3.out.r6)); (case aS => exact (below_size (by (with_reducible repeat (first | apply below_alloc | apply pw_below_drewN | apply below_drew1)); exact HR3.out.hb))); (case aL => have := LI.out; have := HIL.out; omega); intro v11 w11 ho hb hg hat; have n_ := Aside0.mk (HR3.out.grow6 ho hb hg hat); clear HR3; have HR3 := n_; clear n_; clear ho hb hg hat)))
          refine ⟨⟨i + 1, rfl, ⟨by omega⟩, ⟨by rw [EI.out]; exact HR3.out⟩⟩, by simp [intOf]; omega⟩
    · have hi5 : i = 5 := by omega
      subst hi5
      obtain ⟨A6, c6, hv6⟩ := Kd.R_slice HR3.out.r6
      obtain ⟨A7, c7, hv7⟩ := Kd.R_slice HR3.out.r7
      obtain ⟨A8, c8, hv8⟩ := Kd.R_slice HR3.out.r8
      subst hv6
      subst hv7
      subst hv8
      have HC6 := Aside0.mk (Kd.R_reads' HR3.out.r6).2.2
      have HC7 := Aside0.mk (Kd.R_reads' HR3.out.r7).2.2
      have hC8 := (Kd.R_reads' HR3.out.r8).2.2
      have HB9 : Aside0 (Below w0.heap.size w0 wo) := ⟨below_step H0.out HR3.out.hb⟩
      have yG := pw_cell_below HR3.out.hb KG.out
      have hBl : Aside0 ((secB t bl 5).length ≤ 1600) := ⟨Nat.le_trans (secB_len 5 (fun m hm => HBL.out m (by omega))) (by omega)⟩
      have hIl : Aside0 ((secI nd t 5).length ≤ 320) := ⟨Nat.le_trans (secI_len 5 (fun m hm => Nat.le_of_eq (inoP_length (HOK.out m (by omega))))) (by omega)⟩
      have WP : Aside0 (∀ W, Below wo.heap.size wo W → Calls Try.prog 132 #[.slice A8 (List.replicate (secU t 5) true).length c8] W fun e w' => ∃ v : Value, e = .returned v ∧ Kd.R (Kd.int .u8) 5 w' W.heap.size (fun _ => True) v (bmPut (List.replicate (secU t 5) true)) ∧ Below W.heap.size W w') := ⟨fun W hB => rPut10_walk A8 c8 _ W (Kd.C_below hC8 hB) (by have := secU_le t 5; rw [List.length_replicate]; omega)⟩
      have hPl : Aside0 ((bmPut (List.replicate (secU t 5) true)).length ≤ 64) := ⟨Nat.le_of_eq (bmP_length _ _)⟩
      have EL : Aside0 (secL nd t bl g2.toNat = bmPut (List.replicate (secU t 5) true) ++ secI nd t 5 ++ secB t bl 5 ++ List.replicate (64 * (g2.toNat - secU t 5)) 0) := ⟨rfl⟩
      have hg2 := HG2.out.1
      have hg3 := HG2.out.2
      obtain ⟨P, hP⟩ : ∃ l, l = bmPut (List.replicate (secU t 5) true) := ⟨_, rfl⟩
      rw [← hP] at WP hPl EL
      rw [List.length_replicate] at WP ⊢
      obtain ⟨I, hI⟩ : ∃ l, l = secI nd t 5 := ⟨_, rfl⟩
      obtain ⟨B, hBB⟩ : ∃ l, l = secB t bl 5 := ⟨_, rfl⟩
      obtain ⟨n, hn⟩ : ∃ l, l = secU t 5 := ⟨_, rfl⟩
      rw [← hI] at HC6 hIl EL ⊢
      rw [← hBB] at HC7 hBl EL ⊢
      rw [← hn] at WP EL hg2 ⊢
      have ENZ : Aside0 ((64 * (g2 - (n : Int))).toNat = 64 * (g2.toNat - n)) := ⟨by omega⟩
      have hz21 : Aside0 ((64 * (g2 - (n : Int))).toNat ≤ 5000000) := ⟨by omega⟩
      have hgt : ¬ g2 < (n : Int) := by omega
      have HB := Aside0.mk (Below.refl wo.heap.size wo)
      have hw1 : RowKit.wrap64 (g2 - (n : Int)) = g2 - n := by unfold RowKit.wrap64; omega
      have hw2 : RowKit.wrap64 (64 * (g2 - (n : Int))) = 64 * (g2 - n) := by unfold RowKit.wrap64; omega
      clear HR3 hC8 hP hI hBB hn hlt
      go_wp2_with (first | (go_at_call 132; go_loud ((with_reducible refine (WP.out _ HB.out).mono ?_); rintro e w10 ⟨v10, rfl, ho, hb⟩; have HO := Aside0.mk ho; have n_ := Aside0.mk hb; clear HB; have HB := n_; clear n_ ho hb)) | ((with_reducible refine gate_builtin (b := .append) (xs := #[.tmp 77, .tmp 78]) rfl ?_); at_builtin; refine Kd.R_append_rows (Kd.int .u8) (w0 := wo) wo.heap.size rfl (.tmp 77) (.tmp 78) 44 5 (.int .u8 0) 1 rfl Try.underlying44 u8info rfl (by decide) (by omega) _ P I _ _ _ (fun _ => True) (fun _ => False) rfl rfl ?aO ?aR (fun _ _ h => h) (fun _ h => h.elim) ?aF ?aB ?aS ?aL ?_; (case aR => exact (Kd.C_below HC6.out HB.out)); (case aB => exact (by repeat (first | (with_reducible first | exact HB.out | apply below_alloc | apply pw_below_drewN | apply below_drew1) | exact HB.out))); (case aF => exact (fun _ _ => trivial)); (case aO => exact (by (with_reducible repeat (first | apply Kd.R_alloc | apply Kd.R_drewN | apply Kd.R_drew)); exact HO.out)); (case aS => exact (below_size (by repeat (first | (with_reducible first | exact HB.out | apply below_alloc | apply pw_below_drewN | apply below_drew1) | exact HB.out)))); (case aL => have := hPl.out; have := hIl.out; omega); intro v11 w11 ho hb hg hat; have n0_ := Aside0.mk (hb); have n1_ := Aside0.mk (ho); clear HB; clear HO; have HB := n0_; have HO2 := n1_; clear n0_ n1_; clear ho hb hg hat))
      refine start_ (n := 12) (S := fun w' => w'.cell? ⟨w0.heap.size, 2, none⟩ = some (.int .i64 g2)) (ds := []) #[false, false, false, false, false, false, false, false, false, false, false, false] (by kernel_rfl) rfl rfl ((pw_cell_below (below_drew1 HB.out) yG)) (fun hHeld => ?_)
      refine pure_ (i := 0) (N := some 80) (v := ?_) (a' := ?_) #[true, false, false, false, false, false, false, false, false, false, false, false] rfl rfl (by kernel_rfl) (fun _ _ _ h => h) (Or.inl ⟨by rfl, ?_⟩) ?_ ?_
      rotate_left
      · intro w'
        go_simp
        with_reducible rfl
      rotate_left
      · simp only [Act.put, List.setIfInBounds_toArray, List.set_cons_zero, List.set_cons_succ, i64_w, i32_w]
        rfl
      refine pure_ (i := 1) (N := some 81) (v := ?_) (a' := ?_) #[true, true, false, false, false, false, false, false, false, false, false, false] rfl rfl (by kernel_rfl) (fun _ _ _ h => h) (Or.inl ⟨by rfl, ?_⟩) ?_ ?_
      rotate_left
      · intro w'
        go_simp
        with_reducible rfl
      rotate_left
      · simp only [Act.put, List.setIfInBounds_toArray, List.set_cons_zero, List.set_cons_succ, i64_w, i32_w]
        rfl
      refine pure_ (i := 3) (N := some 83) (v := ?_) (a' := ?_) #[true, true, false, true, false, false, false, false, false, false, false, false] rfl rfl (by kernel_rfl) (fun _ _ _ h => h) (Or.inl ⟨by rfl, ?_⟩) ?_ ?_
      rotate_left
      · intro w'
        go_simp
        with_reducible rfl
      rotate_left
      · simp only [Act.put, List.setIfInBounds_toArray, List.set_cons_zero, List.set_cons_succ, i64_w, i32_w]
        rfl
      refine pure_ (i := 5) (N := some 85) (v := ?_) (a' := ?_) #[true, true, false, true, false, true, false, false, false, false, false, false] rfl rfl (by kernel_rfl) (fun _ _ _ h => h) (Or.inl ⟨by rfl, ?_⟩) ?_ ?_
      rotate_left
      · intro w'
        go_simp
        with_reducible rfl
      rotate_left
      · simp only [Act.put, List.setIfInBounds_toArray, List.set_cons_zero, List.set_cons_succ, i64_w, i32_w]
        rfl
      refine pure_ (i := 6) (N := some 86) (v := ?_) (a' := ?_) #[true, true, false, true, false, true, true, false, false, false, false, false] rfl rfl (by kernel_rfl) (fun _ _ _ h => h) (Or.inl ⟨by rfl, ?_⟩) ?_ ?_
      rotate_left
      · intro w'
        go_simp
        with_reducible rfl
      rotate_left
      · simp only [Act.put, List.setIfInBounds_toArray, List.set_cons_zero, List.set_cons_succ, i64_w, i32_w]
        rfl
      refine take_ (i := 4) (N := some 84) (v := ?_) (a' := ?_) #[true, true, false, true, true, true, true, false, false, false, false, false] rfl rfl (by kernel_rfl) (fun _ _ _ h => h) (Or.inl ⟨by rfl, ?_⟩) hHeld ?_ ?_
      rotate_left
      · intro w' s0
        go_simp
        with_reducible rfl
      rotate_left
      · simp only [Act.put, List.setIfInBounds_toArray, List.set_cons_zero, List.set_cons_succ, i64_w, i32_w]
        rfl
      refine pure_ (i := 7) (N := some 87) (v := ?_) (a' := ?_) #[true, true, false, true, true, true, true, true, false, false, false, false] rfl rfl (by kernel_rfl) (fun _ _ _ h => h) (Or.inl ⟨by rfl, ?_⟩) ?_ ?_
      rotate_left
      · intro w'
        go_simp
        with_reducible rfl
      rotate_left
      · simp only [Act.put, List.setIfInBounds_toArray, List.set_cons_zero, List.set_cons_succ, i64_w, i32_w]
        rfl
      refine pure_ (i := 8) (N := some 88) (v := ?_) (a' := ?_) #[true, true, false, true, true, true, true, true, true, false, false, false] rfl rfl (by kernel_rfl) (fun _ _ _ h => h) (Or.inl ⟨by rfl, ?_⟩) ?_ ?_
      rotate_left
      · intro w'
        go_simp
        with_reducible rfl
      rotate_left
      · simp only [Act.put, List.setIfInBounds_toArray, List.set_cons_zero, List.set_cons_succ, i64_w, i32_w]
        rfl
      refine one_ (i := 2) (N := some 82) #[true, true, true, true, true, true, true, true, true, false, false, false] rfl rfl (by kernel_rfl) (by decide) (fun K hK => ?_)
      clear hHeld
      refine Kd.R_append_rows_step (Kd.int .u8) (w0 := wo) wo.heap.size (by rfl) (.tmp 80) (.tmp 81) 44 5 (.int .u8 0) 1 (by rfl) Try.underlying44 u8info rfl (by decide) (by omega) _ (P ++ I) B A7 B.length c7 (fun _ => True) (fun _ => False) (by rfl) (by rfl) (Kd.R_drew HO2.out) (Kd.C_below HC7.out (below_drew1 HB.out)) (fun _ _ h => h) (fun _ h => h.elim) (fun _ _ => trivial) (below_drew1 HB.out) (below_drew1 HB.out).size (by have := hPl.out; have := hIl.out; have := hBl.out; rw [List.length_append]; omega) ?_
      intro v12 w12 ho12 hb12 hg_ hat_
      clear hg_ hat_
      refine hK.out _ _ ((pw_cell_below hb12 yG)) (fun hHeld => ?_)
      clear hK K
      refine norm_ (a' := ?_) ?_ ?_
      rotate_left
      · show Act.put _ (some 82) _ = _
        simp only [Act.put, List.setIfInBounds_toArray, List.set_cons_zero, List.set_cons_succ, i64_w, i32_w]
        rfl
      refine one_ (i := 9) (N := some 89) #[true, true, true, true, true, true, true, true, true, true, false, false] rfl rfl (by kernel_rfl) (by decide) (fun K hK => ?_)
      clear hHeld
      refine Kd.R_append_zeros_step (Kd.int .u8) (w0 := wo) wo.heap.size (by rfl) (.tmp 82) (.tmp 88) 44 3 5 (.int .u8 0) 1 (by rfl) Try.underlying44 Try.underlying3 u8info rfl (by decide) (by omega) _ (P ++ I ++ B) 0 (64 * (g2 - (n : Int))) (fun _ => True) (by rfl) (by show Value.int .i64 (RowKit.wrap64 (64 * (g2 - (n : Int)))) = _; rw [hw2]) rfl (fun _ _ => trivial) ho12 (by omega) hb12 hb12.size (by have := hPl.out; have := hIl.out; have := hBl.out; have := hz21.out; rw [List.length_append, List.length_append]; omega) ?_
      intro v13 w13 ho13 hb13 hg_ hat_
      clear hg_ hat_
      refine hK.out _ _ ((pw_cell_below hb13 yG)) (fun hHeld => ?_)
      clear hK K
      refine norm_ (a' := ?_) ?_ ?_
      rotate_left
      · show Act.put _ (some 89) _ = _
        simp only [Act.put, List.setIfInBounds_toArray, List.set_cons_zero, List.set_cons_succ, i64_w, i32_w]
        rfl
      refine pure_ (i := 10) (N := some 4) (v := ?_) (a' := ?_) #[true, true, true, true, true, true, true, true, true, true, true, false] rfl rfl (by kernel_rfl) (fun _ _ _ h => h) (Or.inl ⟨by rfl, ?_⟩) ?_ ?_
      rotate_left
      · intro w'
        go_simp
        with_reducible rfl
      rotate_left
      · simp only [Act.put, List.setIfInBounds_toArray, List.set_cons_zero, List.set_cons_succ, i64_w, i32_w]
        rfl
      refine pure_ (i := 11) (N := some 5) (v := ?_) (a' := ?_) #[true, true, true, true, true, true, true, true, true, true, true, true] rfl rfl (by kernel_rfl) (fun _ _ _ h => h) (Or.inl ⟨by rfl, ?_⟩) ?_ ?_
      rotate_left
      · intro w'
        go_simp
        with_reducible rfl
      rotate_left
      · simp only [Act.put, List.setIfInBounds_toArray, List.set_cons_zero, List.set_cons_succ, i64_w, i32_w]
        rfl
      refine done_ (by kernel_rfl) ?_
      rw [ENZ.out, ← EL.out] at ho13
      have HO13 := Aside0.mk ho13
      have HB13 := Aside0.mk hb13
      clear ho13 hb13 hHeld
      refine go_on40 ?_
      go_wp2
      go_ret2
      exact ⟨_, rfl, Kd.R_lower HO13.out HB9.out.size, below_step HB9.out HB13.out⟩
end Go.Proofs.Ytdkbhbolkieeiaa.K
namespace Go.Proofs.Ytdkbhbolkieeiaa.K
open Go.RowKit Go.Proofs.YtdkbhbolkieeiaaW.PrintWords Go.Proofs.YtdkbhbolkieeiaaW.PrintLast Go.Proofs.YtdkbhbolkieeiaaW.PrintMore
set_option linter.unusedVariables false
set_option linter.unusedSimpArgs false
/-- The image of a stack of five inodes, six blocks, a log of five, and one lower layer. -/
def imgN (SL SU : List Int) : List Int := sealS (geoHead 1 5 6 5) ++ SL ++ SU ++ sealS [74, 82, 78, 76, 0] ++ List.replicate 256 0
set_option maxHeartbeats 4000000 in
set_option maxRecDepth 100000 in
theorem image40_walk (au al aln : Addr) (cu cl cln : Nat) (SL SU : List Int) (w0 : World) (hl : w0.cell? al = some (.slice (some aln) 5 cln)) (hlL : SL.length ≤ 10000) (hlU : SU.length ≤ 10000)
    (hR : ∀ W, Below w0.heap.size w0 W → Calls Try.prog 118 #[.agg #[.int .i64 1, .int .i64 5, .int .i64 6, .int .i64 5, .slice (some au) 5 cu, .slice (some al) 1 cl]] W fun e w' => e = .returned (.bool true) ∧ Below W.heap.size W w')
    (hE : ∀ W, Calls Try.prog 30 #[] W fun e w' => ∃ v : Value, e = .returned v ∧ Kd.R (Kd.int .u8) 5 w' W.heap.size (fun _ => True) v (sealS [74, 82, 78, 76, 0]) ∧ Below W.heap.size W w')
    (hU : ∀ W, Below w0.heap.size w0 W → Calls Try.prog 119 #[.agg #[.int .i64 1, .int .i64 5, .int .i64 6, .int .i64 5], .agg #[.slice (some au) 5 cu]] W fun e w' => ∃ v : Value, e = .returned (.tuple #[v, .bool true]) ∧ Kd.R (Kd.int .u8) 5 w' W.heap.size (fun _ => True) v SU ∧ Below W.heap.size W w')
    (hL : ∀ W, Below w0.heap.size w0 W → Calls Try.prog 119 #[.agg #[.int .i64 1, .int .i64 5, .int .i64 6, .int .i64 5], .agg #[.slice (some aln) 5 cln]] W fun e w' => ∃ v : Value, e = .returned (.tuple #[v, .bool true]) ∧ Kd.R (Kd.int .u8) 5 w' W.heap.size (fun _ => True) v SL ∧ Below W.heap.size W w') :
    Calls Try.prog 94 #[.agg #[.int .i64 1, .int .i64 5, .int .i64 6, .int .i64 5, .slice (some au) 5 cu, .slice (some al) 1 cl]] w0 fun e w' => ∃ v : Value, e = .returned (.tuple #[v, .int .i64 0]) ∧ Kd.R (Kd.int .u8) 5 w' w0.heap.size (fun _ => True) v (imgN SL SU) ∧ Below w0.heap.size w0 w' := by
  have WR := Aside0.mk hR
  have WE := Aside0.mk hE
  have WSU := Aside0.mk hU
  have WSL := Aside0.mk hL
  have HA := Aside0.mk hl
  have hlL := Aside0.mk hlL
  have hlU := Aside0.mk hlU
  have WG : Aside0 (∀ W, Calls Try.prog 79 #[.agg #[.int .i64 1, .int .i64 5, .int .i64 6, .int .i64 5]] W fun e w' => ∃ v : Value, e = .returned v ∧ Kd.R (Kd.int .u8) 5 w' W.heap.size (fun _ => True) v (sealS (geoHead 1 5 6 5)) ∧ Below W.heap.size W w') := ⟨fun W => rBy06_walk 1 5 6 5 W⟩
  have EI : Aside0 (imgN SL SU = sealS (geoHead 1 5 6 5) ++ SL ++ SU ++ sealS [74, 82, 78, 76, 0] ++ List.replicate (256 : Int).toNat 0) := ⟨rfl⟩
  have hl0 : Aside0 ((sealS (geoHead 1 5 6 5)).length ≤ 64) := ⟨Nat.le_of_eq (sealS_length _)⟩
  have hlE : Aside0 ((sealS [74, 82, 78, 76, 0]).length ≤ 64) := ⟨Nat.le_of_eq (sealS_length _)⟩
  obtain ⟨G, hG⟩ : ∃ l, l = sealS (geoHead 1 5 6 5) := ⟨_, rfl⟩
  obtain ⟨E, hE⟩ : ∃ l, l = sealS [74, 82, 78, 76, 0] := ⟨_, rfl⟩
  rw [← hG] at WG EI hl0
  rw [← hE] at WE EI hlE
  clear hR hU hL hl hG hE
  go_enter Try.func94, Try.ntmps94
  go_upto_region 1 with (fail)
  obtain ⟨w, hw⟩ : ∃ w, w = w0.alloc (.cells #[.int .i64 1, .int .i64 5, .int .i64 6, .int .i64 5, .slice (some au) 5 cu, .slice (some al) 1 cl] 90) := ⟨_, rfl⟩
  refine go_on40 ?_
  rw [← hw]
  have HW := Aside0.mk hw
  have HB := Aside0.mk (Below.refl w.heap.size w)
  have H0 : Aside0 (Below w0.heap.size w0 w) := ⟨by rw [hw]; exact below_alloc (Below.refl _ _) _⟩
  have k0 : w.cell? ⟨w0.heap.size, 0, none⟩ = some (.int .i64 1) := by rw [hw]; go_simp
  have k1 : w.cell? ⟨w0.heap.size, 1, none⟩ = some (.int .i64 5) := by rw [hw]; go_simp
  have k2 : w.cell? ⟨w0.heap.size, 2, none⟩ = some (.int .i64 6) := by rw [hw]; go_simp
  have k3 : w.cell? ⟨w0.heap.size, 3, none⟩ = some (.int .i64 5) := by rw [hw]; go_simp
  have k4 : w.cell? ⟨w0.heap.size, 4, none⟩ = some (.slice (some au) 5 cu) := by rw [hw]; go_simp
  have k5 : w.cell? ⟨w0.heap.size, 5, none⟩ = some (.slice (some al) 1 cl) := by rw [hw]; go_simp
  have hlt0 : w0.heap.size < w.heap.size := by rw [hw]; simp
  clear hw
  go_wp2_with (first | (go_at_call 118; go_loud ((with_reducible refine (WR.out _ (below_step H0.out HB.out)).mono ?_); rintro e w1 ⟨rfl, hb⟩; have n1_ : Aside0 (Below w.heap.size w w1) := ⟨below_step (by repeat (first | (with_reducible first | exact HB.out | apply below_alloc | apply pw_below_drewN | apply below_drew1) | exact HB.out)) hb⟩; clear HB; have HB := n1_; clear n1_; have f10 := pw_cell_below HB.out k0; have f11 := pw_cell_below HB.out k1; have f12 := pw_cell_below HB.out k2; have f13 := pw_cell_below HB.out k3; have f14 := pw_cell_below HB.out k4; have f15 := pw_cell_below HB.out k5; have f1a := pw_cell_below (below_step H0.out HB.out) HA.out; clear hb)) | (go_at_call 79; go_loud ((with_reducible refine (WG.out _).mono ?_); rintro e w2 ⟨v2, rfl, ho, hb⟩; have HO := Aside0.mk (Kd.R_lower ho (below_size HB.out)); have n1_ : Aside0 (Below w.heap.size w w2) := ⟨below_step (by repeat (first | (with_reducible first | exact HB.out | apply below_alloc | apply pw_below_drewN | apply below_drew1) | exact HB.out)) hb⟩; clear HB; have HB := n1_; clear n1_; have f20 := pw_cell_below HB.out k0; have f21 := pw_cell_below HB.out k1; have f22 := pw_cell_below HB.out k2; have f23 := pw_cell_below HB.out k3; have f24 := pw_cell_below HB.out k4; have f25 := pw_cell_below HB.out k5; have f2a := pw_cell_below (below_step H0.out HB.out) HA.out; clear ho hb)))
  have HS3 : Aside0 (w.heap.size ≤ w2.heap.size) := ⟨HB.out.size⟩
  refine wp_loop_rounds 3 ?_
  rw [rounds_succ]
  go_wp2_with (first | ((with_reducible refine gate_store (p := 6) rfl ?_); go_loud (refine wpList_store_newL (w0 := w2) rfl rfl 87 (.tmp 6) (.tmp 23) rfl #[.slice (some au) 5 cu] 87 #[.slice none 0 0] rfl (by rfl) (by rfl) (by kernel_rfl) rfl (by simp [Value.oneCell']) ?_; intro w3 bk_ hb; have BK3 := Aside0.mk bk_; clear bk_; have n0_ : Aside0 (Kd.R (Kd.int .u8) 5 w3 w.heap.size (fun _ => True) _ G) := ⟨Kd.R_below (by (with_reducible repeat (first | apply Kd.R_alloc | apply Kd.R_drewN | apply Kd.R_drew)); exact HO.out) hb⟩; clear HO; have HO := n0_; clear n0_; have n1_ : Aside0 (Below w.heap.size w w3) := ⟨below_step (by repeat (first | (with_reducible first | exact HB.out | apply below_alloc | apply pw_below_drewN | apply below_drew1) | exact HB.out)) hb⟩; clear HB; have HB := n1_; clear n1_; clear hb; have f30 := pw_cell_below HB.out k0; have f31 := pw_cell_below HB.out k1; have f32 := pw_cell_below HB.out k2; have f33 := pw_cell_below HB.out k3; have f34 := pw_cell_below HB.out k4; have f35 := pw_cell_below HB.out k5; have f3a := pw_cell_below (below_step H0.out HB.out) HA.out; have z3 := (blk_cell BK3.out 0).trans rfl)) | ((with_reducible refine gate_store (p := 6) rfl ?_); go_loud (refine wpList_store_rowL rfl rfl 87 (.tmp 6) (.tmp 33) rfl (w2.heap.size) #[.slice (some aln) 5 cln] rfl rfl 87 #[.slice (some au) 5 cu] (BK3.out) (by kernel_rfl) rfl (by simp [Value.oneCell']) ?_; intro w4 bk_ hg_; have n_ : Aside0 (Kd.R (Kd.int .u8) 5 w4 w.heap.size (fun _ => True) _ G) := ⟨Kd.R_grown1 HO.out rfl hg_ (Kd.R_ne HO.out BK3.out (by decide))⟩; have m_ := Aside0.mk (pw_below_grown HB.out _ HB.out.size hg_ (fun k e => by cases e; exact HS3.out)); clear HO HB hg_; have HO := n_; have HB := m_; clear n_ m_; have BK4 := Aside0.mk bk_; clear bk_; have f40 := pw_cell_below HB.out k0; have f41 := pw_cell_below HB.out k1; have f42 := pw_cell_below HB.out k2; have f43 := pw_cell_below HB.out k3; have f44 := pw_cell_below HB.out k4; have f45 := pw_cell_below HB.out k5; have f4a := pw_cell_below (below_step H0.out HB.out) HA.out; have z4 := (blk_cell BK4.out 0).trans rfl)) | (go_at_call 119; go_loud ((with_reducible refine (WSL.out _ (below_step H0.out HB.out)).mono ?_); rintro e w5 ⟨v5, rfl, ho, hb⟩; have n0_ : Aside0 (Kd.R (Kd.int .u8) 5 w5 w.heap.size (fun _ => True) _ G) := ⟨Kd.R_below (by (with_reducible repeat (first | apply Kd.R_alloc | apply Kd.R_drewN | apply Kd.R_drew)); exact HO.out) hb⟩; clear HO; have HO := n0_; clear n0_; obtain ⟨A5, c5, hv_⟩ := Kd.R_slice ho; subst hv_; have HC5 := Aside0.mk (Kd.R_reads' ho).2.2; have n1_ : Aside0 (Below w.heap.size w w5) := ⟨below_step (by repeat (first | (with_reducible first | exact HB.out | apply below_alloc | apply pw_below_drewN | apply below_drew1) | exact HB.out)) hb⟩; clear HB; have HB := n1_; clear n1_; have f50 := pw_cell_below HB.out k0; have f51 := pw_cell_below HB.out k1; have f52 := pw_cell_below HB.out k2; have f53 := pw_cell_below HB.out k3; have f54 := pw_cell_below HB.out k4; have f55 := pw_cell_below HB.out k5; have f5a := pw_cell_below (below_step H0.out HB.out) HA.out; clear ho hb)) | ((with_reducible refine gate_builtin (b := .append) (xs := #[.tmp 43, .tmp 44]) rfl ?_); at_builtin; go_loud (refine Kd.R_append_rows (Kd.int .u8) (w0 := w) w.heap.size rfl (.tmp 43) (.tmp 44) 44 5 (.int .u8 0) 1 rfl Try.underlying44 u8info rfl (by decide) (by omega) _ G SL _ _ _ (fun _ => True) (fun _ => False) rfl rfl ?aO ?aR (fun _ _ h => h) (fun _ h => h.elim) ?aF ?aB ?aS ?aL ?_; (case aR => exact (by first | exact HC5.out | (refine Kd.C_drewN ?_ _; exact HC5.out) | (refine Kd.C_alloc ?_ _; exact HC5.out))); (case aB => exact (by repeat (first | (with_reducible first | exact HB.out | apply below_alloc | apply pw_below_drewN | apply below_drew1) | exact HB.out))); (case aF => exact (fun _ _ => trivial)); (case aO => exact (by (with_reducible repeat (first | apply Kd.R_alloc | apply Kd.R_drewN | apply Kd.R_drew)); exact HO.out)); (case aS => exact (below_size (by repeat (first | (with_reducible first | exact HB.out | apply below_alloc | apply pw_below_drewN | apply below_drew1) | exact HB.out)))); (case aL => have := hl0.out; have := hlU.out; have := hlL.out; (try simp only [List.length_append]); omega); intro v6 w6 ho hb hg hat; have n0_ := Aside0.mk (hb); have n1_ := Aside0.mk (ho); clear HB; clear HO; have HB := n0_; have HO := n1_; clear n0_ n1_; clear ho hb hg hat; have f60 := pw_cell_below HB.out k0; have f61 := pw_cell_below HB.out k1; have f62 := pw_cell_below HB.out k2; have f63 := pw_cell_below HB.out k3; have f64 := pw_cell_below HB.out k4; have f65 := pw_cell_below HB.out k5; have f6a := pw_cell_below (below_step H0.out HB.out) HA.out)))
  rw [rounds_succ]
  have HS7 : Aside0 (w.heap.size ≤ w6.heap.size) := ⟨HB.out.size⟩
  go_wp2_with (first | ((with_reducible refine gate_store (p := 6) rfl ?_); go_loud (refine wpList_store_newL (w0 := w6) rfl rfl 87 (.tmp 6) (.tmp 23) rfl #[.slice (some au) 5 cu] 87 #[.slice none 0 0] rfl (by rfl) (by rfl) (by kernel_rfl) rfl (by simp [Value.oneCell']) ?_; intro w7 bk_ hb; have BK7 := Aside0.mk bk_; clear bk_; have n0_ : Aside0 (Kd.R (Kd.int .u8) 5 w7 w.heap.size (fun _ => True) _ (G ++ SL)) := ⟨Kd.R_below (by (with_reducible repeat (first | apply Kd.R_alloc | apply Kd.R_drewN | apply Kd.R_drew)); exact HO.out) hb⟩; clear HO; have HO := n0_; clear n0_; have n1_ : Aside0 (Below w.heap.size w w7) := ⟨below_step (by repeat (first | (with_reducible first | exact HB.out | apply below_alloc | apply pw_below_drewN | apply below_drew1) | exact HB.out)) hb⟩; clear HB; have HB := n1_; clear n1_; clear hb; have f70 := pw_cell_below HB.out k0; have f71 := pw_cell_below HB.out k1; have f72 := pw_cell_below HB.out k2; have f73 := pw_cell_below HB.out k3; have f74 := pw_cell_below HB.out k4; have f75 := pw_cell_below HB.out k5; have f7a := pw_cell_below (below_step H0.out HB.out) HA.out; have z7 := (blk_cell BK7.out 0).trans rfl)) | (go_at_call 119; go_loud ((with_reducible refine (WSU.out _ (below_step H0.out HB.out)).mono ?_); rintro e w9 ⟨v9, rfl, ho, hb⟩; have n0_ : Aside0 (Kd.R (Kd.int .u8) 5 w9 w.heap.size (fun _ => True) _ (G ++ SL)) := ⟨Kd.R_below (by (with_reducible repeat (first | apply Kd.R_alloc | apply Kd.R_drewN | apply Kd.R_drew)); exact HO.out) hb⟩; clear HO; have HO := n0_; clear n0_; obtain ⟨A9, c9, hv_⟩ := Kd.R_slice ho; subst hv_; have HC9 := Aside0.mk (Kd.R_reads' ho).2.2; have n1_ : Aside0 (Below w.heap.size w w9) := ⟨below_step (by repeat (first | (with_reducible first | exact HB.out | apply below_alloc | apply pw_below_drewN | apply below_drew1) | exact HB.out)) hb⟩; clear HB; have HB := n1_; clear n1_; have f90 := pw_cell_below HB.out k0; have f91 := pw_cell_below HB.out k1; have f92 := pw_cell_below HB.out k2; have f93 := pw_cell_below HB.out k3; have f94 := pw_cell_below HB.out k4; have f95 := pw_cell_below HB.out k5; have f9a := pw_cell_below (below_step H0.out HB.out) HA.out; clear ho hb)) | ((with_reducible refine gate_builtin (b := .append) (xs := #[.tmp 43, .tmp 44]) rfl ?_); at_builtin; go_loud (refine Kd.R_append_rows (Kd.int .u8) (w0 := w) w.heap.size rfl (.tmp 43) (.tmp 44) 44 5 (.int .u8 0) 1 rfl Try.underlying44 u8info rfl (by decide) (by omega) _ (G ++ SL) SU _ _ _ (fun _ => True) (fun _ => False) rfl rfl ?aO ?aR (fun _ _ h => h) (fun _ h => h.elim) ?aF ?aB ?aS ?aL ?_; (case aR => exact (by first | exact HC9.out | (refine Kd.C_drewN ?_ _; exact HC9.out) | (refine Kd.C_alloc ?_ _; exact HC9.out))); (case aB => exact (by repeat (first | (with_reducible first | exact HB.out | apply below_alloc | apply pw_below_drewN | apply below_drew1) | exact HB.out))); (case aF => exact (fun _ _ => trivial)); (case aO => exact (by (with_reducible repeat (first | apply Kd.R_alloc | apply Kd.R_drewN | apply Kd.R_drew)); exact HO.out)); (case aS => exact (below_size (by repeat (first | (with_reducible first | exact HB.out | apply below_alloc | apply pw_below_drewN | apply below_drew1) | exact HB.out)))); (case aL => have := hl0.out; have := hlU.out; have := hlL.out; (try simp only [List.length_append]); omega); intro v10 w10 ho hb hg hat; have n0_ := Aside0.mk (hb); have n1_ := Aside0.mk (ho); clear HB; clear HO; have HB := n0_; have HO := n1_; clear n0_ n1_; clear ho hb hg hat; have f100 := pw_cell_below HB.out k0; have f101 := pw_cell_below HB.out k1; have f102 := pw_cell_below HB.out k2; have f103 := pw_cell_below HB.out k3; have f104 := pw_cell_below HB.out k4; have f105 := pw_cell_below HB.out k5; have f10a := pw_cell_below (below_step H0.out HB.out) HA.out)))
  rw [rounds_succ]
  go_wp2_with (first | (go_at_call 30; go_loud ((with_reducible refine (WE.out _).mono ?_); rintro e w12 ⟨v12, rfl, ho, hb⟩; have n0_ : Aside0 (Kd.R (Kd.int .u8) 5 w12 w.heap.size (fun _ => True) _ (G ++ SL ++ SU)) := ⟨Kd.R_below (by (with_reducible repeat (first | apply Kd.R_alloc | apply Kd.R_drewN | apply Kd.R_drew)); exact HO.out) hb⟩; clear HO; have HO := n0_; clear n0_; obtain ⟨A12, c12, hv_⟩ := Kd.R_slice ho; subst hv_; have HC12 := Aside0.mk (Kd.R_reads' ho).2.2; have n1_ : Aside0 (Below w.heap.size w w12) := ⟨below_step (by repeat (first | (with_reducible first | exact HB.out | apply below_alloc | apply pw_below_drewN | apply below_drew1) | exact HB.out)) hb⟩; clear HB; have HB := n1_; clear n1_; have f120 := pw_cell_below HB.out k0; have f121 := pw_cell_below HB.out k1; have f122 := pw_cell_below HB.out k2; have f123 := pw_cell_below HB.out k3; have f124 := pw_cell_below HB.out k4; have f125 := pw_cell_below HB.out k5; have f12a := pw_cell_below (below_step H0.out HB.out) HA.out; clear ho hb)) | ((with_reducible refine gate_builtin (b := .append) (xs := #[.tmp 46, .tmp 47]) rfl ?_); at_builtin; refine Kd.R_append_rows (Kd.int .u8) (w0 := w) w.heap.size rfl (.tmp 46) (.tmp 47) 44 5 (.int .u8 0) 1 rfl Try.underlying44 u8info rfl (by decide) (by omega) _ (G ++ SL ++ SU) E _ _ _ (fun _ => True) (fun _ => False) rfl rfl ?aO ?aR (fun _ _ h => h) (fun _ h => h.elim) ?aF ?aB ?aS ?aL ?_; (case aR => exact (by first | exact HC12.out | (refine Kd.C_drewN ?_ _; exact HC12.out) | (refine Kd.C_alloc ?_ _; exact HC12.out))); (case aB => exact (by repeat (first | (with_reducible first | exact HB.out | apply below_alloc | apply pw_below_drewN | apply below_drew1) | exact HB.out))); (case aF => exact (fun _ _ => trivial)); (case aO => exact (by (with_reducible repeat (first | apply Kd.R_alloc | apply Kd.R_drewN | apply Kd.R_drew)); exact HO.out)); (case aS => exact (below_size (by repeat (first | (with_reducible first | exact HB.out | apply below_alloc | apply pw_below_drewN | apply below_drew1) | exact HB.out)))); (case aL => have := hl0.out; have := hlU.out; have := hlL.out; have := hlE.out; (try simp only [List.length_append]); omega); intro v13 w13 ho hb hg hat; have n0_ := Aside0.mk (hb); have n1_ := Aside0.mk (ho); clear HB; clear HO; have HB := n0_; have HO := n1_; clear n0_ n1_; clear ho hb hg hat; have f130 := pw_cell_below HB.out k0; have f131 := pw_cell_below HB.out k1; have f132 := pw_cell_below HB.out k2; have f133 := pw_cell_below HB.out k3; have f134 := pw_cell_below HB.out k4; have f135 := pw_cell_below HB.out k5; have f13a := pw_cell_below (below_step H0.out HB.out) HA.out) | ((with_reducible refine gate_builtin (b := .append) (xs := #[.tmp 49, .tmp 54]) rfl ?_); at_builtin; refine Kd.R_append_zeros (Kd.int .u8) (w0 := w) w.heap.size rfl (.tmp 49) (.tmp 54) 44 3 5 (.int .u8 0) 1 rfl Try.underlying44 Try.underlying3 u8info rfl (by decide) (by omega) _ (G ++ SL ++ SU ++ E) 0 (256 : Int) (fun _ => True) rfl rfl rfl ?aF ?aO (by omega) ?aB ?aS ?aL ?_; (case aB => exact (by repeat (first | (with_reducible first | exact HB.out | apply below_alloc | apply pw_below_drewN | apply below_drew1) | exact HB.out))); (case aF => exact (fun _ _ => trivial)); (case aO => exact (by (with_reducible repeat (first | apply Kd.R_alloc | apply Kd.R_drewN | apply Kd.R_drew)); exact HO.out)); (case aS => exact (below_size (by repeat (first | (with_reducible first | exact HB.out | apply below_alloc | apply pw_below_drewN | apply below_drew1) | exact HB.out)))); (case aL => have := hl0.out; have := hlU.out; have := hlL.out; have := hlE.out; (try simp only [List.length_append]); simp; omega); intro v14 w14 ho hb hg hat; have n0_ := Aside0.mk (hb); have n1_ := Aside0.mk (ho); clear HB; clear HO; have HB := n0_; have HO := n1_; clear n0_ n1_; clear ho hb hg hat))
  go_ret2
  exact ⟨_, rfl, by rw [EI.out]; exact Kd.R_lower HO.out H0.out.size, below_step H0.out HB.out⟩
set_option maxRecDepth 100000 in
theorem bytesP_walk (au al : Addr) (cu cl : Nat) (L : List Int) (w0 : World)
    (hI : ∀ W, Below w0.heap.size w0 W → Calls Try.prog 94 #[.agg #[.int .i64 1, .int .i64 5, .int .i64 6, .int .i64 5, .slice (some au) 5 cu, .slice (some al) 1 cl]] W fun e w' => ∃ v : Value, e = .returned (.tuple #[v, .int .i64 0]) ∧ Kd.R (Kd.int .u8) 5 w' W.heap.size (fun _ => True) v L ∧ Below W.heap.size W w') :
    Calls Try.prog 56 #[.agg #[.int .i64 1, .int .i64 5, .int .i64 6, .int .i64 5, .slice (some au) 5 cu, .slice (some al) 1 cl]] w0 fun e w' => ∃ v : Value, e = .returned v ∧ Kd.R (Kd.int .u8) 5 w' w0.heap.size (fun _ => True) v L ∧ Below w0.heap.size w0 w' := by
  have WI := Aside0.mk hI
  clear hI
  go_enter Try.func56, Try.ntmps56
  go_upto_region 1 with (fail)
  obtain ⟨w, hw⟩ : ∃ w, w = w0.alloc (.cells #[.int .i64 1, .int .i64 5, .int .i64 6, .int .i64 5, .slice (some au) 5 cu, .slice (some al) 1 cl] 90) := ⟨_, rfl⟩
  refine go_on40 ?_
  rw [← hw]
  have HW := Aside0.mk hw
  have HB := Aside0.mk (Below.refl w.heap.size w)
  have H0 : Aside0 (Below w0.heap.size w0 w) := ⟨by rw [hw]; exact below_alloc (Below.refl _ _) _⟩
  have k0 : w.cell? ⟨w0.heap.size, 0, none⟩ = some (.int .i64 1) := by rw [hw]; go_simp
  have k1 : w.cell? ⟨w0.heap.size, 1, none⟩ = some (.int .i64 5) := by rw [hw]; go_simp
  have k2 : w.cell? ⟨w0.heap.size, 2, none⟩ = some (.int .i64 6) := by rw [hw]; go_simp
  have k3 : w.cell? ⟨w0.heap.size, 3, none⟩ = some (.int .i64 5) := by rw [hw]; go_simp
  have k4 : w.cell? ⟨w0.heap.size, 4, none⟩ = some (.slice (some au) 5 cu) := by rw [hw]; go_simp
  have k5 : w.cell? ⟨w0.heap.size, 5, none⟩ = some (.slice (some al) 1 cl) := by rw [hw]; go_simp
  have hlt0 : w0.heap.size < w.heap.size := by rw [hw]; simp
  clear hw
  go_wp2_with (go_at_call 94; go_loud ((with_reducible refine (WI.out _ H0.out).mono ?_); rintro e w1 ⟨v1, rfl, ho, hb⟩; have HO := Aside0.mk ho; have n1_ : Aside0 (Below w.heap.size w w1) := ⟨below_step (by repeat (first | (with_reducible first | exact HB.out | apply below_alloc | apply pw_below_drewN | apply below_drew1) | exact HB.out)) hb⟩; clear HB; have HB := n1_; clear n1_; clear ho hb))
  go_ret
  exact ⟨_, rfl, Kd.R_lower HO.out H0.out.size, below_step H0.out HB.out⟩
end Go.Proofs.Ytdkbhbolkieeiaa.K
namespace Go.Proofs.Ytdkbhbolkieeiaa.K
open Go.RowKit Go.Proofs.YtdkbhbolkieeiaaW.PrintWords Go.Proofs.YtdkbhbolkieeiaaW.PrintLast Go.Proofs.YtdkbhbolkieeiaaW.PrintMore
set_option linter.unusedVariables false
set_option linter.unusedSimpArgs false
set_option maxRecDepth 100000 in
theorem dir_walk (A : Option Addr) (n c : Nat) (w : World) : Calls Try.prog 95 #[.slice A n c] w fun e w' => e = .returned (.agg #[.int .i64 1, .int .i64 0, .int .i64 2, .int .i64 0, .slice none 0 0, .slice A n c, .int .i64 0, .int .i64 0, .string ⟨#[]⟩, .int .i64 0, .int .i64 0, .int .i64 0, .int .i64 0]) ∧ Below w.heap.size w w' := by
  go_enter Try.func95, Try.ntmps95
  go_wp2_with (first | ((with_reducible refine gate_store (p := 2) rfl ?_); refine wpList_store_rowTo rfl 129 (.tmp 2) (.tmp 4) rfl rfl (w.heap.size) #[.int .i64 1, .int .i64 0, .int .i64 2, .int .i64 0, .slice none 0 0, .slice A n c, .int .i64 0, .int .i64 0, .string ⟨#[]⟩, .int .i64 0, .int .i64 0, .int .i64 0, .int .i64 0] rfl rfl 129 #[.int .i64 0, .int .i64 0, .int .i64 0, .int .i64 0, .slice none 0 0, .slice none 0 0, .int .i64 0, .int .i64 0, .string ⟨#[]⟩, .int .i64 0, .int .i64 0, .int .i64 0, .int .i64 0] (heap_at (by simp)) (by kernel_rfl) rfl (by simp [Value.oneCell']) ?_; have e_ := World.setRow_alloc_new (w) #[.int .i64 0, .int .i64 0, .int .i64 0, .int .i64 0, .slice none 0 0, .slice none 0 0, .int .i64 0, .int .i64 0, .string ⟨#[]⟩, .int .i64 0, .int .i64 0, .int .i64 0, .int .i64 0] #[.int .i64 1, .int .i64 0, .int .i64 2, .int .i64 0, .slice none 0 0, .slice A n c, .int .i64 0, .int .i64 0, .string ⟨#[]⟩, .int .i64 0, .int .i64 0, .int .i64 0, .int .i64 0] 129; rw [show (w).heap.size = w.heap.size by simp] at e_; rw [e_]; clear e_))
  refine bodyPost_ret (results_cell_row rfl _ _ w.heap.size 129 #[.int .i64 1, .int .i64 0, .int .i64 2, .int .i64 0, .slice none 0 0, .slice A n c, .int .i64 0, .int .i64 0, .string ⟨#[]⟩, .int .i64 0, .int .i64 0, .int .i64 0, .int .i64 0] (0, 0) _ rfl (by exact heap_alloc_new _ _) Try.underlying129 rfl (by kernel_rfl)) rfl ?_
  exact ⟨rfl, below_alloc (Below.refl _ _) _⟩
set_option maxRecDepth 100000 in
theorem empty27_walk (w : World) : Calls Try.prog 30 #[] w fun e w' => ∃ v : Value, e = .returned v ∧ Kd.R (Kd.int .u8) 5 w' w.heap.size (fun _ => True) v (sealS [74, 82, 78, 76, 0]) ∧ Below w.heap.size w w' := by
  have HB := Aside0.mk (Below.refl w.heap.size w)
  have WS : Aside0 (∀ A c W, Kd.C (Kd.int .u8) W A 5 [74, 82, 78, 76, 0] → Calls Try.prog 65 #[.slice A 5 c] W fun e w' => ∃ v : Value, e = .returned v ∧ Kd.R (Kd.int .u8) 5 w' W.heap.size (fun _ => True) v (sealS [74, 82, 78, 76, 0]) ∧ Below W.heap.size W w') := ⟨fun A c W h => rSeal_walk A c [74, 82, 78, 76, 0] W h (by intro x hx; simp at hx; rcases hx with rfl | rfl | rfl | rfl | rfl <;> decide) (by decide)⟩
  go_enter Try.func30, Try.ntmps30
  go_wp2_with (first | ((with_reducible refine gate_dst (N := 1) rfl ?_); refine Kd.R_lit (Kd.int .u8) _ 5 ?hg (N := 1) ?hd (xs := ([(74 : Int), (82 : Int), (78 : Int), (76 : Int), (0 : Int)] : List (Int))) (inner := [.int .u8 74, .int .u8 82, .int .u8 78, .int .u8 76, .int .u8 0]) (ok := fun _ => True) (okp := fun _ => True) ?hr ?hp (fun _ hk => hk) trivial (Below.refl _ _) (Nat.le_refl _) (by simp) ?_; (case hd => rfl); (case hg => rfl); (case hr => first | (go_simp; done) | (go_simp; rfl)); (case hp => exact (Reps.one (show Kd.M (Kd.int .u8) _ _ _ (74 : Int) [.int .u8 74] from rfl) (Reps.one (show Kd.M (Kd.int .u8) _ _ _ (82 : Int) [.int .u8 82] from rfl) (Reps.one (show Kd.M (Kd.int .u8) _ _ _ (78 : Int) [.int .u8 78] from rfl) (Reps.one (show Kd.M (Kd.int .u8) _ _ _ (76 : Int) [.int .u8 76] from rfl) (Reps.one (show Kd.M (Kd.int .u8) _ _ _ (0 : Int) [.int .u8 0] from rfl) (Reps.none _ _))))))); intro v1 w1 ho hb hg_ hnew_; clear hg_ hnew_; obtain ⟨A1, c1, rfl⟩ := Kd.R_slice ho; have HR1 := Aside0.mk (Kd.R_reads' ho).2.2; have HC1 := Aside0.mk (Kd.R_reads' ho).2.1; have n1_ : Aside0 (Below w.heap.size w w1) := ⟨below_step (by repeat (first | (with_reducible first | exact HB.out | apply below_alloc | apply pw_below_drewN | apply below_drew1) | exact HB.out)) hb⟩; clear HB; have HB := n1_; clear n1_; clear ho hb) | (go_at_call 65; go_loud ((with_reducible refine (WS.out _ _ _ HR1.out).mono ?_); rintro e w2 ⟨v2, rfl, ho, hb⟩; have HO := Aside0.mk (Kd.R_lower ho (below_size HB.out)); have HB2 := Aside0.mk (below_step HB.out hb); clear ho hb)))
  go_ret
  exact ⟨_, rfl, HO.out, HB2.out⟩
structure BaseM (W : World) (gu gl gn ge gd : Nat) : Prop where
  u : W.heap[gu]? = some (.cells #[.int .i64 1, .int .i64 0, .int .i64 2, .int .i64 0, .slice none 0 0, .slice none 0 0, .int .i64 0, .int .i64 0, .string ⟨#[]⟩, .int .i64 0, .int .i64 0, .int .i64 0, .int .i64 0, .int .i64 1, .int .i64 0, .int .i64 2, .int .i64 0, .slice none 0 0, .slice none 0 0, .int .i64 0, .int .i64 0, .string ⟨#[]⟩, .int .i64 0, .int .i64 0, .int .i64 0, .int .i64 0, .int .i64 1, .int .i64 0, .int .i64 2, .int .i64 0, .slice none 0 0, .slice none 0 0, .int .i64 0, .int .i64 0, .string ⟨#[]⟩, .int .i64 0, .int .i64 0, .int .i64 0, .int .i64 0, .int .i64 0, .int .i64 0, .int .i64 0, .int .i64 0, .slice none 0 0, .slice none 0 0, .int .i64 0, .int .i64 0, .string ⟨#[]⟩, .int .i64 0, .int .i64 0, .int .i64 0, .int .i64 0, .int .i64 0, .int .i64 0, .int .i64 0, .int .i64 0, .slice none 0 0, .slice none 0 0, .int .i64 0, .int .i64 0, .string ⟨#[]⟩, .int .i64 0, .int .i64 0, .int .i64 0, .int .i64 0] 129 (0, 0))
  l : W.heap[gl]? = some (.cells #[.slice (some ⟨gn, 0, none⟩) 5 5] 87 (0, 0))
  n : W.heap[gn]? = some (.cells #[.int .i64 1, .int .i64 0, .int .i64 2, .int .i64 0, .slice none 0 0, .slice (some ⟨ge, 0, none⟩) 1 1, .int .i64 0, .int .i64 0, .string ⟨#[]⟩, .int .i64 0, .int .i64 0, .int .i64 0, .int .i64 0, .int .i64 2, .int .i64 0, .int .i64 1, .int .i64 3, .slice (some ⟨gd, 0, none⟩) 1 1, .slice none 0 0, .int .i64 0, .int .i64 0, .string ⟨#[]⟩, .int .i64 0, .int .i64 0, .int .i64 0, .int .i64 0, .int .i64 0, .int .i64 0, .int .i64 0, .int .i64 0, .slice none 0 0, .slice none 0 0, .int .i64 0, .int .i64 0, .string ⟨#[]⟩, .int .i64 0, .int .i64 0, .int .i64 0, .int .i64 0, .int .i64 0, .int .i64 0, .int .i64 0, .int .i64 0, .slice none 0 0, .slice none 0 0, .int .i64 0, .int .i64 0, .string ⟨#[]⟩, .int .i64 0, .int .i64 0, .int .i64 0, .int .i64 0, .int .i64 0, .int .i64 0, .int .i64 0, .int .i64 0, .slice none 0 0, .slice none 0 0, .int .i64 0, .int .i64 0, .string ⟨#[]⟩, .int .i64 0, .int .i64 0, .int .i64 0, .int .i64 0] 129 (0, 0))
  e : W.heap[ge]? = some (.cells #[.int .i64 0, .int .i64 2, .string ⟨#[97]⟩] 132 (0, 0))
  d : W.heap[gd]? = some (.cells #[.int .u8 120] 5 (0, 0))
theorem BaseM.below {W W' : World} {gu gl gn ge gd : Nat} (h : BaseM W gu gl gn ge gd) (b : Below W.heap.size W W') : BaseM W' gu gl gn ge gd := ⟨blk_below h.u b, blk_below h.l b, blk_below h.n b, blk_below h.e b, blk_below h.d b⟩
set_option maxHeartbeats 4000000 in
set_option maxRecDepth 100000 in
theorem base_walk (w : World) : Calls Try.prog 57 #[] w fun e w' => ∃ gu gl gn ge gd : Nat, e = .returned (.agg #[.int .i64 1, .int .i64 5, .int .i64 6, .int .i64 5, .slice (some ⟨gu, 0, none⟩) 5 5, .slice (some ⟨gl, 0, none⟩) 1 1]) ∧ BaseM w' gu gl gn ge gd ∧ Below w.heap.size w w' := by
  have WD := Aside0.mk dir_walk
  go_enter Try.func57, Try.ntmps57
  go_upto_region 1 with (fail)
  obtain ⟨wa, hwa⟩ : ∃ wa, wa = w.alloc (.cells #[.int .i64 0, .int .i64 0, .int .i64 0, .int .i64 0, .slice none 0 0, .slice none 0 0] 90) := ⟨_, rfl⟩
  refine go_on40 ?_
  rw [← hwa]
  have B0 : Aside0 (wa.heap[w.heap.size]? = some (.cells #[.int .i64 0, .int .i64 0, .int .i64 0, .int .i64 0, .slice none 0 0, .slice none 0 0] 90 (0, 0))) := ⟨by rw [hwa]; exact heap_alloc_new _ _⟩
  have HB : Aside0 (Below w.heap.size w wa) := ⟨by rw [hwa]; exact below_alloc (Below.refl _ _) _⟩
  have BA := B0
  clear hwa
  go_wp2_with (first | ((with_reducible refine gate_store (p := 1) rfl ?_); go_loud (refine wpList_store_newL (w0 := wa) rfl rfl 90 (.tmp 1) (.tmp 3) rfl #[.int .i64 1, .int .i64 5, .int .i64 6, .int .i64 5, .slice none 0 0, .slice none 0 0] 90 #[.int .i64 0, .int .i64 0, .int .i64 0, .int .i64 0, .slice none 0 0, .slice none 0 0] rfl (by rfl) (by rfl) (by kernel_rfl) rfl (by simp [Value.oneCell']) ?_; intro w1 bk_ hb; have BK1 := Aside0.mk bk_; clear bk_; have n_ := Aside0.mk (blk_below (by first | exact B0.out | exact blk_drewN B0.out _ | exact blk_alloc B0.out _) hb); clear B0; have B0 := n_; clear n_; have n1_ : Aside0 (Below w.heap.size w w1) := ⟨below_step (by repeat (first | (with_reducible first | exact HB.out | apply below_alloc | apply pw_below_drewN | apply below_drew1) | exact HB.out)) hb⟩; clear HB; have HB := n1_; clear n1_; clear hb; have B1 := BK1; clear BK1; have L1 : Aside0 (w.heap.size < wa.heap.size ∧ wa.heap.size < w1.heap.size) := ⟨blk_lt BA.out, blk_lt B1.out⟩)) | ((with_reducible refine gate_store (p := 15) rfl ?_); go_loud (refine wpList_store_blk rfl rfl 88 (.tmp 15) (.tmp 14) rfl wa.heap.size 5 (.slice (some ⟨w2.heap.size + 1 + 1, 0, none⟩) 1 1) rfl rfl rfl (by kernel_rfl) (cs := #[.int .i64 1, .int .i64 5, .int .i64 6, .int .i64 5, .slice none 0 0, .slice none 0 0]) (t := 90) (blk_alloc (blk_alloc (blk_alloc B1.out _) _) _) (by decide) ?_; intro w3 bk_ hg_; have BD : Aside0 (w3.heap[w2.heap.size]? = some (.cells #[.int .u8 120] 5 (0, 0))) := ⟨blk_grown (blk_alloc (blk_alloc (heap_alloc_new w2 _) _) _) hg_ (by have := L2.out; intro e_; have := Option.some.inj e_; omega)⟩; have BN : Aside0 (w3.heap[w2.heap.size + 1]? = some (.cells #[.int .i64 1, .int .i64 0, .int .i64 2, .int .i64 0, .slice none 0 0, .slice (some ⟨w1.heap.size, 0, none⟩) 1 1, .int .i64 0, .int .i64 0, .string ⟨#[]⟩, .int .i64 0, .int .i64 0, .int .i64 0, .int .i64 0, .int .i64 2, .int .i64 0, .int .i64 1, .int .i64 3, .slice (some ⟨w2.heap.size, 0, none⟩) 1 1, .slice none 0 0, .int .i64 0, .int .i64 0, .string ⟨#[]⟩, .int .i64 0, .int .i64 0, .int .i64 0, .int .i64 0, .int .i64 0, .int .i64 0, .int .i64 0, .int .i64 0, .slice none 0 0, .slice none 0 0, .int .i64 0, .int .i64 0, .string ⟨#[]⟩, .int .i64 0, .int .i64 0, .int .i64 0, .int .i64 0, .int .i64 0, .int .i64 0, .int .i64 0, .int .i64 0, .slice none 0 0, .slice none 0 0, .int .i64 0, .int .i64 0, .string ⟨#[]⟩, .int .i64 0, .int .i64 0, .int .i64 0, .int .i64 0, .int .i64 0, .int .i64 0, .int .i64 0, .int .i64 0, .slice none 0 0, .slice none 0 0, .int .i64 0, .int .i64 0, .string ⟨#[]⟩, .int .i64 0, .int .i64 0, .int .i64 0, .int .i64 0] 129 (0, 0))) := ⟨blk_grown (blk_alloc (heap_at2 (by simp)) _) hg_ (by have := L2.out; intro e_; have := Option.some.inj e_; omega)⟩; have BL : Aside0 (w3.heap[w2.heap.size + 1 + 1]? = some (.cells #[.slice (some ⟨w2.heap.size + 1, 0, none⟩) 5 5] 87 (0, 0))) := ⟨blk_grown (heap_at2 (by simp)) hg_ (by have := L2.out; intro e_; have := Option.some.inj e_; omega)⟩; have n_ := Aside0.mk (blk_grown (blk_alloc (blk_alloc (blk_alloc B0.out _) _) _) hg_ (by have := L2.out; intro e_; have := Option.some.inj e_; omega)); clear B0; have B0 := n_; clear n_; have n_ := Aside0.mk (blk_grown (blk_alloc (blk_alloc (blk_alloc BE.out _) _) _) hg_ (by have := L2.out; intro e_; have := Option.some.inj e_; omega)); clear BE; have BE := n_; clear n_; have n_ : Aside0 (w3.heap[wa.heap.size]? = some (.cells #[.int .i64 1, .int .i64 5, .int .i64 6, .int .i64 5, .slice none 0 0, .slice (some ⟨w2.heap.size + 1 + 1, 0, none⟩) 1 1] 90 (0, 0))) := ⟨bk_⟩; clear B1 bk_; have B1 := n_; clear n_; have n_ := Aside0.mk (pw_below_grown (below_alloc (below_alloc (below_alloc HB.out _) _) _) _ (below_alloc (below_alloc (below_alloc HB.out _) _) _).size hg_ (fun k e => by cases e; have := L2.out; omega)); clear HB hg_; have HB := n_; clear n_)) | ((with_reducible refine gate_store (p := 23) rfl ?_); go_loud (refine wpList_store_midL rfl rfl 87 (.tmp 23) (.tmp 22) rfl wa.heap.size 4 [.slice (some ⟨w4.heap.size, 0, none⟩) 5 5] rfl rfl (by kernel_rfl) (by intro u hu; rw [List.mem_singleton.1 hu]; rfl) (blk_alloc B1.out _) (show 5 ≤ 6 by omega) ?_; intro w5 cs5 bk_ hs_ hc_ hg_; have n_ : Aside0 (w5.heap[wa.heap.size]? = some (.cells #[.int .i64 1, .int .i64 5, .int .i64 6, .int .i64 5, .slice (some ⟨w4.heap.size, 0, none⟩) 5 5, .slice (some ⟨w2.heap.size + 1 + 1, 0, none⟩) 1 1] 90 (0, 0))) := ⟨by rw [bk_]; congr 2; apply Array.ext'; rw [hc_]; rfl⟩; have BU : Aside0 (w5.heap[w4.heap.size]? = some (.cells #[.int .i64 1, .int .i64 0, .int .i64 2, .int .i64 0, .slice none 0 0, .slice none 0 0, .int .i64 0, .int .i64 0, .string ⟨#[]⟩, .int .i64 0, .int .i64 0, .int .i64 0, .int .i64 0, .int .i64 1, .int .i64 0, .int .i64 2, .int .i64 0, .slice none 0 0, .slice none 0 0, .int .i64 0, .int .i64 0, .string ⟨#[]⟩, .int .i64 0, .int .i64 0, .int .i64 0, .int .i64 0, .int .i64 1, .int .i64 0, .int .i64 2, .int .i64 0, .slice none 0 0, .slice none 0 0, .int .i64 0, .int .i64 0, .string ⟨#[]⟩, .int .i64 0, .int .i64 0, .int .i64 0, .int .i64 0, .int .i64 0, .int .i64 0, .int .i64 0, .int .i64 0, .slice none 0 0, .slice none 0 0, .int .i64 0, .int .i64 0, .string ⟨#[]⟩, .int .i64 0, .int .i64 0, .int .i64 0, .int .i64 0, .int .i64 0, .int .i64 0, .int .i64 0, .int .i64 0, .slice none 0 0, .slice none 0 0, .int .i64 0, .int .i64 0, .string ⟨#[]⟩, .int .i64 0, .int .i64 0, .int .i64 0, .int .i64 0] 129 (0, 0))) := ⟨blk_grown (heap_alloc_new w4 _) hg_ (by have := L2.out; have := L4.out; intro e_; have := Option.some.inj e_; omega)⟩; clear B1 bk_ hs_ hc_; have B1 := n_; clear n_; have n_ := Aside0.mk (blk_grown (blk_alloc B0.out _) hg_ (by have := L2.out; have := L4.out; intro e_; have := Option.some.inj e_; omega)); clear B0; have B0 := n_; clear n_; have n_ := Aside0.mk (blk_grown (blk_alloc BE.out _) hg_ (by have := L2.out; have := L4.out; intro e_; have := Option.some.inj e_; omega)); clear BE; have BE := n_; clear n_; have n_ := Aside0.mk (blk_grown (blk_alloc BD.out _) hg_ (by have := L2.out; have := L4.out; intro e_; have := Option.some.inj e_; omega)); clear BD; have BD := n_; clear n_; have n_ := Aside0.mk (blk_grown (blk_alloc BN.out _) hg_ (by have := L2.out; have := L4.out; intro e_; have := Option.some.inj e_; omega)); clear BN; have BN := n_; clear n_; have n_ := Aside0.mk (blk_grown (blk_alloc BL.out _) hg_ (by have := L2.out; have := L4.out; intro e_; have := Option.some.inj e_; omega)); clear BL; have BL := n_; clear n_; have n_ := Aside0.mk (pw_below_grown (below_alloc HB.out _) _ (below_alloc HB.out _).size hg_ (fun k e => by cases e; have := L2.out; omega)); clear HB hg_; have HB := n_; clear n_; have y0 : w5.cell? ⟨wa.heap.size, 0, none⟩ = some (.int .i64 1) := (blk_cell B1.out 0).trans rfl; have y1 : w5.cell? ⟨wa.heap.size, 1, none⟩ = some (.int .i64 5) := (blk_cell B1.out 1).trans rfl; have y2 : w5.cell? ⟨wa.heap.size, 2, none⟩ = some (.int .i64 6) := (blk_cell B1.out 2).trans rfl; have y3 : w5.cell? ⟨wa.heap.size, 3, none⟩ = some (.int .i64 5) := (blk_cell B1.out 3).trans rfl; have y4 : w5.cell? ⟨wa.heap.size, 4, none⟩ = some (.slice (some ⟨w4.heap.size, 0, none⟩) 5 5) := (blk_cell B1.out 4).trans rfl; have y5 : w5.cell? ⟨wa.heap.size, 5, none⟩ = some (.slice (some ⟨w2.heap.size + 1 + 1, 0, none⟩) 1 1) := (blk_cell B1.out 5).trans rfl)) | ((with_reducible refine gate_store (p := 0) rfl ?_); go_loud (refine wpList_store_rowL rfl rfl 90 (.tmp 0) (.tmp 24) rfl (w.heap.size) #[.int .i64 1, .int .i64 5, .int .i64 6, .int .i64 5, .slice (some ⟨w4.heap.size, 0, none⟩) 5 5, .slice (some ⟨w2.heap.size + 1 + 1, 0, none⟩) 1 1] rfl rfl 90 #[.int .i64 0, .int .i64 0, .int .i64 0, .int .i64 0, .slice none 0 0, .slice none 0 0] (B0.out) (by kernel_rfl) rfl (by simp [Value.oneCell']) ?_; intro w6 bk_ hg_; have hne_ : Aside0 (w.heap.size < w1.heap.size) := ⟨by have := L2.out; omega⟩; have n_ := Aside0.mk (blk_grown BU.out hg_ (by have := L2.out; have := L4.out; intro e_; have := Option.some.inj e_; omega)); clear BU; have BU := n_; clear n_; have n_ := Aside0.mk (blk_grown BE.out hg_ (by have := L2.out; have := L4.out; intro e_; have := Option.some.inj e_; omega)); clear BE; have BE := n_; clear n_; have n_ := Aside0.mk (blk_grown BD.out hg_ (by have := L2.out; have := L4.out; intro e_; have := Option.some.inj e_; omega)); clear BD; have BD := n_; clear n_; have n_ := Aside0.mk (blk_grown BN.out hg_ (by have := L2.out; have := L4.out; intro e_; have := Option.some.inj e_; omega)); clear BN; have BN := n_; clear n_; have n_ := Aside0.mk (blk_grown BL.out hg_ (by have := L2.out; have := L4.out; intro e_; have := Option.some.inj e_; omega)); clear BL; have BL := n_; clear n_; have B6 := Aside0.mk bk_; have n_ := Aside0.mk (pw_below_grown HB.out _ HB.out.size hg_ (fun k e => by cases e; exact Nat.le_refl _)); clear HB hg_ bk_; have HB := n_; clear n_)) | (go_at_call 95; ((with_reducible refine (WD.out _ _ _ _).mono ?_); rintro e w4 ⟨rfl, hb⟩; have n_ := Aside0.mk (blk_below BL.out hb); clear BL; have BL := n_; clear n_; have n_ := Aside0.mk (blk_below BN.out hb); clear BN; have BN := n_; clear n_; have n_ := Aside0.mk (blk_below BD.out hb); clear BD; have BD := n_; clear n_; have n_ := Aside0.mk (blk_below B0.out hb); clear B0; have B0 := n_; clear n_; have n_ := Aside0.mk (blk_below B1.out hb); clear B1; have B1 := n_; clear n_; have n_ := Aside0.mk (blk_below BE.out hb); clear BE; have BE := n_; clear n_; have n_ := Aside0.mk (below_step HB.out hb); clear HB hb; have HB := n_; clear n_; have L4 := Aside0.mk (blk_lt BL.out))) | (go_at_call 95; go_loud ((with_reducible refine (WD.out _ _ _ _).mono ?_); rintro e w2 ⟨rfl, hb⟩; have BE : Aside0 (w2.heap[w1.heap.size]? = some (.cells #[.int .i64 0, .int .i64 2, .string ⟨#[97]⟩] 132 (0, 0))) := ⟨blk_below (heap_alloc_new _ _) hb⟩; have n_ := Aside0.mk (blk_below (blk_alloc B0.out _) hb); clear B0; have B0 := n_; clear n_; have n_ := Aside0.mk (blk_below (blk_alloc B1.out _) hb); clear B1; have B1 := n_; clear n_; have n_ := Aside0.mk (below_step (below_alloc HB.out _) hb); clear HB; have HB := n_; clear n_; have L2 : Aside0 (w.heap.size < wa.heap.size ∧ wa.heap.size < w1.heap.size ∧ w1.heap.size < w2.heap.size) := ⟨L1.out.1, L1.out.2, blk_lt BE.out⟩; clear hb)))
  refine bodyPost_ret (results_cell_row rfl _ _ w.heap.size 90 #[.int .i64 1, .int .i64 5, .int .i64 6, .int .i64 5, .slice (some ⟨w4.heap.size, 0, none⟩) 5 5, .slice (some ⟨w2.heap.size + 1 + 1, 0, none⟩) 1 1] (0, 0) _ rfl B6.out Try.underlying90 rfl (by kernel_rfl)) rfl ?_
  exact ⟨_, _, rfl, ⟨_, _, _, ⟨BU.out, BL.out, BN.out, BE.out, BD.out⟩⟩, HB.out⟩
end Go.Proofs.Ytdkbhbolkieeiaa.K
namespace Go.Proofs.Ytdkbhbolkieeiaa.K
open Go.RowKit Go.Proofs.YtdkbhbolkieeiaaW.PrintWords Go.Proofs.YtdkbhbolkieeiaaW.PrintLast Go.Proofs.YtdkbhbolkieeiaaW.PrintMore
set_option linter.unusedVariables false
set_option linter.unusedSimpArgs false
theorem count09_walk (top : Int) (h : 0 ≤ top) (w : World) : Calls Try.prog 141 #[.int .i64 0, .int .i64 top] w fun e w' => e = .returned (.bool true) ∧ w' = w := by
  go_enter Try.func141, Try.ntmps141
  go_wp2
  go_ret
  exact ⟨rfl, rfl⟩
theorem has09_1 (w : World) : Calls Try.prog 142 #[.int .i64 0, .int .i64 1] w fun e w' => e = .returned (.bool false) ∧ w' = w := by
  go_enter Try.func142, Try.ntmps142
  go_wp2
  go_ret
  exact ⟨rfl, rfl⟩
theorem has09_2 (w : World) : Calls Try.prog 142 #[.int .i64 0, .int .i64 2] w fun e w' => e = .returned (.bool false) ∧ w' = w := by
  go_enter Try.func142, Try.ntmps142
  go_wp2
  go_ret
  exact ⟨rfl, rfl⟩
theorem has09_4 (w : World) : Calls Try.prog 142 #[.int .i64 0, .int .i64 4] w fun e w' => e = .returned (.bool false) ∧ w' = w := by
  go_enter Try.func142, Try.ntmps142
  go_wp2
  go_ret
  exact ⟨rfl, rfl⟩
theorem has09_8 (w : World) : Calls Try.prog 142 #[.int .i64 0, .int .i64 8] w fun e w' => e = .returned (.bool false) ∧ w' = w := by
  go_enter Try.func142, Try.ntmps142
  go_wp2
  go_ret
  exact ⟨rfl, rfl⟩
theorem eqOrig (w : World) : (Op.equalIn 10000 125 (.agg #[.int .i64 0, .int .i64 0, .int .i64 0]) (.agg #[.int .i64 0, .int .i64 0, .int .i64 0])).run Try.prog w = .ok true w := by kernel_rfl
set_option maxHeartbeats 4000000 in
set_option maxRecDepth 100000 in
theorem right09_zero (w : World) : Calls Try.prog 137 #[.agg attr0] w fun e w' => e = .returned (.bool true) ∧ Below w.heap.size w w' := by
  have q := eqOrig
  go_enter Try.func137, Try.ntmps137
  go_wp2_with (first | (go_at_call 141; (with_reducible refine (count09_walk _ (by decide) _).mono ?_); rintro e w' ⟨rfl, h_⟩; have h_ := h_.symm; subst h_))
  obtain ⟨wz, hwz⟩ : ∃ wz, wz = (w.alloc (.cells attr0 127)).alloc (.cells #[.int .i64 0, .int .i64 0, .int .i64 0] 125) := ⟨_, rfl⟩
  refine go_on40 ?_
  rw [← hwz]
  have HB : Aside0 (Below w.heap.size w wz) := ⟨by rw [hwz]; exact below_alloc (below_alloc (Below.refl _ _) _) _⟩
  have BA : wz.heap[w.heap.size]? = some (.cells attr0 127 (0, 0)) := by rw [hwz]; exact blk_alloc (heap_alloc_new _ _) _
  have BO : wz.heap[w.heap.size + 1]? = some (.cells #[.int .i64 0, .int .i64 0, .int .i64 0] 125 (0, 0)) := by rw [hwz]; exact heap_at2 (by simp)
  have k0 : wz.cell? ⟨w.heap.size, 0, none⟩ = some (.int .i64 0) := (blk_cell BA 0).trans rfl
  have k1 : wz.cell? ⟨w.heap.size, 1, none⟩ = some (.int .i64 0) := (blk_cell BA 1).trans rfl
  have k2 : wz.cell? ⟨w.heap.size, 2, none⟩ = some (.string ⟨#[]⟩) := (blk_cell BA 2).trans rfl
  have k6 : wz.cell? ⟨w.heap.size, 6, none⟩ = some (.int .i64 0) := (blk_cell BA 6).trans rfl
  have o0 : wz.cell? ⟨w.heap.size + 1, 0, none⟩ = some (.int .i64 0) := (blk_cell BO 0).trans rfl
  have o1 : wz.cell? ⟨w.heap.size + 1, 1, none⟩ = some (.int .i64 0) := (blk_cell BO 1).trans rfl
  have o2 : wz.cell? ⟨w.heap.size + 1, 2, none⟩ = some (.int .i64 0) := (blk_cell BO 2).trans rfl
  clear hwz
  refine start_ (n := 19) (S := fun w' => w'.cell? ⟨w.heap.size, 0, none⟩ = some (.int .i64 0) ∧ w'.cell? ⟨w.heap.size, 1, none⟩ = some (.int .i64 0) ∧ w'.cell? ⟨w.heap.size, 2, none⟩ = some (.string ⟨#[]⟩)) (ds := []) #[false, false, false, false, false, false, false, false, false, false, false, false, false, false, false, false, false, false, false] (by kernel_rfl) rfl rfl ⟨(show wz.drew.cell? _ = _ from k0), (show wz.drew.cell? _ = _ from k1), (show wz.drew.cell? _ = _ from k2)⟩ (fun hHeld => ?_)
  refine pure_ (i := 0) (N := some 45) (v := ?_) (a' := ?_) #[true, false, false, false, false, false, false, false, false, false, false, false, false, false, false, false, false, false, false] rfl rfl (by kernel_rfl) (fun _ _ _ h => h) (Or.inl ⟨by rfl, ?_⟩) ?_ ?_
  rotate_left
  · intro w'
    go_simp
    with_reducible rfl
  rotate_left
  · simp only [Act.put, List.setIfInBounds_toArray, List.set_cons_zero, List.set_cons_succ, i64_w, i32_w]
    rfl
  refine take_ (i := 1) (N := some 46) (v := ?_) (a' := ?_) #[true, true, false, false, false, false, false, false, false, false, false, false, false, false, false, false, false, false, false] rfl rfl (by kernel_rfl) (fun _ _ _ h => h) (Or.inl ⟨by rfl, ?_⟩) hHeld ?_ ?_
  rotate_left
  · rintro w' ⟨s0, s1, s2⟩
    go_simp
    with_reducible rfl
  rotate_left
  · simp only [Act.put, List.setIfInBounds_toArray, List.set_cons_zero, List.set_cons_succ, i64_w, i32_w]
    rfl
  refine one_ (i := 2) (N := some 47) #[true, true, true, false, false, false, false, false, false, false, false, false, false, false, false, false, false, false, false] rfl rfl (by kernel_rfl) (by decide) (fun K hK => ?_)
  refine goes_ Try.func142 (by kernel_rfl) rfl #[.int .i64 0, .int .i64 1] (by rfl) rfl rfl (by simp only [List.map_toArray, List.map_cons, List.map_nil]; rfl) ?_
  with_reducible refine (has09_1 _).mono ?_
  rintro e w3 ⟨rfl, rfl⟩
  refine ⟨_, rfl, ?_⟩
  refine hK.out _ _ ⟨(show wz.drew.cell? _ = _ from k0), (show wz.drew.cell? _ = _ from k1), (show wz.drew.cell? _ = _ from k2)⟩ (fun hHeld => ?_)
  clear hK K
  refine norm_ (a' := ?_) ?_ ?_
  rotate_left
  · show Act.put _ (some 47) _ = _
    simp only [Act.put, List.setIfInBounds_toArray, List.set_cons_zero, List.set_cons_succ, i64_w, i32_w]
    rfl
  refine pure_ (i := 3) (N := some 48) (v := ?_) (a' := ?_) #[true, true, true, true, false, false, false, false, false, false, false, false, false, false, false, false, false, false, false] rfl rfl (by kernel_rfl) (fun _ _ _ h => h) (Or.inl ⟨by rfl, ?_⟩) ?_ ?_
  rotate_left
  · intro w'
    go_simp
    with_reducible rfl
  rotate_left
  · simp only [Act.put, List.setIfInBounds_toArray, List.set_cons_zero, List.set_cons_succ, i64_w, i32_w]
    rfl
  refine pure_ (i := 4) (N := some 49) (v := ?_) (a' := ?_) #[true, true, true, true, true, false, false, false, false, false, false, false, false, false, false, false, false, false, false] rfl rfl (by kernel_rfl) (fun _ _ _ h => h) (Or.inl ⟨by rfl, ?_⟩) ?_ ?_
  rotate_left
  · intro w'
    go_simp
    with_reducible rfl
  rotate_left
  · simp only [Act.put, List.setIfInBounds_toArray, List.set_cons_zero, List.set_cons_succ, i64_w, i32_w]
    rfl
  refine pure_ (i := 5) (N := some 50) (v := ?_) (a' := ?_) #[true, true, true, true, true, true, false, false, false, false, false, false, false, false, false, false, false, false, false] rfl rfl (by kernel_rfl) (fun _ _ _ h => h) (Or.inl ⟨by rfl, ?_⟩) ?_ ?_
  rotate_left
  · intro w'
    go_simp
    with_reducible rfl
  rotate_left
  · simp only [Act.put, List.setIfInBounds_toArray, List.set_cons_zero, List.set_cons_succ, i64_w, i32_w]
    rfl
  refine take_ (i := 6) (N := some 51) (v := ?_) (a' := ?_) #[true, true, true, true, true, true, true, false, false, false, false, false, false, false, false, false, false, false, false] rfl rfl (by kernel_rfl) (fun _ _ _ h => h) (Or.inl ⟨by rfl, ?_⟩) hHeld ?_ ?_
  rotate_left
  · rintro w' ⟨s0, s1, s2⟩
    go_simp
    with_reducible rfl
  rotate_left
  · simp only [Act.put, List.setIfInBounds_toArray, List.set_cons_zero, List.set_cons_succ, i64_w, i32_w]
    rfl
  refine pure_ (i := 7) (N := some 52) (v := ?_) (a' := ?_) #[true, true, true, true, true, true, true, true, false, false, false, false, false, false, false, false, false, false, false] rfl rfl (by kernel_rfl) (fun _ _ _ h => h) (Or.inl ⟨by rfl, ?_⟩) ?_ ?_
  rotate_left
  · intro w'
    go_simp
    with_reducible rfl
  rotate_left
  · simp only [Act.put, List.setIfInBounds_toArray, List.set_cons_zero, List.set_cons_succ, i64_w, i32_w]
    rfl
  refine pure_ (i := 8) (N := some 53) (v := ?_) (a' := ?_) #[true, true, true, true, true, true, true, true, true, false, false, false, false, false, false, false, false, false, false] rfl rfl (by kernel_rfl) (fun _ _ _ h => h) (Or.inl ⟨by rfl, ?_⟩) ?_ ?_
  rotate_left
  · intro w'
    go_simp
    with_reducible rfl
  rotate_left
  · simp only [Act.put, List.setIfInBounds_toArray, List.set_cons_zero, List.set_cons_succ, i64_w, i32_w]
    rfl
  refine pure_ (i := 9) (N := some 54) (v := ?_) (a' := ?_) #[true, true, true, true, true, true, true, true, true, true, false, false, false, false, false, false, false, false, false] rfl rfl (by kernel_rfl) (fun _ _ _ h => h) (Or.inl ⟨by rfl, ?_⟩) ?_ ?_
  rotate_left
  · intro w'
    go_simp
    with_reducible rfl
  rotate_left
  · simp only [Act.put, List.setIfInBounds_toArray, List.set_cons_zero, List.set_cons_succ, i64_w, i32_w]
    rfl
  refine pure_ (i := 10) (N := some 55) (v := ?_) (a' := ?_) #[true, true, true, true, true, true, true, true, true, true, true, false, false, false, false, false, false, false, false] rfl rfl (by kernel_rfl) (fun _ _ _ h => h) (Or.inl ⟨by rfl, ?_⟩) ?_ ?_
  rotate_left
  · intro w'
    go_simp
    with_reducible rfl
  rotate_left
  · simp only [Act.put, List.setIfInBounds_toArray, List.set_cons_zero, List.set_cons_succ, i64_w, i32_w]
    rfl
  refine pure_ (i := 13) (N := some 58) (v := ?_) (a' := ?_) #[true, true, true, true, true, true, true, true, true, true, true, false, false, true, false, false, false, false, false] rfl rfl (by kernel_rfl) (fun _ _ _ h => h) (Or.inl ⟨by rfl, ?_⟩) ?_ ?_
  rotate_left
  · intro w'
    go_simp
    with_reducible rfl
  rotate_left
  · simp only [Act.put, List.setIfInBounds_toArray, List.set_cons_zero, List.set_cons_succ, i64_w, i32_w]
    rfl
  refine take_ (i := 11) (N := some 56) (v := ?_) (a' := ?_) #[true, true, true, true, true, true, true, true, true, true, true, true, false, true, false, false, false, false, false] rfl rfl (by kernel_rfl) (fun _ _ _ h => h) (Or.inl ⟨by rfl, ?_⟩) hHeld ?_ ?_
  rotate_left
  · rintro w' ⟨s0, s1, s2⟩
    go_simp
    with_reducible rfl
  rotate_left
  · simp only [Act.put, List.setIfInBounds_toArray, List.set_cons_zero, List.set_cons_succ, i64_w, i32_w]
    rfl
  refine take_ (i := 14) (N := some 59) (v := ?_) (a' := ?_) #[true, true, true, true, true, true, true, true, true, true, true, true, false, true, true, false, false, false, false] rfl rfl (by kernel_rfl) (fun _ _ _ h => h) (Or.inl ⟨by rfl, ?_⟩) hHeld ?_ ?_
  rotate_left
  · rintro w' ⟨s0, s1, s2⟩
    go_simp
    with_reducible rfl
  rotate_left
  · simp only [Act.put, List.setIfInBounds_toArray, List.set_cons_zero, List.set_cons_succ, i64_w, i32_w]
    rfl
  refine pure_ (i := 15) (N := some 60) (v := ?_) (a' := ?_) #[true, true, true, true, true, true, true, true, true, true, true, true, false, true, true, true, false, false, false] rfl rfl (by kernel_rfl) (fun _ _ _ h => h) (Or.inl ⟨by rfl, ?_⟩) ?_ ?_
  rotate_left
  · intro w'
    go_simp
    with_reducible rfl
  rotate_left
  · simp only [Act.put, List.setIfInBounds_toArray, List.set_cons_zero, List.set_cons_succ, i64_w, i32_w]
    rfl
  refine pure_ (i := 16) (N := some 61) (v := ?_) (a' := ?_) #[true, true, true, true, true, true, true, true, true, true, true, true, false, true, true, true, true, false, false] rfl rfl (by kernel_rfl) (fun _ _ _ h => h) (Or.inl ⟨by rfl, ?_⟩) ?_ ?_
  rotate_left
  · intro w'
    go_simp
    with_reducible rfl
  rotate_left
  · simp only [Act.put, List.setIfInBounds_toArray, List.set_cons_zero, List.set_cons_succ, i64_w, i32_w]
    rfl
  refine one_ (i := 12) (N := some 57) #[true, true, true, true, true, true, true, true, true, true, true, true, true, true, true, true, true, false, false] rfl rfl (by kernel_rfl) (by decide) (fun K hK => ?_)
  refine goes_ Try.func142 (by kernel_rfl) rfl #[.int .i64 0, .int .i64 2] (by rfl) rfl rfl (by simp only [List.map_toArray, List.map_cons, List.map_nil]; rfl) ?_
  with_reducible refine (has09_2 _).mono ?_
  rintro e w3 ⟨rfl, rfl⟩
  refine ⟨_, rfl, ?_⟩
  refine hK.out _ _ ⟨(show wz.drew.cell? _ = _ from k0), (show wz.drew.cell? _ = _ from k1), (show wz.drew.cell? _ = _ from k2)⟩ (fun hHeld => ?_)
  clear hK K
  refine norm_ (a' := ?_) ?_ ?_
  rotate_left
  · show Act.put _ (some 57) _ = _
    simp only [Act.put, List.setIfInBounds_toArray, List.set_cons_zero, List.set_cons_succ, i64_w, i32_w]
    rfl
  refine pure_ (i := 17) (N := some 62) (v := ?_) (a' := ?_) #[true, true, true, true, true, true, true, true, true, true, true, true, true, true, true, true, true, true, false] rfl rfl (by kernel_rfl) (fun _ _ _ h => h) (Or.inl ⟨by rfl, ?_⟩) ?_ ?_
  rotate_left
  · intro w'
    go_simp
    with_reducible rfl
  rotate_left
  · simp only [Act.put, List.setIfInBounds_toArray, List.set_cons_zero, List.set_cons_succ, i64_w, i32_w]
    rfl
  refine pure_ (i := 18) (N := some 63) (v := ?_) (a' := ?_) #[true, true, true, true, true, true, true, true, true, true, true, true, true, true, true, true, true, true, true] rfl rfl (by kernel_rfl) (fun _ _ _ h => h) (Or.inl ⟨by rfl, ?_⟩) ?_ ?_
  rotate_left
  · intro w'
    go_simp
    with_reducible rfl
  rotate_left
  · simp only [Act.put, List.setIfInBounds_toArray, List.set_cons_zero, List.set_cons_succ, i64_w, i32_w]
    rfl
  refine done_ (by kernel_rfl) ?_
  clear hHeld
  refine go_on40 ?_
  go_wp2_with (first | (go_at_call 142; (with_reducible refine (has09_4 _).mono ?_); rintro e w' ⟨rfl, h_⟩; have h_ := h_.symm; subst h_) | (go_at_call 142; (with_reducible refine (has09_8 _).mono ?_); rintro e w' ⟨rfl, h_⟩; have h_ := h_.symm; subst h_))
  go_ret
  exact ⟨rfl, below_drew1 HB.out⟩
end Go.Proofs.Ytdkbhbolkieeiaa.K
namespace Go.Proofs.Ytdkbhbolkieeiaa.K
open Go.RowKit Go.Proofs.YtdkbhbolkieeiaaW.PrintWords Go.Proofs.YtdkbhbolkieeiaaW.PrintLast Go.Proofs.YtdkbhbolkieeiaaW.PrintMore
set_option linter.unusedVariables false
set_option linter.unusedSimpArgs false
def nd0 : Nd := ⟨0, 0, 0, 0, none, 0, 0, none, 0, 0⟩
def ndD : Nd := ⟨1, 0, 2, 0, none, 0, 0, none, 0, 0⟩
def ndU (i : Nat) : Nd := if i < 3 then ndD else nd0
def ndL (ge gd : Nat) (i : Nat) : Nd := if i = 0 then ⟨1, 0, 2, 0, none, 0, 0, some ⟨ge, 0, none⟩, 1, 1⟩ else if i = 1 then ⟨2, 0, 1, 3, some ⟨gd, 0, none⟩, 1, 1, none, 0, 0⟩ else nd0
def tU (_ _ : Nat) : Bool := false
def tL (i k : Nat) : Bool := decide (i < 2 ∧ k = 0)
def blL (i _ : Nat) : List Int := if i = 0 then blk8 0 (bytesE 2 ⟨#[97]⟩) 4 else pad64 120
theorem add13 (g : Nat) (i : Nat) : (⟨g, 0, none⟩ : Addr).add (i * 13) = ⟨g, i * 13, none⟩ := by rw [Addr.add_mid, Nat.zero_add]
theorem load_node {W : World} {g : Nat} {cs : Array Value} (h : W.heap[g]? = some (.cells cs 129 (0, 0))) (i : Nat) (x : Nd) (hx : ∀ j v, x.vals[j]? = some v → cs[i * 13 + j]? = some v) : (Instr.loadAt 129 (.pointer (some ((⟨g, 0, none⟩ : Addr).add (i * 13))))).run Try.prog W = .ok (.agg x.vals.toArray) W := by
  rw [add13]
  exact run_loadAt_mid W g (i * 13) 129 x.vals _ (fun j v hv => by rw [blk_cell h]; exact hx j v hv) Try.underlying129 rfl (by kernel_rfl)
theorem lt5 {i : Nat} (h : i < 5) : i = 0 ∨ i = 1 ∨ i = 2 ∨ i = 3 ∨ i = 4 := by omega
theorem vals13 (x : Nd) : x.vals.length = 13 := rfl
theorem nodesU (i : Nat) (hi : i < 5) (j : Nat) (v : Value) (h : (ndU i).vals[j]? = some v) : (#[.int .i64 1, .int .i64 0, .int .i64 2, .int .i64 0, .slice none 0 0, .slice none 0 0, .int .i64 0, .int .i64 0, .string ⟨#[]⟩, .int .i64 0, .int .i64 0, .int .i64 0, .int .i64 0, .int .i64 1, .int .i64 0, .int .i64 2, .int .i64 0, .slice none 0 0, .slice none 0 0, .int .i64 0, .int .i64 0, .string ⟨#[]⟩, .int .i64 0, .int .i64 0, .int .i64 0, .int .i64 0, .int .i64 1, .int .i64 0, .int .i64 2, .int .i64 0, .slice none 0 0, .slice none 0 0, .int .i64 0, .int .i64 0, .string ⟨#[]⟩, .int .i64 0, .int .i64 0, .int .i64 0, .int .i64 0, .int .i64 0, .int .i64 0, .int .i64 0, .int .i64 0, .slice none 0 0, .slice none 0 0, .int .i64 0, .int .i64 0, .string ⟨#[]⟩, .int .i64 0, .int .i64 0, .int .i64 0, .int .i64 0, .int .i64 0, .int .i64 0, .int .i64 0, .int .i64 0, .slice none 0 0, .slice none 0 0, .int .i64 0, .int .i64 0, .string ⟨#[]⟩, .int .i64 0, .int .i64 0, .int .i64 0, .int .i64 0] : Array Value)[i * 13 + j]? = some v := by
  have hj : j < 13 := by
    rcases Nat.lt_or_ge j 13 with h1 | h1
    · exact h1
    · rw [List.getElem?_eq_none (by rw [vals13]; exact h1)] at h; cases h
  rw [← h]
  rcases lt5 hi with rfl | rfl | rfl | rfl | rfl <;> (rcases (by omega : j = 0 ∨ j = 1 ∨ j = 2 ∨ j = 3 ∨ j = 4 ∨ j = 5 ∨ j = 6 ∨ j = 7 ∨ j = 8 ∨ j = 9 ∨ j = 10 ∨ j = 11 ∨ j = 12) with rfl | rfl | rfl | rfl | rfl | rfl | rfl | rfl | rfl | rfl | rfl | rfl | rfl) <;> rfl
theorem nodesL (ge gd i : Nat) (hi : i < 5) (j : Nat) (v : Value) (h : (ndL ge gd i).vals[j]? = some v) : (#[.int .i64 1, .int .i64 0, .int .i64 2, .int .i64 0, .slice none 0 0, .slice (some ⟨ge, 0, none⟩) 1 1, .int .i64 0, .int .i64 0, .string ⟨#[]⟩, .int .i64 0, .int .i64 0, .int .i64 0, .int .i64 0, .int .i64 2, .int .i64 0, .int .i64 1, .int .i64 3, .slice (some ⟨gd, 0, none⟩) 1 1, .slice none 0 0, .int .i64 0, .int .i64 0, .string ⟨#[]⟩, .int .i64 0, .int .i64 0, .int .i64 0, .int .i64 0, .int .i64 0, .int .i64 0, .int .i64 0, .int .i64 0, .slice none 0 0, .slice none 0 0, .int .i64 0, .int .i64 0, .string ⟨#[]⟩, .int .i64 0, .int .i64 0, .int .i64 0, .int .i64 0, .int .i64 0, .int .i64 0, .int .i64 0, .int .i64 0, .slice none 0 0, .slice none 0 0, .int .i64 0, .int .i64 0, .string ⟨#[]⟩, .int .i64 0, .int .i64 0, .int .i64 0, .int .i64 0, .int .i64 0, .int .i64 0, .int .i64 0, .int .i64 0, .slice none 0 0, .slice none 0 0, .int .i64 0, .int .i64 0, .string ⟨#[]⟩, .int .i64 0, .int .i64 0, .int .i64 0, .int .i64 0] : Array Value)[i * 13 + j]? = some v := by
  have hj : j < 13 := by
    rcases Nat.lt_or_ge j 13 with h1 | h1
    · exact h1
    · rw [List.getElem?_eq_none (by rw [vals13]; exact h1)] at h; cases h
  rw [← h]
  rcases lt5 hi with rfl | rfl | rfl | rfl | rfl <;> (rcases (by omega : j = 0 ∨ j = 1 ∨ j = 2 ∨ j = 3 ∨ j = 4 ∨ j = 5 ∨ j = 6 ∨ j = 7 ∨ j = 8 ∨ j = 9 ∨ j = 10 ∨ j = 11 ∨ j = 12) with rfl | rfl | rfl | rfl | rfl | rfl | rfl | rfl | rfl | rfl | rfl | rfl | rfl) <;> rfl
theorem nodeU_walk (gu i : Nat) (hi : i < 5) (W : World) : Calls Try.prog 133 #[.agg #[.slice (some ⟨gu, 0, none⟩) 5 5], .agg (ndU i).vals.toArray, .int .i64 3] W fun e w' => e = .returned (.bool true) ∧ Below W.heap.size W w' := by
  rcases lt5 hi with rfl | rfl | rfl | rfl | rfl
  · exact node_dir0 right09_zero _ _ _ _ _ _ _ _ W
  · exact node_dir0 right09_zero _ _ _ _ _ _ _ _ W
  · exact node_dir0 right09_zero _ _ _ _ _ _ _ _ W
  · exact node_free _ _ _ _ _ _ _ _ W
  · exact node_free _ _ _ _ _ _ _ _ W
theorem nodeL_walk {gu gl gn ge gd : Nat} (i : Nat) (hi : i < 5) {W : World} (h : BaseM W gu gl gn ge gd) : Calls Try.prog 133 #[.agg #[.slice (some ⟨gn, 0, none⟩) 5 5], .agg (ndL ge gd i).vals.toArray, .int .i64 1] W fun e w' => e = .returned (.bool true) ∧ Below W.heap.size W w' := by
  rcases lt5 hi with rfl | rfl | rfl | rfl | rfl
  · exact node_dirA right09_zero ⟨gn, 0, none⟩ 5 none ⟨ge, 0, none⟩ 0 1 W ((blk_cell h.e 0).trans rfl) ((blk_cell h.e 1).trans rfl) ((blk_cell h.e 2).trans rfl) ((blk_cell h.n 13).trans rfl)
  · exact node_file right09_zero _ _ _ _ _ _ _ _ W
  · exact node_free _ _ _ _ _ _ _ _ W
  · exact node_free _ _ _ _ _ _ _ _ W
  · exact node_free _ _ _ _ _ _ _ _ W
theorem rightB_walk {gu gl gn ge gd : Nat} {W : World} (h : BaseM W gu gl gn ge gd) : Calls Try.prog 118 #[.agg #[.int .i64 1, .int .i64 5, .int .i64 6, .int .i64 5, .slice (some ⟨gu, 0, none⟩) 5 5, .slice (some ⟨gl, 0, none⟩) 1 1]] W fun e w' => e = .returned (.bool true) ∧ Below W.heap.size W w' :=
  right40_walk ⟨gu, 0, none⟩ ⟨gl, 0, none⟩ ⟨gn, 0, none⟩ 5 1 5 W ((blk_cell h.l 0).trans rfl)
    (fun W2 hB => layer40_walk 1 6 5 3 ⟨gu, 0, none⟩ 5 (fun i => (ndU i).vals) W2 (fun i hi W3 hB3 => load_node ((h.below hB).below hB3).u i (ndU i) (nodesU i hi)) (fun i hi W3 _ => nodeU_walk gu i hi W3))
    (fun W2 hB => layer40_walk 1 6 5 1 ⟨gn, 0, none⟩ 5 (fun i => (ndL ge gd i).vals) W2 (fun i hi W3 hB3 => load_node ((h.below hB).below hB3).n i (ndL ge gd i) (nodesL ge gd i hi)) (fun i hi W3 hB3 => nodeL_walk i hi ((h.below hB).below hB3)))
theorem takesU_walk (i : Nat) (hi : i < 5) (k : Nat) (hk : k < 5) (W : World) : Calls Try.prog 130 #[.agg (ndU i).vals.toArray, .int .i64 (k : Nat)] W fun e w' => e = .returned (.bool (tU i k)) ∧ Below W.heap.size W w' := by
  have e0 : tU i k = decide ((k : Int) < 4 ∧ 64 * (k : Int) < 0) := by
    unfold tU
    rw [eq_comm, decide_eq_false_iff_not]; omega
  rw [e0]
  rcases lt5 hi with rfl | rfl | rfl | rfl | rfl <;> exact takes_none _ _ _ _ _ _ _ _ k (by omega) (by omega) W
theorem takesL_walk {gu gl gn ge gd : Nat} (i : Nat) (hi : i < 5) (k : Nat) (hk : k < 5) {W : World} (h : BaseM W gu gl gn ge gd) : Calls Try.prog 130 #[.agg (ndL ge gd i).vals.toArray, .int .i64 (k : Nat)] W fun e w' => e = .returned (.bool (tL i k)) ∧ Below W.heap.size W w' := by
  rcases (by omega : i = 0 ∨ i = 1 ∨ 2 ≤ i) with rfl | rfl | h2
  · have e0 : tL 0 k = decide ((k : Int) = 0) := by unfold tL; rw [decide_eq_decide]; omega
    rw [e0]
    exact takesE_0 1 0 2 0 none ⟨ge, 0, none⟩ 0 1 k (by omega) (by omega) W ((blk_cell h.e 0).trans rfl)
  · have e0 : tL 1 k = decide ((k : Int) < 4 ∧ 64 * (k : Int) < 1) := by unfold tL; rw [decide_eq_decide]; omega
    rw [e0]
    exact takes_byte 2 0 1 3 (some ⟨gd, 0, none⟩) none 1 0 k (by omega) (by omega) W
  · have e0 : tL i k = decide ((k : Int) < 4 ∧ 64 * (k : Int) < 0) := by unfold tL; rw [decide_eq_decide]; omega
    rw [e0]
    have e1 : ndL ge gd i = nd0 := by unfold ndL; rw [if_neg (by omega), if_neg (by omega)]
    rw [e1]
    exact takes_none 0 0 0 0 none none 0 0 k (by omega) (by omega) W
theorem blockL_walk {gu gl gn ge gd : Nat} (i : Nat) (k : Nat) (ht : tL i k = true) {W : World} (h : BaseM W gu gl gn ge gd) : Calls Try.prog 131 #[.agg (ndL ge gd i).vals.toArray, .int .i64 (k : Nat)] W fun e w' => ∃ v : Value, e = .returned v ∧ Kd.R (Kd.int .u8) 5 w' W.heap.size (fun _ => True) v (blL i k) ∧ Below W.heap.size W w' := by
  have ht' : i < 2 ∧ k = 0 := by simpa [tL] using ht
  obtain ⟨h1, rfl⟩ := ht'
  rcases (by omega : i = 0 ∨ i = 1) with rfl | rfl
  · exact block_dir 0 (by omega) 0 2 0 2 ⟨#[97]⟩ (by decide +kernel) none ⟨ge, 0, none⟩ 0 1 W ((blk_cell h.e 0).trans rfl) ((blk_cell h.e 1).trans rfl) ((blk_cell h.e 2).trans rfl)
  · exact block_byte 0 1 3 120 ⟨gd, 0, none⟩ none 1 0 W ((blk_cell h.d 0).trans rfl)
def secUp : List Int := secL ndU tU blL 6
def secLo : List Int := secL (ndL 0 0) tL blL 6
/-- The image of Base. -/
def baseImg : List Int := imgN secLo secUp
theorem inoT_congr {nd nd' : Nat → Nd} (t : Nat → Nat → Bool) (h : ∀ i, (nd i).kd = (nd' i).kd ∧ (nd i).im = (nd' i).im ∧ (nd i).nl = (nd' i).nl ∧ (nd i).ge = (nd' i).ge ∧ (nd i).n4 = (nd' i).n4) (i k : Nat) : inoT nd t i k = inoT nd' t i k := by
  unfold inoT
  obtain ⟨h1, h2, h3, h4, h5⟩ := h i
  rw [h1, h2, h3, h4, h5]
theorem secI_congr {nd nd' : Nat → Nd} (t : Nat → Nat → Bool) (h : ∀ i, (nd i).kd = (nd' i).kd ∧ (nd i).im = (nd' i).im ∧ (nd i).nl = (nd' i).nl ∧ (nd i).ge = (nd' i).ge ∧ (nd i).n4 = (nd' i).n4) : ∀ i, secI nd t i = secI nd' t i
  | 0 => rfl
  | i + 1 => by unfold secI; rw [secI_congr t h i, inoT_congr t h]
theorem ndL_eq (ge gd i : Nat) : (ndL ge gd i).kd = (ndL 0 0 i).kd ∧ (ndL ge gd i).im = (ndL 0 0 i).im ∧ (ndL ge gd i).nl = (ndL 0 0 i).nl ∧ (ndL ge gd i).ge = (ndL 0 0 i).ge ∧ (ndL ge gd i).n4 = (ndL 0 0 i).n4 := by
  unfold ndL
  split
  · exact ⟨rfl, rfl, rfl, rfl, rfl⟩
  · split
    · exact ⟨rfl, rfl, rfl, rfl, rfl⟩
    · exact ⟨rfl, rfl, rfl, rfl, rfl⟩
theorem okL : ∀ i, i < 5 → inoOk (ndL 0 0 i).kd (ndL 0 0 i).im (ndL 0 0 i).nl (ndL 0 0 i).ge (ndL 0 0 i).n4 (ptrT (tL i) (secU tL i) 5 0) (ptrT (tL i) (secU tL i) 5 1) (ptrT (tL i) (secU tL i) 5 2) (ptrT (tL i) (secU tL i) 5 3) 0 = true := fun i hi => by
  rcases lt5 hi with rfl | rfl | rfl | rfl | rfl <;> decide +kernel
theorem secLo_eq (ge gd : Nat) : secL (ndL ge gd) tL blL 6 = secLo := by
  unfold secLo secL
  rw [secI_congr (nd := ndL ge gd) (nd' := ndL 0 0) tL (ndL_eq ge gd)]
theorem sectorsU_walk {gu gl gn ge gd : Nat} {W : World} (h : BaseM W gu gl gn ge gd) : Calls Try.prog 119 #[.agg #[.int .i64 1, .int .i64 5, .int .i64 6, .int .i64 5], .agg #[.slice (some ⟨gu, 0, none⟩) 5 5]] W fun e w' => ∃ v : Value, e = .returned (.tuple #[v, .bool true]) ∧ Kd.R (Kd.int .u8) 5 w' W.heap.size (fun _ => True) v secUp ∧ Below W.heap.size W w' :=
  sectors_walk 1 5 6 5 ⟨gu, 0, none⟩ 5 ndU tU blL W (fun _ _ => rfl) (fun _ _ _ _ h => by cases h)
    (fun i hi => by rcases lt5 hi with rfl | rfl | rfl | rfl | rfl <;> decide +kernel) (by decide +kernel) (by decide)
    (fun i hi W2 hB => load_node (h.below hB).u i (ndU i) (nodesU i hi)) (fun i hi k hk W2 _ => takesU_walk i hi k hk W2) (fun _ _ _ _ h => by cases h)
theorem sectorsL_walk {gu gl gn ge gd : Nat} {W : World} (h : BaseM W gu gl gn ge gd) : Calls Try.prog 119 #[.agg #[.int .i64 1, .int .i64 5, .int .i64 6, .int .i64 5], .agg #[.slice (some ⟨gn, 0, none⟩) 5 5]] W fun e w' => ∃ v : Value, e = .returned (.tuple #[v, .bool true]) ∧ Kd.R (Kd.int .u8) 5 w' W.heap.size (fun _ => True) v secLo ∧ Below W.heap.size W w' := by
  rw [← secLo_eq ge gd]
  exact sectors_walk 1 5 6 5 ⟨gn, 0, none⟩ 5 (ndL ge gd) tL blL W (fun i _ => by unfold tL; simp)
    (fun m _ j _ ht => by have ht' : m < 2 ∧ j = 0 := by simpa [tL] using ht
                          unfold blL
                          split
                          · exact Nat.le_of_eq (blk8_length (bytesE_length (by decide +kernel)) 4)
                          · exact Nat.le_refl 64)
    (fun i hi => by obtain ⟨e1, e2, e3, e4, e5⟩ := ndL_eq ge gd i; rw [e1, e2, e3, e4, e5]; exact okL i hi) (by decide +kernel) (by decide)
    (fun i hi W2 hB => load_node (h.below hB).n i (ndL ge gd i) (nodesL ge gd i hi)) (fun i hi k hk W2 hB => takesL_walk i hi k hk (h.below hB)) (fun i _ k _ ht W2 hB => blockL_walk i k ht (h.below hB))
theorem secUp_length : secUp.length = 768 := by decide +kernel
theorem secLo_length : secLo.length = 768 := by decide +kernel
theorem baseBytes_walk {gu gl gn ge gd : Nat} {W : World} (h : BaseM W gu gl gn ge gd) : Calls Try.prog 56 #[.agg #[.int .i64 1, .int .i64 5, .int .i64 6, .int .i64 5, .slice (some ⟨gu, 0, none⟩) 5 5, .slice (some ⟨gl, 0, none⟩) 1 1]] W fun e w' => ∃ v : Value, e = .returned v ∧ Kd.R (Kd.int .u8) 5 w' W.heap.size (fun _ => True) v baseImg ∧ Below W.heap.size W w' :=
  bytesP_walk ⟨gu, 0, none⟩ ⟨gl, 0, none⟩ 5 1 baseImg W (fun W2 hB =>
    image40_walk ⟨gu, 0, none⟩ ⟨gl, 0, none⟩ ⟨gn, 0, none⟩ 5 1 5 secLo secUp W2 ((blk_cell (h.below hB).l 0).trans rfl) (by rw [secLo_length]; decide) (by rw [secUp_length]; decide)
      (fun W3 h3 => rightB_walk ((h.below hB).below h3)) empty27_walk (fun W3 h3 => sectorsU_walk ((h.below hB).below h3)) (fun W3 h3 => sectorsL_walk ((h.below hB).below h3)))
end Go.Proofs.Ytdkbhbolkieeiaa.K
