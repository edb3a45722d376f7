/- slices.MinFunc of findings, by clause. -/
import Derived.Test.YtfbcnmjahpbbeaaK31c
import Derived.Laws.ResultCell
namespace Go.Proofs.Ytfbcnmjahpbbeaa.K
open Go.RowKit Go.Proofs.YtfbcnmjahpbbeaaW.PrintWords Go.Proofs.YtfbcnmjahpbbeaaW.PrintLast Go.Proofs.YtfbcnmjahpbbeaaW.PrintMore
set_option linter.unusedVariables false
set_option linter.unusedSimpArgs false
set_option maxHeartbeats 2000000 in
set_option maxRecDepth 100000 in
theorem minF_walk (A : Option Addr) (c : Nat) (L : List Fnd) (w : World) (hr : Kd.C kFnd w A L.length L) (h0 : 0 < L.length) (hL : L.length ≤ 1000000) (hcl : ∀ x ∈ L, 0 ≤ x.cl ∧ x.cl ≤ 1000) :
    Calls Try.prog 83 #[.slice A L.length c, .func (.func 84) #[] #[]] w fun e w' => ∃ r : Fnd, e = .returned (.agg #[.int .i64 r.cl, .int .i64 r.la, .int .i64 r.ino, .int .i64 r.sl]) ∧ (r ∈ L ∧ ∀ x ∈ L, r.cl ≤ x.cl) ∧ Below w.heap.size w w' := by
  have HR := Aside0.mk hr
  have HCL := Aside0.mk hcl
  have eg := enters_of Try.func84 (by kernel_rfl) rfl
  obtain ⟨ad, rfl, hx, hxs⟩ := Kd.at_flatA hr h0
  have x0 : w.cell? ad = some (.int .i64 L[0].cl) := by have := hx _ rfl; simpa [Addr.add] using this
  have x1 : w.cell? ⟨ad.block, ad.off + 1, none⟩ = some (.int .i64 L[0].la) := by have := hxs 0 _ rfl; simpa [Addr.add] using this
  have x2 : w.cell? ⟨ad.block, ad.off + 2, none⟩ = some (.int .i64 L[0].ino) := by have := hxs 1 _ rfl; simpa [Addr.add] using this
  have x3 : w.cell? ⟨ad.block, ad.off + 3, none⟩ = some (.int .i64 L[0].sl) := by have := hxs 2 _ rfl; simpa [Addr.add] using this
  have hlt1 : (1 : Int) ≤ (L.length : Int) := by omega
  have hz : ad.block < w.heap.size := World.block_lt_of_cell? _ _ x0
  have H0 := Aside0.mk h0
  obtain ⟨r0, hr0⟩ : ∃ r, r = L[0] := ⟨_, rfl⟩
  rw [← hr0] at x0 x1 x2 x3
  have HR0 := Aside0.mk hr0
  clear hr hcl hx hxs hr0
  go_enter Try.func83, Try.ntmps83
  go_wp2
  go_loopw [6] (fun v6 w' => ∃ k : Nat, ∃ r : Fnd, v6 = .int .i64 k ∧ Aside0 (1 ≤ k ∧ k ≤ L.length) ∧ Aside0 (r ∈ L ∧ ∀ j (hj : j < L.length), j < k → r.cl ≤ L[j].cl) ∧ Aside0 (w'.heap[w.heap.size]? = some (.cells #[.int .i64 0, .int .i64 0, .int .i64 0, .int .i64 0] 68 (0, 0))) ∧ Aside0 (w'.heap[(w.heap.size + 1)]? = some (.cells #[.int .i64 r.cl, .int .i64 r.la, .int .i64 r.ino, .int .i64 r.sl] 68 (0, 0))) ∧ Aside0 (Below w.heap.size w w')) (fun i _ => L.length - (intOf i).toNat)
  case atStart =>
    refine ⟨1, r0, rfl, ⟨by omega, by omega⟩, ⟨?_, ?_⟩, ⟨blk_alloc (heap_alloc_new w _) _⟩, ⟨heap_at2 (by simp)⟩, ⟨below_alloc (below_alloc (Below.refl _ _) _) _⟩⟩
    · rw [HR0.out]; exact List.getElem_mem _
    · intro j hj h1
      have : j = 0 := by omega
      subst this
      rw [HR0.out]; exact Int.le_refl _
  case round =>
    clear x0 x1 x2 x3
    obtain ⟨k, r, rfl, hk, hr, BR, BM, HB⟩ := hrel
    have hk1 := hk.out.1
    have hk2 := hk.out.2
    have m0 : wr.cell? ⟨(w.heap.size + 1), 0, none⟩ = some (.int .i64 r.cl) := (blk_cell BM.out 0).trans rfl
    have m1 : wr.cell? ⟨(w.heap.size + 1), 1, none⟩ = some (.int .i64 r.la) := (blk_cell BM.out 1).trans rfl
    have m2 : wr.cell? ⟨(w.heap.size + 1), 2, none⟩ = some (.int .i64 r.ino) := (blk_cell BM.out 2).trans rfl
    have m3 : wr.cell? ⟨(w.heap.size + 1), 3, none⟩ = some (.int .i64 r.sl) := (blk_cell BM.out 3).trans rfl
    by_cases hlt : k < L.length
    · obtain ⟨ad2, he, hx, hxs⟩ := Kd.at_flatA (Kd.C_below HR.out HB.out) hlt
      obtain rfl := Option.some.inj he
      have WX := Aside0.mk (fun W => first1_walk L[k] r W (HCL.out _ (List.getElem_mem _)) (HCL.out _ hr.out.1))
      obtain ⟨x, hxx⟩ : ∃ x, x = L[k] := ⟨_, rfl⟩
      have HXX := Aside0.mk hxx
      rw [← hxx] at hx hxs WX
      have x0 := hx _ rfl
      have x1 := hxs 0 _ rfl
      have x2 := hxs 1 _ rfl
      have x3 := hxs 2 _ rfl
      simp only [Nat.reduceAdd] at x1 x2 x3
      have i0 : (0 : Int) ≤ (k : Int) := by omega
      have i1 : (k : Int) < (L.length : Int) := by omega
      clear hx hxs hxx he
      by_cases hneg : x.cl - r.cl < 0
      · have HN : Aside0 (x ∈ L ∧ ∀ j (hj : j < L.length), j < k + 1 → x.cl ≤ L[j].cl) := ⟨⟨by rw [HXX.out]; exact List.getElem_mem _, fun j hj h1 => by
          by_cases hjk : j = k
          · subst hjk; rw [HXX.out]; exact Int.le_refl _
          · have := hr.out.2 j hj (by omega)
            omega⟩⟩
        go_wp2
        go_region_held3 (fun W => W.cell? (ad.add (k * 4)) = some (.int .i64 x.cl) ∧ W.cell? ⟨(ad.add (k * 4)).block, (ad.add (k * 4)).off + 1, none⟩ = some (.int .i64 x.la) ∧ W.cell? ⟨(ad.add (k * 4)).block, (ad.add (k * 4)).off + 2, none⟩ = some (.int .i64 x.ino) ∧ W.cell? ⟨(ad.add (k * 4)).block, (ad.add (k * 4)).off + 3, none⟩ = some (.int .i64 x.sl) ∧ W.cell? ⟨(w.heap.size + 1), 0, none⟩ = some (.int .i64 r.cl) ∧ W.cell? ⟨(w.heap.size + 1), 1, none⟩ = some (.int .i64 r.la) ∧ W.cell? ⟨(w.heap.size + 1), 2, none⟩ = some (.int .i64 r.ino) ∧ W.cell? ⟨(w.heap.size + 1), 3, none⟩ = some (.int .i64 r.sl)) (first | go_keep | (refine ⟨pw_cell_below hb5 ?_, pw_cell_below hb5 ?_, pw_cell_below hb5 ?_, pw_cell_below hb5 ?_, pw_cell_below hb5 ?_, pw_cell_below hb5 ?_, pw_cell_below hb5 ?_, pw_cell_below hb5 ?_⟩ <;> go_keep)) (first | (go_at_call 84; (with_reducible refine (WX.out _).mono ?_); rintro e w5 ⟨rfl, hb5⟩) | fail)
        have n0_ := Aside0.mk (blk_below (blk_drew BR.out) hb5)
        have n1_ := Aside0.mk (blk_below (blk_drew BM.out) hb5)
        have n2_ : Aside0 (Below w.heap.size w w5) := ⟨below_step (below_drew1 HB.out) hb5⟩
        have y0 := pw_cell_below hb5 (show wr.drew.cell? _ = _ from x0)
        have y1 := pw_cell_below hb5 (show wr.drew.cell? _ = _ from x1)
        have y2 := pw_cell_below hb5 (show wr.drew.cell? _ = _ from x2)
        have y3 := pw_cell_below hb5 (show wr.drew.cell? _ = _ from x3)
        clear BR BM HB hb5 m0 m1 m2 m3 x0 x1 x2 x3
        have BR := n0_
        have BM := n1_
        have HB := n2_
        clear n0_ n1_ n2_
        refine go_on2 ?_
        go_wp2_with ((with_reducible refine gate_store (p := 5) rfl ?_); go_loud (refine wpList_store_rowL rfl rfl 68 (.tmp 5) (.tmp 31) rfl (w.heap.size + 1) #[.int .i64 x.cl, .int .i64 x.la, .int .i64 x.ino, .int .i64 x.sl] rfl rfl 68 #[.int .i64 r.cl, .int .i64 r.la, .int .i64 r.ino, .int .i64 r.sl] (BM.out) (by kernel_rfl) rfl (by simp [Value.oneCell']) ?_; intro w9 bk_ hg_))
        exact ⟨⟨k + 1, x, rfl, ⟨by omega, by omega⟩, HN, ⟨blk_grown BR.out hg_ (by simp)⟩, ⟨bk_⟩, ⟨pw_below_grown HB.out _ HB.out.size hg_ (fun q hq => by cases hq; omega)⟩⟩, by simp [intOf]; omega⟩
      · have hpos : 0 ≤ x.cl - r.cl := by omega
        have HN : Aside0 (r ∈ L ∧ ∀ j (hj : j < L.length), j < k + 1 → r.cl ≤ L[j].cl) := ⟨⟨hr.out.1, fun j hj h1 => by
          by_cases hjk : j = k
          · subst hjk; rw [← HXX.out]; omega
          · exact hr.out.2 j hj (by omega)⟩⟩
        clear hneg
        go_wp2
        go_region_held3 (fun W => W.cell? (ad.add (k * 4)) = some (.int .i64 x.cl) ∧ W.cell? ⟨(ad.add (k * 4)).block, (ad.add (k * 4)).off + 1, none⟩ = some (.int .i64 x.la) ∧ W.cell? ⟨(ad.add (k * 4)).block, (ad.add (k * 4)).off + 2, none⟩ = some (.int .i64 x.ino) ∧ W.cell? ⟨(ad.add (k * 4)).block, (ad.add (k * 4)).off + 3, none⟩ = some (.int .i64 x.sl) ∧ W.cell? ⟨(w.heap.size + 1), 0, none⟩ = some (.int .i64 r.cl) ∧ W.cell? ⟨(w.heap.size + 1), 1, none⟩ = some (.int .i64 r.la) ∧ W.cell? ⟨(w.heap.size + 1), 2, none⟩ = some (.int .i64 r.ino) ∧ W.cell? ⟨(w.heap.size + 1), 3, none⟩ = some (.int .i64 r.sl)) (first | go_keep | (refine ⟨pw_cell_below hb5 ?_, pw_cell_below hb5 ?_, pw_cell_below hb5 ?_, pw_cell_below hb5 ?_, pw_cell_below hb5 ?_, pw_cell_below hb5 ?_, pw_cell_below hb5 ?_, pw_cell_below hb5 ?_⟩ <;> go_keep)) (first | (go_at_call 84; (with_reducible refine (WX.out _).mono ?_); rintro e w5 ⟨rfl, hb5⟩) | fail)
        have n0_ := Aside0.mk (blk_below (blk_drew BR.out) hb5)
        have n1_ := Aside0.mk (blk_below (blk_drew BM.out) hb5)
        have n2_ : Aside0 (Below w.heap.size w w5) := ⟨below_step (below_drew1 HB.out) hb5⟩
        have y0 := pw_cell_below hb5 (show wr.drew.cell? _ = _ from x0)
        have y1 := pw_cell_below hb5 (show wr.drew.cell? _ = _ from x1)
        have y2 := pw_cell_below hb5 (show wr.drew.cell? _ = _ from x2)
        have y3 := pw_cell_below hb5 (show wr.drew.cell? _ = _ from x3)
        clear BR BM HB hb5 m0 m1 m2 m3 x0 x1 x2 x3
        have BR := n0_
        have BM := n1_
        have HB := n2_
        clear n0_ n1_ n2_
        refine go_on2 ?_
        go_wp2
        exact ⟨⟨k + 1, r, rfl, ⟨by omega, by omega⟩, HN, BR, BM, HB⟩, by simp [intOf]; omega⟩
    · have hge : L.length ≤ k := by omega
      have HN : Aside0 (r ∈ L ∧ ∀ x ∈ L, r.cl ≤ x.cl) := ⟨⟨hr.out.1, fun x hx => by
        obtain ⟨j, hj, rfl⟩ := List.getElem_of_mem hx
        exact hr.out.2 j hj (by omega)⟩⟩
      clear hlt
      go_wp2_with ((with_reducible refine gate_store (p := 4) rfl ?_); go_loud (refine wpList_store_rowL rfl rfl 68 (.tmp 4) (.tmp 32) rfl (w.heap.size) #[.int .i64 r.cl, .int .i64 r.la, .int .i64 r.ino, .int .i64 r.sl] rfl rfl 68 #[.int .i64 0, .int .i64 0, .int .i64 0, .int .i64 0] (BR.out) (by kernel_rfl) rfl (by simp [Value.oneCell']) ?_; intro w9 bk_ hg_))
      refine bodyPost_ret (results_cell_row rfl _ _ w.heap.size 68 #[.int .i64 r.cl, .int .i64 r.la, .int .i64 r.ino, .int .i64 r.sl] (0, 0) _ rfl bk_ Try.underlying68 rfl (by kernel_rfl)) rfl ?_
      exact ⟨r, rfl, HN.out, pw_below_grown HB.out _ HB.out.size hg_ (fun q hq => by cases hq; omega)⟩
end Go.Proofs.Ytfbcnmjahpbbeaa.K
