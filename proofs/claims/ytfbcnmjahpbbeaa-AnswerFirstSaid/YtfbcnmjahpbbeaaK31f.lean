/- answer.First. -/
import Derived.Test.YtfbcnmjahpbbeaaK31e
namespace Go.Proofs.Ytfbcnmjahpbbeaa.K
open Go.RowKit Go.Proofs.YtfbcnmjahpbbeaaW.PrintWords Go.Proofs.YtfbcnmjahpbbeaaW.PrintLast Go.Proofs.YtfbcnmjahpbbeaaW.PrintMore
set_option linter.unusedVariables false
set_option linter.unusedSimpArgs false
def leastF (ys : List Fnd) : List Fnd := ys.filter (fun f => ys.all (fun g => decide (f.cl ≤ g.cl)))
theorem leastF_by {ys : List Fnd} {r : Fnd} (hr : r ∈ ys) (hm : ∀ x ∈ ys, r.cl ≤ x.cl) : ys.filter (fun x => !(x.cl != r.cl)) = leastF ys := by
  unfold leastF
  refine List.filter_congr fun x hx => ?_
  rw [Bool.eq_iff_iff]
  simp only [Bool.not_eq_true', bne_eq_false_iff_eq, List.all_eq_true, decide_eq_true_eq]
  constructor
  · intro h g hg
    rw [h]; exact hm g hg
  · intro h
    have h1 := h r hr
    have h2 := hm x hx
    omega
theorem yes_cl {mode : Int} {l : List Ans} {d : Bool} {L : List Fnd} : ∀ x ∈ L.filter (yesP mode l d), 0 ≤ x.cl ∧ x.cl ≤ 1000 := by
  intro x hx
  have h := (List.mem_filter.1 hx).2
  by_cases hc : canB x.cl = true ∧ x.la = 0
  · have := hc.1
    simp [canB] at this
    omega
  · rw [yesP_no hc] at h; cases h
theorem fld0 (W : World) (a b c d : Int) : (Instr.field 68 (.agg #[.int .i64 a, .int .i64 b, .int .i64 c, .int .i64 d]) 0).run Try.prog W = .ok (.int .i64 a) W := by kernel_rfl
set_option maxHeartbeats 2000000 in
set_option maxRecDepth 100000 in
theorem first_walk (mode : Int) (A : Option Addr) (c : Nat) (l : List Ans) (d : Bool) (A2 : Option Addr) (c2 : Nat) (L : List Fnd) (w : World) (hr : Kd.C kAns w A l.length l) (hl : l.length ≤ 9223372036854775807) (hr2 : Kd.C kFnd w A2 L.length L) (hL : L.length ≤ 1000000) :
    Calls Try.prog 60 #[.agg #[.int .i64 mode, .slice A l.length c, .bool d], .slice A2 L.length c2] w fun e w' => ∃ A' c', e = .returned (.slice A' (leastF (L.filter (yesP mode l d))).length c') ∧ Kd.C kFnd w' A' (leastF (L.filter (yesP mode l d))).length (leastF (L.filter (yesP mode l d))) ∧ Below w.heap.size w w' := by
  have HR := Aside0.mk hr
  have HR2 := Aside0.mk hr2
  have HB := Aside0.mk (Below.refl w.heap.size w)
  have WS := Aside0.mk (fun W h1 h2 => split_walk mode A c l d A2 c2 L W h1 hl h2 hL)
  have YC := Aside0.mk (yes_cl (mode := mode) (l := l) (d := d) (L := L))
  have hyl : (L.filter (yesP mode l d)).length ≤ 1000000 := Nat.le_trans (List.length_filter_le _ _) hL
  obtain ⟨P, hP⟩ : ∃ P, P = yesP mode l d := ⟨_, rfl⟩
  rw [← hP] at WS YC hyl ⊢
  obtain ⟨ys, hys⟩ : ∃ ys, ys = L.filter P := ⟨_, rfl⟩
  rw [← hys] at WS YC hyl ⊢
  clear hr hr2 hP
  rcases ys with _ | ⟨y0, yr⟩
  · have E0 : Aside0 (leastF [] = []) := ⟨rfl⟩
    clear hys YC
    go_enter Try.func60, Try.ntmps60
    go_wp2_with (go_at_call 55; (with_reducible refine (WS.out _ (Kd.C_below HR.out (by repeat (first | (with_reducible first | exact HB.out | apply below_alloc | apply pw_below_drewN | apply below_drew1) | exact HB.out))) (Kd.C_below HR2.out (by repeat (first | (with_reducible first | exact HB.out | apply below_alloc | apply pw_below_drewN | apply below_drew1) | exact HB.out)))).mono ?_); rintro e w1 ⟨vy, vn, rfl, ho, _, hb⟩; obtain ⟨Ay, cy, rfl⟩ := Kd.R_slice ho; have n1_ : Aside0 (Below w.heap.size w w1) := ⟨below_step (by repeat (first | (with_reducible first | exact HB.out | apply below_alloc | apply pw_below_drewN | apply below_drew1) | exact HB.out)) hb⟩; clear HB; have HB := n1_; clear n1_; clear hb ho)
    go_ret
    exact ⟨none, 0, by rw [E0.out]; rfl, by rw [E0.out]; exact Kd.C_nil _ _, (by repeat (first | (with_reducible first | exact HB.out | apply below_alloc | apply pw_below_drewN | apply below_drew1) | exact HB.out))⟩
  · obtain ⟨ys, hy⟩ : ∃ ys, ys = y0 :: yr := ⟨_, rfl⟩
    rw [← hy] at WS YC hyl ⊢
    have h0 : 0 < ys.length := by rw [hy]; simp
    clear hys hy
    have WM := Aside0.mk (fun A c W h => minF_walk A c ys W h h0 hyl YC.out)
    have eg := Aside0.mk (enters_of Try.func86 (by kernel_rfl) rfl : ∀ args w, (callFunc 86 args).run Try.prog w = .ok (.enter 86 args) w)
    have hne : ((ys.length : Int) == 0) = false := by rw [beq_eq_false_iff_ne]; omega
    have hf := fld0
    clear YC
    go_enter Try.func60, Try.ntmps60
    go_wp2_with (first | (go_at_call 55; (with_reducible refine (WS.out _ (Kd.C_below HR.out (by repeat (first | (with_reducible first | exact HB.out | apply below_alloc | apply pw_below_drewN | apply below_drew1) | exact HB.out))) (Kd.C_below HR2.out (by repeat (first | (with_reducible first | exact HB.out | apply below_alloc | apply pw_below_drewN | apply below_drew1) | exact HB.out)))).mono ?_); rintro e w1 ⟨vy, vn, rfl, ho, _, hb⟩; obtain ⟨g, cy, cs, rfl, hg0, hcy, bk, hsz, hfl⟩ := Kd.R_blk ho h0; have GB : Aside0 (w.heap.size ≤ g) := ⟨Nat.le_trans (below_size (by repeat (first | (with_reducible first | exact HB.out | apply below_alloc | apply pw_below_drewN | apply below_drew1) | exact HB.out))) hg0⟩; have n1_ : Aside0 (Below w.heap.size w w1) := ⟨below_step (by repeat (first | (with_reducible first | exact HB.out | apply below_alloc | apply pw_below_drewN | apply below_drew1) | exact HB.out)) hb⟩; clear HB; have HB := n1_; clear n1_; have BK := Aside0.mk bk; have HFL := Aside0.mk hfl; have HSZ := Aside0.mk hsz; clear hb ho bk hfl hsz hg0) | (go_at_call 83; (with_reducible refine (WM.out (some ⟨g, 0, none⟩) cy _ (Kd.C_blk BK.out HFL.out (by omega))).mono ?_); rintro e w2 ⟨r, rfl, hr, hb⟩; have n_ := Aside0.mk (blk_below BK.out hb); clear BK; have BK := n_; clear n_; have n1_ : Aside0 (Below w.heap.size w w2) := ⟨below_step (by repeat (first | (with_reducible first | exact HB.out | apply below_alloc | apply pw_below_drewN | apply below_drew1) | exact HB.out)) hb⟩; clear HB; have HB := n1_; clear n1_; have HM := Aside0.mk hr; clear hb hr) | (go_at_call 85; go_loud (refine (delF_walk g cy cs ys (fun x => x.cl != r.cl) 86 #[.pointer (some ⟨w2.heap.size, 0, none⟩)] (w2.alloc (.cells #[.int .i64 r.cl] 3)) (blk_alloc BK.out _) HFL.out (by have := HSZ.out; omega) hcy hyl eg.out (fun W x hg => first2_walk x r.cl w2.heap.size W ((blk_cell (blk_grown (heap_alloc_new w2 _) hg (by have := blk_lt BK.out; intro h; injection h with h; omega)) 0).trans rfl))).mono ?_; rintro e w3 ⟨rfl, cs', bk', hs', hf', hg'⟩)))
    go_ret
    have e1 : ys.filter (fun x => !(x.cl != r.cl)) = leastF ys := leastF_by HM.out.1 HM.out.2
    rw [e1] at hf' ⊢
    refine ⟨_, _, rfl, Kd.C_blk bk' hf' ?_, ?_⟩
    · have := List.length_filter_le (fun f => ys.all (fun g => decide (f.cl ≤ g.cl))) ys
      unfold leastF; omega
    · exact pw_below_grown (below_alloc HB.out _) _ (below_alloc HB.out _).size hg' (fun q hq => by cases hq; exact GB.out)
end Go.Proofs.Ytfbcnmjahpbbeaa.K
