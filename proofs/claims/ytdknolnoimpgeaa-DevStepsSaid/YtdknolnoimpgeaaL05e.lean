/- The law DevSteps. -/
import Derived.Test.YtdknolnoimpgeaaGC
namespace Go.Proofs.Ytdknolnoimpgeaa.K
open Go.RowKit Go.Proofs.YtdknolnoimpgeaaW.PrintWords Go.Proofs.YtdknolnoimpgeaaW.PrintLast Go.Proofs.YtdknolnoimpgeaaW.PrintMore
set_option linter.unusedVariables false
set_option linter.unusedSimpArgs false
/-- A block of another type is written. -/
theorem DiskR.other {W w1 : World} {base p : Nat} {s : DiskS} {vs vn vw : Value} (h : DiskR W base p s vs vn vw) {g t : Nat} {cs : Array Value} (bk : W.heap[g]? = some (.cells cs t (0, 0))) (ht : ¬ DT t) (hg : W.grownBy w1 (some g)) : DiskR w1 base p s vs vn vw :=
  have n1 : TSec ≠ t := fun e => ht (.inr (.inl e.symm))
  have n2 : TPen ≠ t := fun e => ht (.inr (.inr e.symm))
  ⟨blk_grown h.blk hg (fun e => by
    have e := (Option.some.inj e)
    subst e
    have h2 := h.blk
    rw [bk] at h2
    simp only [Option.some.injEq, Obj.cells.injEq] at h2
    exact ht (.inl h2.2.1)), h.hp, Kd.R_grown1 h.safe rfl hg (Kd.R_ne h.safe bk n1), Kd.R_grown1 h.now rfl hg (Kd.R_ne h.now bk n1), Kd.R_grown1 h.wait rfl hg (Kd.R_ne h.wait bk n2), h.apart⟩
/-- The disk and the reference's, side by side in memory. -/
def StepsAt (W : World) (p g N k : Nat) : Prop := ∃ s r vs vw, DiskWf s k ∧ s.safe.length = N ∧ DiskOk W p p s ∧ RefD p W r vs vw ∧ RelD s r ∧ W.heap[g]? = some (.cells (refA r vs vw) TRD (0, 0)) ∧ p ≤ W.heap.size ∧ p ≤ g
set_option maxHeartbeats 8000000 in
set_option maxRecDepth 100000 in
theorem l05_Steps (A : Option Addr) (c : Nat) (b : List Int) (Al : Option Addr) (cl : Nat) (l : List Stp) (w : World) (hb : Kd.C (Kd.int .u8) w A b.length b) (hbc : b.length ≤ c) (hl : Kd.C kStp w Al l.length l) (hll : l.length ≤ 9223372036854775807)
    (hg : ∀ x ∈ l, x.at_ ≤ 9223372036854775807 ∧ x.k.l.length ≤ 9223372036854775807) :
    Calls Try.prog 14 #[.slice A b.length c, .slice Al l.length cl] w fun e w' => e = .returned (.bool true) ∧ Below w.heap.size w w' := by
  have WA := Aside0.mk (fun W => l05_awake W)
  have HB := Aside0.mk (Below.refl w.heap.size w)
  have WF := Aside0.mk (few_walk A b.length c Al cl l w hl hll)
  have HL := Aside0.mk hl
  have HR := Aside0.mk hb
  have HG := Aside0.mk hg
  obtain ⟨n, hn⟩ : ∃ n, n = l.length := ⟨_, rfl⟩
  obtain ⟨nb, hnb⟩ : ∃ n, n = b.length := ⟨_, rfl⟩
  rw [← hn, ← hnb] at WF
  rw [← hn, ← hnb]
  have HN := Aside0.mk hn
  have HNB := Aside0.mk hnb
  have HBC : Aside0 (nb ≤ c) := ⟨by omega⟩
  clear hl hb hg hll hbc hn hnb
  have AW : Aside0 True := ⟨trivial⟩
  cases hf : fewS nb l with
  | false =>
    rw [hf] at WF
    clear hf
    go_enter Try.func14, Try.ntmps14
    go_wp2_with (first | (go_at_call 81; (with_reducible refine WF.out.mono ?_); rintro e w1 ⟨rfl, hb⟩; have n1_ : Aside0 (Below w.heap.size w w1) := ⟨below_step (by repeat (first | (with_reducible first | exact HB.out | apply below_alloc | apply pw_below_drewN | apply below_drew1) | exact HB.out)) hb⟩; clear HB; have HB := n1_; clear n1_; clear hb) | (go_at_call 80; (with_reducible refine (WA.out _).mono ?_); rintro e w9 ⟨rfl, hb⟩; have n1_ : Aside0 (Below w.heap.size w w9) := ⟨below_step (by repeat (first | (with_reducible first | exact HB.out | apply below_alloc | apply pw_below_drewN | apply below_drew1) | exact HB.out)) hb⟩; clear HB; have HB := n1_; clear n1_; clear hb))
    go_ret
    exact ⟨rfl, HB.out⟩
  | true =>
    rw [hf] at WF
    have hfew : nb ≤ 2000 ∧ l.length ≤ 60 := by
      unfold fewS at hf
      simp only [Bool.and_eq_true, decide_eq_true_eq] at hf
      exact ⟨hf.1, hf.2.1⟩
    have HN60 : Aside0 (n ≤ 60) := ⟨by rw [HN.out]; exact hfew.2⟩
    have HNB2 : Aside0 (nb ≤ 2000) := ⟨hfew.1⟩
    clear hf hfew
    have WN : Aside0 (∀ W, Below w.heap.size w W → Calls Try.prog 82 #[.slice A nb c] W fun e w' => e = .returned (.pointer (some ⟨W.heap.size, 0, none⟩)) ∧ DiskOk w' W.heap.size W.heap.size ⟨secs b, secs b, [], -1, false, 0, 0⟩ ∧ Below W.heap.size W w') := ⟨fun W h => by
      have h2 := new_walk A c b W (Kd.C_below HR.out h) (by rw [← HNB.out]; exact HBC.out) (by rw [← HNB.out]; have := HNB2.out; omega)
      rw [← HNB.out] at h2
      exact h2⟩
    have WRN : Aside0 (∀ base W, Below w.heap.size w W → base ≤ W.heap.size → Calls Try.prog 84 #[.slice A nb c] W fun e w' => ∃ (vs : Value) (L : List Sl), e = .returned (.agg (refA ⟨L, [], -1, 0, 0, false⟩ vs (.slice none 0 0))) ∧ L.map (·.l) = (List.range (b.length / 64)).map (chunkR b) ∧ RefD base w' ⟨L, [], -1, 0, 0, false⟩ vs (.slice none 0 0) ∧ Below W.heap.size W w') := ⟨fun base W h h2 => by
      have h3 := refNew_walk base A c b W (Kd.C_below HR.out h) (by rw [← HNB.out]; exact HBC.out) (by rw [← HNB.out]; have := HNB2.out; omega) h2
      rw [← HNB.out] at h3 ⊢
      exact h3⟩
    go_enter Try.func14, Try.ntmps14
    go_wp2_with (first | (go_at_call 81; (with_reducible refine WF.out.mono ?_); rintro e w1 ⟨rfl, hb⟩; have n1_ : Aside0 (Below w.heap.size w w1) := ⟨below_step (by repeat (first | (with_reducible first | exact HB.out | apply below_alloc | apply pw_below_drewN | apply below_drew1) | exact HB.out)) hb⟩; clear HB; have HB := n1_; clear n1_; clear hb) | (go_at_call 82; (with_reducible refine (WN.out _ HB.out).mono ?_); rintro e w2 ⟨rfl, ⟨vs2, vn2, vw2, hD⟩, hb⟩; have D := Aside0.mk hD; have HW1 := Aside0.mk (below_size HB.out); have HPS : Aside0 (w1.heap.size ≤ w2.heap.size) := ⟨hb.size⟩; have n1_ : Aside0 (Below w.heap.size w w2) := ⟨below_step (by repeat (first | (with_reducible first | exact HB.out | apply below_alloc | apply pw_below_drewN | apply below_drew1) | exact HB.out)) hb⟩; clear HB; have HB := n1_; clear n1_; clear hb hD) | (go_at_call 84; go_loud (with_reducible refine (WRN.out w1.heap.size _ HB.out HPS.out).mono ?_); go_loud (rintro e w3 ⟨vs0, L, rfl, hL, hRD, hb⟩; obtain ⟨As, cs, Aw, cw, hv, hv2⟩ := hRD.form; clear Aw cw hv2; obtain ⟨ns, hns⟩ : ∃ n, n = L.length := ⟨_, rfl⟩; replace hv : vs0 = .slice As ns cs := (by rw [hns]; exact hv); subst hv; have RD := Aside0.mk hRD; have HLM := Aside0.mk hL; have n_ := Aside0.mk (D.out.below hb); clear D; have D := n_; clear n_; have HPS3 : Aside0 (w1.heap.size ≤ w3.heap.size) := ⟨Nat.le_trans HPS.out hb.size⟩; clear HPS; have HPS := HPS3; clear HPS3; have n1_ : Aside0 (Below w.heap.size w w3) := ⟨below_step (by repeat (first | (with_reducible first | exact HB.out | apply below_alloc | apply pw_below_drewN | apply below_drew1) | exact HB.out)) hb⟩; clear HB; have HB := n1_; clear n1_; rw [show refA ⟨L, [], -1, 0, 0, false⟩ (.slice As ns cs) (.slice none 0 0) = #[.slice As ns cs, .slice none 0 0, .int .i64 (-1), .int .i64 0, .int .i64 0, .bool false] from rfl]; have HNSL := Aside0.mk hns; clear hb hRD hL hns)) | ((with_reducible refine gate_store (p := 6) rfl ?_); go_loud (refine wpList_store_newL (w0 := w3) rfl rfl TRD (.tmp 6) (.tmp 22) rfl #[.slice As ns cs, .slice none 0 0, .int .i64 (-1), .int .i64 0, .int .i64 0, .bool false] TRD #[.slice none 0 0, .slice none 0 0, .int .i64 0, .int .i64 0, .int .i64 0, .bool false] rfl (by rfl) (by rfl) (by kernel_rfl) rfl (by simp [Value.oneCell']) ?_; intro w4 bk_ hb; have BK4 := Aside0.mk bk_; clear bk_; have n_ := Aside0.mk (RD.out.below HPS.out hb); clear RD; have RD := n_; clear n_; have n_ := Aside0.mk (D.out.below hb); clear D; have D := n_; clear n_; have HPS4 : Aside0 (w1.heap.size ≤ w4.heap.size) := ⟨Nat.le_trans HPS.out hb.size⟩; have n1_ : Aside0 (Below w.heap.size w w4) := ⟨below_step (by repeat (first | (with_reducible first | exact HB.out | apply below_alloc | apply pw_below_drewN | apply below_drew1) | exact HB.out)) hb⟩; clear HB; have HB := n1_; clear n1_; clear hb)))
    obtain ⟨g, hg⟩ : ∃ g, g = w3.heap.size := ⟨_, rfl⟩
    rw [← hg] at BK4 ⊢
    have HPG : Aside0 (w1.heap.size ≤ g) := ⟨by rw [hg]; exact HPS.out⟩
    have HST : Aside0 (StepsAt w4 w1.heap.size g (b.length / 64) 0) := ⟨⟨⟨secs b, secs b, [], -1, false, 0, 0⟩, ⟨L, [], -1, 0, 0, false⟩, .slice As ns cs, .slice none 0 0, secs_wf b, secs_length b, ⟨_, _, _, D.out⟩, RD.out, ⟨by rw [HLM.out]; exact (secs_chunks b).symm, rfl, rfl, rfl, rfl, rfl, rfl⟩, BK4.out, HPS4.out, HPG.out⟩⟩
    clear D RD BK4 HPS HPS4 HLM hg
    go_loopw [27] (fun v27 w' => ∃ m : Nat, v27 = .int .i64 m ∧ Aside0 (m ≤ n) ∧ Aside0 (StepsAt w' w1.heap.size g (b.length / 64) m) ∧ Aside0 (Below w.heap.size w w')) (fun i _ => n - (intOf i).toNat)
    case atStart => exact ⟨0, rfl, ⟨Nat.zero_le _⟩, HST, HB⟩
    case round =>
      clear HST HB
      obtain ⟨m, rfl, hm, HST, HB⟩ := hrel
      have hm' := hm.out
      obtain ⟨s, r, vs, vw, hwf, hsl, ⟨vsd, vnd, vwd, hD⟩, hRD, hRel, bg, hps, _⟩ := HST.out
      obtain ⟨As, cs, Aw, cw, hv, hv2⟩ := hRD.form
      obtain ⟨ns, hns⟩ : ∃ n, n = r.safe.length := ⟨_, rfl⟩
      obtain ⟨nw, hnw⟩ : ∃ n, n = r.wait.length := ⟨_, rfl⟩
      rw [← hns] at hv
      rw [← hnw] at hv2
      subst hv hv2
      have D := Aside0.mk hD
      have RD := Aside0.mk hRD
      have BG0 := Aside0.mk bg
      have HPS := Aside0.mk hps
      have WFS := Aside0.mk hwf
      have HSL := Aside0.mk hsl
      have HREL0 := Aside0.mk hRel
      have HNS := Aside0.mk hns
      have HNW := Aside0.mk hnw
      obtain ⟨rl, hrl⟩ : ∃ v, v = r.left := ⟨_, rfl⟩
      obtain ⟨rw_, hrw⟩ : ∃ v, v = r.wr := ⟨_, rfl⟩
      obtain ⟨rf, hrf⟩ : ∃ v, v = r.fl := ⟨_, rfl⟩
      obtain ⟨ro, hro⟩ : ∃ v, v = r.off := ⟨_, rfl⟩
      have HRA : Aside0 (refA r (.slice As ns cs) (.slice Aw nw cw) = #[.slice As ns cs, .slice Aw nw cw, .int .i64 rl, .int .i64 rw_, .int .i64 rf, .bool ro]) := ⟨by rw [hrl, hrw, hrf, hro]⟩
      have BG : Aside0 (wr.heap[g]? = some (.cells #[.slice As ns cs, .slice Aw nw cw, .int .i64 rl, .int .i64 rw_, .int .i64 rf, .bool ro] TRD (0, 0))) := ⟨by rw [← HRA.out]; exact bg⟩
      clear hwf hsl hD hRD hRel bg hps hns hnw hrl hrw hrf hro BG0 HST
      by_cases hlt : m < n
      · have hml : m < l.length := by rw [← HN.out]; exact hlt
        obtain ⟨ad, rfl, hx, hxs⟩ := at_stpA (Kd.C_below HL.out HB.out) hml
        have hxb := (at_stp HL.out hml).choose_spec.2.2.1
        have hxk := (at_stp HL.out hml).choose_spec.2.2.2
        have hxg := HG.out _ (List.getElem_mem hml)
        obtain ⟨x, hxx⟩ : ∃ x, x = l[m] := ⟨_, rfl⟩
        rw [← hxx] at hx hxs hxb hxk hxg
        have x0 := hx _ rfl
        have x1 := hxs 0 _ rfl
        have x2 := hxs 1 _ rfl
        have x3 := hxs 2 _ rfl
        have HXB := Aside0.mk hxb
        have HXK := Aside0.mk hxk
        have HXG := Aside0.mk hxg
        have hn60 := HN60.out
        have WG : Aside0 (∀ W, RefD w1.heap.size W r (.slice As ns cs) (.slice Aw nw cw) → w1.heap.size ≤ W.heap.size → Kd.C (Kd.int .u8) W x.b.A x.b.l.length x.b.l → Kd.C Kd.bool W x.k.A x.k.l.length x.k.l → Calls Try.prog 85 #[.agg #[.slice As ns cs, .slice Aw nw cw, .int .i64 rl, .int .i64 rw_, .int .i64 rf, .bool ro], .agg #[.int .i64 x.do_, .int .i64 x.at_, .slice x.b.A x.b.l.length x.b.c, .slice x.k.A x.k.l.length x.k.c]] W (GoPost w1.heap.size W s x)) := ⟨fun W hR hP hB hK => by
          have h := refGo_walk w1.heap.size s r (.slice As ns cs) (.slice Aw nw cw) x W hR hP HREL0.out (WFS.out.mono (show m ≤ 60 by omega)) (by decide) (by rw [HSL.out]; have h1_ := HNB.out; have h2_ := HNB2.out; omega) hB hK
          rw [HRA.out] at h
          exact h⟩
        clear hx hxs hxb hxk hxg hxx hml
        go_wp2_with (first | ((with_reducible refine gate_store (p := 8) rfl ?_); go_loud (refine wpList_store_newL (w0 := wr) rfl rfl 93 (.tmp 8) (.tmp 30) rfl #[.int .i64 x.do_, .int .i64 x.at_, .slice x.b.A x.b.l.length x.b.c, .slice x.k.A x.k.l.length x.k.c] 93 #[.int .i64 0, .int .i64 0, .slice none 0 0, .slice none 0 0] rfl (by rfl) (by rfl) (by kernel_rfl) rfl (by simp [Value.oneCell']) ?_; intro w6 bk_ hb; have BK6 := Aside0.mk bk_; clear bk_; have n_ := Aside0.mk (RD.out.below HPS.out hb); clear RD; have RD := n_; clear n_; have n_ := Aside0.mk (D.out.below hb); clear D; have D := n_; clear n_; have n_ := Aside0.mk (blk_below BG.out hb); clear BG; have BG := n_; clear n_; have HPS6 : Aside0 (w1.heap.size ≤ w6.heap.size) := ⟨Nat.le_trans HPS.out hb.size⟩; clear HPS; have HPS := HPS6; clear HPS6; have n1_ : Aside0 (Below w.heap.size w w6) := ⟨below_step (by repeat (first | (with_reducible first | exact HB.out | apply below_alloc | apply pw_below_drewN | apply below_drew1) | exact HB.out)) hb⟩; clear HB; have HB := n1_; clear n1_; clear hb; have k0 : w6.cell? ⟨wr.heap.size, 0, none⟩ = some (.int .i64 x.do_) := (blk_cell BK6.out 0).trans rfl; have k1 : w6.cell? ⟨wr.heap.size, 1, none⟩ = some (.int .i64 x.at_) := (blk_cell BK6.out 1).trans rfl; have k2 : w6.cell? ⟨wr.heap.size, 2, none⟩ = some (.slice x.b.A x.b.l.length x.b.c) := (blk_cell BK6.out 2).trans rfl; have k3 : w6.cell? ⟨wr.heap.size, 3, none⟩ = some (.slice x.k.A x.k.l.length x.k.c) := (blk_cell BK6.out 3).trans rfl)) | (go_at_call 83; go_loud (with_reducible refine (do_walk w1.heap.size w1.heap.size s _ _ _ x _ D.out WFS.out (by have h1_ := HN60.out; omega) (Keeps.old HXB.out HB.out HW1.out) (Keeps.old HXK.out HB.out HW1.out) HXG.out.2).mono ?_); go_loud (rintro e w7 ⟨v7, rfl, hR, ⟨vs7, vn7, vw7, hD⟩, hF⟩; obtain ⟨A7, c7, rfl⟩ := Kd.R_slice hR; have HR7 : Aside0 (Keeps (Kd.int .u8) w1.heap.size w7 A7 (doV s x)) := ⟨Keeps.ofR hR (by decide)⟩; have n_ : Aside0 (Below w.heap.size w w7) := ⟨HB.out.trans (hF.below.mono HW1.out)⟩; clear HB; have HB := n_; clear n_ D; have D := Aside0.mk hD; have n_ := Aside0.mk (RD.out.step hF.to2); clear RD; have RD := n_; clear n_; have n_ := Aside0.mk (hF.blk BG.out (by decide)); clear BG; have BG := n_; clear n_; have n_ := Aside0.mk (hF.blk BK6.out (by decide)); clear BK6; have BK6 := n_; clear n_; have HPS7 : Aside0 (w1.heap.size ≤ w7.heap.size) := ⟨Nat.le_trans HPS.out hF.below.size⟩; clear HPS; have HPS := HPS7; clear HPS7; have q0 := (blk_cell BG.out 0).trans rfl; have q1 := (blk_cell BG.out 1).trans rfl; have q2 := (blk_cell BG.out 2).trans rfl; have q3 := (blk_cell BG.out 3).trans rfl; have q4 := (blk_cell BG.out 4).trans rfl; have q5 := (blk_cell BG.out 5).trans rfl; have m0 := (blk_cell BK6.out 0).trans rfl; have m1 := (blk_cell BK6.out 1).trans rfl; have m2 := (blk_cell BK6.out 2).trans rfl; have m3 := (blk_cell BK6.out 3).trans rfl; clear hD hF hR)) | (go_at_call 85; go_loud (with_reducible refine (WG.out w7 RD.out HPS.out (Kd.C_below HXB.out HB.out) (Kd.C_below HXK.out HB.out)).mono ?_); go_loud (rintro e w8 ⟨r2, vs2, vw2, A8, c8, rfl, hK, hRD, hRel, hb⟩; obtain ⟨As2, cs2, Aw2, cw2, hv2, hv3⟩ := hRD.form; obtain ⟨ns2, hns2⟩ : ∃ n, n = r2.safe.length := ⟨_, rfl⟩; obtain ⟨nw2, hnw2⟩ : ∃ n, n = r2.wait.length := ⟨_, rfl⟩; rw [← hns2] at hv2; rw [← hnw2] at hv3; subst hv2 hv3; have HR8 := Aside0.mk hK; have HREL := Aside0.mk hRel; clear RD; have RD := Aside0.mk hRD; have n_ := Aside0.mk (HR7.out.below HPS.out hb); clear HR7; have HR7 := n_; clear n_; have n_ := Aside0.mk (D.out.below hb); clear D; have D := n_; clear n_; have n_ := Aside0.mk (blk_below BG.out hb); clear BG; have BG := n_; clear n_; have n_ := Aside0.mk (below_step HB.out hb); clear HB; have HB := n_; clear n_; have HPS8 : Aside0 (w1.heap.size ≤ w8.heap.size) := ⟨Nat.le_trans HPS.out hb.size⟩; clear HPS; have HPS := HPS8; clear HPS8; obtain ⟨rl2, hrl⟩ : ∃ v, v = r2.left := ⟨_, rfl⟩; obtain ⟨rw2, hrw⟩ : ∃ v, v = r2.wr := ⟨_, rfl⟩; obtain ⟨rf2, hrf⟩ : ∃ v, v = r2.fl := ⟨_, rfl⟩; obtain ⟨ro2, hro⟩ : ∃ v, v = r2.off := ⟨_, rfl⟩; have HRA : Aside0 (refA r2 (.slice As2 ns2 cs2) (.slice Aw2 nw2 cw2) = #[.slice As2 ns2 cs2, .slice Aw2 nw2 cw2, .int .i64 rl2, .int .i64 rw2, .int .i64 rf2, .bool ro2]) := ⟨by rw [hrl, hrw, hrf, hro]⟩; rw [HRA.out]; have HRF : Aside0 (rl2 = r2.left ∧ rw2 = r2.wr ∧ rf2 = r2.fl ∧ ro2 = r2.off) := ⟨⟨hrl, hrw, hrf, hro⟩⟩; have HNS2 := Aside0.mk hns2; have HNW2 := Aside0.mk hnw2; clear hK hRD hRel hb hns2 hnw2 hrl hrw hrf hro BK6)) | ((with_reducible refine gate_store (p := 11) rfl ?_); go_loud (refine wpList_store_newL (w0 := w8) rfl rfl TRD (.tmp 11) (.tmp 49) rfl #[.slice As2 ns2 cs2, .slice Aw2 nw2 cw2, .int .i64 rl2, .int .i64 rw2, .int .i64 rf2, .bool ro2] TRD #[.slice none 0 0, .slice none 0 0, .int .i64 0, .int .i64 0, .int .i64 0, .bool false] rfl (by rfl) (by rfl) (by kernel_rfl) rfl (by simp [Value.oneCell']) ?_; intro w9 bk_ hb; have BK9 := Aside0.mk bk_; clear bk_; have n_ := Aside0.mk (RD.out.below HPS.out hb); clear RD; have RD := n_; clear n_; have n_ := Aside0.mk (HR7.out.below HPS.out hb); clear HR7; have HR7 := n_; clear n_; have n_ := Aside0.mk (HR8.out.below HPS.out hb); clear HR8; have HR8 := n_; clear n_; have n_ := Aside0.mk (D.out.below hb); clear D; have D := n_; clear n_; have n_ := Aside0.mk (blk_below BG.out hb); clear BG; have BG := n_; clear n_; have HPS9 : Aside0 (w1.heap.size ≤ w9.heap.size) := ⟨Nat.le_trans HPS.out hb.size⟩; clear HPS; have HPS := HPS9; clear HPS9; have n1_ : Aside0 (Below w.heap.size w w9) := ⟨below_step (by repeat (first | (with_reducible first | exact HB.out | apply below_alloc | apply pw_below_drewN | apply below_drew1) | exact HB.out)) hb⟩; clear HB; have HB := n1_; clear n1_; clear hb; have u0 := (blk_cell BK9.out 0).trans rfl; have u1 := (blk_cell BK9.out 1).trans rfl; have u2 := (blk_cell BK9.out 2).trans rfl; have u3 := (blk_cell BK9.out 3).trans rfl; have u4 := (blk_cell BK9.out 4).trans rfl; have u5 := (blk_cell BK9.out 5).trans rfl)) | ((with_reducible refine gate_store (p := 6) rfl ?_); go_loud (refine wpList_store_rowL rfl rfl TRD (.tmp 6) (.tmp 52) rfl (g) #[.slice As2 ns2 cs2, .slice Aw2 nw2 cw2, .int .i64 rl2, .int .i64 rw2, .int .i64 rf2, .bool ro2] rfl rfl TRD #[.slice As ns cs, .slice Aw nw cw, .int .i64 rl, .int .i64 rw_, .int .i64 rf, .bool ro] (BG.out) (by kernel_rfl) rfl (by simp [Value.oneCell']) ?_; intro w10 bk_ hg_; have hF : DFr2 w1.heap.size w9 w10 := DFr2.grown HPS.out hg_ (fun k hk => by cases hk; exact ⟨HPG.out, _, _, BG.out, by decide⟩); have n_ := Aside0.mk (D.out.other BG.out (by decide) hg_); clear D; have D := n_; clear n_; have n_ := Aside0.mk (RD.out.step hF); clear RD; have RD := n_; clear n_; have n_ := Aside0.mk (HR7.out.step hF); clear HR7; have HR7 := n_; clear n_; have n_ := Aside0.mk (HR8.out.step hF); clear HR8; have HR8 := n_; clear n_; have n_ := Aside0.mk (pw_below_grown HB.out _ HB.out.size hg_ (fun k hk => by cases hk; exact Nat.le_trans HW1.out HPG.out)); clear HB; have HB := n_; clear n_ BG; have BG := Aside0.mk bk_; have HPS10 : Aside0 (w1.heap.size ≤ w10.heap.size) := ⟨Nat.le_trans HPS.out hg_.size⟩; clear HPS; have HPS := HPS10; clear HPS10 hF bk_ hg_)))
        obtain ⟨e1, e2, e3, e4⟩ := HRF.out
        rw [HREL.out.wr] at e2
        rw [HREL.out.fl] at e3
        rw [HREL.out.off] at e4
        subst e2 e3 e4
        have WF2 := Aside0.mk (WFS.out.do_ HXG.out.1 (x := x))
        have HWL : Aside0 ((doS s x).wait.length ≤ 1000000) := ⟨by have h_ := WF2.out.wl; omega⟩
        have WWT : Aside0 (∀ W, RefD w1.heap.size W r2 (.slice As2 ns2 cs2) (.slice Aw2 nw2 cw2) → w1.heap.size ≤ W.heap.size → Calls Try.prog 87 #[.agg #[.slice As2 ns2 cs2, .slice Aw2 nw2 cw2, .int .i64 rl2, .int .i64 (doS s x).wr, .int .i64 (doS s x).fl, .bool (doS s x).off]] W fun e w' => ∃ v : Value, e = .returned v ∧ Kd.R (Kd.int .i64) 3 w' W.heap.size (fun _ => True) v ((doS s x).wait.map (·.at_)) ∧ Below W.heap.size W w') := ⟨fun W h1 h2 => by
          have h := refWaiting_walk w1.heap.size r2 (.slice As2 ns2 cs2) (.slice Aw2 nw2 cw2) W h1 (HREL.out.wf WF2.out) (by omega) (by rw [HREL.out.slen, doS_len WFS.out HSL.out]; have h1_ := HNB.out; have h2_ := HNB2.out; omega) h2
          rw [HRA.out, waits_eq HREL.out] at h
          exact h⟩
        clear e1 q0 q1 q2 q3 q4 q5 m0 m1 m2 m3 k0 k1 k2 k3 u0 u1 u2 u3 u4 u5
        refine start_ (n := 38) (S := fun w' => w'.cell? ⟨g, 0, none⟩ = some (.slice As2 ns2 cs2) ∧ w'.cell? ⟨g, 1, none⟩ = some (.slice Aw2 nw2 cw2) ∧ w'.cell? ⟨g, 2, none⟩ = some (.int .i64 rl2) ∧ w'.cell? ⟨g, 3, none⟩ = some (.int .i64 (doS s x).wr) ∧ w'.cell? ⟨g, 4, none⟩ = some (.int .i64 (doS s x).fl) ∧ w'.cell? ⟨g, 5, none⟩ = some (.bool (doS s x).off)) (ds := []) #[false, false, false, false, false, false, false, false, false, false, false, false, false, false, false, false, false, false, false, false, false, false, false, false, false, false, false, false, false, false, false, false, false, false, false, false, false, false] (by kernel_rfl) rfl rfl ⟨((blk_cell (blk_drew BG.out) 0).trans rfl), ((blk_cell (blk_drew BG.out) 1).trans rfl), ((blk_cell (blk_drew BG.out) 2).trans rfl), ((blk_cell (blk_drew BG.out) 3).trans rfl), ((blk_cell (blk_drew BG.out) 4).trans rfl), ((blk_cell (blk_drew BG.out) 5).trans rfl)⟩ (fun hHeld => ?_)
        refine pure_ (i := 0) (N := some 53) (v := ?_) (a' := ?_) #[true, false, false, false, false, false, false, false, false, false, false, false, false, false, false, false, false, false, false, false, false, false, false, false, false, false, false, false, false, false, false, false, false, false, false, false, false, false] rfl rfl (by kernel_rfl) (fun _ _ _ h => h) (Or.inl ⟨by rfl, ?_⟩) ?_ ?_
        rotate_left
        · intro w'
          go_simp
          with_reducible rfl
        rotate_left
        · simp only [Act.put, List.setIfInBounds_toArray, List.set_cons_zero, List.set_cons_succ, i64_w, i32_w]
          rfl
        refine pure_ (i := 1) (N := some 54) (v := ?_) (a' := ?_) #[true, true, false, false, false, false, false, false, false, false, false, false, false, false, false, false, false, false, false, false, false, false, false, false, false, false, false, false, false, false, false, false, false, false, false, false, false, false] rfl rfl (by kernel_rfl) (fun _ _ _ h => h) (Or.inl ⟨by rfl, ?_⟩) ?_ ?_
        rotate_left
        · intro w'
          go_simp
          with_reducible rfl
        rotate_left
        · simp only [Act.put, List.setIfInBounds_toArray, List.set_cons_zero, List.set_cons_succ, i64_w, i32_w]
          rfl
        refine one_ (i := 2) (N := some 55) #[true, true, true, false, false, false, false, false, false, false, false, false, false, false, false, false, false, false, false, false, false, false, false, false, false, false, false, false, false, false, false, false, false, false, false, false, false, false] rfl rfl (by kernel_rfl) (by decide) (fun K hK => ?_)
        obtain ⟨wd, hwd⟩ : ∃ wd, wd = w10.drew := ⟨_, rfl⟩
        rw [← hwd]
        have Dd : Aside0 (DiskR wd w1.heap.size w1.heap.size (doS s x) vs7 vn7 vw7) := ⟨by rw [hwd]; exact D.out.drew⟩
        have hbd : Below w10.heap.size w10 wd := by rw [hwd]; exact below_drew1 (Below.refl _ _)
        have RDd := Aside0.mk (RD.out.below HPS.out hbd)
        have BGd := Aside0.mk (blk_below BG.out hbd)
        have HR7d := Aside0.mk (HR7.out.below HPS.out hbd)
        have HR8d := Aside0.mk (HR8.out.below HPS.out hbd)
        have HBd := Aside0.mk (below_step HB.out hbd)
        have HPSd : Aside0 (w1.heap.size ≤ wd.heap.size) := ⟨Nat.le_trans HPS.out hbd.size⟩
        clear hwd hbd D RD BG HR7 HR8 HB HPS hHeld
        refine goes_ Try.func24 (by kernel_rfl) rfl #[.slice A7 (doV s x).length c7, .slice A8 (doV s x).length c8] (by rfl) rfl rfl (by simp only [List.map_toArray, List.map_cons, List.map_nil]; rfl) ?_
        with_reducible refine ((bEq_refl _ _ _ _ _ _ _ wd HR7d.out.now HR8d.out.now)).mono ?_
        rintro e w' ⟨rfl, h_⟩
        refine ⟨_, rfl, ?_⟩
        have h_ := h_.symm
        subst h_
        refine hK.out _ _ ⟨((blk_cell BGd.out 0).trans rfl), ((blk_cell BGd.out 1).trans rfl), ((blk_cell BGd.out 2).trans rfl), ((blk_cell BGd.out 3).trans rfl), ((blk_cell BGd.out 4).trans rfl), ((blk_cell BGd.out 5).trans rfl)⟩ (fun hHeld => ?_)
        clear hK K
        refine norm_ (a' := ?_) ?_ ?_
        rotate_left
        · show Act.put _ (some 55) _ = _
          simp only [Act.put, List.setIfInBounds_toArray, List.set_cons_zero, List.set_cons_succ, i64_w, i32_w]
          rfl
        refine pure_ (i := 3) (N := some 56) (v := ?_) (a' := ?_) #[true, true, true, true, false, false, false, false, false, false, false, false, false, false, false, false, false, false, false, false, false, false, false, false, false, false, false, false, false, false, false, false, false, false, false, false, false, false] rfl rfl (by kernel_rfl) (fun _ _ _ h => h) (Or.inl ⟨by rfl, ?_⟩) ?_ ?_
        rotate_left
        · intro w'
          go_simp
          with_reducible rfl
        rotate_left
        · simp only [Act.put, List.setIfInBounds_toArray, List.set_cons_zero, List.set_cons_succ, i64_w, i32_w]
          rfl
        refine pure_ (i := 4) (N := some 57) (v := ?_) (a' := ?_) #[true, true, true, true, true, false, false, false, false, false, false, false, false, false, false, false, false, false, false, false, false, false, false, false, false, false, false, false, false, false, false, false, false, false, false, false, false, false] rfl rfl (by kernel_rfl) (fun _ _ _ h => h) (Or.inl ⟨by rfl, ?_⟩) ?_ ?_
        rotate_left
        · intro w'
          go_simp
          with_reducible rfl
        rotate_left
        · simp only [Act.put, List.setIfInBounds_toArray, List.set_cons_zero, List.set_cons_succ, i64_w, i32_w]
          rfl
        refine pure_ (i := 5) (N := some 58) (v := ?_) (a' := ?_) #[true, true, true, true, true, true, false, false, false, false, false, false, false, false, false, false, false, false, false, false, false, false, false, false, false, false, false, false, false, false, false, false, false, false, false, false, false, false] rfl rfl (by kernel_rfl) (fun _ _ _ h => h) (Or.inl ⟨by rfl, ?_⟩) ?_ ?_
        rotate_left
        · intro w'
          go_simp
          with_reducible rfl
        rotate_left
        · simp only [Act.put, List.setIfInBounds_toArray, List.set_cons_zero, List.set_cons_succ, i64_w, i32_w]
          rfl
        refine pure_ (i := 6) (N := some 59) (v := ?_) (a' := ?_) #[true, true, true, true, true, true, true, false, false, false, false, false, false, false, false, false, false, false, false, false, false, false, false, false, false, false, false, false, false, false, false, false, false, false, false, false, false, false] rfl rfl (by kernel_rfl) (fun _ _ _ h => h) (Or.inl ⟨by rfl, ?_⟩) ?_ ?_
        rotate_left
        · intro w'
          go_simp
          with_reducible rfl
        rotate_left
        · simp only [Act.put, List.setIfInBounds_toArray, List.set_cons_zero, List.set_cons_succ, i64_w, i32_w]
          rfl
        refine pure_ (i := 7) (N := some 60) (v := ?_) (a' := ?_) #[true, true, true, true, true, true, true, true, false, false, false, false, false, false, false, false, false, false, false, false, false, false, false, false, false, false, false, false, false, false, false, false, false, false, false, false, false, false] rfl rfl (by kernel_rfl) (fun _ _ _ h => h) (Or.inl ⟨by rfl, ?_⟩) ?_ ?_
        rotate_left
        · intro w'
          go_simp
          with_reducible rfl
        rotate_left
        · simp only [Act.put, List.setIfInBounds_toArray, List.set_cons_zero, List.set_cons_succ, i64_w, i32_w]
          rfl
        refine pure_ (i := 8) (N := some 61) (v := ?_) (a' := ?_) #[true, true, true, true, true, true, true, true, true, false, false, false, false, false, false, false, false, false, false, false, false, false, false, false, false, false, false, false, false, false, false, false, false, false, false, false, false, false] rfl rfl (by kernel_rfl) (fun _ _ _ h => h) (Or.inl ⟨by rfl, ?_⟩) ?_ ?_
        rotate_left
        · intro w'
          go_simp
          with_reducible rfl
        rotate_left
        · simp only [Act.put, List.setIfInBounds_toArray, List.set_cons_zero, List.set_cons_succ, i64_w, i32_w]
          rfl
        refine pure_ (i := 9) (N := some 62) (v := ?_) (a' := ?_) #[true, true, true, true, true, true, true, true, true, true, false, false, false, false, false, false, false, false, false, false, false, false, false, false, false, false, false, false, false, false, false, false, false, false, false, false, false, false] rfl rfl (by kernel_rfl) (fun _ _ _ h => h) (Or.inl ⟨by rfl, ?_⟩) ?_ ?_
        rotate_left
        · intro w'
          go_simp
          with_reducible rfl
        rotate_left
        · simp only [Act.put, List.setIfInBounds_toArray, List.set_cons_zero, List.set_cons_succ, i64_w, i32_w]
          rfl
        refine pure_ (i := 10) (N := some 63) (v := ?_) (a' := ?_) #[true, true, true, true, true, true, true, true, true, true, true, false, false, false, false, false, false, false, false, false, false, false, false, false, false, false, false, false, false, false, false, false, false, false, false, false, false, false] rfl rfl (by kernel_rfl) (fun _ _ _ h => h) (Or.inl ⟨by rfl, ?_⟩) ?_ ?_
        rotate_left
        · intro w'
          go_simp
          with_reducible rfl
        rotate_left
        · simp only [Act.put, List.setIfInBounds_toArray, List.set_cons_zero, List.set_cons_succ, i64_w, i32_w]
          rfl
        refine pure_ (i := 12) (N := some 65) (v := ?_) (a' := ?_) #[true, true, true, true, true, true, true, true, true, true, true, false, true, false, false, false, false, false, false, false, false, false, false, false, false, false, false, false, false, false, false, false, false, false, false, false, false, false] rfl rfl (by kernel_rfl) (fun _ _ _ h => h) (Or.inl ⟨by rfl, ?_⟩) ?_ ?_
        rotate_left
        · intro w'
          go_simp
          with_reducible rfl
        rotate_left
        · simp only [Act.put, List.setIfInBounds_toArray, List.set_cons_zero, List.set_cons_succ, i64_w, i32_w]
          rfl
        refine take_ (i := 13) (N := some 66) (v := ?_) (a' := ?_) #[true, true, true, true, true, true, true, true, true, true, true, false, true, true, false, false, false, false, false, false, false, false, false, false, false, false, false, false, false, false, false, false, false, false, false, false, false, false] rfl rfl (by kernel_rfl) (fun _ _ _ h => h) (Or.inl ⟨by rfl, ?_⟩) hHeld ?_ ?_
        rotate_left
        · rintro w' ⟨s0, s1, s2, s3, s4, s5⟩
          go_simp
          with_reducible rfl
        rotate_left
        · simp only [Act.put, List.setIfInBounds_toArray, List.set_cons_zero, List.set_cons_succ, i64_w, i32_w]
          rfl
        refine one_ (i := 11) (N := some 64) #[true, true, true, true, true, true, true, true, true, true, true, true, true, true, false, false, false, false, false, false, false, false, false, false, false, false, false, false, false, false, false, false, false, false, false, false, false, false] rfl rfl (by kernel_rfl) (by decide) (fun K hK => ?_)
        clear hHeld
        refine goes_ Try.func79 (by kernel_rfl) rfl #[.pointer (some ⟨w1.heap.size, 0, none⟩)] (by rfl) rfl rfl (by simp only [List.map_toArray, List.map_cons, List.map_nil]; rfl) ?_
        with_reducible refine ((devOff_walk w1.heap.size w1.heap.size _ _ _ _ _ Dd.out)).mono ?_
        rintro e w' ⟨rfl, h_⟩
        refine ⟨_, rfl, ?_⟩
        have h_ := h_.symm
        subst h_
        refine hK.out _ _ ⟨((blk_cell BGd.out 0).trans rfl), ((blk_cell BGd.out 1).trans rfl), ((blk_cell BGd.out 2).trans rfl), ((blk_cell BGd.out 3).trans rfl), ((blk_cell BGd.out 4).trans rfl), ((blk_cell BGd.out 5).trans rfl)⟩ (fun hHeld => ?_)
        clear hK K
        refine norm_ (a' := ?_) ?_ ?_
        rotate_left
        · show Act.put _ (some 64) _ = _
          simp only [Act.put, List.setIfInBounds_toArray, List.set_cons_zero, List.set_cons_succ, i64_w, i32_w]
          rfl
        refine pure_ (i := 14) (N := some 67) (v := ?_) (a' := ?_) #[true, true, true, true, true, true, true, true, true, true, true, true, true, true, true, false, false, false, false, false, false, false, false, false, false, false, false, false, false, false, false, false, false, false, false, false, false, false] rfl rfl (by kernel_rfl) (fun _ _ _ h => h) (Or.inl ⟨by rfl, ?_⟩) ?_ ?_
        rotate_left
        · intro w'
          go_simp
          with_reducible rfl
        rotate_left
        · simp only [Act.put, List.setIfInBounds_toArray, List.set_cons_zero, List.set_cons_succ, i64_w, i32_w]
          rfl
        refine pure_ (i := 15) (N := some 68) (v := ?_) (a' := ?_) #[true, true, true, true, true, true, true, true, true, true, true, true, true, true, true, true, false, false, false, false, false, false, false, false, false, false, false, false, false, false, false, false, false, false, false, false, false, false] rfl rfl (by kernel_rfl) (fun _ _ _ h => h) (Or.inl ⟨by rfl, ?_⟩) ?_ ?_
        rotate_left
        · intro w'
          go_simp
          with_reducible rfl
        rotate_left
        · simp only [Act.put, List.setIfInBounds_toArray, List.set_cons_zero, List.set_cons_succ, i64_w, i32_w]
          rfl
        refine pure_ (i := 16) (N := some 69) (v := ?_) (a' := ?_) #[true, true, true, true, true, true, true, true, true, true, true, true, true, true, true, true, true, false, false, false, false, false, false, false, false, false, false, false, false, false, false, false, false, false, false, false, false, false] rfl rfl (by kernel_rfl) (fun _ _ _ h => h) (Or.inl ⟨by rfl, ?_⟩) ?_ ?_
        rotate_left
        · intro w'
          go_simp
          with_reducible rfl
        rotate_left
        · simp only [Act.put, List.setIfInBounds_toArray, List.set_cons_zero, List.set_cons_succ, i64_w, i32_w]
          rfl
        refine pure_ (i := 17) (N := some 70) (v := ?_) (a' := ?_) #[true, true, true, true, true, true, true, true, true, true, true, true, true, true, true, true, true, true, false, false, false, false, false, false, false, false, false, false, false, false, false, false, false, false, false, false, false, false] rfl rfl (by kernel_rfl) (fun _ _ _ h => h) (Or.inl ⟨by rfl, ?_⟩) ?_ ?_
        rotate_left
        · intro w'
          go_simp
          with_reducible rfl
        rotate_left
        · simp only [Act.put, List.setIfInBounds_toArray, List.set_cons_zero, List.set_cons_succ, i64_w, i32_w]
          rfl
        refine pure_ (i := 19) (N := some 72) (v := ?_) (a' := ?_) #[true, true, true, true, true, true, true, true, true, true, true, true, true, true, true, true, true, true, false, true, false, false, false, false, false, false, false, false, false, false, false, false, false, false, false, false, false, false] rfl rfl (by kernel_rfl) (fun _ _ _ h => h) (Or.inl ⟨by rfl, ?_⟩) ?_ ?_
        rotate_left
        · intro w'
          go_simp
          with_reducible rfl
        rotate_left
        · simp only [Act.put, List.setIfInBounds_toArray, List.set_cons_zero, List.set_cons_succ, i64_w, i32_w]
          rfl
        refine take_ (i := 20) (N := some 73) (v := ?_) (a' := ?_) #[true, true, true, true, true, true, true, true, true, true, true, true, true, true, true, true, true, true, false, true, true, false, false, false, false, false, false, false, false, false, false, false, false, false, false, false, false, false] rfl rfl (by kernel_rfl) (fun _ _ _ h => h) (Or.inl ⟨by rfl, ?_⟩) hHeld ?_ ?_
        rotate_left
        · rintro w' ⟨s0, s1, s2, s3, s4, s5⟩
          go_simp
          with_reducible rfl
        rotate_left
        · simp only [Act.put, List.setIfInBounds_toArray, List.set_cons_zero, List.set_cons_succ, i64_w, i32_w]
          rfl
        refine one_ (i := 18) (N := some 71) #[true, true, true, true, true, true, true, true, true, true, true, true, true, true, true, true, true, true, true, true, true, false, false, false, false, false, false, false, false, false, false, false, false, false, false, false, false, false] rfl rfl (by kernel_rfl) (by decide) (fun K hK => ?_)
        clear hHeld
        refine goes_ Try.func74 (by kernel_rfl) rfl #[.pointer (some ⟨w1.heap.size, 0, none⟩)] (by rfl) rfl rfl (by simp only [List.map_toArray, List.map_cons, List.map_nil]; rfl) ?_
        with_reducible refine ((devWrites_walk w1.heap.size w1.heap.size _ _ _ _ _ Dd.out)).mono ?_
        rintro e w' ⟨rfl, h_⟩
        refine ⟨_, rfl, ?_⟩
        have h_ := h_.symm
        subst h_
        refine hK.out _ _ ⟨((blk_cell BGd.out 0).trans rfl), ((blk_cell BGd.out 1).trans rfl), ((blk_cell BGd.out 2).trans rfl), ((blk_cell BGd.out 3).trans rfl), ((blk_cell BGd.out 4).trans rfl), ((blk_cell BGd.out 5).trans rfl)⟩ (fun hHeld => ?_)
        clear hK K
        refine norm_ (a' := ?_) ?_ ?_
        rotate_left
        · show Act.put _ (some 71) _ = _
          simp only [Act.put, List.setIfInBounds_toArray, List.set_cons_zero, List.set_cons_succ, i64_w, i32_w]
          rfl
        refine pure_ (i := 21) (N := some 74) (v := ?_) (a' := ?_) #[true, true, true, true, true, true, true, true, true, true, true, true, true, true, true, true, true, true, true, true, true, true, false, false, false, false, false, false, false, false, false, false, false, false, false, false, false, false] rfl rfl (by kernel_rfl) (fun _ _ _ h => h) (Or.inl ⟨by rfl, ?_⟩) ?_ ?_
        rotate_left
        · intro w'
          go_simp
          with_reducible rfl
        rotate_left
        · simp only [Act.put, List.setIfInBounds_toArray, List.set_cons_zero, List.set_cons_succ, i64_w, i32_w]
          rfl
        refine pure_ (i := 22) (N := some 75) (v := ?_) (a' := ?_) #[true, true, true, true, true, true, true, true, true, true, true, true, true, true, true, true, true, true, true, true, true, true, true, false, false, false, false, false, false, false, false, false, false, false, false, false, false, false] rfl rfl (by kernel_rfl) (fun _ _ _ h => h) (Or.inl ⟨by rfl, ?_⟩) ?_ ?_
        rotate_left
        · intro w'
          go_simp
          with_reducible rfl
        rotate_left
        · simp only [Act.put, List.setIfInBounds_toArray, List.set_cons_zero, List.set_cons_succ, i64_w, i32_w]
          rfl
        refine pure_ (i := 23) (N := some 76) (v := ?_) (a' := ?_) #[true, true, true, true, true, true, true, true, true, true, true, true, true, true, true, true, true, true, true, true, true, true, true, true, false, false, false, false, false, false, false, false, false, false, false, false, false, false] rfl rfl (by kernel_rfl) (fun _ _ _ h => h) (Or.inl ⟨by rfl, ?_⟩) ?_ ?_
        rotate_left
        · intro w'
          go_simp
          with_reducible rfl
        rotate_left
        · simp only [Act.put, List.setIfInBounds_toArray, List.set_cons_zero, List.set_cons_succ, i64_w, i32_w]
          rfl
        refine pure_ (i := 24) (N := some 77) (v := ?_) (a' := ?_) #[true, true, true, true, true, true, true, true, true, true, true, true, true, true, true, true, true, true, true, true, true, true, true, true, true, false, false, false, false, false, false, false, false, false, false, false, false, false] rfl rfl (by kernel_rfl) (fun _ _ _ h => h) (Or.inl ⟨by rfl, ?_⟩) ?_ ?_
        rotate_left
        · intro w'
          go_simp
          with_reducible rfl
        rotate_left
        · simp only [Act.put, List.setIfInBounds_toArray, List.set_cons_zero, List.set_cons_succ, i64_w, i32_w]
          rfl
        refine pure_ (i := 26) (N := some 79) (v := ?_) (a' := ?_) #[true, true, true, true, true, true, true, true, true, true, true, true, true, true, true, true, true, true, true, true, true, true, true, true, true, false, true, false, false, false, false, false, false, false, false, false, false, false] rfl rfl (by kernel_rfl) (fun _ _ _ h => h) (Or.inl ⟨by rfl, ?_⟩) ?_ ?_
        rotate_left
        · intro w'
          go_simp
          with_reducible rfl
        rotate_left
        · simp only [Act.put, List.setIfInBounds_toArray, List.set_cons_zero, List.set_cons_succ, i64_w, i32_w]
          rfl
        refine take_ (i := 27) (N := some 80) (v := ?_) (a' := ?_) #[true, true, true, true, true, true, true, true, true, true, true, true, true, true, true, true, true, true, true, true, true, true, true, true, true, false, true, true, false, false, false, false, false, false, false, false, false, false] rfl rfl (by kernel_rfl) (fun _ _ _ h => h) (Or.inl ⟨by rfl, ?_⟩) hHeld ?_ ?_
        rotate_left
        · rintro w' ⟨s0, s1, s2, s3, s4, s5⟩
          go_simp
          with_reducible rfl
        rotate_left
        · simp only [Act.put, List.setIfInBounds_toArray, List.set_cons_zero, List.set_cons_succ, i64_w, i32_w]
          rfl
        refine one_ (i := 25) (N := some 78) #[true, true, true, true, true, true, true, true, true, true, true, true, true, true, true, true, true, true, true, true, true, true, true, true, true, true, true, true, false, false, false, false, false, false, false, false, false, false] rfl rfl (by kernel_rfl) (by decide) (fun K hK => ?_)
        clear hHeld
        refine goes_ Try.func75 (by kernel_rfl) rfl #[.pointer (some ⟨w1.heap.size, 0, none⟩)] (by rfl) rfl rfl (by simp only [List.map_toArray, List.map_cons, List.map_nil]; rfl) ?_
        with_reducible refine ((devFlushes_walk w1.heap.size w1.heap.size _ _ _ _ _ Dd.out)).mono ?_
        rintro e w' ⟨rfl, h_⟩
        refine ⟨_, rfl, ?_⟩
        have h_ := h_.symm
        subst h_
        refine hK.out _ _ ⟨((blk_cell BGd.out 0).trans rfl), ((blk_cell BGd.out 1).trans rfl), ((blk_cell BGd.out 2).trans rfl), ((blk_cell BGd.out 3).trans rfl), ((blk_cell BGd.out 4).trans rfl), ((blk_cell BGd.out 5).trans rfl)⟩ (fun hHeld => ?_)
        clear hK K
        refine norm_ (a' := ?_) ?_ ?_
        rotate_left
        · show Act.put _ (some 78) _ = _
          simp only [Act.put, List.setIfInBounds_toArray, List.set_cons_zero, List.set_cons_succ, i64_w, i32_w]
          rfl
        refine pure_ (i := 28) (N := some 81) (v := ?_) (a' := ?_) #[true, true, true, true, true, true, true, true, true, true, true, true, true, true, true, true, true, true, true, true, true, true, true, true, true, true, true, true, true, false, false, false, false, false, false, false, false, false] rfl rfl (by kernel_rfl) (fun _ _ _ h => h) (Or.inl ⟨by rfl, ?_⟩) ?_ ?_
        rotate_left
        · intro w'
          go_simp
          with_reducible rfl
        rotate_left
        · simp only [Act.put, List.setIfInBounds_toArray, List.set_cons_zero, List.set_cons_succ, i64_w, i32_w]
          rfl
        refine pure_ (i := 29) (N := some 82) (v := ?_) (a' := ?_) #[true, true, true, true, true, true, true, true, true, true, true, true, true, true, true, true, true, true, true, true, true, true, true, true, true, true, true, true, true, true, false, false, false, false, false, false, false, false] rfl rfl (by kernel_rfl) (fun _ _ _ h => h) (Or.inl ⟨by rfl, ?_⟩) ?_ ?_
        rotate_left
        · intro w'
          go_simp
          with_reducible rfl
        rotate_left
        · simp only [Act.put, List.setIfInBounds_toArray, List.set_cons_zero, List.set_cons_succ, i64_w, i32_w]
          rfl
        refine pure_ (i := 30) (N := some 83) (v := ?_) (a' := ?_) #[true, true, true, true, true, true, true, true, true, true, true, true, true, true, true, true, true, true, true, true, true, true, true, true, true, true, true, true, true, true, true, false, false, false, false, false, false, false] rfl rfl (by kernel_rfl) (fun _ _ _ h => h) (Or.inl ⟨by rfl, ?_⟩) ?_ ?_
        rotate_left
        · intro w'
          go_simp
          with_reducible rfl
        rotate_left
        · simp only [Act.put, List.setIfInBounds_toArray, List.set_cons_zero, List.set_cons_succ, i64_w, i32_w]
          rfl
        refine pure_ (i := 31) (N := some 84) (v := ?_) (a' := ?_) #[true, true, true, true, true, true, true, true, true, true, true, true, true, true, true, true, true, true, true, true, true, true, true, true, true, true, true, true, true, true, true, true, false, false, false, false, false, false] rfl rfl (by kernel_rfl) (fun _ _ _ h => h) (Or.inl ⟨by rfl, ?_⟩) ?_ ?_
        rotate_left
        · intro w'
          go_simp
          with_reducible rfl
        rotate_left
        · simp only [Act.put, List.setIfInBounds_toArray, List.set_cons_zero, List.set_cons_succ, i64_w, i32_w]
          rfl
        refine take_ (i := 33) (N := some 86) (v := ?_) (a' := ?_) #[true, true, true, true, true, true, true, true, true, true, true, true, true, true, true, true, true, true, true, true, true, true, true, true, true, true, true, true, true, true, true, true, false, true, false, false, false, false] rfl rfl (by kernel_rfl) (fun _ _ _ h => h) (Or.inl ⟨by rfl, ?_⟩) hHeld ?_ ?_
        rotate_left
        · rintro w' ⟨s0, s1, s2, s3, s4, s5⟩
          go_simp
          with_reducible rfl
        rotate_left
        · simp only [Act.put, List.setIfInBounds_toArray, List.set_cons_zero, List.set_cons_succ, i64_w, i32_w]
          rfl
        refine one_ (i := 32) (N := some 85) #[true, true, true, true, true, true, true, true, true, true, true, true, true, true, true, true, true, true, true, true, true, true, true, true, true, true, true, true, true, true, true, true, true, true, false, false, false, false] rfl rfl (by kernel_rfl) (by decide) (fun K hK => ?_)
        clear hHeld
        refine goes_ Try.func76 (by kernel_rfl) rfl #[.pointer (some ⟨w1.heap.size, 0, none⟩)] (by rfl) rfl rfl (by simp only [List.map_toArray, List.map_cons, List.map_nil]; rfl) ?_
        with_reducible refine ((devWaiting_walk w1.heap.size w1.heap.size _ _ _ _ _ Dd.out HWL.out)).mono ?_
        rintro e w11 ⟨v11, rfl, ho, hb⟩
        refine ⟨_, rfl, ?_⟩
        obtain ⟨A11, c11, rfl⟩ := Kd.R_slice ho
        have HQ1 := Aside0.mk (Kd.R_reads' ho).2.2
        have De := Aside0.mk (Dd.out.below hb)
        have RDe := Aside0.mk (RDd.out.below HPSd.out hb)
        have BGe := Aside0.mk (blk_below BGd.out hb)
        have HBe := Aside0.mk (below_step HBd.out hb)
        have HPSe : Aside0 (w1.heap.size ≤ w11.heap.size) := ⟨Nat.le_trans HPSd.out hb.size⟩
        clear ho hb Dd RDd BGd HR7d HR8d HBd HPSd
        refine hK.out _ _ ⟨((blk_cell BGe.out 0).trans rfl), ((blk_cell BGe.out 1).trans rfl), ((blk_cell BGe.out 2).trans rfl), ((blk_cell BGe.out 3).trans rfl), ((blk_cell BGe.out 4).trans rfl), ((blk_cell BGe.out 5).trans rfl)⟩ (fun hHeld => ?_)
        clear hK K
        refine norm_ (a' := ?_) ?_ ?_
        rotate_left
        · show Act.put _ (some 85) _ = _
          simp only [Act.put, List.setIfInBounds_toArray, List.set_cons_zero, List.set_cons_succ, i64_w, i32_w]
          rfl
        refine one_ (i := 34) (N := some 87) #[true, true, true, true, true, true, true, true, true, true, true, true, true, true, true, true, true, true, true, true, true, true, true, true, true, true, true, true, true, true, true, true, true, true, true, false, false, false] rfl rfl (by kernel_rfl) (by decide) (fun K hK => ?_)
        clear hHeld
        refine goes_ Try.func87 (by kernel_rfl) rfl #[.agg #[.slice As2 ns2 cs2, .slice Aw2 nw2 cw2, .int .i64 rl2, .int .i64 (doS s x).wr, .int .i64 (doS s x).fl, .bool (doS s x).off]] (by rfl) rfl rfl (by simp only [List.map_toArray, List.map_cons, List.map_nil]; rfl) ?_
        with_reducible refine ((WWT.out w11 RDe.out HPSe.out)).mono ?_
        rintro e w12 ⟨v12, rfl, ho, hb⟩
        refine ⟨_, rfl, ?_⟩
        obtain ⟨A12, c12, rfl⟩ := Kd.R_slice ho
        have HQ2 := Aside0.mk (Kd.R_reads' ho).2.2
        have HQ1' := Aside0.mk (Kd.C_below HQ1.out hb)
        have Df := Aside0.mk (De.out.below hb)
        have RDf := Aside0.mk (RDe.out.below HPSe.out hb)
        have BGf := Aside0.mk (blk_below BGe.out hb)
        have HBf := Aside0.mk (below_step HBe.out hb)
        have HPSf : Aside0 (w1.heap.size ≤ w12.heap.size) := ⟨Nat.le_trans HPSe.out hb.size⟩
        clear ho hb De RDe BGe HBe HPSe HQ1
        refine hK.out _ _ ⟨((blk_cell BGf.out 0).trans rfl), ((blk_cell BGf.out 1).trans rfl), ((blk_cell BGf.out 2).trans rfl), ((blk_cell BGf.out 3).trans rfl), ((blk_cell BGf.out 4).trans rfl), ((blk_cell BGf.out 5).trans rfl)⟩ (fun hHeld => ?_)
        clear hK K
        refine norm_ (a' := ?_) ?_ ?_
        rotate_left
        · show Act.put _ (some 87) _ = _
          simp only [Act.put, List.setIfInBounds_toArray, List.set_cons_zero, List.set_cons_succ, i64_w, i32_w]
          rfl
        refine one_ (i := 35) (N := some 88) #[true, true, true, true, true, true, true, true, true, true, true, true, true, true, true, true, true, true, true, true, true, true, true, true, true, true, true, true, true, true, true, true, true, true, true, true, false, false] rfl rfl (by kernel_rfl) (by decide) (fun K hK => ?_)
        clear hHeld
        refine goes_ Try.func86 (by kernel_rfl) rfl #[.slice A11 ((doS s x).wait.map (·.at_)).length c11, .slice A12 ((doS s x).wait.map (·.at_)).length c12] (by rfl) rfl rfl (by simp only [List.map_toArray, List.map_cons, List.map_nil]; rfl) ?_
        with_reducible refine ((eqInts_refl _ _ _ _ _ _ _ w12 HQ1'.out HQ2.out (by rw [List.length_map]; exact HWL.out))).mono ?_
        rintro e w13 ⟨rfl, hb⟩
        refine ⟨_, rfl, ?_⟩
        have Dg := Aside0.mk (Df.out.below hb)
        have RDg := Aside0.mk (RDf.out.below HPSf.out hb)
        have BGg := Aside0.mk (blk_below BGf.out hb)
        have HBg := Aside0.mk (below_step HBf.out hb)
        have HPSg : Aside0 (w1.heap.size ≤ w13.heap.size) := ⟨Nat.le_trans HPSf.out hb.size⟩
        clear hb Df RDf BGf HBf HPSf HQ1' HQ2
        refine hK.out _ _ ⟨((blk_cell BGg.out 0).trans rfl), ((blk_cell BGg.out 1).trans rfl), ((blk_cell BGg.out 2).trans rfl), ((blk_cell BGg.out 3).trans rfl), ((blk_cell BGg.out 4).trans rfl), ((blk_cell BGg.out 5).trans rfl)⟩ (fun hHeld => ?_)
        clear hK K
        refine norm_ (a' := ?_) ?_ ?_
        rotate_left
        · show Act.put _ (some 88) _ = _
          simp only [Act.put, List.setIfInBounds_toArray, List.set_cons_zero, List.set_cons_succ, i64_w, i32_w]
          rfl
        refine pure_ (i := 36) (N := some 89) (v := ?_) (a' := ?_) #[true, true, true, true, true, true, true, true, true, true, true, true, true, true, true, true, true, true, true, true, true, true, true, true, true, true, true, true, true, true, true, true, true, true, true, true, true, false] rfl rfl (by kernel_rfl) (fun _ _ _ h => h) (Or.inl ⟨by rfl, ?_⟩) ?_ ?_
        rotate_left
        · intro w'
          go_simp
          with_reducible rfl
        rotate_left
        · simp only [Act.put, List.setIfInBounds_toArray, List.set_cons_zero, List.set_cons_succ, i64_w, i32_w]
          rfl
        refine pure_ (i := 37) (N := some 90) (v := ?_) (a' := ?_) #[true, true, true, true, true, true, true, true, true, true, true, true, true, true, true, true, true, true, true, true, true, true, true, true, true, true, true, true, true, true, true, true, true, true, true, true, true, true] rfl rfl (by kernel_rfl) (fun _ _ _ h => h) (Or.inl ⟨by rfl, ?_⟩) ?_ ?_
        rotate_left
        · intro w'
          go_simp
          with_reducible rfl
        rotate_left
        · simp only [Act.put, List.setIfInBounds_toArray, List.set_cons_zero, List.set_cons_succ, i64_w, i32_w]
          rfl
        refine done_ (by kernel_rfl) ?_
        go_wp2
        refine ⟨⟨m + 1, rfl, ⟨by omega⟩, ⟨⟨doS s x, r2, .slice As2 ns2 cs2, .slice Aw2 nw2 cw2, WF2.out, doS_len WFS.out HSL.out x, ⟨_, _, _, Dg.out⟩, RDg.out, HREL.out, ?_, HPSg.out, HPG.out⟩⟩, HBg⟩, by simp [intOf]; omega⟩
        rw [HRA.out]
        exact BGg.out
      · have hmn : m = n := by omega
        subst hmn
        have hnb2 := HNB2.out
        have hnbe := HNB.out
        have hsl := HSL.out
        have WSA : Aside0 (∀ vs vn vw W, DiskR W w1.heap.size w1.heap.size s vs vn vw → Calls Try.prog 77 #[.pointer (some ⟨w1.heap.size, 0, none⟩)] W fun e w' => ∃ v : Value, e = .returned v ∧ Kd.R (Kd.int .u8) 5 w' W.heap.size (fun _ => True) v (flatN s.safe) ∧ Below W.heap.size W w') := ⟨fun vs vn vw W h => devSafe_walk _ _ s vs vn vw W h (by omega)⟩
        have WBY : Aside0 (∀ vs vn vw W, DiskR W w1.heap.size w1.heap.size s vs vn vw → Calls Try.prog 78 #[.pointer (some ⟨w1.heap.size, 0, none⟩)] W fun e w' => ∃ v : Value, e = .returned v ∧ Kd.R (Kd.int .u8) 5 w' W.heap.size (fun _ => True) v (flatN s.now) ∧ Below W.heap.size W w') := ⟨fun vs vn vw W h => devBytes_walk _ _ s vs vn vw W h (by rw [WFS.out.len]; omega)⟩
        have hrs : r.safe.length ≤ 1000000 := by rw [HREL0.out.slen]; omega
        have hm60 := HN60.out
        have WRS : Aside0 (∀ W, RefD w1.heap.size W r (.slice As ns cs) (.slice Aw nw cw) → w1.heap.size ≤ W.heap.size → Calls Try.prog 88 #[.agg #[.slice As ns cs, .slice Aw nw cw, .int .i64 rl, .int .i64 rw_, .int .i64 rf, .bool ro]] W fun e w' => ∃ v : Value, e = .returned v ∧ Kd.R (Kd.int .u8) 5 w' W.heap.size (fun _ => True) v (flatN s.safe) ∧ Below W.heap.size W w') := ⟨fun W h1 h2 => by
          have h := refSafe_walk w1.heap.size r (.slice As ns cs) (.slice Aw nw cw) W h1 (HREL0.out.wf WFS.out) (by omega) hrs h2
          rw [HRA.out, flats_eq HREL0.out] at h
          exact h⟩
        have WRB : Aside0 (∀ W, RefD w1.heap.size W r (.slice As ns cs) (.slice Aw nw cw) → w1.heap.size ≤ W.heap.size → Calls Try.prog 89 #[.agg #[.slice As ns cs, .slice Aw nw cw, .int .i64 rl, .int .i64 rw_, .int .i64 rf, .bool ro]] W fun e w' => ∃ v : Value, e = .returned v ∧ Kd.R (Kd.int .u8) 5 w' W.heap.size (fun _ => True) v (flatN s.now) ∧ Below W.heap.size W w') := ⟨fun W h1 h2 => by
          have h := refBytes_walk w1.heap.size r (.slice As ns cs) (.slice Aw nw cw) W h1 (HREL0.out.wf WFS.out) (by omega) hrs h2
          rw [HRA.out, lasts_eq HREL0.out WFS.out] at h
          exact h⟩
        have hq : ((s.safe.length : Int) == (nb : Int) / 64) = true := by simp; omega
        have hwq : RowKit.wrap64 ((nb : Int) / 64) = (nb : Int) / 64 := by unfold RowKit.wrap64; omega
        clear hrs hsl hnbe hnb2 hm60 hlt
        go_wp2
        refine start_ (n := 24) (S := fun w' => w'.cell? ⟨g, 0, none⟩ = some (.slice As ns cs) ∧ w'.cell? ⟨g, 1, none⟩ = some (.slice Aw nw cw) ∧ w'.cell? ⟨g, 2, none⟩ = some (.int .i64 rl) ∧ w'.cell? ⟨g, 3, none⟩ = some (.int .i64 rw_) ∧ w'.cell? ⟨g, 4, none⟩ = some (.int .i64 rf) ∧ w'.cell? ⟨g, 5, none⟩ = some (.bool ro)) (ds := []) #[false, false, false, false, false, false, false, false, false, false, false, false, false, false, false, false, false, false, false, false, false, false, false, false] (by kernel_rfl) rfl rfl ⟨((blk_cell (blk_drew BG.out) 0).trans rfl), ((blk_cell (blk_drew BG.out) 1).trans rfl), ((blk_cell (blk_drew BG.out) 2).trans rfl), ((blk_cell (blk_drew BG.out) 3).trans rfl), ((blk_cell (blk_drew BG.out) 4).trans rfl), ((blk_cell (blk_drew BG.out) 5).trans rfl)⟩ (fun hHeld => ?_)
        refine pure_ (i := 0) (N := some 92) (v := ?_) (a' := ?_) #[true, false, false, false, false, false, false, false, false, false, false, false, false, false, false, false, false, false, false, false, false, false, false, false] rfl rfl (by kernel_rfl) (fun _ _ _ h => h) (Or.inl ⟨by rfl, ?_⟩) ?_ ?_
        rotate_left
        · intro w'
          go_simp
          with_reducible rfl
        rotate_left
        · simp only [Act.put, List.setIfInBounds_toArray, List.set_cons_zero, List.set_cons_succ, i64_w, i32_w]
          rfl
        refine take_ (i := 2) (N := some 94) (v := ?_) (a' := ?_) #[true, false, true, false, false, false, false, false, false, false, false, false, false, false, false, false, false, false, false, false, false, false, false, false] rfl rfl (by kernel_rfl) (fun _ _ _ h => h) (Or.inl ⟨by rfl, ?_⟩) hHeld ?_ ?_
        rotate_left
        · rintro w' ⟨s0, s1, s2, s3, s4, s5⟩
          go_simp
          with_reducible rfl
        rotate_left
        · simp only [Act.put, List.setIfInBounds_toArray, List.set_cons_zero, List.set_cons_succ, i64_w, i32_w]
          rfl
        refine one_ (i := 1) (N := some 93) #[true, true, true, false, false, false, false, false, false, false, false, false, false, false, false, false, false, false, false, false, false, false, false, false] rfl rfl (by kernel_rfl) (by decide) (fun K hK => ?_)
        obtain ⟨wd, hwd⟩ : ∃ wd, wd = wr.drew := ⟨_, rfl⟩
        rw [← hwd]
        have hb : Below wr.heap.size wr wd := by rw [hwd]; exact below_drew1 (Below.refl _ _)
        have Da := Aside0.mk (D.out.below hb)
        have RDa := Aside0.mk (RD.out.below HPS.out hb)
        have BGa := Aside0.mk (blk_below BG.out hb)
        have HBa := Aside0.mk (below_step HB.out hb)
        have HPSa : Aside0 (w1.heap.size ≤ wd.heap.size) := ⟨Nat.le_trans HPS.out hb.size⟩
        clear hb D RD BG HB HPS
        clear hwd hHeld
        refine goes_ Try.func77 (by kernel_rfl) rfl #[.pointer (some ⟨w1.heap.size, 0, none⟩)] (by rfl) rfl rfl (by simp only [List.map_toArray, List.map_cons, List.map_nil]; rfl) ?_
        with_reducible refine ((WSA.out _ _ _ wd Da.out)).mono ?_
        rintro e w2_ ⟨v2, rfl, ho, hb⟩
        refine ⟨_, rfl, ?_⟩
        obtain ⟨A2, c2, rfl⟩ := Kd.R_slice ho
        have HQ1 := Aside0.mk (Kd.R_reads' ho).2.2
        clear ho
        have Db := Aside0.mk (Da.out.below hb)
        have RDb := Aside0.mk (RDa.out.below HPSa.out hb)
        have BGb := Aside0.mk (blk_below BGa.out hb)
        have HBb := Aside0.mk (below_step HBa.out hb)
        have HPSb : Aside0 (w1.heap.size ≤ w2_.heap.size) := ⟨Nat.le_trans HPSa.out hb.size⟩
        clear hb Da RDa BGa HBa HPSa
        refine hK.out _ _ ⟨((blk_cell BGb.out 0).trans rfl), ((blk_cell BGb.out 1).trans rfl), ((blk_cell BGb.out 2).trans rfl), ((blk_cell BGb.out 3).trans rfl), ((blk_cell BGb.out 4).trans rfl), ((blk_cell BGb.out 5).trans rfl)⟩ (fun hHeld => ?_)
        clear hK K
        refine norm_ (a' := ?_) ?_ ?_
        rotate_left
        · show Act.put _ (some 93) _ = _
          simp only [Act.put, List.setIfInBounds_toArray, List.set_cons_zero, List.set_cons_succ, i64_w, i32_w]
          rfl
        refine one_ (i := 3) (N := some 95) #[true, true, true, true, false, false, false, false, false, false, false, false, false, false, false, false, false, false, false, false, false, false, false, false] rfl rfl (by kernel_rfl) (by decide) (fun K hK => ?_)
        clear hHeld
        refine goes_ Try.func88 (by kernel_rfl) rfl #[.agg #[.slice As ns cs, .slice Aw nw cw, .int .i64 rl, .int .i64 rw_, .int .i64 rf, .bool ro]] (by rfl) rfl rfl (by simp only [List.map_toArray, List.map_cons, List.map_nil]; rfl) ?_
        with_reducible refine ((WRS.out w2_ RDb.out HPSb.out)).mono ?_
        rintro e w3_ ⟨v3, rfl, ho, hb⟩
        refine ⟨_, rfl, ?_⟩
        obtain ⟨A3, c3, rfl⟩ := Kd.R_slice ho
        have HQ2 := Aside0.mk (Kd.R_reads' ho).2.2
        have HQ1' := Aside0.mk (Kd.C_below HQ1.out hb)
        clear ho HQ1
        have Dc := Aside0.mk (Db.out.below hb)
        have RDc := Aside0.mk (RDb.out.below HPSb.out hb)
        have BGc := Aside0.mk (blk_below BGb.out hb)
        have HBc := Aside0.mk (below_step HBb.out hb)
        have HPSc : Aside0 (w1.heap.size ≤ w3_.heap.size) := ⟨Nat.le_trans HPSb.out hb.size⟩
        clear hb Db RDb BGb HBb HPSb
        refine hK.out _ _ ⟨((blk_cell BGc.out 0).trans rfl), ((blk_cell BGc.out 1).trans rfl), ((blk_cell BGc.out 2).trans rfl), ((blk_cell BGc.out 3).trans rfl), ((blk_cell BGc.out 4).trans rfl), ((blk_cell BGc.out 5).trans rfl)⟩ (fun hHeld => ?_)
        clear hK K
        refine norm_ (a' := ?_) ?_ ?_
        rotate_left
        · show Act.put _ (some 95) _ = _
          simp only [Act.put, List.setIfInBounds_toArray, List.set_cons_zero, List.set_cons_succ, i64_w, i32_w]
          rfl
        refine one_ (i := 4) (N := some 96) #[true, true, true, true, true, false, false, false, false, false, false, false, false, false, false, false, false, false, false, false, false, false, false, false] rfl rfl (by kernel_rfl) (by decide) (fun K hK => ?_)
        clear hHeld
        refine goes_ Try.func24 (by kernel_rfl) rfl #[.slice A2 (flatN s.safe).length c2, .slice A3 (flatN s.safe).length c3] (by rfl) rfl rfl (by simp only [List.map_toArray, List.map_cons, List.map_nil]; rfl) ?_
        with_reducible refine ((bEq_refl _ _ _ _ _ _ _ w3_ HQ1'.out HQ2.out)).mono ?_
        rintro e w' ⟨rfl, h_⟩
        refine ⟨_, rfl, ?_⟩
        have h_ := h_.symm
        subst h_
        clear HQ1' HQ2
        refine hK.out _ _ ⟨((blk_cell BGc.out 0).trans rfl), ((blk_cell BGc.out 1).trans rfl), ((blk_cell BGc.out 2).trans rfl), ((blk_cell BGc.out 3).trans rfl), ((blk_cell BGc.out 4).trans rfl), ((blk_cell BGc.out 5).trans rfl)⟩ (fun hHeld => ?_)
        clear hK K
        refine norm_ (a' := ?_) ?_ ?_
        rotate_left
        · show Act.put _ (some 96) _ = _
          simp only [Act.put, List.setIfInBounds_toArray, List.set_cons_zero, List.set_cons_succ, i64_w, i32_w]
          rfl
        refine pure_ (i := 5) (N := some 97) (v := ?_) (a' := ?_) #[true, true, true, true, true, true, false, false, false, false, false, false, false, false, false, false, false, false, false, false, false, false, false, false] rfl rfl (by kernel_rfl) (fun _ _ _ h => h) (Or.inl ⟨by rfl, ?_⟩) ?_ ?_
        rotate_left
        · intro w'
          go_simp
          with_reducible rfl
        rotate_left
        · simp only [Act.put, List.setIfInBounds_toArray, List.set_cons_zero, List.set_cons_succ, i64_w, i32_w]
          rfl
        refine pure_ (i := 6) (N := some 98) (v := ?_) (a' := ?_) #[true, true, true, true, true, true, true, false, false, false, false, false, false, false, false, false, false, false, false, false, false, false, false, false] rfl rfl (by kernel_rfl) (fun _ _ _ h => h) (Or.inl ⟨by rfl, ?_⟩) ?_ ?_
        rotate_left
        · intro w'
          go_simp
          with_reducible rfl
        rotate_left
        · simp only [Act.put, List.setIfInBounds_toArray, List.set_cons_zero, List.set_cons_succ, i64_w, i32_w]
          rfl
        refine take_ (i := 8) (N := some 100) (v := ?_) (a' := ?_) #[true, true, true, true, true, true, true, false, true, false, false, false, false, false, false, false, false, false, false, false, false, false, false, false] rfl rfl (by kernel_rfl) (fun _ _ _ h => h) (Or.inl ⟨by rfl, ?_⟩) hHeld ?_ ?_
        rotate_left
        · rintro w' ⟨s0, s1, s2, s3, s4, s5⟩
          go_simp
          with_reducible rfl
        rotate_left
        · simp only [Act.put, List.setIfInBounds_toArray, List.set_cons_zero, List.set_cons_succ, i64_w, i32_w]
          rfl
        refine one_ (i := 7) (N := some 99) #[true, true, true, true, true, true, true, true, true, false, false, false, false, false, false, false, false, false, false, false, false, false, false, false] rfl rfl (by kernel_rfl) (by decide) (fun K hK => ?_)
        clear hHeld
        refine goes_ Try.func78 (by kernel_rfl) rfl #[.pointer (some ⟨w1.heap.size, 0, none⟩)] (by rfl) rfl rfl (by simp only [List.map_toArray, List.map_cons, List.map_nil]; rfl) ?_
        with_reducible refine ((WBY.out _ _ _ w3_ Dc.out)).mono ?_
        rintro e w4_ ⟨v4, rfl, ho, hb⟩
        refine ⟨_, rfl, ?_⟩
        obtain ⟨A4, c4, rfl⟩ := Kd.R_slice ho
        have HQ3 := Aside0.mk (Kd.R_reads' ho).2.2
        clear ho
        have Dd := Aside0.mk (Dc.out.below hb)
        have RDd := Aside0.mk (RDc.out.below HPSc.out hb)
        have BGd := Aside0.mk (blk_below BGc.out hb)
        have HBd := Aside0.mk (below_step HBc.out hb)
        have HPSd : Aside0 (w1.heap.size ≤ w4_.heap.size) := ⟨Nat.le_trans HPSc.out hb.size⟩
        clear hb Dc RDc BGc HBc HPSc
        refine hK.out _ _ ⟨((blk_cell BGd.out 0).trans rfl), ((blk_cell BGd.out 1).trans rfl), ((blk_cell BGd.out 2).trans rfl), ((blk_cell BGd.out 3).trans rfl), ((blk_cell BGd.out 4).trans rfl), ((blk_cell BGd.out 5).trans rfl)⟩ (fun hHeld => ?_)
        clear hK K
        refine norm_ (a' := ?_) ?_ ?_
        rotate_left
        · show Act.put _ (some 99) _ = _
          simp only [Act.put, List.setIfInBounds_toArray, List.set_cons_zero, List.set_cons_succ, i64_w, i32_w]
          rfl
        refine one_ (i := 9) (N := some 101) #[true, true, true, true, true, true, true, true, true, true, false, false, false, false, false, false, false, false, false, false, false, false, false, false] rfl rfl (by kernel_rfl) (by decide) (fun K hK => ?_)
        clear hHeld
        refine goes_ Try.func89 (by kernel_rfl) rfl #[.agg #[.slice As ns cs, .slice Aw nw cw, .int .i64 rl, .int .i64 rw_, .int .i64 rf, .bool ro]] (by rfl) rfl rfl (by simp only [List.map_toArray, List.map_cons, List.map_nil]; rfl) ?_
        with_reducible refine ((WRB.out w4_ RDd.out HPSd.out)).mono ?_
        rintro e w5_ ⟨v5, rfl, ho, hb⟩
        refine ⟨_, rfl, ?_⟩
        obtain ⟨A5, c5, rfl⟩ := Kd.R_slice ho
        have HQ4 := Aside0.mk (Kd.R_reads' ho).2.2
        have HQ3' := Aside0.mk (Kd.C_below HQ3.out hb)
        clear ho HQ3
        have De := Aside0.mk (Dd.out.below hb)
        have RDe := Aside0.mk (RDd.out.below HPSd.out hb)
        have BGe := Aside0.mk (blk_below BGd.out hb)
        have HBe := Aside0.mk (below_step HBd.out hb)
        have HPSe : Aside0 (w1.heap.size ≤ w5_.heap.size) := ⟨Nat.le_trans HPSd.out hb.size⟩
        clear hb Dd RDd BGd HBd HPSd
        refine hK.out _ _ ⟨((blk_cell BGe.out 0).trans rfl), ((blk_cell BGe.out 1).trans rfl), ((blk_cell BGe.out 2).trans rfl), ((blk_cell BGe.out 3).trans rfl), ((blk_cell BGe.out 4).trans rfl), ((blk_cell BGe.out 5).trans rfl)⟩ (fun hHeld => ?_)
        clear hK K
        refine norm_ (a' := ?_) ?_ ?_
        rotate_left
        · show Act.put _ (some 101) _ = _
          simp only [Act.put, List.setIfInBounds_toArray, List.set_cons_zero, List.set_cons_succ, i64_w, i32_w]
          rfl
        refine one_ (i := 10) (N := some 102) #[true, true, true, true, true, true, true, true, true, true, true, false, false, false, false, false, false, false, false, false, false, false, false, false] rfl rfl (by kernel_rfl) (by decide) (fun K hK => ?_)
        clear hHeld
        refine goes_ Try.func24 (by kernel_rfl) rfl #[.slice A4 (flatN s.now).length c4, .slice A5 (flatN s.now).length c5] (by rfl) rfl rfl (by simp only [List.map_toArray, List.map_cons, List.map_nil]; rfl) ?_
        with_reducible refine ((bEq_refl _ _ _ _ _ _ _ w5_ HQ3'.out HQ4.out)).mono ?_
        rintro e w' ⟨rfl, h_⟩
        refine ⟨_, rfl, ?_⟩
        have h_ := h_.symm
        subst h_
        clear HQ3' HQ4
        refine hK.out _ _ ⟨((blk_cell BGe.out 0).trans rfl), ((blk_cell BGe.out 1).trans rfl), ((blk_cell BGe.out 2).trans rfl), ((blk_cell BGe.out 3).trans rfl), ((blk_cell BGe.out 4).trans rfl), ((blk_cell BGe.out 5).trans rfl)⟩ (fun hHeld => ?_)
        clear hK K
        refine norm_ (a' := ?_) ?_ ?_
        rotate_left
        · show Act.put _ (some 102) _ = _
          simp only [Act.put, List.setIfInBounds_toArray, List.set_cons_zero, List.set_cons_succ, i64_w, i32_w]
          rfl
        refine pure_ (i := 11) (N := some 103) (v := ?_) (a' := ?_) #[true, true, true, true, true, true, true, true, true, true, true, true, false, false, false, false, false, false, false, false, false, false, false, false] rfl rfl (by kernel_rfl) (fun _ _ _ h => h) (Or.inl ⟨by rfl, ?_⟩) ?_ ?_
        rotate_left
        · intro w'
          go_simp
          with_reducible rfl
        rotate_left
        · simp only [Act.put, List.setIfInBounds_toArray, List.set_cons_zero, List.set_cons_succ, i64_w, i32_w]
          rfl
        refine pure_ (i := 12) (N := some 104) (v := ?_) (a' := ?_) #[true, true, true, true, true, true, true, true, true, true, true, true, true, false, false, false, false, false, false, false, false, false, false, false] rfl rfl (by kernel_rfl) (fun _ _ _ h => h) (Or.inl ⟨by rfl, ?_⟩) ?_ ?_
        rotate_left
        · intro w'
          go_simp
          with_reducible rfl
        rotate_left
        · simp only [Act.put, List.setIfInBounds_toArray, List.set_cons_zero, List.set_cons_succ, i64_w, i32_w]
          rfl
        refine pure_ (i := 13) (N := some 105) (v := ?_) (a' := ?_) #[true, true, true, true, true, true, true, true, true, true, true, true, true, true, false, false, false, false, false, false, false, false, false, false] rfl rfl (by kernel_rfl) (fun _ _ _ h => h) (Or.inl ⟨by rfl, ?_⟩) ?_ ?_
        rotate_left
        · intro w'
          go_simp
          with_reducible rfl
        rotate_left
        · simp only [Act.put, List.setIfInBounds_toArray, List.set_cons_zero, List.set_cons_succ, i64_w, i32_w]
          rfl
        refine pure_ (i := 15) (N := some 107) (v := ?_) (a' := ?_) #[true, true, true, true, true, true, true, true, true, true, true, true, true, true, false, true, false, false, false, false, false, false, false, false] rfl rfl (by kernel_rfl) (fun _ _ _ h => h) (Or.inl ⟨by rfl, ?_⟩) ?_ ?_
        rotate_left
        · intro w'
          go_simp
          with_reducible rfl
        rotate_left
        · simp only [Act.put, List.setIfInBounds_toArray, List.set_cons_zero, List.set_cons_succ, i64_w, i32_w]
          rfl
        refine pure_ (i := 16) (N := some 108) (v := ?_) (a' := ?_) #[true, true, true, true, true, true, true, true, true, true, true, true, true, true, false, true, true, false, false, false, false, false, false, false] rfl rfl (by kernel_rfl) (fun _ _ _ h => h) (Or.inl ⟨by rfl, ?_⟩) ?_ ?_
        rotate_left
        · intro w'
          go_simp
          with_reducible rfl
        rotate_left
        · simp only [Act.put, List.setIfInBounds_toArray, List.set_cons_zero, List.set_cons_succ, i64_w, i32_w]
          rfl
        refine pure_ (i := 17) (N := some 109) (v := ?_) (a' := ?_) #[true, true, true, true, true, true, true, true, true, true, true, true, true, true, false, true, true, true, false, false, false, false, false, false] rfl rfl (by kernel_rfl) (fun _ _ _ h => h) (Or.inl ⟨by rfl, ?_⟩) ?_ ?_
        rotate_left
        · intro w'
          go_simp
          with_reducible rfl
        rotate_left
        · simp only [Act.put, List.setIfInBounds_toArray, List.set_cons_zero, List.set_cons_succ, i64_w, i32_w]
          rfl
        refine one_ (i := 14) (N := some 106) #[true, true, true, true, true, true, true, true, true, true, true, true, true, true, true, true, true, true, false, false, false, false, false, false] rfl rfl (by kernel_rfl) (by decide) (fun K hK => ?_)
        clear hHeld
        refine goes_ Try.func73 (by kernel_rfl) rfl #[.pointer (some ⟨w1.heap.size, 0, none⟩)] (by rfl) rfl rfl (by simp only [List.map_toArray, List.map_cons, List.map_nil]; rfl) ?_
        with_reducible refine ((devSize_walk w1.heap.size w1.heap.size _ _ _ _ _ De.out)).mono ?_
        rintro e w' ⟨rfl, h_⟩
        refine ⟨_, rfl, ?_⟩
        have h_ := h_.symm
        subst h_
        refine hK.out _ _ ⟨((blk_cell BGe.out 0).trans rfl), ((blk_cell BGe.out 1).trans rfl), ((blk_cell BGe.out 2).trans rfl), ((blk_cell BGe.out 3).trans rfl), ((blk_cell BGe.out 4).trans rfl), ((blk_cell BGe.out 5).trans rfl)⟩ (fun hHeld => ?_)
        clear hK K
        refine norm_ (a' := ?_) ?_ ?_
        rotate_left
        · show Act.put _ (some 106) _ = _
          simp only [Act.put, List.setIfInBounds_toArray, List.set_cons_zero, List.set_cons_succ, i64_w, i32_w]
          rfl
        refine pure_ (i := 18) (N := some 110) (v := ?_) (a' := ?_) #[true, true, true, true, true, true, true, true, true, true, true, true, true, true, true, true, true, true, true, false, false, false, false, false] rfl rfl (by kernel_rfl) (fun _ _ _ h => h) (Or.inl ⟨by rfl, ?_⟩) ?_ ?_
        rotate_left
        · intro w'
          go_simp
          with_reducible rfl
        rotate_left
        · simp only [Act.put, List.setIfInBounds_toArray, List.set_cons_zero, List.set_cons_succ, i64_w, i32_w]
          rfl
        refine pure_ (i := 19) (N := some 111) (v := ?_) (a' := ?_) #[true, true, true, true, true, true, true, true, true, true, true, true, true, true, true, true, true, true, true, true, false, false, false, false] rfl rfl (by kernel_rfl) (fun _ _ _ h => h) (Or.inl ⟨by rfl, ?_⟩) ?_ ?_
        rotate_left
        · intro w'
          go_simp
          with_reducible rfl
        rotate_left
        · simp only [Act.put, List.setIfInBounds_toArray, List.set_cons_zero, List.set_cons_succ, i64_w, i32_w]
          rfl
        refine pure_ (i := 20) (N := some 112) (v := ?_) (a' := ?_) #[true, true, true, true, true, true, true, true, true, true, true, true, true, true, true, true, true, true, true, true, true, false, false, false] rfl rfl (by kernel_rfl) (fun _ _ _ h => h) (Or.inl ⟨by rfl, ?_⟩) ?_ ?_
        rotate_left
        · intro w'
          go_simp
          with_reducible rfl
        rotate_left
        · simp only [Act.put, List.setIfInBounds_toArray, List.set_cons_zero, List.set_cons_succ, i64_w, i32_w]
          rfl
        refine one_ (i := 21) (N := some 113) #[true, true, true, true, true, true, true, true, true, true, true, true, true, true, true, true, true, true, true, true, true, true, false, false] rfl rfl (by kernel_rfl) (by decide) (fun K hK => ?_)
        clear hHeld
        refine goes_ Try.func80 (by kernel_rfl) rfl #[] (by rfl) rfl rfl (by simp only [List.map_toArray, List.map_nil]) ?_
        with_reducible refine ((WA.out w5_)).mono ?_
        rintro e w6_ ⟨rfl, hb⟩
        refine ⟨_, rfl, ?_⟩
        have Df := Aside0.mk (De.out.below hb)
        have RDf := Aside0.mk (RDe.out.below HPSe.out hb)
        have BGf := Aside0.mk (blk_below BGe.out hb)
        have HBf := Aside0.mk (below_step HBe.out hb)
        have HPSf : Aside0 (w1.heap.size ≤ w6_.heap.size) := ⟨Nat.le_trans HPSe.out hb.size⟩
        clear hb De RDe BGe HBe HPSe
        refine hK.out _ _ ⟨((blk_cell BGf.out 0).trans rfl), ((blk_cell BGf.out 1).trans rfl), ((blk_cell BGf.out 2).trans rfl), ((blk_cell BGf.out 3).trans rfl), ((blk_cell BGf.out 4).trans rfl), ((blk_cell BGf.out 5).trans rfl)⟩ (fun hHeld => ?_)
        clear hK K
        refine norm_ (a' := ?_) ?_ ?_
        rotate_left
        · show Act.put _ (some 113) _ = _
          simp only [Act.put, List.setIfInBounds_toArray, List.set_cons_zero, List.set_cons_succ, i64_w, i32_w]
          rfl
        refine pure_ (i := 22) (N := some 114) (v := ?_) (a' := ?_) #[true, true, true, true, true, true, true, true, true, true, true, true, true, true, true, true, true, true, true, true, true, true, true, false] rfl rfl (by kernel_rfl) (fun _ _ _ h => h) (Or.inl ⟨by rfl, ?_⟩) ?_ ?_
        rotate_left
        · intro w'
          go_simp
          with_reducible rfl
        rotate_left
        · simp only [Act.put, List.setIfInBounds_toArray, List.set_cons_zero, List.set_cons_succ, i64_w, i32_w]
          rfl
        refine pure_ (i := 23) (N := some 4) (v := ?_) (a' := ?_) #[true, true, true, true, true, true, true, true, true, true, true, true, true, true, true, true, true, true, true, true, true, true, true, true] rfl rfl (by kernel_rfl) (fun _ _ _ h => h) (Or.inl ⟨by rfl, ?_⟩) ?_ ?_
        rotate_left
        · intro w'
          go_simp
          with_reducible rfl
        rotate_left
        · simp only [Act.put, List.setIfInBounds_toArray, List.set_cons_zero, List.set_cons_succ, i64_w, i32_w]
          rfl
        refine done_ (by kernel_rfl) ?_
        go_wp2
        go_ret
        exact ⟨by rfl, HBf.out⟩
end Go.Proofs.Ytdknolnoimpgeaa.K
