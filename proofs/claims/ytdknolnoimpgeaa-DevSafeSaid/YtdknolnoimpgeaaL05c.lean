/- The law DevSafe. -/
import Derived.Test.YtdknolnoimpgeaaK05u
namespace Go.Proofs.Ytdknolnoimpgeaa.K
open Go.RowKit Go.Proofs.YtdknolnoimpgeaaW.PrintWords Go.Proofs.YtdknolnoimpgeaaW.PrintLast Go.Proofs.YtdknolnoimpgeaaW.PrintMore
set_option linter.unusedVariables false
set_option linter.unusedSimpArgs false
theorem bEq_refl (A1 : Option Addr) (n1 c1 : Nat) (A2 : Option Addr) (n2 c2 : Nat) (a : List Int) (w : World) (h1 : Kd.C (Kd.int .u8) w A1 n1 a) (h2 : Kd.C (Kd.int .u8) w A2 n2 a) :
    Calls Try.prog 24 #[.slice A1 n1 c1, .slice A2 n2 c2] w fun e w' => e = .returned (.bool true) ∧ w' = w := by
  have e1 := h1.1
  have e2 := h2.1
  subst e1
  subst e2
  have E0 : Aside0 (((strOfNums a).toList == (strOfNums a).toList) = true) := ⟨by simp⟩
  have hcv3 := Kd.C_string (P := Try.prog) (A := A1) (c := c1) Try.underlying24 Try.underlying5 Try.underlying9 h1
  have hcv4 := Kd.C_string (P := Try.prog) (A := A2) (c := c2) Try.underlying24 Try.underlying5 Try.underlying9 h2
  clear h1 h2
  go_enter Try.func24, Try.ntmps24
  go_wp2
  go_ret
  exact ⟨by rw [← E0.out]; rfl, rfl⟩
/-- What stands of a disk of N sectors behind k calls. -/
def DiskAt (W : World) (base : Nat) (N k : Nat) : Prop := ∃ s, DiskWf s k ∧ s.safe.length = N ∧ DiskOk W base base s
theorem flushS_ok {s : DiskS} (h : burnE s = 0) : (flushS s).now = s.now ∧ (flushS s).safe = s.now ∧ (flushS s).wait = [] := by
  unfold flushS
  rw [if_neg (by simpa using h)]
  exact ⟨burnS_now s, rfl, rfl⟩
theorem flushS_no {s : DiskS} (h : burnE s ≠ 0) : flushS s = burnS s := by unfold flushS; rw [if_pos h]
theorem flushS_len {s : DiskS} {N : Nat} (h : s.now.length = N) (h2 : s.safe.length = N) : (flushS s).safe.length = N := by
  unfold flushS
  split
  · rw [burnS_safe]; exact h2
  · exact h
theorem crashS_len {s : DiskS} {kept : List Bool} : (crashS s kept).safe.length = s.safe.length := safeN_length _ _ _
theorem crashS_none {s : DiskS} {kept : List Bool} (h : s.wait = []) : (crashS s kept).safe = s.safe ∧ (crashS s kept).now = s.safe := by
  unfold crashS
  simp [h, safeN]
theorem doS_len {s : DiskS} {k N : Nat} (h : DiskWf s k) (hN : s.safe.length = N) (x : Stp) : (doS s x).safe.length = N := by
  unfold doS
  split
  · unfold writeS; split; exact hN; split; exact hN; split; rw [burnS_safe]; exact hN; show (burnS s).safe.length = N; rw [burnS_safe]; exact hN
  · split
    · exact flushS_len (h.len.trans hN) hN
    · split
      · exact hN
      · split
        · rw [crashS_len]; exact hN
        · exact hN
theorem secs_wf (b : List Int) : DiskWf ⟨secs b, secs b, [], -1, false, 0, 0⟩ 0 := ⟨rfl, by simp, by simp, by simp, by simp, by simp, by simp, by simp, fun q hq => by cases hq⟩
set_option maxHeartbeats 8000000 in
set_option maxRecDepth 100000 in
theorem l05_Safe (A : Option Addr) (c : Nat) (b : List Int) (Al : Option Addr) (cl : Nat) (l : List Stp) (Ak : Option Addr) (ck : Nat) (kept : List Bool) (w : World) (hb : Kd.C (Kd.int .u8) w A b.length b) (hbc : b.length ≤ c) (hl : Kd.C kStp w Al l.length l) (hll : l.length ≤ 9223372036854775807) (hk : Kd.C Kd.bool w Ak kept.length kept)
    (hg : ∀ x ∈ l, x.at_ ≤ 9223372036854775807 ∧ x.k.l.length ≤ 9223372036854775807) :
    Calls Try.prog 13 #[.slice A b.length c, .slice Al l.length cl, .slice Ak kept.length ck] w fun e w' => e = .returned (.bool true) ∧ Below w.heap.size w w' := by
  have WA := Aside0.mk (fun W => l05_awake W)
  have HB := Aside0.mk (Below.refl w.heap.size w)
  have WF := Aside0.mk (few_walk A b.length c Al cl l w hl hll)
  have HL := Aside0.mk hl
  have HR := Aside0.mk hb
  have HK := Aside0.mk hk
  have HG := Aside0.mk hg
  obtain ⟨n, hn⟩ : ∃ n, n = l.length := ⟨_, rfl⟩
  obtain ⟨nb, hnb⟩ : ∃ n, n = b.length := ⟨_, rfl⟩
  obtain ⟨nk, hnk⟩ : ∃ n, n = kept.length := ⟨_, rfl⟩
  rw [← hn, ← hnb] at WF
  rw [← hn, ← hnb, ← hnk]
  have HN := Aside0.mk hn
  have HNB := Aside0.mk hnb
  have HNK := Aside0.mk hnk
  have HBC : Aside0 (nb ≤ c) := ⟨by omega⟩
  clear hl hb hk hg hll hbc hn hnb hnk
  have AW : Aside0 True := ⟨trivial⟩
  cases hf : fewS nb l with
  | false =>
    rw [hf] at WF
    clear hf
    go_enter Try.func13, Try.ntmps13
    go_wp2_with (first | (go_at_call 81; (with_reducible refine WF.out.mono ?_); rintro e w1 ⟨rfl, hb⟩; have n1_ : Aside0 (Below w.heap.size w w1) := ⟨below_step (by repeat (first | (with_reducible first | exact HB.out | apply below_alloc | apply pw_below_drewN | apply below_drew1) | exact HB.out)) hb⟩; clear HB; have HB := n1_; clear n1_; clear hb) | (go_at_call 80; (with_reducible refine (WA.out _).mono ?_); rintro e w9 ⟨rfl, hb⟩; have n1_ : Aside0 (Below w.heap.size w w9) := ⟨below_step (by repeat (first | (with_reducible first | exact HB.out | apply below_alloc | apply pw_below_drewN | apply below_drew1) | exact HB.out)) hb⟩; clear HB; have HB := n1_; clear n1_; clear hb))
    go_ret
    exact ⟨rfl, HB.out⟩
  | true =>
    rw [hf] at WF
    have hfew : nb ≤ 2000 ∧ l.length ≤ 60 := by
      unfold fewS at hf
      simp only [Bool.and_eq_true, decide_eq_true_eq] at hf
      exact ⟨hf.1, hf.2.1⟩
    have HN60 : Aside0 (n ≤ 60) := ⟨by rw [HN.out]; exact hfew.2⟩
    have HNB2 : Aside0 (nb ≤ 2000) := ⟨hfew.1⟩
    clear hf hfew
    by_cases h100 : nk ≤ 100
    case neg =>
      have hi : (100 : Int) < nk := by omega
      clear h100
      go_enter Try.func13, Try.ntmps13
      go_wp2_with (first | (go_at_call 81; (with_reducible refine WF.out.mono ?_); rintro e w1 ⟨rfl, hb⟩; have n1_ : Aside0 (Below w.heap.size w w1) := ⟨below_step (by repeat (first | (with_reducible first | exact HB.out | apply below_alloc | apply pw_below_drewN | apply below_drew1) | exact HB.out)) hb⟩; clear HB; have HB := n1_; clear n1_; clear hb) | (go_at_call 80; (with_reducible refine (WA.out _).mono ?_); rintro e w9 ⟨rfl, hb⟩; have n1_ : Aside0 (Below w.heap.size w w9) := ⟨below_step (by repeat (first | (with_reducible first | exact HB.out | apply below_alloc | apply pw_below_drewN | apply below_drew1) | exact HB.out)) hb⟩; clear HB; have HB := n1_; clear n1_; clear hb))
      go_ret
      exact ⟨rfl, HB.out⟩
    have hi : ¬ (100 : Int) < nk := by omega
    have WN : Aside0 (∀ W, Below w.heap.size w W → Calls Try.prog 82 #[.slice A nb c] W fun e w' => e = .returned (.pointer (some ⟨W.heap.size, 0, none⟩)) ∧ DiskOk w' W.heap.size W.heap.size ⟨secs b, secs b, [], -1, false, 0, 0⟩ ∧ Below W.heap.size W w') := ⟨fun W h => by
      have h2 := new_walk A c b W (Kd.C_below HR.out h) (by rw [← HNB.out]; exact HBC.out) (by rw [← HNB.out]; have := HNB2.out; omega)
      rw [← HNB.out] at h2
      exact h2⟩
    have HK100 : Aside0 (nk ≤ 100) := ⟨h100⟩
    clear h100
    go_enter Try.func13, Try.ntmps13
    go_wp2_with (first | (go_at_call 81; (with_reducible refine WF.out.mono ?_); rintro e w1 ⟨rfl, hb⟩; have n1_ : Aside0 (Below w.heap.size w w1) := ⟨below_step (by repeat (first | (with_reducible first | exact HB.out | apply below_alloc | apply pw_below_drewN | apply below_drew1) | exact HB.out)) hb⟩; clear HB; have HB := n1_; clear n1_; clear hb) | (go_at_call 82; (with_reducible refine (WN.out _ HB.out).mono ?_); rintro e w2 ⟨rfl, hD, hb⟩; have HD : Aside0 (DiskAt w2 w1.heap.size (b.length / 64) 0) := ⟨_, secs_wf b, secs_length b, hD⟩; have HW1 := Aside0.mk (below_size HB.out); have n1_ : Aside0 (Below w.heap.size w w2) := ⟨below_step (by repeat (first | (with_reducible first | exact HB.out | apply below_alloc | apply pw_below_drewN | apply below_drew1) | exact HB.out)) hb⟩; clear HB; have HB := n1_; clear n1_; clear hb hD))
    go_loopw [27] (fun v27 w' => ∃ m : Nat, v27 = .int .i64 m ∧ Aside0 (m ≤ n) ∧ Aside0 (DiskAt w' w1.heap.size (b.length / 64) m) ∧ Aside0 (Below w.heap.size w w')) (fun i _ => n - (intOf i).toNat)
    case atStart => exact ⟨0, rfl, ⟨Nat.zero_le _⟩, HD, HB⟩
    case round =>
      clear HD HB
      obtain ⟨m, rfl, hm, HD, HB⟩ := hrel
      have hm' := hm.out
      by_cases hlt : m < n
      · obtain ⟨s, hwf, hsl, vs, vn, vw, hD⟩ := HD.out
        have hml : m < l.length := by rw [← HN.out]; exact hlt
        obtain ⟨ad, rfl, hx, hxs⟩ := at_stpA (Kd.C_below HL.out HB.out) hml
        have hxb := (at_stp HL.out hml).choose_spec.2.2.1
        have hxk := (at_stp HL.out hml).choose_spec.2.2.2
        have hxg := HG.out _ (List.getElem_mem hml)
        obtain ⟨x, hxx⟩ : ∃ x, x = l[m] := ⟨_, rfl⟩
        rw [← hxx] at hx hxs hxb hxk hxg
        have x0 := hx _ rfl
        have x1 := hxs 0 _ rfl
        have x2 := hxs 1 _ rfl
        have x3 := hxs 2 _ rfl
        have D := Aside0.mk hD
        have WFS := Aside0.mk hwf
        have HSL := Aside0.mk hsl
        have HXB := Aside0.mk hxb
        have HXK := Aside0.mk hxk
        have HXG := Aside0.mk hxg
        have hn60 := HN60.out
        clear hx hxs hxb hxk hxg hxx hwf hsl hD HD
        go_wp2_with (first | ((with_reducible refine gate_store (p := 9) rfl ?_); go_loud (refine wpList_store_newL (w0 := wr) rfl rfl 93 (.tmp 9) (.tmp 30) rfl #[.int .i64 x.do_, .int .i64 x.at_, .slice x.b.A x.b.l.length x.b.c, .slice x.k.A x.k.l.length x.k.c] 93 #[.int .i64 0, .int .i64 0, .slice none 0 0, .slice none 0 0] rfl (by rfl) (by rfl) (by kernel_rfl) rfl (by simp [Value.oneCell']) ?_; intro w6 bk_ hb; have BK6 := Aside0.mk bk_; clear bk_; have n_ := Aside0.mk (D.out.below hb); clear D; have D := n_; clear n_; have n1_ : Aside0 (Below w.heap.size w w6) := ⟨below_step (by repeat (first | (with_reducible first | exact HB.out | apply below_alloc | apply pw_below_drewN | apply below_drew1) | exact HB.out)) hb⟩; clear HB; have HB := n1_; clear n1_; clear hb; have k0 : w6.cell? ⟨wr.heap.size, 0, none⟩ = some (.int .i64 x.do_) := (blk_cell BK6.out 0).trans rfl; have k1 : w6.cell? ⟨wr.heap.size, 1, none⟩ = some (.int .i64 x.at_) := (blk_cell BK6.out 1).trans rfl; have k2 : w6.cell? ⟨wr.heap.size, 2, none⟩ = some (.slice x.b.A x.b.l.length x.b.c) := (blk_cell BK6.out 2).trans rfl; have k3 : w6.cell? ⟨wr.heap.size, 3, none⟩ = some (.slice x.k.A x.k.l.length x.k.c) := (blk_cell BK6.out 3).trans rfl)) | (go_at_call 83; go_loud (with_reducible refine (do_walk w1.heap.size w1.heap.size s _ _ _ x _ D.out WFS.out (by have h1_ := HN60.out; omega) (Keeps.old HXB.out HB.out HW1.out) (Keeps.old HXK.out HB.out HW1.out) HXG.out.2).mono ?_); go_loud (rintro e w7 ⟨v7, rfl, _, hD, hF⟩; have n_ : Aside0 (Below w.heap.size w w7) := ⟨HB.out.trans (hF.below.mono HW1.out)⟩; clear HB; have HB := n_; clear n_; have HD : Aside0 (DiskAt w7 w1.heap.size (b.length / 64) (m + 1)) := ⟨⟨doS s x, WFS.out.do_ HXG.out.1, doS_len WFS.out HSL.out x, hD⟩⟩; clear hD hF D)))
        exact ⟨⟨m + 1, rfl, ⟨by omega⟩, HD, HB⟩, by simp [intOf]; omega⟩
      · have hmn : m = n := by omega
        subst hmn
        obtain ⟨s, hwf, hsl, vs, vn, vw, hD⟩ := HD.out
        have hm60 := HN60.out
        have hnb := HNB2.out
        have hbl := HNB.out
        have WFS := Aside0.mk (hwf.mono hm60)
        have HSL : Aside0 (s.safe.length ≤ 40) := ⟨by omega⟩
        have HNL : Aside0 (s.now.length ≤ 40) := ⟨by rw [hwf.len]; omega⟩
        have HKB : Aside0 (Keeps Kd.bool w1.heap.size wr Ak kept) := ⟨Keeps.old HK.out HB.out HW1.out⟩
        have HBW : Aside0 (∀ W, DFrame w1.heap.size wr W → Below w.heap.size w W) := ⟨fun W hf => HB.out.trans (hf.below.mono HW1.out)⟩
        have FR := Aside0.mk (DFrame.refl w1.heap.size wr)
        have D := Aside0.mk hD
        have HKN : Aside0 (kept.length ≤ 9223372036854775807) := ⟨by rw [← HNK.out]; have := HK100.out; omega⟩
        clear HD hwf hsl hD HB hm60 hnb hbl hlt hm hm'
        rcases Decidable.em (burnE s = 0) with hbu | hbu
        · have HF : Aside0 (∀ vs vn vw W, DiskR W w1.heap.size w1.heap.size s vs vn vw → Calls Try.prog 72 #[.pointer (some ⟨w1.heap.size, 0, none⟩)] W fun e w' => e = .returned (.int .i64 0) ∧ (∃ vw', DiskR w' w1.heap.size w1.heap.size (flushS s) vs vn vw') ∧ DFrame w1.heap.size W w') := ⟨fun vs vn vw W h => by
            have h2 := devFlush_walk _ _ s vs vn vw W h WFS.out.len WFS.out.l0 WFS.out.l1 WFS.out.f0 (by have := WFS.out.f1; omega)
            rw [hbu] at h2
            exact h2⟩
          have WF1 : Aside0 (DiskWf (flushS s) 61) := ⟨WFS.out.flush⟩
          have HS1 : Aside0 ((flushS s).safe = s.now ∧ (flushS s).now = s.now ∧ (flushS s).wait = []) := ⟨⟨(flushS_ok hbu).2.1, (flushS_ok hbu).1, (flushS_ok hbu).2.2⟩⟩
          obtain ⟨s1, hs1⟩ : ∃ s1, s1 = flushS s := ⟨_, rfl⟩
          rw [← hs1] at HF WF1 HS1
          obtain ⟨X, hX⟩ : ∃ X, X = s.now := ⟨_, rfl⟩
          rw [← hX] at HS1 HNL
          clear hbu hs1 hX
          have HS2 : Aside0 ((crashS s1 kept).safe = X ∧ (crashS s1 kept).now = X ∧ (crashS s1 kept).wait = [] ∧ (crashS s1 kept).off = false) := ⟨by obtain ⟨h1, h2⟩ := crashS_none (kept := kept) HS1.out.2.2; rw [h1, h2, HS1.out.1]; exact ⟨rfl, rfl, rfl, rfl⟩⟩
          have WF2 : Aside0 (DiskWf (crashS s1 kept) 61) := ⟨WF1.out.crash kept⟩
          obtain ⟨s2, hs2⟩ : ∃ s2, s2 = crashS s1 kept := ⟨_, rfl⟩
          have HS3 : Aside0 ((crashS s2 kept).safe = X ∧ (crashS s2 kept).now = X ∧ (crashS s2 kept).wait = [] ∧ (crashS s2 kept).off = false) := ⟨by rw [← hs2] at HS2; obtain ⟨h1, h2⟩ := crashS_none (kept := kept) HS2.out.2.2.1; rw [h1, h2, HS2.out.1]; exact ⟨rfl, rfl, rfl, rfl⟩⟩
          have WC1 : Aside0 (∀ vs vn vw W, DiskR W w1.heap.size w1.heap.size s1 vs vn vw → Keeps Kd.bool w1.heap.size W Ak kept → Calls Try.prog 70 #[.pointer (some ⟨w1.heap.size, 0, none⟩), .slice Ak nk ck] W fun e w' => (∃ v, e = .returned v) ∧ DiskOk w' w1.heap.size w1.heap.size (crashS s1 kept) ∧ DFrame w1.heap.size W w') := ⟨fun vs vn vw W h h2 => by
            have h3 := devCrash_walk _ _ s1 vs vn vw Ak ck kept W h WF1.out.len h2 (by have := WF1.out.wl; omega) HKN.out WF1.out.at_
            rw [← HNK.out] at h3
            exact h3⟩
          rw [← hs2] at WC1 HS2 WF2
          clear hs2
          have WC2 : Aside0 (∀ vs vn vw W, DiskR W w1.heap.size w1.heap.size s2 vs vn vw → Keeps Kd.bool w1.heap.size W Ak kept → Calls Try.prog 70 #[.pointer (some ⟨w1.heap.size, 0, none⟩), .slice Ak nk ck] W fun e w' => (∃ v, e = .returned v) ∧ DiskOk w' w1.heap.size w1.heap.size (crashS s2 kept) ∧ DFrame w1.heap.size W w') := ⟨fun vs vn vw W h h2 => by
            have h3 := devCrash_walk _ _ s2 vs vn vw Ak ck kept W h WF2.out.len h2 (by have := WF2.out.wl; omega) HKN.out WF2.out.at_
            rw [← HNK.out] at h3
            exact h3⟩
          obtain ⟨s6, hs6⟩ : ∃ s6, s6 = crashS s2 kept := ⟨_, rfl⟩
          rw [← hs6] at WC2 HS3
          clear hs6
          have WB1 : Aside0 (∀ vs vn vw W, DiskR W w1.heap.size w1.heap.size s1 vs vn vw → Calls Try.prog 78 #[.pointer (some ⟨w1.heap.size, 0, none⟩)] W fun e w' => ∃ v : Value, e = .returned v ∧ Kd.R (Kd.int .u8) 5 w' W.heap.size (fun _ => True) v (flatN X) ∧ Below W.heap.size W w') := ⟨fun vs vn vw W h => by
            have h3 := devBytes_walk _ _ s1 vs vn vw W h (by rw [HS1.out.2.1]; have := HNL.out; omega)
            rw [HS1.out.2.1] at h3
            exact h3⟩
          have WB2 : Aside0 (∀ vs vn vw W, DiskR W w1.heap.size w1.heap.size s2 vs vn vw → Calls Try.prog 78 #[.pointer (some ⟨w1.heap.size, 0, none⟩)] W fun e w' => ∃ v : Value, e = .returned v ∧ Kd.R (Kd.int .u8) 5 w' W.heap.size (fun _ => True) v (flatN X) ∧ Below W.heap.size W w') := ⟨fun vs vn vw W h => by
            have h3 := devBytes_walk _ _ s2 vs vn vw W h (by rw [HS2.out.2.1]; have := HNL.out; omega)
            rw [HS2.out.2.1] at h3
            exact h3⟩
          have WB3 : Aside0 (∀ vs vn vw W, DiskR W w1.heap.size w1.heap.size s6 vs vn vw → Calls Try.prog 78 #[.pointer (some ⟨w1.heap.size, 0, none⟩)] W fun e w' => ∃ v : Value, e = .returned v ∧ Kd.R (Kd.int .u8) 5 w' W.heap.size (fun _ => True) v (flatN X) ∧ Below W.heap.size W w') := ⟨fun vs vn vw W h => by
            have h3 := devBytes_walk _ _ s6 vs vn vw W h (by rw [HS3.out.2.1]; have := HNL.out; omega)
            rw [HS3.out.2.1] at h3
            exact h3⟩
          have WB4 : Aside0 (∀ vs vn vw W, DiskR W w1.heap.size w1.heap.size s6 vs vn vw → Calls Try.prog 77 #[.pointer (some ⟨w1.heap.size, 0, none⟩)] W fun e w' => ∃ v : Value, e = .returned v ∧ Kd.R (Kd.int .u8) 5 w' W.heap.size (fun _ => True) v (flatN X) ∧ Below W.heap.size W w') := ⟨fun vs vn vw W h => by
            have h3 := devSafe_walk _ _ s6 vs vn vw W h (by rw [HS3.out.1]; have := HNL.out; omega)
            rw [HS3.out.1] at h3
            exact h3⟩
          have WWA : Aside0 (∀ vs vn vw W, DiskR W w1.heap.size w1.heap.size s6 vs vn vw → Calls Try.prog 76 #[.pointer (some ⟨w1.heap.size, 0, none⟩)] W fun e w' => ∃ v : Value, e = .returned v ∧ Kd.R (Kd.int .i64) 3 w' W.heap.size (fun _ => True) v [] ∧ Below W.heap.size W w') := ⟨fun vs vn vw W h => by
            have h3 := devWaiting_walk _ _ s6 vs vn vw W h (by rw [HS3.out.2.2.1]; decide)
            rw [HS3.out.2.2.1] at h3
            exact h3⟩
          have hoff := HS3.out.2.2.2
          go_wp2_with (first | (go_at_call 72; go_loud (with_reducible refine (HF.out _ _ _ _ D.out).mono ?_); go_loud (rintro e w5 ⟨rfl, ⟨vw5, hD⟩, hF⟩; have D1 := Aside0.mk hD; have n_ := Aside0.mk (FR.out.trans hF); clear FR; have FR := n_; clear n_; have n_ := Aside0.mk (HKB.out.step hF); clear HKB; have HKB := n_; clear n_; clear hD hF D)) | (go_at_call 70; go_loud (with_reducible refine (WC1.out _ _ _ _ D1.out HKB.out).mono ?_); go_loud (rintro e w6 ⟨⟨v6, rfl⟩, ⟨vs6, vn6, vw6, hD⟩, hF⟩; have D2 := Aside0.mk hD; have n_ := Aside0.mk (FR.out.trans hF); clear FR; have FR := n_; clear n_; have n_ := Aside0.mk (HKB.out.step hF); clear HKB; have HKB := n_; clear n_; (try (have n_ := Aside0.mk (HR1.out.step hF); clear HR1; have HR1 := n_; clear n_)); (try (have n_ := Aside0.mk (HR2.out.step hF); clear HR2; have HR2 := n_; clear n_)); (try (have n_ := Aside0.mk (HR3.out.step hF); clear HR3; have HR3 := n_; clear n_)); (try (have n_ := Aside0.mk (HR4.out.step hF); clear HR4; have HR4 := n_; clear n_)); clear hD hF D1)) | (go_at_call 70; go_loud (with_reducible refine (WC2.out _ _ _ _ D2.out HKB.out).mono ?_); go_loud (rintro e w6 ⟨⟨v6, rfl⟩, ⟨vs6, vn6, vw6, hD⟩, hF⟩; have D6 := Aside0.mk hD; have n_ := Aside0.mk (FR.out.trans hF); clear FR; have FR := n_; clear n_; have n_ := Aside0.mk (HKB.out.step hF); clear HKB; have HKB := n_; clear n_; (try (have n_ := Aside0.mk (HR1.out.step hF); clear HR1; have HR1 := n_; clear n_)); (try (have n_ := Aside0.mk (HR2.out.step hF); clear HR2; have HR2 := n_; clear n_)); (try (have n_ := Aside0.mk (HR3.out.step hF); clear HR3; have HR3 := n_; clear n_)); (try (have n_ := Aside0.mk (HR4.out.step hF); clear HR4; have HR4 := n_; clear n_)); clear hD hF D2)) | (go_at_call 78; go_loud (with_reducible refine (WB1.out _ _ _ _ D1.out).mono ?_); go_loud (rintro e w7 ⟨v7, rfl, ho, hb⟩; obtain ⟨A1, c1, rfl⟩ := Kd.R_slice ho; have hF := DFrame.of_below D1.out.size hb; (try (have n_ := Aside0.mk (HR1.out.step hF); clear HR1; have HR1 := n_; clear n_)); (try (have n_ := Aside0.mk (HR2.out.step hF); clear HR2; have HR2 := n_; clear n_)); (try (have n_ := Aside0.mk (HR3.out.step hF); clear HR3; have HR3 := n_; clear n_)); (try (have n_ := Aside0.mk (HR4.out.step hF); clear HR4; have HR4 := n_; clear n_)); have HR1 := Aside0.mk (Keeps.ofR (base := w1.heap.size) ho (by decide)); have n_ := Aside0.mk (D1.out.below hb); clear D1; have D1 := n_; clear n_; have n_ := Aside0.mk (FR.out.trans hF); clear FR; have FR := n_; clear n_; have n_ := Aside0.mk (HKB.out.step hF); clear HKB; have HKB := n_; clear n_; clear ho hb hF)) | (go_at_call 78; go_loud (with_reducible refine (WB2.out _ _ _ _ D2.out).mono ?_); go_loud (rintro e w7 ⟨v7, rfl, ho, hb⟩; obtain ⟨A2, c2, rfl⟩ := Kd.R_slice ho; have hF := DFrame.of_below D2.out.size hb; (try (have n_ := Aside0.mk (HR1.out.step hF); clear HR1; have HR1 := n_; clear n_)); (try (have n_ := Aside0.mk (HR2.out.step hF); clear HR2; have HR2 := n_; clear n_)); (try (have n_ := Aside0.mk (HR3.out.step hF); clear HR3; have HR3 := n_; clear n_)); (try (have n_ := Aside0.mk (HR4.out.step hF); clear HR4; have HR4 := n_; clear n_)); have HR2 := Aside0.mk (Keeps.ofR (base := w1.heap.size) ho (by decide)); have n_ := Aside0.mk (D2.out.below hb); clear D2; have D2 := n_; clear n_; have n_ := Aside0.mk (FR.out.trans hF); clear FR; have FR := n_; clear n_; have n_ := Aside0.mk (HKB.out.step hF); clear HKB; have HKB := n_; clear n_; clear ho hb hF)) | (go_at_call 78; go_loud (with_reducible refine (WB3.out _ _ _ _ D6.out).mono ?_); go_loud (rintro e w7 ⟨v7, rfl, ho, hb⟩; obtain ⟨A3, c3, rfl⟩ := Kd.R_slice ho; have hF := DFrame.of_below D6.out.size hb; (try (have n_ := Aside0.mk (HR1.out.step hF); clear HR1; have HR1 := n_; clear n_)); (try (have n_ := Aside0.mk (HR2.out.step hF); clear HR2; have HR2 := n_; clear n_)); (try (have n_ := Aside0.mk (HR3.out.step hF); clear HR3; have HR3 := n_; clear n_)); (try (have n_ := Aside0.mk (HR4.out.step hF); clear HR4; have HR4 := n_; clear n_)); have HR3 := Aside0.mk (Keeps.ofR (base := w1.heap.size) ho (by decide)); have n_ := Aside0.mk (D6.out.below hb); clear D6; have D6 := n_; clear n_; have n_ := Aside0.mk (FR.out.trans hF); clear FR; have FR := n_; clear n_; have n_ := Aside0.mk (HKB.out.step hF); clear HKB; have HKB := n_; clear n_; clear ho hb hF)) | (go_at_call 77; go_loud (with_reducible refine (WB4.out _ _ _ _ D6.out).mono ?_); go_loud (rintro e w7 ⟨v7, rfl, ho, hb⟩; obtain ⟨A4, c4, rfl⟩ := Kd.R_slice ho; have hF := DFrame.of_below D6.out.size hb; (try (have n_ := Aside0.mk (HR1.out.step hF); clear HR1; have HR1 := n_; clear n_)); (try (have n_ := Aside0.mk (HR2.out.step hF); clear HR2; have HR2 := n_; clear n_)); (try (have n_ := Aside0.mk (HR3.out.step hF); clear HR3; have HR3 := n_; clear n_)); (try (have n_ := Aside0.mk (HR4.out.step hF); clear HR4; have HR4 := n_; clear n_)); have HR4 := Aside0.mk (Keeps.ofR (base := w1.heap.size) ho (by decide)); have n_ := Aside0.mk (D6.out.below hb); clear D6; have D6 := n_; clear n_; have n_ := Aside0.mk (FR.out.trans hF); clear FR; have FR := n_; clear n_; have n_ := Aside0.mk (HKB.out.step hF); clear HKB; have HKB := n_; clear n_; clear ho hb hF)) | (go_at_call 24; go_loud (with_reducible refine (bEq_refl _ _ _ _ _ _ _ _ HR2.out.now HR1.out.now).mono ?_); go_loud (rintro e w' ⟨rfl, h_⟩; have h_ := h_.symm; subst h_)) | (go_at_call 24; go_loud (with_reducible refine (bEq_refl _ _ _ _ _ _ _ _ HR3.out.now HR4.out.now).mono ?_); go_loud (rintro e w' ⟨rfl, h_⟩; have h_ := h_.symm; subst h_)) | (go_at_call 76; go_loud (with_reducible refine (WWA.out _ _ _ _ D6.out).mono ?_); go_loud (rintro e w9 ⟨v9, rfl, ho, hb⟩; obtain ⟨A9, c9, rfl⟩ := Kd.R_slice ho; have hF := DFrame.of_below D6.out.size hb; have n_ := Aside0.mk (D6.out.below hb); clear D6; have D6 := n_; clear n_; have n_ := Aside0.mk (FR.out.trans hF); clear FR; have FR := n_; clear n_; have n_ := Aside0.mk (HKB.out.step hF); clear HKB; have HKB := n_; clear n_; clear ho hb hF)) | (go_at_call 79; go_loud (with_reducible refine (devOff_walk w1.heap.size w1.heap.size _ _ _ _ _ D6.out).mono ?_); go_loud (rintro e w' ⟨rfl, h_⟩; have h_ := h_.symm; subst h_)) | (go_at_call 80; go_loud ((with_reducible refine (WA.out _).mono ?_); rintro e w10 ⟨rfl, hb⟩; have HZ : Aside0 (Below w.heap.size w w10) := ⟨below_step (HBW.out _ FR.out) hb⟩; clear hb)))
          go_ret
          exact ⟨by rfl, HZ.out⟩
        · have hb0 : (burnE s == 0) = false := by simpa using hbu
          obtain ⟨E, hE⟩ : ∃ E, E = burnE s := ⟨_, rfl⟩
          rw [← hE] at hb0
          have HF : Aside0 (∀ vs vn vw W, DiskR W w1.heap.size w1.heap.size s vs vn vw → Calls Try.prog 72 #[.pointer (some ⟨w1.heap.size, 0, none⟩)] W fun e w' => e = .returned (.int .i64 E) ∧ (∃ vw', DiskR w' w1.heap.size w1.heap.size (burnS s) vs vn vw') ∧ DFrame w1.heap.size W w') := ⟨fun vs vn vw W h => by
            have h2 := devFlush_walk _ _ s vs vn vw W h WFS.out.len WFS.out.l0 WFS.out.l1 WFS.out.f0 (by have := WFS.out.f1; omega)
            rw [flushS_no hbu, ← hE] at h2
            exact h2⟩
          have WF1 : Aside0 (DiskWf (burnS s) 60) := ⟨WFS.out.burn⟩
          obtain ⟨s1, hs1⟩ : ∃ s1, s1 = burnS s := ⟨_, rfl⟩
          rw [← hs1] at HF WF1
          have HS1 : Aside0 ((crashS s1 kept).safe = safeN s1 kept s1.wait.length ∧ (crashS s1 kept).now = safeN s1 kept s1.wait.length ∧ (safeN s1 kept s1.wait.length).length ≤ 40) := ⟨⟨rfl, rfl, by rw [safeN_length, hs1, burnS_safe]; exact HSL.out⟩⟩
          obtain ⟨X, hX⟩ : ∃ X, X = safeN s1 kept s1.wait.length := ⟨_, rfl⟩
          rw [← hX] at HS1
          clear hbu hE hs1 hX
          have WCR : Aside0 (∀ vs vn vw W, DiskR W w1.heap.size w1.heap.size s1 vs vn vw → Keeps Kd.bool w1.heap.size W Ak kept → Calls Try.prog 70 #[.pointer (some ⟨w1.heap.size, 0, none⟩), .slice Ak nk ck] W fun e w' => (∃ v, e = .returned v) ∧ DiskOk w' w1.heap.size w1.heap.size (crashS s1 kept) ∧ DFrame w1.heap.size W w') := ⟨fun vs vn vw W h h2 => by
            have h3 := devCrash_walk _ _ s1 vs vn vw Ak ck kept W h WF1.out.len h2 (by have := WF1.out.wl; omega) HKN.out WF1.out.at_
            rw [← HNK.out] at h3
            exact h3⟩
          obtain ⟨s6, hs6⟩ : ∃ s6, s6 = crashS s1 kept := ⟨_, rfl⟩
          have HS6 : Aside0 (s6.safe = X ∧ s6.now = X ∧ s6.wait = [] ∧ s6.off = false) := ⟨by rw [hs6]; exact ⟨HS1.out.1, HS1.out.2.1, rfl, rfl⟩⟩
          rw [← hs6] at WCR
          clear hs6
          have WBY : Aside0 (∀ vs vn vw W, DiskR W w1.heap.size w1.heap.size s6 vs vn vw → Calls Try.prog 78 #[.pointer (some ⟨w1.heap.size, 0, none⟩)] W fun e w' => ∃ v : Value, e = .returned v ∧ Kd.R (Kd.int .u8) 5 w' W.heap.size (fun _ => True) v (flatN X) ∧ Below W.heap.size W w') := ⟨fun vs vn vw W h => by
            have h3 := devBytes_walk _ _ s6 vs vn vw W h (by rw [HS6.out.2.1]; have := HS1.out.2.2; omega)
            rw [HS6.out.2.1] at h3
            exact h3⟩
          have WSA : Aside0 (∀ vs vn vw W, DiskR W w1.heap.size w1.heap.size s6 vs vn vw → Calls Try.prog 77 #[.pointer (some ⟨w1.heap.size, 0, none⟩)] W fun e w' => ∃ v : Value, e = .returned v ∧ Kd.R (Kd.int .u8) 5 w' W.heap.size (fun _ => True) v (flatN X) ∧ Below W.heap.size W w') := ⟨fun vs vn vw W h => by
            have h3 := devSafe_walk _ _ s6 vs vn vw W h (by rw [HS6.out.1]; have := HS1.out.2.2; omega)
            rw [HS6.out.1] at h3
            exact h3⟩
          have WWA : Aside0 (∀ vs vn vw W, DiskR W w1.heap.size w1.heap.size s6 vs vn vw → Calls Try.prog 76 #[.pointer (some ⟨w1.heap.size, 0, none⟩)] W fun e w' => ∃ v : Value, e = .returned v ∧ Kd.R (Kd.int .i64) 3 w' W.heap.size (fun _ => True) v [] ∧ Below W.heap.size W w') := ⟨fun vs vn vw W h => by
            have h3 := devWaiting_walk _ _ s6 vs vn vw W h (by rw [HS6.out.2.2.1]; decide)
            rw [HS6.out.2.2.1] at h3
            exact h3⟩
          have hoff := HS6.out.2.2.2
          go_wp2_with (first | (go_at_call 72; go_loud (with_reducible refine (HF.out _ _ _ _ D.out).mono ?_); go_loud (rintro e w5 ⟨rfl, ⟨vw5, hD⟩, hF⟩; clear D; have D := Aside0.mk hD; have n_ := Aside0.mk (FR.out.trans hF); clear FR; have FR := n_; clear n_; have n_ := Aside0.mk (HKB.out.step hF); clear HKB; have HKB := n_; clear n_; clear hD hF)) | (go_at_call 70; go_loud (with_reducible refine (WCR.out _ _ _ _ D.out HKB.out).mono ?_); go_loud (rintro e w6 ⟨⟨v6, rfl⟩, ⟨vs6, vn6, vw6, hD⟩, hF⟩; have D6 := Aside0.mk hD; have n_ := Aside0.mk (FR.out.trans hF); clear FR; have FR := n_; clear n_; have n_ := Aside0.mk (HKB.out.step hF); clear HKB; have HKB := n_; clear n_; clear hD hF D)) | (go_at_call 78; go_loud (with_reducible refine (WBY.out _ _ _ _ D6.out).mono ?_); go_loud (rintro e w7 ⟨v7, rfl, ho, hb⟩; obtain ⟨A7, c7, rfl⟩ := Kd.R_slice ho; have HR7 := Aside0.mk (Keeps.ofR (base := w1.heap.size) ho (by decide)); have hF := DFrame.of_below D6.out.size hb; have n_ := Aside0.mk (D6.out.below hb); clear D6; have D6 := n_; clear n_; have n_ := Aside0.mk (FR.out.trans hF); clear FR; have FR := n_; clear n_; have n_ := Aside0.mk (HKB.out.step hF); clear HKB; have HKB := n_; clear n_; clear ho hb hF)) | (go_at_call 77; go_loud (with_reducible refine (WSA.out _ _ _ _ D6.out).mono ?_); go_loud (rintro e w8 ⟨v8, rfl, ho, hb⟩; obtain ⟨A8, c8, rfl⟩ := Kd.R_slice ho; have HR8 := Aside0.mk (Keeps.ofR (base := w1.heap.size) ho (by decide)); have hF := DFrame.of_below D6.out.size hb; have n_ := Aside0.mk (D6.out.below hb); clear D6; have D6 := n_; clear n_; have n_ := Aside0.mk (FR.out.trans hF); clear FR; have FR := n_; clear n_; have n_ := Aside0.mk (HKB.out.step hF); clear HKB; have HKB := n_; clear n_; have n_ := Aside0.mk (HR7.out.step hF); clear HR7; have HR7 := n_; clear n_; clear ho hb hF)) | (go_at_call 24; go_loud (refine (bEq_refl _ _ _ _ _ _ _ _ HR7.out.now HR8.out.now).mono ?_); go_loud (rintro e w' ⟨rfl, h_⟩; have h_ := h_.symm; subst h_)) | (go_at_call 76; go_loud (with_reducible refine (WWA.out _ _ _ _ D6.out).mono ?_); go_loud (rintro e w9 ⟨v9, rfl, ho, hb⟩; obtain ⟨A9, c9, rfl⟩ := Kd.R_slice ho; have hF := DFrame.of_below D6.out.size hb; have n_ := Aside0.mk (D6.out.below hb); clear D6; have D6 := n_; clear n_; have n_ := Aside0.mk (FR.out.trans hF); clear FR; have FR := n_; clear n_; have n_ := Aside0.mk (HKB.out.step hF); clear HKB; have HKB := n_; clear n_; clear ho hb hF)) | (go_at_call 79; go_loud (with_reducible refine (devOff_walk w1.heap.size w1.heap.size _ _ _ _ _ D6.out).mono ?_); go_loud (rintro e w' ⟨rfl, h_⟩; have h_ := h_.symm; subst h_)) | (go_at_call 80; go_loud ((with_reducible refine (WA.out _).mono ?_); rintro e w10 ⟨rfl, hb⟩; have HZ : Aside0 (Below w.heap.size w w10) := ⟨below_step (HBW.out _ FR.out) hb⟩; clear hb)))
          go_ret
          exact ⟨by rfl, HZ.out⟩
end Go.Proofs.Ytdknolnoimpgeaa.K
