/- The calls of chapter 5's laws: do. -/
import Derived.Test.YtdknolnoimpgeaaK05t
namespace Go.Proofs.Ytdknolnoimpgeaa.K
open Go.RowKit Go.Proofs.YtdknolnoimpgeaaW.PrintWords Go.Proofs.YtdknolnoimpgeaaW.PrintLast Go.Proofs.YtdknolnoimpgeaaW.PrintMore
set_option linter.unusedVariables false
set_option linter.unusedSimpArgs false
/-- A disk as it may be behind k calls. -/
structure DiskWf (s : DiskS) (k : Nat) : Prop where
  len : s.now.length = s.safe.length
  l0 : -1 ≤ s.left
  l1 : s.left ≤ 9223372036854775807
  w0 : 0 ≤ s.wr
  w1 : s.wr ≤ k
  f0 : 0 ≤ s.fl
  f1 : s.fl ≤ k
  wl : s.wait.length ≤ k
  at_ : ∀ q ∈ s.wait, 0 ≤ q.at_ ∧ q.at_ < s.safe.length
theorem DiskWf.mono {s : DiskS} {k k' : Nat} (h : DiskWf s k) (hk : k ≤ k') : DiskWf s k' := ⟨h.len, h.l0, h.l1, h.w0, by have := h.w1; omega, h.f0, by have := h.f1; omega, by have := h.wl; omega, h.at_⟩
theorem DiskWf.burn {s : DiskS} {k : Nat} (h : DiskWf s k) : DiskWf (burnS s) k := by
  have h0 := h.l0
  have h1 := h.l1
  unfold burnS
  split
  · exact ⟨h.len, h.l0, h.l1, h.w0, h.w1, h.f0, h.f1, h.wl, h.at_⟩
  · split
    · exact h
    · exact ⟨h.len, by show -1 ≤ max (s.left - 1) (-1); omega, by show max (s.left - 1) (-1) ≤ _; omega, h.w0, h.w1, h.f0, h.f1, h.wl, h.at_⟩
theorem atE_ok {s : DiskS} {i : Int} (h : atE s i = 0) : 0 ≤ i ∧ i < s.safe.length := by
  unfold atE at h
  by_cases hh : 0 ≤ i ∧ i < s.safe.length
  · exact hh
  · rw [if_neg hh] at h; cases h
theorem DiskWf.write {s : DiskS} {k : Nat} (h : DiskWf s k) (i : Int) (b : List Int) : DiskWf (writeS s i b) (k + 1) := by
  unfold writeS
  split
  · exact h.mono (by omega)
  · rename_i hat
    have hi := atE_ok (by simpa using hat)
    split
    · exact h.mono (by omega)
    · split
      · exact h.burn.mono (by omega)
      · have hb := h.burn
        refine ⟨?_, hb.l0, hb.l1, ?_, ?_, hb.f0, by have := hb.f1; show (burnS s).fl ≤ _; omega, ?_, ?_⟩
        · show (s.now.set i.toNat (toSec b)).length = (burnS s).safe.length
          rw [List.length_set, burnS_safe]; exact h.len
        · show 0 ≤ s.wr + 1; have := h.w0; omega
        · show s.wr + 1 ≤ _; have := h.w1; omega
        · show (s.wait ++ [_]).length ≤ _; have := h.wl; simp; omega
        · intro q hq
          show 0 ≤ q.at_ ∧ q.at_ < (burnS s).safe.length
          rw [burnS_safe]
          rcases List.mem_append.1 hq with hq | hq
          · exact h.at_ q hq
          · rw [List.mem_singleton.1 hq]; exact hi
theorem DiskWf.flush {s : DiskS} {k : Nat} (h : DiskWf s k) : DiskWf (flushS s) (k + 1) := by
  unfold flushS
  split
  · exact h.burn.mono (by omega)
  · have hb := h.burn
    refine ⟨?_, hb.l0, hb.l1, hb.w0, by have := hb.w1; show (burnS s).wr ≤ _; omega, ?_, ?_, Nat.zero_le _, fun q hq => by cases hq⟩
    · show (burnS s).now.length = s.now.length
      rw [burnS_now]
    · show 0 ≤ s.fl + 1; have := h.f0; omega
    · show s.fl + 1 ≤ _; have := h.f1; omega
theorem DiskWf.arm {s : DiskS} {k : Nat} (h : DiskWf s k) {n : Int} (hn : n ≤ 9223372036854775807) : DiskWf (armS s n) k :=
  ⟨h.len, by show -1 ≤ max n (-1); omega, by show max n (-1) ≤ _; omega, h.w0, h.w1, h.f0, h.f1, h.wl, h.at_⟩
theorem DiskWf.crash {s : DiskS} {k : Nat} (h : DiskWf s k) (kept : List Bool) : DiskWf (crashS s kept) k :=
  ⟨rfl, by show (-1 : Int) ≤ -1; decide, by show (-1 : Int) ≤ _; decide, h.w0, h.w1, h.f0, h.f1, Nat.zero_le _, fun q hq => by cases hq⟩
/-- A call done. -/
def doS (s : DiskS) (x : Stp) : DiskS := if x.do_ = 1 then writeS s x.at_ x.b.l else if x.do_ = 2 then flushS s else if x.do_ = 3 then armS s x.at_ else if x.do_ = 4 then crashS s x.k.l else s
def doV (s : DiskS) (x : Stp) : List Int := if x.do_ = 1 ∨ x.do_ = 2 ∨ x.do_ = 3 ∨ x.do_ = 4 then [] else readV s x.at_
def doE (s : DiskS) (x : Stp) : Int := if x.do_ = 1 then writeE s x.at_ x.b.l else if x.do_ = 2 then burnE s else if x.do_ = 3 then 0 else if x.do_ = 4 then 0 else readE s x.at_
theorem DiskWf.do_ {s : DiskS} {k : Nat} (h : DiskWf s k) {x : Stp} (hx : x.at_ ≤ 9223372036854775807) : DiskWf (doS s x) (k + 1) := by
  unfold doS
  split
  · exact h.write _ _
  · split
    · exact h.flush
    · split
      · exact (h.arm hx).mono (by omega)
      · split
        · exact (h.crash _).mono (by omega)
        · exact h.mono (by omega)
set_option maxHeartbeats 4000000 in
set_option maxRecDepth 100000 in
theorem do_walk (base p : Nat) (s : DiskS) (vs vn vw : Value) (x : Stp) (w : World) (h : DiskR w base p s vs vn vw) {k : Nat} (hwf : DiskWf s k) (hk : k ≤ 1000000) (hb : Keeps (Kd.int .u8) base w x.b.A x.b.l) (hkb : Keeps Kd.bool base w x.k.A x.k.l) (hkl : x.k.l.length ≤ 9223372036854775807) :
    Calls Try.prog 83 #[.pointer (some ⟨p, 0, none⟩), .agg #[.int .i64 x.do_, .int .i64 x.at_, .slice x.b.A x.b.l.length x.b.c, .slice x.k.A x.k.l.length x.k.c]] w fun e w' => ∃ v : Value, e = .returned (.tuple #[v, .int .i64 (doE s x)]) ∧ Kd.R (Kd.int .u8) 5 w' w.heap.size (fun _ => True) v (doV s x) ∧ DiskOk w' base p (doS s x) ∧ DFrame base w w' := by
  obtain ⟨dd, at_, ⟨Ab, cb, bl⟩, ⟨Ak, ck, kl⟩⟩ := x
  simp only at hb hkb hkl
  have hF0 : DFrame base w (w.alloc (.cells #[.int .i64 dd, .int .i64 at_, .slice Ab bl.length cb, .slice Ak kl.length ck] 93)) := DFrame.of_below h.size (below_alloc (Below.refl _ _) _)
  have hD0 : DiskR (w.alloc (.cells #[.int .i64 dd, .int .i64 at_, .slice Ab bl.length cb, .slice Ak kl.length ck] 93)) base p s vs vn vw := h.below (below_alloc (Below.refl w.heap.size w) _)
  have hl0 := hwf.l0
  have hl1 := hwf.l1
  have F0 := Aside0.mk hF0
  have D0 := Aside0.mk hD0
  have HSZ : Aside0 (w.heap.size ≤ (w.alloc (.cells #[.int .i64 dd, .int .i64 at_, .slice Ab bl.length cb, .slice Ak kl.length ck] 93)).heap.size) := ⟨by simp⟩
  by_cases c1 : dd = 1
  · subst c1
    have EV : Aside0 (doV s ⟨1, at_, ⟨Ab, cb, bl⟩, ⟨Ak, ck, kl⟩⟩ = []) := ⟨by simp [doV]⟩
    have EE : Aside0 (doE s ⟨1, at_, ⟨Ab, cb, bl⟩, ⟨Ak, ck, kl⟩⟩ = writeE s at_ bl) := ⟨by simp [doE]⟩
    have ES : Aside0 (doS s ⟨1, at_, ⟨Ab, cb, bl⟩, ⟨Ak, ck, kl⟩⟩ = writeS s at_ bl) := ⟨by simp [doS]⟩
    have WW := Aside0.mk (devWrite_walk base p s vs vn vw at_ Ab cb bl _ hD0 hwf.len (hb.step hF0) hwf.l0 hwf.l1 (by have := hwf.wl; omega) hwf.w0 (by have := hwf.w1; omega))
    clear h hwf hb hkb hkl hF0 hD0 hl0 hl1
    go_enter Try.func83, Try.ntmps83
    go_wp2_with (go_at_call 71; (with_reducible refine WW.out.mono ?_); rintro e w1 ⟨rfl, hD, hF⟩; have D1 := Aside0.mk hD; have F1 := Aside0.mk hF; clear hD hF)
    go_ret2
    rw [EE.out, EV.out, ES.out]
    obtain ⟨vw', hD⟩ := D1.out
    exact ⟨_, rfl, Kd.R_nil _ _ _ _ _, ⟨_, _, _, hD⟩, F0.out.trans F1.out⟩
  by_cases c2 : dd = 2
  · subst c2
    have EV : Aside0 (doV s ⟨2, at_, ⟨Ab, cb, bl⟩, ⟨Ak, ck, kl⟩⟩ = []) := ⟨by simp [doV]⟩
    have EE : Aside0 (doE s ⟨2, at_, ⟨Ab, cb, bl⟩, ⟨Ak, ck, kl⟩⟩ = burnE s) := ⟨by simp [doE]⟩
    have ES : Aside0 (doS s ⟨2, at_, ⟨Ab, cb, bl⟩, ⟨Ak, ck, kl⟩⟩ = flushS s) := ⟨by simp [doS]⟩
    have WW := Aside0.mk (devFlush_walk base p s vs vn vw _ hD0 hwf.len hwf.l0 hwf.l1 hwf.f0 (by have := hwf.f1; omega))
    clear h hwf hb hkb hkl hF0 hD0 hl0 hl1
    go_enter Try.func83, Try.ntmps83
    go_wp2_with (go_at_call 72; (with_reducible refine WW.out.mono ?_); rintro e w1 ⟨rfl, hD, hF⟩; have D1 := Aside0.mk hD; have F1 := Aside0.mk hF; clear hD hF)
    go_ret2
    rw [EE.out, EV.out, ES.out]
    obtain ⟨vw', hD⟩ := D1.out
    exact ⟨_, rfl, Kd.R_nil _ _ _ _ _, ⟨_, _, _, hD⟩, F0.out.trans F1.out⟩
  by_cases c3 : dd = 3
  · subst c3
    have EV : Aside0 (doV s ⟨3, at_, ⟨Ab, cb, bl⟩, ⟨Ak, ck, kl⟩⟩ = []) := ⟨by simp [doV]⟩
    have EE : Aside0 (doE s ⟨3, at_, ⟨Ab, cb, bl⟩, ⟨Ak, ck, kl⟩⟩ = 0) := ⟨by simp [doE]⟩
    have ES : Aside0 (doS s ⟨3, at_, ⟨Ab, cb, bl⟩, ⟨Ak, ck, kl⟩⟩ = armS s at_) := ⟨by simp [doS]⟩
    have WW := Aside0.mk (devArm_walk base p s vs vn vw at_ _ hD0)
    clear h hwf hb hkb hkl hF0 hD0 hl0 hl1
    go_enter Try.func83, Try.ntmps83
    go_wp2_with (go_at_call 69; (with_reducible refine WW.out.mono ?_); rintro e w1 ⟨⟨v_, rfl⟩, hD, hF⟩; have D1 := Aside0.mk hD; have F1 := Aside0.mk hF; clear hD hF)
    go_ret2
    rw [EE.out, EV.out, ES.out]
    exact ⟨_, rfl, Kd.R_nil _ _ _ _ _, ⟨_, _, _, D1.out⟩, F0.out.trans F1.out⟩
  by_cases c4 : dd = 4
  · subst c4
    have EV : Aside0 (doV s ⟨4, at_, ⟨Ab, cb, bl⟩, ⟨Ak, ck, kl⟩⟩ = []) := ⟨by simp [doV]⟩
    have EE : Aside0 (doE s ⟨4, at_, ⟨Ab, cb, bl⟩, ⟨Ak, ck, kl⟩⟩ = 0) := ⟨by simp [doE]⟩
    have ES : Aside0 (doS s ⟨4, at_, ⟨Ab, cb, bl⟩, ⟨Ak, ck, kl⟩⟩ = crashS s kl) := ⟨by simp [doS]⟩
    have WW := Aside0.mk (devCrash_walk base p s vs vn vw Ak ck kl _ hD0 hwf.len (hkb.step hF0) (by have := hwf.wl; omega) hkl hwf.at_)
    clear h hwf hb hkb hkl hF0 hD0 hl0 hl1
    go_enter Try.func83, Try.ntmps83
    go_wp2_with (go_at_call 70; (with_reducible refine WW.out.mono ?_); rintro e w1 ⟨⟨v_, rfl⟩, hD, hF⟩; have D1 := Aside0.mk hD; have F1 := Aside0.mk hF; clear hD hF)
    go_ret2
    rw [EE.out, EV.out, ES.out]
    exact ⟨_, rfl, Kd.R_nil _ _ _ _ _, D1.out, F0.out.trans F1.out⟩
  have EV : Aside0 (doV s ⟨dd, at_, ⟨Ab, cb, bl⟩, ⟨Ak, ck, kl⟩⟩ = readV s at_) := ⟨by simp [doV, c1, c2, c3, c4]⟩
  have EE : Aside0 (doE s ⟨dd, at_, ⟨Ab, cb, bl⟩, ⟨Ak, ck, kl⟩⟩ = readE s at_) := ⟨by simp [doE, c1, c2, c3, c4]⟩
  have ES : Aside0 (doS s ⟨dd, at_, ⟨Ab, cb, bl⟩, ⟨Ak, ck, kl⟩⟩ = s) := ⟨by simp [doS, c1, c2, c3, c4]⟩
  have WW := Aside0.mk (devRead_walk base p s vs vn vw at_ _ hD0 hwf.len)
  have d1 : (dd == 1) = false := by simpa using c1
  have d2 : (dd == 2) = false := by simpa using c2
  have d3 : (dd == 3) = false := by simpa using c3
  have d4 : (dd == 4) = false := by simpa using c4
  clear h hwf hb hkb hkl hF0 hD0 hl0 hl1 c1 c2 c3 c4
  go_enter Try.func83, Try.ntmps83
  go_wp2_with (go_at_call 68; (with_reducible refine WW.out.mono ?_); rintro e w1 ⟨v1, rfl, ho, hb⟩; have D1 := Aside0.mk (D0.out.below hb); have F1 := Aside0.mk (DFrame.of_below D0.out.size hb); have HO := Aside0.mk (Kd.R_lower ho HSZ.out); clear ho hb)
  go_ret2
  rw [EE.out, EV.out, ES.out]
  exact ⟨_, rfl, HO.out, ⟨_, _, _, D1.out⟩, F0.out.trans F1.out⟩
end Go.Proofs.Ytdknolnoimpgeaa.K
