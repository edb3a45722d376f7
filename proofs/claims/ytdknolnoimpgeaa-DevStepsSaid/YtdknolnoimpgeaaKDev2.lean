/- A disk's methods: at, Arm. -/
import Derived.Test.YtdknolnoimpgeaaKDev
namespace Go.Proofs.Ytdknolnoimpgeaa.K
open Go.RowKit Go.Proofs.YtdknolnoimpgeaaW.PrintWords Go.Proofs.YtdknolnoimpgeaaW.PrintLast Go.Proofs.YtdknolnoimpgeaaW.PrintMore
set_option linter.unusedVariables false
set_option linter.unusedSimpArgs false
def atE (s : DiskS) (i : Int) : Int := if 0 ≤ i ∧ i < s.safe.length then 0 else 3
def armS (s : DiskS) (n : Int) : DiskS := { s with left := max n (-1) }
set_option maxRecDepth 100000 in
theorem devAt_nil (i : Int) (W : World) : Calls Try.prog 121 #[.pointer none, .int .i64 i] W fun e w' => e = .returned (.int .i64 7) ∧ w' = W := by
  go_enter Try.func121, Try.ntmps121
  go_wp2
  go_ret
  exact ⟨rfl, rfl⟩
set_option maxRecDepth 100000 in
theorem devAt_walk (base p : Nat) (s : DiskS) (vs vn vw : Value) (i : Int) (W : World) (h : DiskR W base p s vs vn vw) :
    Calls Try.prog 121 #[.pointer (some ⟨p, 0, none⟩), .int .i64 i] W fun e w' => e = .returned (.int .i64 (atE s i)) ∧ w' = W := by
  obtain ⟨A, c, hvs⟩ := Kd.R_slice h.safe
  have b0 : W.cell? ⟨p, 0, none⟩ = some vs := (blk_cell h.blk 0).trans rfl
  subst hvs
  obtain ⟨n, hn⟩ : ∃ n, n = s.safe.length := ⟨_, rfl⟩
  have EA : Aside0 (atE s i = if 0 ≤ i ∧ i < n then 0 else 3) := ⟨by rw [hn]; rfl⟩
  rw [← hn] at b0
  clear h hn
  by_cases h0 : 0 ≤ i
  · by_cases h1 : i < n
    · have E0 : Aside0 (atE s i = 0) := ⟨by rw [EA.out, if_pos ⟨h0, h1⟩]⟩
      have h0' : ¬ i < 0 := by omega
      have h1' : ¬ (n : Int) ≤ i := by omega
      go_enter Try.func121, Try.ntmps121
      go_wp2
      go_ret
      exact ⟨by rw [E0.out]; rfl, rfl⟩
    · have E0 : Aside0 (atE s i = 3) := ⟨by rw [EA.out, if_neg (by omega)]⟩
      have h0' : ¬ i < 0 := by omega
      have h1' : (n : Int) ≤ i := by omega
      clear h1
      go_enter Try.func121, Try.ntmps121
      go_wp2
      go_ret
      exact ⟨by rw [E0.out]; rfl, rfl⟩
  · have E0 : Aside0 (atE s i = 3) := ⟨by rw [EA.out, if_neg (by omega)]⟩
    have h0' : i < 0 := by omega
    clear h0
    go_enter Try.func121, Try.ntmps121
    go_wp2
    go_ret
    exact ⟨by rw [E0.out]; rfl, rfl⟩
set_option maxRecDepth 100000 in
theorem devArm_nil (n : Int) (W : World) : Calls Try.prog 69 #[.pointer none, .int .i64 n] W fun e w' => (∃ v, e = .returned v) ∧ w' = W := by
  go_enter Try.func69, Try.ntmps69
  go_wp2
  refine ⟨rfl, _, results_none rfl _ _ _, ⟨_, rfl⟩, rfl⟩
set_option maxRecDepth 100000 in
theorem devArm_walk (base p : Nat) (s : DiskS) (vs vn vw : Value) (n : Int) (W : World) (h : DiskR W base p s vs vn vw) :
    Calls Try.prog 69 #[.pointer (some ⟨p, 0, none⟩), .int .i64 n] W fun e w' => (∃ v, e = .returned v) ∧ DiskR w' base p (armS s n) vs vn vw ∧ DFrame base W w' := by
  have HD := Aside0.mk h
  have b3 : W.cell? ⟨p, 3, none⟩ = some (.int .i64 s.left) := (blk_cell h.blk 3).trans rfl
  have z3 := blk_frozen h.blk 3
  clear h
  have FR : Aside0 (∀ u, DFrame base W (W.setCell ⟨p, 3, none⟩ u)) := ⟨fun u => DFrame.set HD.out.hp HD.out.blk (by decide) u⟩
  have FD : Aside0 (DiskR (W.setCell ⟨p, 3, none⟩ (.int .i64 (max n (-1)))) base p (armS s n) vs vn vw) := ⟨HD.out.set 3 _ rfl rfl rfl rfl⟩
  rcases (by omega : n < -1 ∨ n = -1 ∨ -1 < n) with hn | rfl | hn
  · rw [show max n (-1) = -1 by omega] at FD
    go_enter Try.func69, Try.ntmps69
    go_wp2
    refine ⟨rfl, _, results_none rfl _ _ _, ⟨_, rfl⟩, FD.out, FR.out _⟩
  · rw [show max (-1 : Int) (-1) = -1 by omega] at FD
    go_enter Try.func69, Try.ntmps69
    go_wp2
    refine ⟨rfl, _, results_none rfl _ _ _, ⟨_, rfl⟩, FD.out, FR.out _⟩
  · rw [show max n (-1) = n by omega] at FD
    have hn2 : ¬ n < -1 := by omega
    have hn3 : ¬ n ≤ -1 := by omega
    go_enter Try.func69, Try.ntmps69
    go_wp2
    refine ⟨rfl, _, results_none rfl _ _ _, ⟨_, rfl⟩, FD.out, FR.out _⟩
end Go.Proofs.Ytdknolnoimpgeaa.K
