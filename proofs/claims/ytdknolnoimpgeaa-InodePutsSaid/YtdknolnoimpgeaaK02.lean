/- The walks of the package sum: wrap, Sums, Of. -/
import Derived.Test.YtdknolnoimpgeaaKBytes
import Derived.Test.YtdknolnoimpgeaaKS02
import Derived.Test.YtdknolnoimpgeaaKF
import Derived.Test.YtdknolnoimpgeaaKArr
namespace Go.Proofs.Ytdknolnoimpgeaa.K
open Go.RowKit Go.Proofs.YtdknolnoimpgeaaW.PrintWords Go.Proofs.YtdknolnoimpgeaaW.PrintLast Go.Proofs.YtdknolnoimpgeaaW.PrintMore
set_option linter.unusedVariables false
set_option linter.unusedSimpArgs false
theorem wrap_walk (n : Nat) (hn : n < 131042) (w : World) : Calls Try.prog 156 #[.float .f64 (fl n)] w fun e w' => e = .returned (.float .f64 (fl (n % 65521))) ∧ w' = w := by
  have hg := fl_geq (a := n) (b := 65521) (by omega) (by decide)
  rw [fl_mod] at hg
  by_cases h : 65521 ≤ n
  · rw [decide_eq_true h] at hg
    obtain ⟨x, hx⟩ : ∃ x, x = fl n := ⟨_, rfl⟩
    obtain ⟨y, hy⟩ : ∃ y, y = fl (n % 65521) := ⟨_, rfl⟩
    have hs : ∀ t w, (binOp .sub t (.float .f64 x) (.float .f64 4679237951253643264)).run Try.prog w = .ok (.float .f64 y) w := fun t w => run_float_arith w .sub t .f64 _ _ _ (by rw [← fl_mod, hx, hy, show n % 65521 = n - 65521 by omega]; exact fl_sub (by omega) h)
    rw [← hy, ← hx]
    rw [← hx] at hg
    clear hx hy
    go_enter Try.func156, Try.ntmps156
    go_wp2
    go_ret
    exact ⟨rfl, rfl⟩
  · rw [decide_eq_false h] at hg
    obtain ⟨x, hx⟩ : ∃ x, x = fl n := ⟨_, rfl⟩
    rw [show n % 65521 = n by omega, ← hx]
    rw [← hx] at hg
    clear hx
    go_enter Try.func156, Try.ntmps156
    go_wp2
    go_ret
    exact ⟨rfl, rfl⟩
set_option maxRecDepth 100000 in
theorem sums_walk (A : Option Addr) (c : Nat) (l : List Int) (w : World) (hr : Kd.C (Kd.int .u8) w A l.length l) (hb : Byts l) (hl : l.length < 140737488355328) :
    Calls Try.prog 149 #[.slice A l.length c] w fun e w' => e = .returned (.complex .f64 (fl (s02 l).1) (fl (s02 l).2)) ∧ w' = w := by
  have HR := Aside0.mk hr
  have HY := Aside0.mk hb
  have HL := Aside0.mk hl
  clear hr hb
  go_enter Try.func149, Try.ntmps149
  go_wp2
  go_loop [3, 9] (fun v3 v9 => ∃ m : Nat, ∃ f1 f2 : Nat, v3 = .complex .f64 f1 f2 ∧ v9 = .int .i64 m ∧ Aside0 (m ≤ l.length) ∧ Aside0 (f1 = fl (s02 (l.take m)).1) ∧ Aside0 (f2 = fl (s02 (l.take m)).2)) (fun _ i => l.length - (intOf i).toNat)
  case atStart => exact ⟨0, _, _, rfl, rfl, ⟨Nat.zero_le _⟩, ⟨fl_one.symm⟩, ⟨fl_zero.symm⟩⟩
  case round =>
    obtain ⟨m, f1, f2, rfl, rfl, hm, hf1, hf2⟩ := hrel
    have hm' := hm.out
    by_cases hlt : m < l.length
    · obtain ⟨ad, rfl, hx⟩ := Kd.at_int HR.out (m : Int) (by omega) (by omega)
      rw [rd_get hlt, Int.toNat_natCast] at hx
      have hbm := HY.out _ (List.getElem_mem hlt)
      have hst := s02_take l hlt
      have hlt1 := s02_lt (l.take m)
      have hlt2 := s02_lt (l.take (m + 1))
      obtain ⟨p, hp⟩ : ∃ p, p = s02 (l.take m) := ⟨_, rfl⟩
      obtain ⟨q, hq⟩ : ∃ q, q = s02 (l.take (m + 1)) := ⟨_, rfl⟩
      have Q1 : Aside0 (s02 (l.take (m + 1)) = q) := ⟨hq.symm⟩
      obtain ⟨k, hk⟩ : ∃ k : Nat, l[m] = (k : Int) := ⟨l[m].toNat, by omega⟩
      rw [hk] at hx hst hbm
      have h1 := hf1.out
      have h2 := hf2.out
      rw [← hp] at h1 h2 hst hlt1
      rw [← hq] at hst hlt2
      have hs1 : q.1 = (p.1 + k) % 65521 := by rw [hst]; simp [s02step]
      have hs2 : q.2 = (p.2 + q.1) % 65521 := by rw [hs1, hst]; simp [s02step]
      obtain ⟨g1, hg1⟩ : ∃ g1, g1 = fl q.1 := ⟨_, rfl⟩
      obtain ⟨g2, hg2⟩ : ∃ g2, g2 = fl q.2 := ⟨_, rfl⟩
      obtain ⟨fk, hfk⟩ : ∃ fk, fk = fl k := ⟨_, rfl⟩
      obtain ⟨a1, ha1⟩ : ∃ a1, a1 = fl (p.1 + k) := ⟨_, rfl⟩
      obtain ⟨a2, ha2⟩ : ∃ a2, a2 = fl (p.2 + q.1) := ⟨_, rfl⟩
      have hfi : floatOfInt .f64 (k : Int) = fk := by rw [hfk]; exact floatOfInt_fl k
      have hadd1 : ∀ t w, (binOp .add t (.float .f64 f1) (.float .f64 fk)).run Try.prog w = .ok (.float .f64 a1) w := fun t w => run_float_arith w .add t .f64 _ _ _ (by rw [h1, hfk, ha1]; exact fl_add (by omega) (by omega))
      have hadd2 : ∀ t w, (binOp .add t (.float .f64 f2) (.float .f64 g1)).run Try.prog w = .ok (.float .f64 a2) w := fun t w => run_float_arith w .add t .f64 _ _ _ (by rw [h2, hg1, ha2]; exact fl_add (by omega) (by omega))
      have W1 := Aside0.mk (fun w => by have h := wrap_walk (p.1 + k) (by omega) w; rw [← ha1, ← hs1, ← hg1] at h; exact h : ∀ w, Calls Try.prog 156 #[.float .f64 a1] w fun e w' => e = .returned (.float .f64 g1) ∧ w' = w)
      have W2 := Aside0.mk (fun w => by have h := wrap_walk (p.2 + q.1) (by omega) w; rw [← ha2, ← hs2, ← hg2] at h; exact h : ∀ w, Calls Try.prog 156 #[.float .f64 a2] w fun e w' => e = .returned (.float .f64 g2) ∧ w' = w)
      have G1 := Aside0.mk hg1
      have G2 := Aside0.mk hg2
      clear hg1 hg2 ha1 ha2 hfk hs1 hs2 h1 h2 hst hlt1 hlt2 hp hq hk hbm hf1 hf2
      go_wp2_with (first | (go_at_call 156; (with_reducible refine (W1.out _).mono ?_); rintro e w' ⟨rfl, rfl⟩) | (go_at_call 156; (with_reducible refine (W2.out _).mono ?_); rintro e w' ⟨rfl, rfl⟩))
      exact ⟨⟨m + 1, _, _, rfl, rfl, ⟨by omega⟩, ⟨by rw [Q1.out]; exact G1.out⟩, ⟨by rw [Q1.out]; exact G2.out⟩⟩, by simp [intOf]; omega⟩
    · have hmn : m = l.length := by omega
      subst hmn
      have E1 : f1 = fl (s02 l).1 := by rw [hf1.out, List.take_length]
      have E2 : f2 = fl (s02 l).2 := by rw [hf2.out, List.take_length]
      clear hf1 hf2
      subst E1 E2
      go_wp2
      go_ret
      exact ⟨rfl, rfl⟩
theorem or_16 {x y : Nat} (hx : x < 65536) (hy : y < 65536) : bits .or .i64 (x : Int) ((y : Int) * 65536) = ((x + 65536 * y : Nat) : Int) := by
  have hc : bits .or .i64 (x : Int) ((y : Int) * 65536) = bits .or .i64 ((y : Int) * 65536) (x : Int) := by simp only [bits, BitVec.or_comm]
  rw [hc, bits_join .i64 63 (by decide) (fun m m0 m1 => by rw [IntKind.wrap_i64]; omega) 16 _ (x : Int) (by omega) (by simp) (by omega) (by omega) (by omega) (by omega)]
  omega
theorem of_walk (A : Option Addr) (c : Nat) (l : List Int) (w : World) (hr : Kd.C (Kd.int .u8) w A l.length l) (hb : Byts l) (hl : l.length < 140737488355328) :
    Calls Try.prog 132 #[.slice A l.length c] w fun e w' => e = .returned (.int .i64 (of02 l)) ∧ w' = w := by
  have W1 := Aside0.mk (sums_walk A c l w hr hb hl)
  have hlt := s02_lt l
  obtain ⟨x, hx⟩ : ∃ x, x = (s02 l).1 := ⟨_, rfl⟩
  obtain ⟨y, hy⟩ : ∃ y, y = (s02 l).2 := ⟨_, rfl⟩
  have hof : of02 l = x + 65536 * y := by rw [hx, hy]; rfl
  rw [hof]
  rw [← hx, ← hy] at hlt W1
  obtain ⟨f1, hf1⟩ : ∃ f1, f1 = fl x := ⟨_, rfl⟩
  obtain ⟨f2, hf2⟩ : ∃ f2, f2 = fl y := ⟨_, rfl⟩
  rw [← hf1, ← hf2] at W1
  have hc1 : ∀ w, (convert 173 3 (.float .f64 f1)).run Try.prog w = .ok (.int .i64 (x : Int)) w := fun w => run_convert_float_int w _ _ .f64 .i64 _ _ (by rw [Try.underlying173]; rfl) Try.underlying3 (by rw [hf1]; exact fl_toInt (by omega))
  have hc2 : ∀ w, (convert 173 3 (.float .f64 f2)).run Try.prog w = .ok (.int .i64 (y : Int)) w := fun w => run_convert_float_int w _ _ .f64 .i64 _ _ (by rw [Try.underlying173]; rfl) Try.underlying3 (by rw [hf2]; exact fl_toInt (by omega))
  clear hx hy hf1 hf2 hof hr hb
  go_enter Try.func132, Try.ntmps132
  go_wp2_with (go_at_call 149; (with_reducible refine W1.out.mono ?_); rintro e w' ⟨rfl, rfl⟩)
  go_ret
  exact ⟨by rw [← or_16 (by omega) (by omega)]; rfl, rfl⟩
end Go.Proofs.Ytdknolnoimpgeaa.K
