/- A disk's methods: Read. -/
import Derived.Test.YtdknolnoimpgeaaKDev5
import Derived.Test.YtdknolnoimpgeaaK01
namespace Go.Proofs.Ytdknolnoimpgeaa.K
open Go.RowKit Go.Proofs.YtdknolnoimpgeaaW.PrintWords Go.Proofs.YtdknolnoimpgeaaW.PrintLast Go.Proofs.YtdknolnoimpgeaaW.PrintMore
set_option linter.unusedVariables false
set_option linter.unusedSimpArgs false
set_option maxRecDepth 100000 in
theorem devRead_nil (i : Int) (W : World) : Calls Try.prog 68 #[.pointer none, .int .i64 i] W fun e w' => e = .returned (.tuple #[.slice none 0 0, .int .i64 7]) ∧ w' = W := by
  go_enter Try.func68, Try.ntmps68
  go_wp2_with (go_at_call 121; (with_reducible refine (devAt_nil i _).mono ?_); rintro e w' ⟨rfl, h_⟩; subst h_)
  go_ret2
  exact ⟨rfl, rfl⟩
/-- What Read answers. -/
def readV (s : DiskS) (i : Int) : List Int := if atE s i ≠ 0 then [] else if s.off then [] else (s.now.getD i.toNat (toSec [])).1
def readE (s : DiskS) (i : Int) : Int := if atE s i ≠ 0 then 3 else if s.off then 4 else 0
set_option maxRecDepth 100000 in
theorem devRead_walk (base p : Nat) (s : DiskS) (vs vn vw : Value) (i : Int) (W : World) (h : DiskR W base p s vs vn vw) (hn : s.now.length = s.safe.length) :
    Calls Try.prog 68 #[.pointer (some ⟨p, 0, none⟩), .int .i64 i] W fun e w' => ∃ v : Value, e = .returned (.tuple #[v, .int .i64 (readE s i)]) ∧ Kd.R (Kd.int .u8) 5 w' W.heap.size (fun _ => True) v (readV s i) ∧ Below W.heap.size W w' := by
  have HA := Aside0.mk (devAt_walk base p s vs vn vw i W h)
  by_cases hat : atE s i = 0
  case neg =>
    have E3 : atE s i = 3 := by unfold atE at hat ⊢; split at hat <;> simp_all
    have EV : Aside0 (readV s i = []) := ⟨by unfold readV; rw [if_pos hat]⟩
    have EE : Aside0 (readE s i = 3) := ⟨by unfold readE; rw [if_pos hat]⟩
    rw [E3] at HA
    clear hat h E3
    go_enter Try.func68, Try.ntmps68
    go_wp2_with (go_at_call 121; (with_reducible refine HA.out.mono ?_); rintro e w' ⟨rfl, h_⟩; subst h_)
    go_ret2
    rw [EV.out, EE.out]
    exact ⟨_, rfl, Kd.R_nil _ _ _ _ _, Below.refl _ _⟩
  have b4 : W.cell? ⟨p, 4, none⟩ = some (.bool s.off) := (blk_cell h.blk 4).trans rfl
  have b1 : W.cell? ⟨p, 1, none⟩ = some vn := (blk_cell h.blk 1).trans rfl
  have HE := Aside0.mk hat
  rw [hat] at HA
  cases hof : s.off with
  | true =>
    have EV : Aside0 (readV s i = []) := ⟨by unfold readV; simp [hof]⟩
    have EE : Aside0 (readE s i = 4) := ⟨by unfold readE; simp [hat, hof]⟩
    rw [hof] at b4
    clear hat h hof
    go_enter Try.func68, Try.ntmps68
    go_wp2_with (go_at_call 121; (with_reducible refine HA.out.mono ?_); rintro e w' ⟨rfl, h_⟩; subst h_)
    go_ret2
    rw [EV.out, EE.out]
    exact ⟨_, rfl, Kd.R_nil _ _ _ _ _, Below.refl _ _⟩
  | false =>
    have hi : 0 ≤ i ∧ i < s.safe.length := by unfold atE at hat; by_cases hh : 0 ≤ i ∧ i < s.safe.length <;> simp_all
    obtain ⟨A, c, hv⟩ := Kd.R_slice h.now
    subst hv
    have hC := (Kd.R_reads' h.now).2.2
    obtain ⟨n, hnn⟩ : ∃ n, n = s.now.length := ⟨_, rfl⟩
    rw [← hnn] at hC b1
    obtain ⟨m, hm⟩ : ∃ m : Nat, i = m := ⟨i.toNat, by omega⟩
    subst hm
    have hml : m < s.now.length := by omega
    obtain ⟨ad, rfl, hS⟩ := C_sec hC hml
    have EV : Aside0 (readV s m = s.now[m].1) := ⟨by unfold readV; simp [hat, hof, List.getD_eq_getElem?_getD, hml]⟩
    have EE : Aside0 (readE s m = 0) := ⟨by unfold readE; simp [hat, hof]⟩
    rw [hof] at b4
    have hmn : m < n := by omega
    have HS := Aside0.mk hS
    have hx : s.now[m].1.length = 64 := s.now[m].2
    have WC := Aside0.mk (fun q => numC_walk (some (ad.add (m * 64))) q s.now[m].1 W (by rw [hx]; exact hS))
    rw [hx] at WC
    obtain ⟨x, hxx⟩ : ∃ x, x = s.now[m] := ⟨_, rfl⟩
    rw [← hxx] at EV HS WC
    clear hat h hof hS hC hi hx hxx
    clear hml hnn hn
    go_enter Try.func68, Try.ntmps68
    go_wp2_with (first | (go_at_call 121; (with_reducible refine HA.out.mono ?_); rintro e w' ⟨rfl, h_⟩; subst h_) | (go_at_call 120; (with_reducible refine (WC.out _ (by decide) (by decide)).mono ?_); rintro e w1 ⟨v1, rfl, ho, hb⟩; have HO1 := Aside0.mk ho; have HB1 := Aside0.mk hb; clear ho hb))
    go_ret2
    rw [EV.out, EE.out]
    exact ⟨_, rfl, HO1.out, HB1.out⟩
end Go.Proofs.Ytdknolnoimpgeaa.K
