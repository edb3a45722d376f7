/- copy into the middle of a block that is known whole; a row of scalars as a block. -/
import Derived.Test.YtdkbhbolkieeiaaKBlk2
import Derived.Test.YtdkbhbolkieeiaaKArr
namespace Go.Proofs.YtdkbhbolkieeiaaW.PrintWords
open Go.RowKit
set_option linter.unusedVariables false
set_option linter.unusedSimpArgs false
namespace Kd
section
variable {P : Program} {ops : Array Oper} {rest : List Oper} {o : Oper} {a : Act} {Q : Exit → Act → World → Prop} {α : Type}
/-- copy(s, ys), s a slice of a block: the block's cells behind. -/
theorem run_copyBlk {enc : α → Value} {h1 : ∀ x, (enc x).oneCell' = true} (d : α) {W : World} (ty t t' e : TypeId)
    (ht : P.underlying t = some (.slice e)) (hinfo : (P.info? e).map (·.size) = some 1)
    (g off n cap : Nat) (ys : List α) (A : Option Addr) (m c : Nat) (hm0 : 0 < m)
    {cs : Array Value} {te : TypeId} (BK : W.heap[g]? = some (.cells cs te (0, 0))) (hlt : off + n ≤ cs.size) (HR : (scalar enc h1).C W A m ys) :
    ∃ w1 cs', (Builtin.copy_ #[t, t'] ty #[.slice (some ⟨g, off, none⟩) n cap, .slice A m c]).run P W = .ok (goInt ((min m n : Nat) : Int)) w1 ∧ w1.heap[g]? = some (.cells cs' te (0, 0)) ∧ cs'.size = cs.size ∧ cs'.toList = cs.toList.take off ++ (ys.take (min m n)).map enc ++ cs.toList.drop (off + min m n) ∧ W.grownBy w1 (some g) := by
  have hR := reads_of_C (enc := enc) (d := d) (h1 := h1) HR
  have hm : ys.length = m := hR.1
  obtain ⟨ad, hA, hc⟩ := hR.2.2 (by omega)
  have hsrc : ∀ j u, (encs enc (ys.take (min m n)))[j]? = some u → W.cell? (ad.add j) = some u := by
    intro j u hu
    have hj : j < (ys.take (min m n)).length := by
      rcases Nat.lt_or_ge j (ys.take (min m n)).length with h | h
      · exact h
      · rw [List.getElem?_eq_none (by rw [encs_length]; exact h)] at hu
        cases hu
    have hjm : j < min m n := by rw [List.length_take] at hj; omega
    rw [encs_get (d := d) _ j hj] at hu
    rw [hc j (by omega), ← hu]
    simp [List.getD_eq_getElem?_getD, hjm]
  have hkl : (encs enc (ys.take (min m n))).length = min m n := by rw [encs_length, List.length_take]; omega
  have hT := there_of_blk BK (n := n) hlt
  have hr := run_copy_cells (P := P) W t t' ty e g off n cap ad m c (encs enc (ys.take (min m n))) ht hinfo (by rw [hkl]) hsrc
    (fun j hj => (hT j (by omega)).1) (fun j hj => (hT j (by omega)).2) (by intro u hu; simp only [encs, List.mem_map] at hu; obtain ⟨q, _, rfl⟩ := hu; exact h1 q)
  obtain ⟨cur', h3, h4, h5⟩ := setCells_row (encs enc (ys.take (min m n))) off W cs BK (by rw [hkl]; omega)
  rw [hkl] at hr h5
  subst hA
  exact ⟨_, cur', hr, h3, h4, h5, grown_setCells _ _ _ _⟩
end
/-- clear(s), s a slice of a block whose elements have one cell. -/
theorem run_clearBlk {P : Program} {w : World} (ty t e : TypeId) (ht : P.underlying t = some (.slice e)) {z z0 : Value} (hinfo : (P.info? e).map (fun i => i.zero) = some (some z)) (hz : z.cells = #[z0]) (hz1 : z0.oneCell' = true)
    (g o n c : Nat) {cs : Array Value} {te : TypeId} (BK : w.heap[g]? = some (.cells cs te (0, 0))) (hlt : o + n ≤ cs.size) :
    ∃ w1 cs', (Builtin.clear_ #[t] ty #[.slice (some ⟨g, o, none⟩) n c]).run P w = .ok (.tuple #[]) w1 ∧ w1.heap[g]? = some (.cells cs' te (0, 0)) ∧ cs'.size = cs.size ∧ cs'.toList = cs.toList.take o ++ List.replicate n z0 ++ cs.toList.drop (o + n) ∧ w.grownBy w1 (some g) := by
  obtain ⟨i0, hi, hz0⟩ := Option.map_eq_some_iff.1 hinfo
  have hzc : (Builtin.zeroCells z.cells n).toList = List.replicate n z0 := by
    apply List.ext_getElem
    · simp [Builtin.zeroCells, hz]
    · intro i h1 h2
      simp [Builtin.zeroCells, hz, Nat.mod_one]
  have hT := there_of_blk BK (n := n) hlt
  obtain ⟨cs', h2, h3, h4⟩ := setCells_row (List.replicate n z0) o w cs BK (by simpa using hlt)
  rw [List.length_replicate] at h4
  refine ⟨_, cs', ?_, h2, h3, h4, grown_setCells _ _ _ _⟩
  rcases Nat.eq_zero_or_pos n with rfl | hn
  · simp [Builtin.clear_, run_underlying ht, Result.andThen, World.setCells]
  · have hst := run_storeCells_cells (P := P) g o (List.replicate n z0) 0 w (fun j hj => by rw [Nat.add_zero]; exact (hT j (by simpa using hj)).1) (fun j hj => by rw [Nat.add_zero]; exact (hT j (by simpa using hj)).2) (by intro u hu; rw [(List.mem_replicate.1 hu).2]; exact hz1)
    obtain ⟨n', rfl⟩ : ∃ n', n = n' + 1 := ⟨n - 1, by omega⟩
    simp only [Nat.add_zero] at hst
    rw [← hzc] at hst ⊢
    simp [Builtin.clear_, run_underlying ht, zeroValue, typeInfo, hi, hz0, hst, Result.andThen]
/-- An own row of scalars is a block. -/
theorem R_blkS {α : Type} {enc : α → Value} {h1 : ∀ x, (enc x).oneCell' = true} {W : World} {e base : Nat} {ok : Nat → Prop} {v : Value} {xs : List α} (h : (scalar enc h1).R e W base ok v xs) (h0 : 0 < xs.length) :
    ∃ g c cs, v = .slice (some ⟨g, 0, none⟩) xs.length c ∧ base ≤ g ∧ xs.length ≤ c ∧ c ≤ 9223372036854775807 ∧ W.heap[g]? = some (.cells cs e (0, 0)) ∧ cs.size = c ∧ cs.toList.take xs.length = xs.map enc := by
  have hown := own_of_R h
  rcases hown.2 with ⟨_, hx0⟩ | ⟨g, cap, cur, hv, hb, hh, hnc, hcm, hcs, htake⟩
  · omega
  refine ⟨g, cap, cur, hv, hb, hnc, by simpa [maxLen] using hcm, hh, by omega, ?_⟩
  rw [Nat.mul_one] at htake
  exact htake
end Kd
end Go.Proofs.YtdkbhbolkieeiaaW.PrintWords
