/- AttrPuts: what the printed walks of attr and of its reference come to: the same. -/
import Derived.Test.YtdknolnoimpgeaaL09c
import Derived.Test.YtdknolnoimpgeaaKCopy
import Derived.Test.YtdknolnoimpgeaaX09E
import Derived.Laws.Strings
namespace Go.Proofs.Ytdknolnoimpgeaa.K
open Go.RowKit Go.Proofs.YtdknolnoimpgeaaW.PrintWords Go.Proofs.YtdknolnoimpgeaaW.PrintLast Go.Proofs.YtdknolnoimpgeaaW.PrintMore Go.Proofs.Ytdknolnoimpgeaa.X09
set_option linter.unusedVariables false
set_option linter.unusedSimpArgs false
theorem bitHas : ∀ h : Fin 32, ((Int.tmod (wrap64 (Int.tdiv ((h : Nat) : Int) 1)) 2) == 1) = (Go.bits .and .i64 ((h : Nat) : Int) 1 != 0) ∧ ((Int.tmod (wrap64 (Int.tdiv ((h : Nat) : Int) 2)) 2) == 1) = (Go.bits .and .i64 ((h : Nat) : Int) 2 != 0) ∧
    ((Int.tmod (wrap64 (Int.tdiv ((h : Nat) : Int) 4)) 2) == 1) = (Go.bits .and .i64 ((h : Nat) : Int) 4 != 0) ∧ ((Int.tmod (wrap64 (Int.tdiv ((h : Nat) : Int) 8)) 2) == 1) = (Go.bits .and .i64 ((h : Nat) : Int) 8 != 0) := by decide +kernel
theorem count_eq (n t : Int) : craquelureref09_count.f n t = some (decide (0 ≤ n ∧ n ≤ t)) := by
  unfold craquelureref09_count.f
  by_cases h : n ≥ 0
  · rw [if_pos h]; congr 1; simp; omega
  · rw [if_neg h]; congr 1; simp; omega
theorem has_eq (h m : Int) (hm : m ≠ 0) : craquelureref09_has.f h m = some ((Int.tmod (wrap64 (Int.tdiv h m)) 2) == 1) := by
  unfold craquelureref09_has.f; rw [if_neg hm]
theorem size_nil (r : ByteArray) : r.toList = [] ↔ r.size = 0 := by
  rw [ByteArray.toList_eq]
  constructor
  · intro h
    have : r.data.toList.length = 0 := by rw [h]; rfl
    rw [Array.length_toList] at this; exact this
  · intro h
    apply List.eq_nil_of_length_eq_zero
    rw [Array.length_toList]; exact h
theorem rright_eq (k : Nat) (h o : Int) (r : ByteArray) (l i g s : Int) : craquelureref09_Right.f (k + 3) h o r l i g s = some (rightB h o r l i g s) := by
  have hb : ∀ b : Bool, (b = true ↔ RightP h o r l i g s) → rightB h o r l i g s = b := fun b hb => by
    rw [Bool.eq_iff_iff, rightB_iff, hb]
  unfold craquelureref09_Right.f
  simp only [count_eq, Option.bind_some, craquelureref09_Right.j0, craquelureref09_Right.j1, craquelureref09_Right.j2, has_eq _ 1 (by decide), has_eq _ 2 (by decide), has_eq _ 4 (by decide), has_eq _ 8 (by decide)]
  by_cases h1 : 0 ≤ h ∧ h ≤ 31
  case neg => rw [hb false (by simp [RightP, h1])]; simp [h1]
  obtain ⟨q1, q2, q4, q8⟩ := bitHas ⟨h.toNat, by omega⟩
  simp only [Int.toNat_of_nonneg h1.1] at q1 q2 q4 q8
  rw [q1, q2, q4, q8]
  by_cases h2 : 0 ≤ o ∧ o ≤ 255
  case neg => rw [hb false (by simp [RightP, h2])]; simp [h1, h2]
  by_cases h3 : 0 ≤ s ∧ s ≤ 65535
  case neg => rw [hb false (by simp [RightP, h3])]; simp [h1, h2, h3]
  by_cases h4 : 0 ≤ (r.size : Int) ∧ (r.size : Int) ≤ 24
  case neg =>
    have h4' : ¬ r.size ≤ 24 := by omega
    rw [hb false (by simp [RightP, h4'])]; simp only [decide_eq_true h1, decide_eq_true h2, decide_eq_true h3, decide_eq_false h4]; simp
  have h4' : r.size ≤ 24 := by omega
  by_cases h5 : 0 ≤ l ∧ l ≤ 255
  case neg => rw [hb false (by simp [RightP, h5])]; simp only [decide_eq_true h1, decide_eq_true h2, decide_eq_true h3, decide_eq_true h4, decide_eq_false h5]; simp
  by_cases h6 : 0 ≤ i ∧ i ≤ 65535
  case neg => rw [hb false (by simp [RightP, h6])]; simp only [decide_eq_true h1, decide_eq_true h2, decide_eq_true h3, decide_eq_true h4, decide_eq_true h5, decide_eq_false h6]; simp
  by_cases h7 : 0 ≤ g ∧ g ≤ 268435455
  case neg => rw [hb false (by simp [RightP, h7])]; simp only [decide_eq_true h1, decide_eq_true h2, decide_eq_true h3, decide_eq_true h4, decide_eq_true h5, decide_eq_true h6, decide_eq_false h7]; simp
  simp only [decide_eq_true h1, decide_eq_true h2, decide_eq_true h3, decide_eq_true h4, decide_eq_true h5, decide_eq_true h6, decide_eq_true h7]
  have hP : RightP h o r l i g s ↔ (Go.bits .and .i64 h 1 = 0 → o = 0) ∧ (Go.bits .and .i64 h 4 = 0 → l = 0 ∧ i = 0 ∧ g = 0) ∧ (Go.bits .and .i64 h 8 = 0 → s = 0) ∧ (Go.bits .and .i64 h 2 = 0 ↔ r.size = 0) := by
    unfold RightP; rw [size_nil]; simp only [h1, h2, h3, h4', h5, h6, h7, true_and, and_self]
  have hsz : decide ((r.size : Int) > 0) = !decide (r.size = 0) := by
    by_cases hz : r.size = 0
    · simp [hz]
    · have : (r.size : Int) > 0 := by omega
      rw [decide_eq_true this, decide_eq_false hz]; rfl
  rw [hsz]
  by_cases b1 : Go.bits .and .i64 h 1 = 0 <;> by_cases b2 : Go.bits .and .i64 h 2 = 0 <;> by_cases b4 : Go.bits .and .i64 h 4 = 0 <;> by_cases b8 : Go.bits .and .i64 h 8 = 0 <;> by_cases ho : o = 0 <;> by_cases hz : r.size = 0 <;> by_cases hc : (l = 0 ∧ i = 0 ∧ g = 0) <;> by_cases hs : s = 0 <;>
    first
    | (rw [hb true (by rw [hP]; simp [b1, b2, b4, b8, ho, hz, hc, hs])]; simp [b1, b2, b4, b8, ho, hz, hc, hs]; done)
    | (rw [hb false (by rw [hP]; simp [b1, b2, b4, b8, ho, hz, hc, hs])]; simp [b1, b2, b4, b8, ho, hz, hc, hs]; done)
end Go.Proofs.Ytdknolnoimpgeaa.K
