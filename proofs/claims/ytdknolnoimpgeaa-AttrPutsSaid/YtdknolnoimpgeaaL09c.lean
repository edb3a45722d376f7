/- Attributes: what Drop and Right come to. -/
import Derived.Test.YtdknolnoimpgeaaKBit
import Derived.Test.YtdknolnoimpgeaaX09A
namespace Go.Proofs.Ytdknolnoimpgeaa.K
open Go.RowKit Go.Proofs.YtdknolnoimpgeaaW.PrintWords Go.Proofs.YtdknolnoimpgeaaW.PrintLast Go.Proofs.YtdknolnoimpgeaaW.PrintMore Go.Proofs.Ytdknolnoimpgeaa.X09
set_option linter.unusedVariables false
set_option linter.unusedSimpArgs false
def em : ByteArray := ⟨#[]⟩
def dropS (h o : Int) (r : ByteArray) (l i g s b : Int) : Int × Int × ByteArray × Int × Int × Int × Int :=
  (Go.bits .andNot .i64 h b, if Go.bits .and .i64 b 1 = 0 then o else 0, if Go.bits .and .i64 b 2 = 0 then r else em, if Go.bits .and .i64 b 4 = 0 then l else 0, if Go.bits .and .i64 b 4 = 0 then i else 0, if Go.bits .and .i64 b 4 = 0 then g else 0, if Go.bits .and .i64 b 8 = 0 then s else 0)
theorem drop_eq (k : Nat) (h o : Int) (r : ByteArray) (l i g s b : Int) : attr_Drop.f (k + 2) h o r l i g s b = some (dropS h o r l i g s b) := by
  unfold attr_Drop.f dropS em
  by_cases h1 : Go.bits .and .i64 b 1 = 0 <;> by_cases h2 : Go.bits .and .i64 b 2 = 0 <;> by_cases h4 : Go.bits .and .i64 b 4 = 0 <;> by_cases h8 : Go.bits .and .i64 b 8 = 0 <;> simp only [attr_Drop.j0, attr_Drop.j1, h1, h2, h4, h8, if_true, if_false]
theorem within_eq (n t : Int) : attr_within.f n t = some (decide (0 ≤ n ∧ n ≤ t)) := by
  unfold attr_within.f
  by_cases h : n ≥ 0
  · rw [if_pos h]; congr 1; simp; omega
  · rw [if_neg h]; congr 1; simp; omega
def sameA (x y : Int × Int × ByteArray × Int × Int × Int × Int) : Bool :=
  (x.1 == y.1 && (x.2.1 == y.2.1 && (x.2.2.1.toList == y.2.2.1.toList && ((x.2.2.2.1 == y.2.2.2.1 && (x.2.2.2.2.1 == y.2.2.2.2.1 && (x.2.2.2.2.2.1 == y.2.2.2.2.2.1))) && (x.2.2.2.2.2.2 == y.2.2.2.2.2.2)))))
theorem sameA_refl (x) : sameA x x = true := by simp [sameA]
/-- Right, as one truth value. -/
def rightB (h o : Int) (r : ByteArray) (l i g s : Int) : Bool :=
  decide (0 ≤ h ∧ h ≤ 31) && (decide (0 ≤ o ∧ o ≤ 255) && (decide (0 ≤ s ∧ s ≤ 65535) && (decide (r.size ≤ 24) && (decide (0 ≤ l ∧ l ≤ 255) && (decide (0 ≤ i ∧ i ≤ 65535) && (decide (0 ≤ g ∧ g ≤ 268435455) && (sameA (dropS h o r l i g s (Go.bits .andNot .i64 31 h)) (h, o, r, l, i, g, s) && ((Go.bits .and .i64 h 2 != 0) == (r.toList != [])))))))))
theorem right_eq (k : Nat) (h o : Int) (r : ByteArray) (l i g s : Int) : attr_Right.f (k + 3) h o r l i g s = some (rightB h o r l i g s) := by
  unfold attr_Right.f rightB
  simp only [within_eq, Option.bind_some, attr_Right.j0, drop_eq]
  by_cases h1 : 0 ≤ h ∧ h ≤ 31
  case neg => simp [h1]
  by_cases h2 : 0 ≤ o ∧ o ≤ 255
  case neg => simp [h1, h2]
  by_cases h3 : 0 ≤ s ∧ s ≤ 65535
  case neg => simp [h1, h2, h3]
  by_cases h4 : r.size ≤ 24
  case neg =>
    have h4' : (24 : Int) < r.size := by omega
    simp [h1, h2, h3, h4, h4']
  have h4' : ¬ (24 : Int) < r.size := by omega
  by_cases h5 : 0 ≤ l ∧ l ≤ 255
  case neg => simp [h1, h2, h3, h4, h4', h5]
  by_cases h6 : 0 ≤ i ∧ i ≤ 65535
  case neg => simp [h1, h2, h3, h4, h4', h5, h6]
  by_cases h7 : 0 ≤ g ∧ g ≤ 268435455
  case neg => simp [h1, h2, h3, h4, h4', h5, h6, h7]
  obtain ⟨t, ht⟩ : ∃ t, t = dropS h o r l i g s (Go.bits .andNot .i64 31 h) := ⟨_, rfl⟩
  rw [← ht]
  have hs : (t.1 == h && (t.2.1 == o && (t.2.2.1.toList == r.toList && ((t.2.2.2.1 == l && (t.2.2.2.2.1 == i && (t.2.2.2.2.2.1 == g))) && (t.2.2.2.2.2.2 == s))))) = sameA t (h, o, r, l, i, g, s) := rfl
  have h4d : decide ((r.size : Int) > 24) = false := by simp; omega
  rw [hs, decide_eq_true h1, decide_eq_true h2, decide_eq_true h3, decide_eq_true h4, decide_eq_true h5, decide_eq_true h6, decide_eq_true h7, h4d]
  cases sameA t (h, o, r, l, i, g, s) <;> simp
/-- Right, as what it says. -/
def RightP (h o : Int) (r : ByteArray) (l i g s : Int) : Prop :=
  (0 ≤ h ∧ h ≤ 31) ∧ (0 ≤ o ∧ o ≤ 255) ∧ (0 ≤ s ∧ s ≤ 65535) ∧ r.size ≤ 24 ∧ (0 ≤ l ∧ l ≤ 255) ∧ (0 ≤ i ∧ i ≤ 65535) ∧ (0 ≤ g ∧ g ≤ 268435455) ∧
  (Go.bits .and .i64 h 1 = 0 → o = 0) ∧ (Go.bits .and .i64 h 4 = 0 → l = 0 ∧ i = 0 ∧ g = 0) ∧ (Go.bits .and .i64 h 8 = 0 → s = 0) ∧ (Go.bits .and .i64 h 2 = 0 ↔ r.toList = [])
theorem em_list : em.toList = [] := by decide +kernel
theorem rightB_iff (h o : Int) (r : ByteArray) (l i g s : Int) : rightB h o r l i g s = true ↔ RightP h o r l i g s := by
  unfold rightB RightP
  simp only [Bool.and_eq_true, decide_eq_true_eq]
  constructor
  · rintro ⟨h1, h2, h3, h4, h5, h6, h7, h8, h9⟩
    obtain ⟨q0, q1, q2, q4, q8⟩ := bit32 ⟨h.toNat, by omega⟩
    simp only [Int.toNat_of_nonneg h1.1] at q0 q1 q2 q4 q8
    unfold sameA dropS at h8
    simp only [Bool.and_eq_true, beq_iff_eq, q0, q1, q2, q4, q8] at h8
    obtain ⟨_, e1, e2, ⟨e3, e4, e5⟩, e6⟩ := h8
    refine ⟨h1, h2, h3, h4, h5, h6, h7, fun x => ?_, fun x => ?_, fun x => ?_, ?_⟩
    · rw [if_neg (by simpa using x)] at e1; exact e1.symm
    · rw [if_neg (by simpa using x)] at e3 e4 e5; exact ⟨e3.symm, e4.symm, e5.symm⟩
    · rw [if_neg (by simpa using x)] at e6; exact e6.symm
    · have h10 := Bool.eq_iff_iff.1 (beq_iff_eq.1 h9)
      rw [bne_iff_ne, bne_iff_ne] at h10
      constructor
      · intro x; apply Classical.byContradiction; intro y; exact h10.2 y x
      · intro x; apply Classical.byContradiction; intro y; exact h10.1 y x
  · rintro ⟨h1, h2, h3, h4, h5, h6, h7, c1, c4, c8, c2⟩
    obtain ⟨q0, q1, q2, q4, q8⟩ := bit32 ⟨h.toNat, by omega⟩
    simp only [Int.toNat_of_nonneg h1.1] at q0 q1 q2 q4 q8
    refine ⟨h1, h2, h3, h4, h5, h6, h7, ?_, ?_⟩
    · unfold sameA dropS
      simp only [Bool.and_eq_true, beq_iff_eq, q0, q1, q2, q4, q8]
      refine ⟨trivial, ?_, ?_, ⟨?_, ?_, ?_⟩, ?_⟩
      · split
        · rfl
        · rename_i x; exact (c1 (by simpa using x)).symm
      · split
        · rfl
        · rename_i x; rw [em_list]; exact (c2.1 (by simpa using x)).symm
      · split
        · rfl
        · rename_i x; exact (c4 (by simpa using x)).1.symm
      · split
        · rfl
        · rename_i x; exact (c4 (by simpa using x)).2.1.symm
      · split
        · rfl
        · rename_i x; exact (c4 (by simpa using x)).2.2.symm
      · split
        · rfl
        · rename_i x; exact (c8 (by simpa using x)).symm
    · apply beq_iff_eq.2
      rw [Bool.eq_iff_iff, bne_iff_ne, bne_iff_ne]
      exact not_congr c2
theorem right_drop {h o : Int} {r : ByteArray} {l i g s b : Int} (hR : RightP h o r l i g s) (hb0 : 0 ≤ b) (hb1 : b < 256) :
    RightP (dropS h o r l i g s b).1 (dropS h o r l i g s b).2.1 (dropS h o r l i g s b).2.2.1 (dropS h o r l i g s b).2.2.2.1 (dropS h o r l i g s b).2.2.2.2.1 (dropS h o r l i g s b).2.2.2.2.2.1 (dropS h o r l i g s b).2.2.2.2.2.2 := by
  obtain ⟨h1, h2, h3, h4, h5, h6, h7, c1, c4, c8, c2⟩ := hR
  obtain ⟨p0, p1, p2, p3, p4, p5⟩ := bitPair ⟨h.toNat, by omega⟩ ⟨b.toNat, by omega⟩
  simp only [Int.toNat_of_nonneg h1.1, Int.toNat_of_nonneg hb0] at p0 p1 p2 p3 p4 p5
  unfold dropS RightP
  simp only [p2, p3, p4, p5]
  have hem : em.size = 0 := by decide
  refine ⟨p0, ?_, ?_, ?_, ?_, ?_, ?_, ?_, ?_, ?_, ?_⟩
  · split <;> omega
  · split <;> omega
  · split
    · exact h4
    · rw [hem]; omega
  · split <;> omega
  · split <;> omega
  · split <;> omega
  · intro x; split
    · rename_i y; rcases x with x | x
      · exact absurd y x
      · exact c1 x
    · rfl
  · intro x; split
    · rename_i y; rcases x with x | x
      · exact absurd y x
      · exact c4 x
    · exact ⟨rfl, rfl, rfl⟩
  · intro x; split
    · rename_i y; rcases x with x | x
      · exact absurd y x
      · exact c8 x
    · rfl
  · split
    · rename_i y; rw [← c2]; constructor
      · rintro (x | x)
        · exact absurd y x
        · exact x
      · exact fun x => .inr x
    · rename_i y; rw [em_list]; exact ⟨fun _ => rfl, fun _ => .inl y⟩
theorem drop_twice {h o : Int} {r : ByteArray} {l i g s b : Int} (h0 : 0 ≤ h) (h1 : h ≤ 31) (hb0 : 0 ≤ b) (hb1 : b < 256) :
    dropS (dropS h o r l i g s b).1 (dropS h o r l i g s b).2.1 (dropS h o r l i g s b).2.2.1 (dropS h o r l i g s b).2.2.2.1 (dropS h o r l i g s b).2.2.2.2.1 (dropS h o r l i g s b).2.2.2.2.2.1 (dropS h o r l i g s b).2.2.2.2.2.2 b = dropS h o r l i g s b := by
  obtain ⟨p0, p1, _⟩ := bitPair ⟨h.toNat, by omega⟩ ⟨b.toNat, by omega⟩
  simp only [Int.toNat_of_nonneg h0, Int.toNat_of_nonneg hb0] at p1
  unfold dropS
  by_cases q1 : Go.bits .and .i64 b 1 = 0 <;> by_cases q2 : Go.bits .and .i64 b 2 = 0 <;> by_cases q4 : Go.bits .and .i64 b 4 = 0 <;> by_cases q8 : Go.bits .and .i64 b 8 = 0 <;> simp only [q1, q2, q4, q8, p1, if_true, if_false]
end Go.Proofs.Ytdknolnoimpgeaa.K
