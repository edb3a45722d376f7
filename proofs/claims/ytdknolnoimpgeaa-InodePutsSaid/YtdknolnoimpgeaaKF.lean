/- Whole numbers as floats: exact below 2^52. Plain. -/
import Derived.Laws.FloatArith
import Derived.Laws.ComplexArith
namespace Go.Proofs.Ytdknolnoimpgeaa.K
open Ieee
/-- The float of a whole number. -/
def fl (n : Nat) : Nat := double.nearest false n 0
theorem floatOfInt_fl (n : Nat) : floatOfInt .f64 (n : Int) = fl n := by
  have h : ¬ ((n : Int) < 0) := by omega
  simp only [floatOfInt, FloatKind.nearest, FloatKind.encode, Format.write, h, decide_false, Int.natAbs_natCast, fl]
  rfl
/-- d is the whole number n, exactly, with b binary digits behind the point. -/
def IsN (d : Datum) (n : Nat) : Prop := ∃ b : Nat, d = .number false (n * 2 ^ b) (-(b : Int))
theorem cut_zero (way : Toward) (n : Nat) : way.cut false n 0 = n := by
  cases way <;> simp [Toward.cut, Nat.mod_one]
theorem cut_exact (way : Toward) (n d : Nat) (hn : n ≠ 0 ∨ d = 0 ∨ True) : way.cut false (n * 2 ^ d) d = n := by
  by_cases h0 : n = 0
  · subst h0
    cases way <;> simp [Toward.cut]
  · have hl : min d ((n * 2 ^ d).log2 + 2) = d := by
      have : d ≤ (n * 2 ^ d).log2 := (Nat.le_log2 (Nat.mul_ne_zero h0 (Nat.ne_of_gt (Nat.two_pow_pos d)))).2 (Nat.le_mul_of_pos_left _ (by omega))
      omega
    have h1 : n * 2 ^ d / 1 <<< d = n := by rw [Nat.one_shiftLeft]; exact Nat.mul_div_cancel _ (Nat.two_pow_pos d)
    have h2 : n * 2 ^ d % 1 <<< d = 0 := by rw [Nat.one_shiftLeft]; exact Nat.mul_mod_left _ _
    have hp : 1 <<< d ≠ 0 := by rw [Nat.one_shiftLeft]; exact Nat.ne_of_gt (Nat.two_pow_pos d)
    unfold Toward.cut
    simp only [hl, h1, h2]
    cases way <;> simp [hp]
theorem log2_mul_pow {n : Nat} (h : n ≠ 0) (b : Nat) : (n * 2 ^ b).log2 = n.log2 + b := by
  have h1 := Nat.log2_self_le h
  have h2 : n < 2 ^ (n.log2 + 1) := Nat.lt_log2_self
  have hne : n * 2 ^ b ≠ 0 := Nat.mul_ne_zero h (Nat.ne_of_gt (Nat.two_pow_pos b))
  apply Nat.le_antisymm
  · apply Nat.le_of_lt_succ
    rw [Nat.log2_lt hne]
    rw [Nat.succ_eq_add_one, show n.log2 + b + 1 = n.log2 + 1 + b by omega, Nat.pow_add]
    exact Nat.mul_lt_mul_of_pos_right h2 (Nat.two_pow_pos b)
  · rw [Nat.le_log2 hne, Nat.pow_add]
    exact Nat.mul_le_mul_right _ h1
/-- The word of an exact number does not hang on its digits behind the point. -/
theorem nearest_exact {n : Nat} (h : n < 2 ^ 52) (b : Nat) : double.nearest false (n * 2 ^ b) (-(b : Int)) = if n = 0 then 0 else (n.log2 + 1022) * 2 ^ 52 + n * 2 ^ (52 - n.log2) := by
  by_cases h0 : n = 0
  · subst h0
    simp [Format.nearest, Format.word]
  · have hne : n * 2 ^ b ≠ 0 := Nat.mul_ne_zero h0 (Nat.ne_of_gt (Nat.two_pow_pos b))
    have hk : n.log2 < 52 := (Nat.log2_lt h0).2 h
    rw [if_neg h0]
    unfold Format.nearest
    rw [if_neg hne, log2_mul_pow h0 b]
    have hlast : max (-(b : Int) + ((n.log2 + b : Nat) : Int) - (double.fractionBits : Nat)) double.leastPlace = (n.log2 : Int) - 52 := by
      have : double.leastPlace = -1074 := by decide
      rw [this, show double.fractionBits = 52 from rfl]
      omega
    dsimp only
    rw [hlast]
    have hkept : Toward.even.cut false ((n * 2 ^ b) <<< (-(b : Int) - ((n.log2 : Int) - 52)).toNat) (((n.log2 : Int) - 52) - -(b : Int)).toNat = n * 2 ^ (52 - n.log2) := by
      by_cases hb : b ≤ 52 - n.log2
      · rw [show (-(b : Int) - ((n.log2 : Int) - 52)).toNat = 52 - n.log2 - b by omega, show (((n.log2 : Int) - 52) - -(b : Int)).toNat = 0 by omega, cut_zero, Nat.shiftLeft_eq, Nat.mul_assoc, ← Nat.pow_add, show b + (52 - n.log2 - b) = 52 - n.log2 by omega]
      · rw [show (-(b : Int) - ((n.log2 : Int) - 52)).toNat = 0 by omega, show (((n.log2 : Int) - 52) - -(b : Int)).toNat = b - (52 - n.log2) by omega, Nat.shiftLeft_zero,
          show n * 2 ^ b = (n * 2 ^ (52 - n.log2)) * 2 ^ (b - (52 - n.log2)) by rw [Nat.mul_assoc, ← Nat.pow_add, show 52 - n.log2 + (b - (52 - n.log2)) = b by omega]]
        exact cut_exact _ _ _ (.inr (.inr trivial))
    rw [hkept]
    have hlp : double.leastPlace = -1074 := by decide
    have hbin : double.binade = 2 ^ 52 := by decide
    have hinf : double.infRung = 2047 * 2 ^ 52 := by decide
    rw [hlp, hbin, hinf, show ((n.log2 : Int) - 52 - -1074).toNat = n.log2 + 1022 by omega]
    have hup : n * 2 ^ (52 - n.log2) < 2 ^ 53 := by
      have h2 : n < 2 ^ (n.log2 + 1) := Nat.lt_log2_self
      have := Nat.mul_lt_mul_of_pos_right h2 (Nat.two_pow_pos (52 - n.log2))
      rwa [← Nat.pow_add, show n.log2 + 1 + (52 - n.log2) = 53 by omega] at this
    simp only [Format.word, Bool.false_eq_true, if_false]
    exact Nat.min_eq_left (by omega)
theorem write_isN {d : Datum} {n : Nat} (h : n < 2 ^ 52) (hd : IsN d n) : double.write d = fl n := by
  obtain ⟨b, rfl⟩ := hd
  have h0 := nearest_exact h 0
  simp only [Nat.pow_zero, Nat.mul_one] at h0
  show double.nearest false (n * 2 ^ b) (-(b : Int)) = double.nearest false n 0
  rw [nearest_exact h b]
  exact h0.symm
theorem read_fl {n : Nat} (h : n < 2 ^ 52) : IsN (double.read (fl n)) n := by
  have h0 := nearest_exact h 0
  simp only [Nat.pow_zero, Nat.mul_one] at h0
  unfold fl
  rw [show (0 : Int) = -((0 : Nat) : Int) from rfl, h0]
  by_cases hn : n = 0
  · subst hn
    rw [if_pos rfl]
    refine ⟨1074, ?_⟩
    generalize (2 : Nat) ^ 1074 = z
    rw [Nat.zero_mul]; decide
  · rw [if_neg hn]
    have hk : n.log2 < 52 := (Nat.log2_lt hn).2 h
    have hlo : 2 ^ 52 ≤ n * 2 ^ (52 - n.log2) := by
      have := Nat.mul_le_mul_right (2 ^ (52 - n.log2)) (Nat.log2_self_le hn)
      rwa [← Nat.pow_add, show n.log2 + (52 - n.log2) = 52 by omega] at this
    have hup : n * 2 ^ (52 - n.log2) < 2 ^ 53 := by
      have h2 : n < 2 ^ (n.log2 + 1) := Nat.lt_log2_self
      have := Nat.mul_lt_mul_of_pos_right h2 (Nat.two_pow_pos (52 - n.log2))
      rwa [← Nat.pow_add, show n.log2 + 1 + (52 - n.log2) = 53 by omega] at this
    refine ⟨52 - n.log2, ?_⟩
    generalize hm : n * 2 ^ (52 - n.log2) = m at *
    unfold Format.read
    have hlp : double.leastPlace = -1074 := by decide
    have hbin : double.binade = 2 ^ 52 := by decide
    have hinf : double.infRung = 2047 * 2 ^ 52 := by decide
    have hsw : double.signWeight = 2 ^ 63 := by decide
    rw [hlp, hbin, hinf, hsw]
    have e1 : ((n.log2 + 1022) * 2 ^ 52 + m) / 2 ^ 63 % 2 = 0 := by omega
    have e2 : ((n.log2 + 1022) * 2 ^ 52 + m) % 2 ^ 63 = (n.log2 + 1022) * 2 ^ 52 + m := by omega
    dsimp only
    rw [e1, e2, if_neg (by omega), if_pos (by omega)]
    congr 1 <;> omega
theorem isN_sum {d e : Datum} {a b : Nat} (hd : IsN d a) (he : IsN e b) : ∃ r, d.sum e = some r ∧ IsN r (a + b) := by
  obtain ⟨i, rfl⟩ := hd
  obtain ⟨j, rfl⟩ := he
  refine ⟨_, rfl, max i j, ?_⟩
  have hb : min (-(i : Int)) (-(j : Int)) = -((max i j : Nat) : Int) := by omega
  have h1 : signed false (a * 2 ^ i) (-(i : Int) - -((max i j : Nat) : Int)).toNat = ((a * 2 ^ max i j : Nat) : Int) := by
    simp only [signed, Bool.false_eq_true, if_false]
    rw [Nat.shiftLeft_eq, Nat.mul_assoc, ← Nat.pow_add, show i + (-(i : Int) - -((max i j : Nat) : Int)).toNat = max i j by omega]
  have h2 : signed false (b * 2 ^ j) (-(j : Int) - -((max i j : Nat) : Int)).toNat = ((b * 2 ^ max i j : Nat) : Int) := by
    simp only [signed, Bool.false_eq_true, if_false]
    rw [Nat.shiftLeft_eq, Nat.mul_assoc, ← Nat.pow_add, show j + (-(j : Int) - -((max i j : Nat) : Int)).toNat = max i j by omega]
  rw [hb, h1, h2, ← Int.natCast_add, ← Nat.add_mul]
  congr 1
  · by_cases hz : ((((a + b) * 2 ^ max i j : Nat) : Int)) = 0
    · simp only [hz, if_true, Bool.and_self]
    · rw [if_neg hz]; exact decide_eq_false (by omega)
theorem isN_diff {d e : Datum} {a b : Nat} (hd : IsN d a) (he : IsN e b) (hle : b ≤ a) : ∃ r, d.sum e.opposite = some r ∧ IsN r (a - b) := by
  obtain ⟨i, rfl⟩ := hd
  obtain ⟨j, rfl⟩ := he
  refine ⟨_, rfl, max i j, ?_⟩
  have hb : min (-(i : Int)) (-(j : Int)) = -((max i j : Nat) : Int) := by omega
  have h1 : signed false (a * 2 ^ i) (-(i : Int) - -((max i j : Nat) : Int)).toNat = ((a * 2 ^ max i j : Nat) : Int) := by
    simp only [signed, Bool.false_eq_true, if_false]
    rw [Nat.shiftLeft_eq, Nat.mul_assoc, ← Nat.pow_add, show i + (-(i : Int) - -((max i j : Nat) : Int)).toNat = max i j by omega]
  have h2 : signed (!false) (b * 2 ^ j) (-(j : Int) - -((max i j : Nat) : Int)).toNat = -((b * 2 ^ max i j : Nat) : Int) := by
    simp only [signed, Bool.not_false, if_true]
    rw [Nat.shiftLeft_eq, Nat.mul_assoc, ← Nat.pow_add, show j + (-(j : Int) - -((max i j : Nat) : Int)).toNat = max i j by omega]
  have h3 : ((a * 2 ^ max i j : Nat) : Int) + -((b * 2 ^ max i j : Nat) : Int) = (((a - b) * 2 ^ max i j : Nat) : Int) := by
    rw [Nat.sub_mul]
    have := Nat.mul_le_mul_right (2 ^ max i j) hle
    omega
  rw [hb, h1, h2, h3]
  congr 1
  · by_cases hz : ((((a - b) * 2 ^ max i j : Nat) : Int)) = 0
    · simp only [hz, if_true, Bool.false_and]
    · rw [if_neg hz]; exact decide_eq_false (by omega)
theorem isN_order {d e : Datum} {a b : Nat} (hd : IsN d a) (he : IsN e b) : d.order e = some (compare (a : Int) (b : Int)) := by
  obtain ⟨i, rfl⟩ := hd
  obtain ⟨j, rfl⟩ := he
  have hb : min (-(i : Int)) (-(j : Int)) = -((max i j : Nat) : Int) := by omega
  have h1 : signed false (a * 2 ^ i) (-(i : Int) - -((max i j : Nat) : Int)).toNat = ((a * 2 ^ max i j : Nat) : Int) := by
    simp only [signed, Bool.false_eq_true, if_false]
    rw [Nat.shiftLeft_eq, Nat.mul_assoc, ← Nat.pow_add, show i + (-(i : Int) - -((max i j : Nat) : Int)).toNat = max i j by omega]
  have h2 : signed false (b * 2 ^ j) (-(j : Int) - -((max i j : Nat) : Int)).toNat = ((b * 2 ^ max i j : Nat) : Int) := by
    simp only [signed, Bool.false_eq_true, if_false]
    rw [Nat.shiftLeft_eq, Nat.mul_assoc, ← Nat.pow_add, show j + (-(j : Int) - -((max i j : Nat) : Int)).toNat = max i j by omega]
  show some (compare _ _) = _
  rw [hb, h1, h2]
  congr 1
  have hp : (0 : Int) < ((2 ^ max i j : Nat) : Int) := by exact_mod_cast Nat.two_pow_pos (max i j)
  simp only [Int.natCast_mul]
  rcases Int.lt_trichotomy (a : Int) (b : Int) with hlt | heq | hgt
  · rw [Int.compare_eq_lt.2 hlt, Int.compare_eq_lt.2 (Int.mul_lt_mul_of_pos_right hlt hp)]
  · rw [heq]; simp
  · rw [Int.compare_eq_gt.2 hgt, Int.compare_eq_gt.2 (Int.mul_lt_mul_of_pos_right hgt hp)]
theorem isN_toInt {d : Datum} {a : Nat} (hd : IsN d a) : d.toInt .zero = some (a : Int) := by
  obtain ⟨i, rfl⟩ := hd
  have h1 : (-(i : Int)).toNat = 0 := by omega
  have h2 : (- -(i : Int)).toNat = i := by omega
  simp only [Datum.toInt, Datum.integral, h1, h2, Nat.shiftLeft_zero]
  rw [cut_exact _ _ _ (.inr (.inr trivial))]
  simp [signed]
/-! the program's operations -/
theorem fl_add {a b : Nat} (ha : a < 2 ^ 51) (hb : b < 2 ^ 51) : floatBits .add .f64 (fl a) (fl b) = some (fl (a + b)) := by
  obtain ⟨r, h1, h2⟩ := isN_sum (read_fl (n := a) (by omega)) (read_fl (n := b) (by omega))
  show double.add (fl a) (fl b) = _
  unfold Format.add
  rw [h1]
  exact congrArg some (write_isN (by omega) h2)
theorem fl_sub {a b : Nat} (ha : a < 2 ^ 51) (hb : b ≤ a) : floatBits .sub .f64 (fl a) (fl b) = some (fl (a - b)) := by
  obtain ⟨r, h1, h2⟩ := isN_diff (read_fl (n := a) (by omega)) (read_fl (n := b) (by omega)) hb
  show double.sub (fl a) (fl b) = _
  unfold Format.sub
  rw [h1]
  exact congrArg some (write_isN (by omega) h2)
theorem fl_order {a b : Nat} (ha : a < 2 ^ 51) (hb : b < 2 ^ 51) : FloatKind.f64.format.order (fl a) (fl b) = some (compare (a : Int) (b : Int)) := isN_order (read_fl (n := a) (by omega)) (read_fl (n := b) (by omega))
theorem fl_toInt {a : Nat} (ha : a < 2 ^ 51) : floatToIntVal .f64 (fl a) .i64 = some (a : Int) := by
  unfold floatToIntVal FloatKind.decode
  have h := isN_toInt (read_fl (n := a) (by omega))
  rw [show FloatKind.f64.format = double from rfl, h]
  dsimp only
  have : IntKind.i64.min ≤ (a : Int) ∧ (a : Int) ≤ IntKind.i64.max := by
    have e1 : IntKind.i64.min = -9223372036854775808 := by decide
    have e2 : IntKind.i64.max = 9223372036854775807 := by decide
    rw [e1, e2]; omega
  rw [if_pos this]
theorem fl_geq {a b : Nat} (ha : a < 2 ^ 51) (hb : b < 2 ^ 51) : ((FloatKind.f64.format.order (fl a) (fl b) == some .gt) || (FloatKind.f64.format.order (fl a) (fl b) == some .eq)) = decide (b ≤ a) := by
  rw [fl_order ha hb]
  rcases Int.lt_trichotomy (a : Int) (b : Int) with hlt | heq | hgt
  · rw [Int.compare_eq_lt.2 hlt]
    rw [decide_eq_false (by omega)]; rfl
  · rw [Int.compare_eq_eq.2 heq]
    rw [decide_eq_true (by omega)]; rfl
  · rw [Int.compare_eq_gt.2 hgt]
    rw [decide_eq_true (by omega)]; rfl
theorem fl_eq {a b : Nat} (ha : a < 2 ^ 51) (hb : b < 2 ^ 51) : (FloatKind.f64.format.order (fl a) (fl b) == some .eq) = decide (a = b) := by
  rw [fl_order ha hb]
  rcases Int.lt_trichotomy (a : Int) (b : Int) with hlt | heq | hgt
  · rw [Int.compare_eq_lt.2 hlt]
    rw [decide_eq_false (by omega)]; rfl
  · rw [Int.compare_eq_eq.2 heq]
    rw [decide_eq_true (by omega)]; rfl
  · rw [Int.compare_eq_gt.2 hgt]
    rw [decide_eq_false (by omega)]; rfl
theorem fl_mod : fl 65521 = 4679237951253643264 := by decide +kernel
theorem fl_one : fl 1 = 4607182418800017408 := by decide +kernel
theorem fl_zero : fl 0 = 0 := by decide +kernel
end Go.Proofs.Ytdknolnoimpgeaa.K
