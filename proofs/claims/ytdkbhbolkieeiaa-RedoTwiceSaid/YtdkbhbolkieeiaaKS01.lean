/- Plain law: numbers of one, two or four bytes, the least byte first (chapter 1). No program in sight. -/
namespace Go.Proofs.Ytdkbhbolkieeiaa.K
set_option linter.unusedSimpArgs false
set_option linter.unusedVariables false
/-- Is a size one of a number's? -/
def numW (s : Int) : Bool := s == 1 || s == 2 || s == 4
def numR (n s : Int) : Bool := numW s && decide (0 ≤ n) && decide (n < 2 ^ (8 * s.toNat))
/-- A number's bytes. -/
def leB (a : Int) (k : Nat) : List Int := (List.range k).map fun i => a / 2 ^ (8 * i) % 256
/-- The number of bytes. -/
def leN : List Int → Int
  | [] => 0
  | x :: xs => x + 256 * leN xs
def numT (l : List Int) (i s : Int) : Bool := numW s && decide (0 ≤ i) && decide (i + s ≤ l.length)
def numG (l : List Int) (i s : Int) : Int × Bool := if numT l i s = true then (leN ((l.drop i.toNat).take s.toNat), true) else (0, false)
/-- ys laid over xs from place o on. -/
def setAt (xs : List Int) (o : Nat) (ys : List Int) : List Int := xs.take o ++ ys ++ xs.drop (o + ys.length)
def numP (l : List Int) (n s : Int) : List Int := if numR n s = true then l ++ leB n s.toNat else l
def numS (l : List Int) (i n s : Int) : List Int := if numR n s = true ∧ numT l i s = true then setAt l i.toNat (leB n s.toNat) else l
def Byts (l : List Int) : Prop := ∀ x ∈ l, 0 ≤ x ∧ x < 256
instance (l : List Int) : Decidable (Byts l) := by unfold Byts; infer_instance

theorem numW_cases {s : Int} (h : numW s = true) : s = 1 ∨ s = 2 ∨ s = 4 := by
  unfold numW at h
  simpa [or_assoc] using h
theorem numW_nat {s : Int} (h : numW s = true) : ∃ k : Nat, s = k ∧ 1 ≤ k ∧ k ≤ 4 := by
  rcases numW_cases h with rfl | rfl | rfl
  · exact ⟨1, rfl, by decide, by decide⟩
  · exact ⟨2, rfl, by decide, by decide⟩
  · exact ⟨4, rfl, by decide, by decide⟩
theorem numR_parts {n s : Int} (h : numR n s = true) : numW s = true ∧ 0 ≤ n ∧ n < 2 ^ (8 * s.toNat) := by
  unfold numR at h
  simp only [Bool.and_eq_true, decide_eq_true_eq] at h
  exact ⟨h.1.1, h.1.2, h.2⟩
theorem numT_parts {l : List Int} {i s : Int} (h : numT l i s = true) : numW s = true ∧ 0 ≤ i ∧ i + s ≤ l.length := by
  unfold numT at h
  simp only [Bool.and_eq_true, decide_eq_true_eq] at h
  exact ⟨h.1.1, h.1.2, h.2⟩
theorem leB_length (a : Int) (k : Nat) : (leB a k).length = k := by simp [leB]
theorem leB_zero (a : Int) : leB a 0 = [] := rfl
theorem leB_succ (a : Int) (k : Nat) : leB a (k + 1) = leB a k ++ [a / 2 ^ (8 * k) % 256] := by simp [leB, List.range_succ]
theorem pow_split (k : Nat) : (2 : Int) ^ (8 * (k + 1)) = 256 * 2 ^ (8 * k) := by
  rw [Nat.mul_add, Int.pow_add]
  simp [Int.mul_comm]
theorem pow_pos2 (k : Nat) : (0 : Int) < 2 ^ k := Int.pow_pos (by decide)
theorem div_zero_iff {n p : Int} (hp : 0 < p) (h0 : 0 ≤ n) : n / p = 0 ↔ n < p := by
  constructor
  · intro h
    by_cases g : n < p
    · exact g
    · have := Int.le_ediv_of_mul_le (a := 1) (b := n) hp (by rw [Int.one_mul]; omega)
      rw [h] at this; exact absurd this (by decide)
  · intro h; exact Int.ediv_eq_zero_of_lt h0 h
theorem div_div_pow (a : Int) (k : Nat) : a / 2 ^ (8 * (k + 1)) = a / 256 / 2 ^ (8 * k) := by
  rw [pow_split, Int.ediv_mul_of_nonneg (by decide)]
theorem div_step (a : Int) (k : Nat) : a / 2 ^ (8 * k) / 256 = a / 2 ^ (8 * (k + 1)) := by
  rw [pow_split, Int.mul_comm, Int.ediv_mul_of_nonneg (Int.le_of_lt (pow_pos2 _))]
theorem leB_cons (a : Int) (k : Nat) : leB a (k + 1) = a % 256 :: leB (a / 256) k := by
  induction k with
  | zero => simp [leB, List.range_succ]
  | succ k ih => rw [leB_succ, ih, leB_succ, div_div_pow]; rfl
theorem leB_byts (a : Int) (k : Nat) : Byts (leB a k) := by
  intro x hx
  simp only [leB, List.mem_map] at hx
  obtain ⟨i, _, rfl⟩ := hx
  omega
theorem leN_leB (k : Nat) : ∀ a : Int, 0 ≤ a → a < 2 ^ (8 * k) → leN (leB a k) = a := by
  induction k with
  | zero => intro a h0 h1; simp [leB, leN] at *; omega
  | succ k ih =>
    intro a h0 h1
    rw [leB_cons, leN, ih (a / 256) (by omega) (by rw [pow_split] at h1; omega)]
    omega
theorem leN_snoc (xs : List Int) (x : Int) : leN (xs ++ [x]) = leN xs + x * 2 ^ (8 * xs.length) := by
  induction xs with
  | nil => simp [leN]
  | cons y ys ih =>
    rw [List.cons_append, leN, ih, leN, List.length_cons, pow_split, Int.mul_add, Int.mul_left_comm x 256, Int.add_assoc]
theorem leN_bound (xs : List Int) (h : Byts xs) : 0 ≤ leN xs ∧ leN xs < 2 ^ (8 * xs.length) := by
  induction xs with
  | nil => simp [leN]
  | cons y ys ih =>
    obtain ⟨h0, h1⟩ := ih (fun x hx => h x (List.mem_cons_of_mem _ hx))
    obtain ⟨g0, g1⟩ := h y List.mem_cons_self
    rw [leN, List.length_cons, pow_split]
    omega
theorem setAt_length {xs : List Int} {o : Nat} {ys : List Int} (h : o + ys.length ≤ xs.length) : (setAt xs o ys).length = xs.length := by
  simp [setAt]; omega
theorem setAt_nil (xs : List Int) (o : Nat) : setAt xs o [] = xs := by simp [setAt]
theorem setAt_snoc {xs : List Int} {o : Nat} {ys : List Int} {y : Int} (h : o + ys.length < xs.length) : (setAt xs o ys).set (o + ys.length) y = setAt xs o (ys ++ [y]) := by
  unfold setAt
  have h1 : (xs.take o ++ ys).length = o + ys.length := by simp; omega
  rw [List.set_append_right _ _ (by omega), h1, Nat.sub_self, List.drop_eq_getElem_cons h]
  simp [Nat.add_assoc]
theorem setAt_end (xs ys : List Int) (n : Nat) (hn : ys.length = n) : setAt (xs ++ List.replicate n 0) xs.length ys = xs ++ ys := by
  simp [setAt, hn]
theorem setAt_get (xs : List Int) (o : Nat) (ys : List Int) (h : o + ys.length ≤ xs.length) : ((setAt xs o ys).drop o).take ys.length = ys := by
  unfold setAt
  have h1 : (xs.take o).length = o := by simp; omega
  rw [List.append_assoc, List.drop_append_of_le_length (by omega), List.drop_eq_nil_of_le (by omega), List.nil_append, List.take_append_of_le_length (by omega), List.take_of_length_le (by omega)]
theorem setAt_before (xs : List Int) (o : Nat) (ys : List Int) (h : o + ys.length ≤ xs.length) : (setAt xs o ys).take o = xs.take o := by
  unfold setAt
  have h1 : (xs.take o).length = o := by simp; omega
  rw [List.append_assoc, List.take_append_of_le_length (by omega), List.take_of_length_le (by omega)]
theorem setAt_behind (xs : List Int) (o : Nat) (ys : List Int) (h : o + ys.length ≤ xs.length) : (setAt xs o ys).drop (o + ys.length) = xs.drop (o + ys.length) := by
  unfold setAt
  have h1 : (xs.take o ++ ys).length = o + ys.length := by simp; omega
  rw [List.drop_append_of_le_length (by omega), List.drop_eq_nil_of_le (by omega), List.nil_append]
theorem Byts.append {a b : List Int} (ha : Byts a) (hb : Byts b) : Byts (a ++ b) := fun x hx => (List.mem_append.1 hx).elim (ha x) (hb x)
theorem Byts.take {a : List Int} (ha : Byts a) (n : Nat) : Byts (a.take n) := fun x hx => ha x (List.mem_of_mem_take hx)
theorem Byts.drop {a : List Int} (ha : Byts a) (n : Nat) : Byts (a.drop n) := fun x hx => ha x (List.mem_of_mem_drop hx)
theorem Byts.nil : Byts [] := fun x hx => by cases hx
theorem Byts.zeros (n : Nat) : Byts (List.replicate n 0) := fun x hx => by rw [List.eq_of_mem_replicate hx]; omega
theorem Byts.setAt {a b : List Int} (ha : Byts a) (hb : Byts b) (o : Nat) : Byts (setAt a o b) := ((ha.take o).append hb).append (ha.drop _)
theorem numP_byts {l : List Int} (h : Byts l) (n s : Int) : Byts (numP l n s) := by
  unfold numP; split
  · exact h.append (leB_byts _ _)
  · exact h
theorem numS_byts {l : List Int} (h : Byts l) (i n s : Int) : Byts (numS l i n s) := by
  unfold numS; split
  · exact h.setAt (leB_byts _ _) _
  · exact h
theorem numP_length (l : List Int) (n s : Int) : (numP l n s).length ≤ l.length + 4 ∧ l.length ≤ (numP l n s).length := by
  unfold numP; split
  · next h => obtain ⟨k, rfl, h1, h4⟩ := numW_nat (numR_parts h).1; simp [leB_length]; omega
  · omega
theorem numT_cases (l : List Int) (i s : Int) : (numW s = false ∧ numT l i s = false) ∨ ∃ k : Nat, s = k ∧ 1 ≤ k ∧ k ≤ 4 ∧ numW k = true ∧ ((i < 0 ∧ numT l i k = false) ∨ ∃ j : Nat, i = j ∧ ((l.length < j ∧ numT l j k = false) ∨ (j ≤ l.length ∧ l.length < j + k ∧ numT l j k = false) ∨ (j + k ≤ l.length ∧ numT l j k = true))) := by
  cases hw : numW s with
  | false => exact .inl ⟨rfl, by unfold numT; rw [hw]; rfl⟩
  | true =>
    obtain ⟨k, rfl, h1, h4⟩ := numW_nat hw
    refine .inr ⟨k, rfl, h1, h4, hw, ?_⟩
    by_cases h0 : i < 0
    · exact .inl ⟨h0, by unfold numT; rw [hw]; simp; omega⟩
    · obtain ⟨j, rfl⟩ := Int.eq_ofNat_of_zero_le (show 0 ≤ i by omega)
      refine .inr ⟨j, rfl, ?_⟩
      by_cases hj : l.length < j
      · exact .inl ⟨hj, by unfold numT; rw [hw]; simp; omega⟩
      · by_cases hk : l.length < j + k
        · exact .inr (.inl ⟨by omega, hk, by unfold numT; rw [hw]; simp; omega⟩)
        · exact .inr (.inr ⟨by omega, by unfold numT; rw [hw]; simp; omega⟩)
/-- What was put is got again (P1.2). -/
theorem numG_put {l : List Int} {n s : Int} (h : numR n s = true) : numG (numP l n s) l.length s = (n, true) := by
  obtain ⟨hw, h0, h1⟩ := numR_parts h
  obtain ⟨k, rfl, hk1, hk4⟩ := numW_nat hw
  have e : numP l n k = l ++ leB n k := by unfold numP; rw [if_pos h]; rfl
  have ht : numT (l ++ leB n k) l.length k = true := by
    unfold numT; rw [hw]; simp [leB_length]
  unfold numG
  rw [e, if_pos ht]
  have e2 : ((l ++ leB n k).drop (l.length : Int).toNat).take (k : Int).toNat = leB n k := by rw [Int.toNat_natCast, Int.toNat_natCast, List.drop_left]; exact List.take_of_length_le (by rw [leB_length]; exact Nat.le_refl _)
  rw [e2, leN_leB k n h0 (by simpa using h1)]
/-- What was set is got again (P1.2). -/
theorem numG_set {l : List Int} {i n s : Int} (h : numR n s = true) (ht : numT l i s = true) : numG (numS l i n s) i s = (n, true) := by
  obtain ⟨hw, h0, h1⟩ := numR_parts h
  obtain ⟨_, hi0, hi1⟩ := numT_parts ht
  obtain ⟨k, rfl, hk1, hk4⟩ := numW_nat hw
  obtain ⟨j, rfl⟩ := Int.eq_ofNat_of_zero_le hi0
  have e : numS l j n k = setAt l j (leB n k) := by unfold numS; rw [if_pos ⟨h, ht⟩]; rfl
  have hl : j + (leB n k).length ≤ l.length := by rw [leB_length]; omega
  have ht2 : numT (setAt l j (leB n k)) j k = true := by
    unfold numT; rw [hw, setAt_length hl]; simp; omega
  unfold numG
  rw [e, if_pos ht2]
  have e2 := setAt_get l j (leB n k) hl
  rw [leB_length] at e2
  simp only [Int.toNat_natCast, e2]
  rw [leN_leB k n h0 (by simpa using h1)]
/-- A byte joined by 'or' above the bytes that are there. -/
theorem or_add {n x : Nat} {k : Nat} (h : n < 2 ^ k) : n ||| x * 2 ^ k = n + x * 2 ^ k := by
  have := Nat.two_pow_add_eq_or_of_lt h x
  rw [Nat.mul_comm x, Nat.or_comm, ← this, Nat.add_comm]
end Go.Proofs.Ytdkbhbolkieeiaa.K
