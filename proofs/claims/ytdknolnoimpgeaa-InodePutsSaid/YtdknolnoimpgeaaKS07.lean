/- Chapter 7: inodes. Plain. -/
import Derived.Test.YtdknolnoimpgeaaKS02
namespace Go.Proofs.Ytdknolnoimpgeaa.K
set_option linter.unusedVariables false
set_option linter.unusedSimpArgs false
def inoZ (k im nl ge sz p0 p1 p2 p3 at_ : Int) : Bool := (k == 0 && (im == 0 && (nl == 0 && (ge == 0 && (sz == 0 && ((p0 == 0 && (p1 == 0 && (p2 == 0 && p3 == 0))) && at_ == 0))))))
theorem inoZ_true {k im nl ge sz p0 p1 p2 p3 at_ : Int} (h : inoZ k im nl ge sz p0 p1 p2 p3 at_ = true) : k = 0 ∧ im = 0 ∧ nl = 0 ∧ ge = 0 ∧ sz = 0 ∧ p0 = 0 ∧ p1 = 0 ∧ p2 = 0 ∧ p3 = 0 ∧ at_ = 0 := by
  simp only [inoZ, Bool.and_eq_true, beq_iff_eq] at h
  omega
def rgB (n top : Int) : Bool := decide (0 ≤ n) && decide (n ≤ top)
theorem rgB_true {n top : Int} (h : rgB n top = true) : 0 ≤ n ∧ n ≤ top := by simpa [rgB] using h
theorem rgB_false {n top : Int} (h : rgB n top = false) : n < 0 ∨ top < n := by simp [rgB] at h; omega
/-- All numbers are none above their greatest ones. -/
def inoR (k im nl ge sz p0 p1 p2 p3 at_ : Int) : Bool := rgB k 4 && (rgB im 255 && (rgB nl 65535 && (rgB ge 268435455 && (rgB sz 256 && (rgB p0 65535 && (rgB p1 65535 && (rgB p2 65535 && (rgB p3 65535 && rgB at_ 65535))))))))
theorem inoR_parts {k im nl ge sz p0 p1 p2 p3 at_ : Int} (h : inoR k im nl ge sz p0 p1 p2 p3 at_ = true) : (0 ≤ k ∧ k ≤ 4) ∧ (0 ≤ im ∧ im ≤ 255) ∧ (0 ≤ nl ∧ nl ≤ 65535) ∧ (0 ≤ ge ∧ ge ≤ 268435455) ∧ (0 ≤ sz ∧ sz ≤ 256) ∧ (0 ≤ p0 ∧ p0 ≤ 65535) ∧ (0 ≤ p1 ∧ p1 ≤ 65535) ∧ (0 ≤ p2 ∧ p2 ≤ 65535) ∧ (0 ≤ p3 ∧ p3 ≤ 65535) ∧ (0 ≤ at_ ∧ at_ ≤ 65535) := by
  simp only [inoR, Bool.and_eq_true] at h
  obtain ⟨h0, h1, h2, h3, h4, h5, h6, h7, h8, h9⟩ := h
  exact ⟨rgB_true h0, rgB_true h1, rgB_true h2, rgB_true h3, rgB_true h4, rgB_true h5, rgB_true h6, rgB_true h7, rgB_true h8, rgB_true h9⟩
def inoOdd (k sz p0 p1 p2 p3 : Int) : Bool := if k = 1 then sz != 0 else if k = 4 then (sz != 0 || !(p0 == 0 && (p1 == 0 && (p2 == 0 && p3 == 0)))) else k == 0
/-- inode.Right. -/
def inoOk (k im nl ge sz p0 p1 p2 p3 at_ : Int) : Bool := inoZ k im nl ge sz p0 p1 p2 p3 at_ || (inoR k im nl ge sz p0 p1 p2 p3 at_ && !inoOdd k sz p0 p1 p2 p3)
/-- The numbers' bytes. -/
def inoB (k im nl ge sz p0 p1 p2 p3 at_ : Int) : List Int := leB k 1 ++ leB im 1 ++ leB nl 2 ++ leB ge 4 ++ leB sz 2 ++ leB p0 2 ++ leB p1 2 ++ leB p2 2 ++ leB p3 2 ++ leB at_ 2
theorem inoB_length (k im nl ge sz p0 p1 p2 p3 at_ : Int) : (inoB k im nl ge sz p0 p1 p2 p3 at_).length = 20 := by simp [inoB, leB_length]
theorem inoB_byts (k im nl ge sz p0 p1 p2 p3 at_ : Int) : Byts (inoB k im nl ge sz p0 p1 p2 p3 at_) := by
  unfold inoB
  exact (((((((((leB_byts _ _).append (leB_byts _ _)).append (leB_byts _ _)).append (leB_byts _ _)).append (leB_byts _ _)).append (leB_byts _ _)).append (leB_byts _ _)).append (leB_byts _ _)).append (leB_byts _ _)).append (leB_byts _ _)
/-- inode.Put: the bytes (none of a wrong one). -/
def inoP (k im nl ge sz p0 p1 p2 p3 at_ : Int) : List Int :=
  if inoOk k im nl ge sz p0 p1 p2 p3 at_ = true then (if inoZ k im nl ge sz p0 p1 p2 p3 at_ = true then List.replicate 64 0 else sealS (inoB k im nl ge sz p0 p1 p2 p3 at_)) else []
def inoE (k im nl ge sz p0 p1 p2 p3 at_ : Int) : Int := if inoOk k im nl ge sz p0 p1 p2 p3 at_ = true then 0 else 1
theorem inoP_byts (k im nl ge sz p0 p1 p2 p3 at_ : Int) : Byts (inoP k im nl ge sz p0 p1 p2 p3 at_) := by
  unfold inoP
  split
  · split
    · exact Byts.zeros 64
    · exact sealS_byts (inoB_byts _ _ _ _ _ _ _ _ _ _)
  · exact Byts.nil
/-- A number of a sector. -/
def gN (l : List Int) (i s : Int) : Int := (numG l i s).1
theorem gN_one {xs a ys : List Int} {i s : Nat} (hx : xs.length = i) (ha : a.length = s) (hw : numW s = true) : gN (xs ++ a ++ ys) i s = leN a := by
  unfold gN numG
  have ht : numT (xs ++ a ++ ys) i s = true := by
    unfold numT; rw [hw]; simp; omega
  rw [if_pos ht]
  subst hx ha
  simp
theorem gN_two {a ys : List Int} {s : Nat} (ha : a.length = s) (hw : numW s = true) : gN (a ++ ys) 0 s = leN a := by
  have := gN_one (xs := []) (ys := ys) rfl ha hw
  simpa using this
theorem leN_le {n : Int} {k : Nat} (h0 : 0 ≤ n) (h1 : n < 2 ^ (8 * k)) : leN (leB n k) = n := leN_leB k n h0 h1
/-- What was put is got: the numbers. -/
theorem read_inoB {k im nl ge sz p0 p1 p2 p3 at_ : Int} (h : inoR k im nl ge sz p0 p1 p2 p3 at_ = true) (ys : List Int) :
    gN (inoB k im nl ge sz p0 p1 p2 p3 at_ ++ ys) 0 1 = k ∧ gN (inoB k im nl ge sz p0 p1 p2 p3 at_ ++ ys) 1 1 = im ∧ gN (inoB k im nl ge sz p0 p1 p2 p3 at_ ++ ys) 2 2 = nl ∧ gN (inoB k im nl ge sz p0 p1 p2 p3 at_ ++ ys) 4 4 = ge ∧ gN (inoB k im nl ge sz p0 p1 p2 p3 at_ ++ ys) 8 2 = sz ∧
      gN (inoB k im nl ge sz p0 p1 p2 p3 at_ ++ ys) 10 2 = p0 ∧ gN (inoB k im nl ge sz p0 p1 p2 p3 at_ ++ ys) 12 2 = p1 ∧ gN (inoB k im nl ge sz p0 p1 p2 p3 at_ ++ ys) 14 2 = p2 ∧ gN (inoB k im nl ge sz p0 p1 p2 p3 at_ ++ ys) 16 2 = p3 ∧ gN (inoB k im nl ge sz p0 p1 p2 p3 at_ ++ ys) 18 2 = at_ := by
  obtain ⟨h0, h1, h2, h3, h4, h5, h6, h7, h8, h9⟩ := inoR_parts h
  unfold inoB
  have q1 : ∀ a : Int, (leB a 1).length = 1 := fun a => leB_length a 1
  have q2 : ∀ a : Int, (leB a 2).length = 2 := fun a => leB_length a 2
  have q4 : ∀ a : Int, (leB a 4).length = 4 := fun a => leB_length a 4
  refine ⟨?_, ?_, ?_, ?_, ?_, ?_, ?_, ?_, ?_, ?_⟩
  · rw [show leB k 1 ++ leB im 1 ++ leB nl 2 ++ leB ge 4 ++ leB sz 2 ++ leB p0 2 ++ leB p1 2 ++ leB p2 2 ++ leB p3 2 ++ leB at_ 2 ++ ys = [] ++ leB k 1 ++ (leB im 1 ++ leB nl 2 ++ leB ge 4 ++ leB sz 2 ++ leB p0 2 ++ leB p1 2 ++ leB p2 2 ++ leB p3 2 ++ leB at_ 2 ++ ys) by simp]
    exact (gN_one (i := 0) rfl (q1 k) rfl).trans (leN_le h0.1 (by omega))
  · rw [show leB k 1 ++ leB im 1 ++ leB nl 2 ++ leB ge 4 ++ leB sz 2 ++ leB p0 2 ++ leB p1 2 ++ leB p2 2 ++ leB p3 2 ++ leB at_ 2 ++ ys = leB k 1 ++ leB im 1 ++ (leB nl 2 ++ leB ge 4 ++ leB sz 2 ++ leB p0 2 ++ leB p1 2 ++ leB p2 2 ++ leB p3 2 ++ leB at_ 2 ++ ys) by simp]
    exact (gN_one (i := 1) (by simp [q1]) (q1 im) rfl).trans (leN_le h1.1 (by omega))
  · rw [show leB k 1 ++ leB im 1 ++ leB nl 2 ++ leB ge 4 ++ leB sz 2 ++ leB p0 2 ++ leB p1 2 ++ leB p2 2 ++ leB p3 2 ++ leB at_ 2 ++ ys = (leB k 1 ++ leB im 1) ++ leB nl 2 ++ (leB ge 4 ++ leB sz 2 ++ leB p0 2 ++ leB p1 2 ++ leB p2 2 ++ leB p3 2 ++ leB at_ 2 ++ ys) by simp]
    exact (gN_one (i := 2) (by simp [q1]) (q2 nl) rfl).trans (leN_le h2.1 (by omega))
  · rw [show leB k 1 ++ leB im 1 ++ leB nl 2 ++ leB ge 4 ++ leB sz 2 ++ leB p0 2 ++ leB p1 2 ++ leB p2 2 ++ leB p3 2 ++ leB at_ 2 ++ ys = (leB k 1 ++ leB im 1 ++ leB nl 2) ++ leB ge 4 ++ (leB sz 2 ++ leB p0 2 ++ leB p1 2 ++ leB p2 2 ++ leB p3 2 ++ leB at_ 2 ++ ys) by simp]
    exact (gN_one (i := 4) (by simp [q1, q2]) (q4 ge) rfl).trans (leN_le h3.1 (by omega))
  · rw [show leB k 1 ++ leB im 1 ++ leB nl 2 ++ leB ge 4 ++ leB sz 2 ++ leB p0 2 ++ leB p1 2 ++ leB p2 2 ++ leB p3 2 ++ leB at_ 2 ++ ys = (leB k 1 ++ leB im 1 ++ leB nl 2 ++ leB ge 4) ++ leB sz 2 ++ (leB p0 2 ++ leB p1 2 ++ leB p2 2 ++ leB p3 2 ++ leB at_ 2 ++ ys) by simp]
    exact (gN_one (i := 8) (by simp [q1, q2, q4]) (q2 sz) rfl).trans (leN_le h4.1 (by omega))
  · rw [show leB k 1 ++ leB im 1 ++ leB nl 2 ++ leB ge 4 ++ leB sz 2 ++ leB p0 2 ++ leB p1 2 ++ leB p2 2 ++ leB p3 2 ++ leB at_ 2 ++ ys = (leB k 1 ++ leB im 1 ++ leB nl 2 ++ leB ge 4 ++ leB sz 2) ++ leB p0 2 ++ (leB p1 2 ++ leB p2 2 ++ leB p3 2 ++ leB at_ 2 ++ ys) by simp]
    exact (gN_one (i := 10) (by simp [q1, q2, q4]) (q2 p0) rfl).trans (leN_le h5.1 (by omega))
  · rw [show leB k 1 ++ leB im 1 ++ leB nl 2 ++ leB ge 4 ++ leB sz 2 ++ leB p0 2 ++ leB p1 2 ++ leB p2 2 ++ leB p3 2 ++ leB at_ 2 ++ ys = (leB k 1 ++ leB im 1 ++ leB nl 2 ++ leB ge 4 ++ leB sz 2 ++ leB p0 2) ++ leB p1 2 ++ (leB p2 2 ++ leB p3 2 ++ leB at_ 2 ++ ys) by simp]
    exact (gN_one (i := 12) (by simp [q1, q2, q4]) (q2 p1) rfl).trans (leN_le h6.1 (by omega))
  · rw [show leB k 1 ++ leB im 1 ++ leB nl 2 ++ leB ge 4 ++ leB sz 2 ++ leB p0 2 ++ leB p1 2 ++ leB p2 2 ++ leB p3 2 ++ leB at_ 2 ++ ys = (leB k 1 ++ leB im 1 ++ leB nl 2 ++ leB ge 4 ++ leB sz 2 ++ leB p0 2 ++ leB p1 2) ++ leB p2 2 ++ (leB p3 2 ++ leB at_ 2 ++ ys) by simp]
    exact (gN_one (i := 14) (by simp [q1, q2, q4]) (q2 p2) rfl).trans (leN_le h7.1 (by omega))
  · rw [show leB k 1 ++ leB im 1 ++ leB nl 2 ++ leB ge 4 ++ leB sz 2 ++ leB p0 2 ++ leB p1 2 ++ leB p2 2 ++ leB p3 2 ++ leB at_ 2 ++ ys = (leB k 1 ++ leB im 1 ++ leB nl 2 ++ leB ge 4 ++ leB sz 2 ++ leB p0 2 ++ leB p1 2 ++ leB p2 2) ++ leB p3 2 ++ (leB at_ 2 ++ ys) by simp]
    exact (gN_one (i := 16) (by simp [q1, q2, q4]) (q2 p3) rfl).trans (leN_le h8.1 (by omega))
  · rw [show leB k 1 ++ leB im 1 ++ leB nl 2 ++ leB ge 4 ++ leB sz 2 ++ leB p0 2 ++ leB p1 2 ++ leB p2 2 ++ leB p3 2 ++ leB at_ 2 ++ ys = (leB k 1 ++ leB im 1 ++ leB nl 2 ++ leB ge 4 ++ leB sz 2 ++ leB p0 2 ++ leB p1 2 ++ leB p2 2 ++ leB p3 2) ++ leB at_ 2 ++ ys by simp]
    exact (gN_one (i := 18) (by simp [q1, q2, q4]) (q2 at_) rfl).trans (leN_le h9.1 (by omega))
theorem read_zeros (i s : Int) : gN (List.replicate 64 0) i s = 0 := by
  unfold gN numG
  split
  · next h =>
    obtain ⟨hw, h0, h1⟩ := numT_parts h
    have : ∀ n : Nat, leN (List.replicate n 0) = 0 := by
      intro n; induction n with
      | zero => rfl
      | succ n ih => rw [List.replicate_succ, leN, ih]; rfl
    rw [List.drop_replicate, List.take_replicate]
    exact this _
  · rfl
/-- inode.Get: the numbers, and whether. -/
def inoGok (l : List Int) : Bool := decide (l = inoP (gN l 0 1) (gN l 1 1) (gN l 2 2) (gN l 4 4) (gN l 8 2) (gN l 10 2) (gN l 12 2) (gN l 14 2) (gN l 16 2) (gN l 18 2)) && inoOk (gN l 0 1) (gN l 1 1) (gN l 2 2) (gN l 4 4) (gN l 8 2) (gN l 10 2) (gN l 12 2) (gN l 14 2) (gN l 16 2) (gN l 18 2)
/-- What was put is got again. -/
theorem put_get {k im nl ge sz p0 p1 p2 p3 at_ : Int} (h : inoOk k im nl ge sz p0 p1 p2 p3 at_ = true) {l : List Int} (hl : l = inoP k im nl ge sz p0 p1 p2 p3 at_) :
    gN l 0 1 = k ∧ gN l 1 1 = im ∧ gN l 2 2 = nl ∧ gN l 4 4 = ge ∧ gN l 8 2 = sz ∧ gN l 10 2 = p0 ∧ gN l 12 2 = p1 ∧ gN l 14 2 = p2 ∧ gN l 16 2 = p3 ∧ gN l 18 2 = at_ := by
  unfold inoP at hl
  rw [if_pos h] at hl
  by_cases hz : inoZ k im nl ge sz p0 p1 p2 p3 at_ = true
  · rw [if_pos hz] at hl
    obtain ⟨rfl, rfl, rfl, rfl, rfl, rfl, rfl, rfl, rfl, rfl⟩ := inoZ_true hz
    subst hl
    exact ⟨read_zeros _ _, read_zeros _ _, read_zeros _ _, read_zeros _ _, read_zeros _ _, read_zeros _ _, read_zeros _ _, read_zeros _ _, read_zeros _ _, read_zeros _ _⟩
  · rw [if_neg hz] at hl
    have hr : inoR k im nl ge sz p0 p1 p2 p3 at_ = true := by
      unfold inoOk at h
      simp only [Bool.or_eq_true, Bool.and_eq_true] at h
      exact (h.resolve_left hz).1
    have hs : sealS (inoB k im nl ge sz p0 p1 p2 p3 at_) = inoB k im nl ge sz p0 p1 p2 p3 at_ ++ (List.replicate 40 0 ++ leB (of02 (seal60 (inoB k im nl ge sz p0 p1 p2 p3 at_))) 4) := by
      unfold sealS
      rw [← List.append_assoc]
      have h60 : seal60 (inoB k im nl ge sz p0 p1 p2 p3 at_) = inoB k im nl ge sz p0 p1 p2 p3 at_ ++ List.replicate 40 0 := by
        unfold seal60
        rw [inoB_length, List.take_of_length_le (by rw [inoB_length]; omega)]
      rw [← h60]
    rw [hs] at hl
    subst hl
    exact read_inoB hr _
theorem inoGok_put {k im nl ge sz p0 p1 p2 p3 at_ : Int} (h : inoOk k im nl ge sz p0 p1 p2 p3 at_ = true) : inoGok (inoP k im nl ge sz p0 p1 p2 p3 at_) = true := by
  obtain ⟨e0, e1, e2, e3, e4, e5, e6, e7, e8, e9⟩ := put_get h rfl
  unfold inoGok
  rw [e0, e1, e2, e3, e4, e5, e6, e7, e8, e9, h]
  simp
theorem inoP_length {k im nl ge sz p0 p1 p2 p3 at_ : Int} (h : inoOk k im nl ge sz p0 p1 p2 p3 at_ = true) : (inoP k im nl ge sz p0 p1 p2 p3 at_).length = 64 := by
  unfold inoP; rw [if_pos h]; split
  · simp
  · exact sealS_length _
theorem inoGok_len {l : List Int} (h : inoGok l = true) : l.length = 64 := by
  unfold inoGok at h
  simp only [Bool.and_eq_true, decide_eq_true_eq] at h
  rw [h.1]; exact inoP_length h.2
end Go.Proofs.Ytdknolnoimpgeaa.K
