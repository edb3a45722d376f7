/- Chapter 2: the sums, the seal. Plain. -/
import Derived.Test.YtdknolnoimpgeaaKS01
namespace Go.Proofs.Ytdknolnoimpgeaa.K
set_option linter.unusedVariables false
def s02step (p : Nat × Nat) (b : Int) : Nat × Nat := ((p.1 + b.toNat) % 65521, (p.2 + (p.1 + b.toNat) % 65521) % 65521)
/-- Both sums. -/
def s02 (l : List Int) : Nat × Nat := l.foldl s02step (1, 0)
theorem s02_snoc (l : List Int) (b : Int) : s02 (l ++ [b]) = s02step (s02 l) b := by simp [s02, List.foldl_append]
theorem s02_take (l : List Int) {m : Nat} (h : m < l.length) : s02 (l.take (m + 1)) = s02step (s02 (l.take m)) l[m] := by
  rw [List.take_succ_eq_append_getElem h, s02_snoc]
theorem s02_lt' (l : List Int) : ∀ p : Nat × Nat, p.1 < 65521 ∧ p.2 < 65521 → (l.foldl s02step p).1 < 65521 ∧ (l.foldl s02step p).2 < 65521 := by
  induction l with
  | nil => exact fun p h => h
  | cons b t ih => exact fun p _ => ih _ ⟨Nat.mod_lt _ (by decide), Nat.mod_lt _ (by decide)⟩
theorem s02_lt (l : List Int) : (s02 l).1 < 65521 ∧ (s02 l).2 < 65521 := s02_lt' l _ ⟨by decide, by decide⟩
def total : List Int → Nat
  | [] => 0
  | b :: t => b.toNat + total t
theorem s02_fst' (l : List Int) : ∀ p : Nat × Nat, p.1 < 65521 → (l.foldl s02step p).1 = (p.1 + total l) % 65521 := by
  induction l with
  | nil => intro p h; simp [total, Nat.mod_eq_of_lt h]
  | cons b t ih =>
    intro p h
    rw [List.foldl_cons, ih _ (Nat.mod_lt _ (by decide))]
    simp only [s02step, total]
    omega
theorem s02_fst (l : List Int) : (s02 l).1 = (1 + total l) % 65521 := s02_fst' l _ (by decide)
theorem total_set : ∀ (l : List Int) (k : Nat) (h : k < l.length) (v : Int), total (l.set k v) + l[k].toNat = total l + v.toNat
  | [], k, h, v => by simp at h
  | b :: t, 0, h, v => by simp [total]; omega
  | b :: t, k + 1, h, v => by
    have := total_set t k (by simpa using h) v
    simp only [List.set_cons_succ, total, List.getElem_cons_succ]
    omega
def of02 (l : List Int) : Nat := (s02 l).1 + 65536 * (s02 l).2
theorem of02_lt (l : List Int) : of02 l < 4294967296 := by
  have := s02_lt l
  unfold of02; omega
def seal60 (l : List Int) : List Int := l.take 60 ++ List.replicate (60 - l.length) 0
def sealS (l : List Int) : List Int := seal60 l ++ leB (of02 (seal60 l)) 4
def sealedS (l : List Int) : Bool := decide (l.length = 64) && decide (l = sealS (l.take 60))
theorem seal60_length (l : List Int) : (seal60 l).length = 60 := by simp [seal60]; omega
theorem sealS_length (l : List Int) : (sealS l).length = 64 := by simp [sealS, seal60_length, leB_length]
theorem seal60_byts {l : List Int} (h : Byts l) : Byts (seal60 l) := (h.take 60).append (Byts.zeros _)
theorem sealS_byts {l : List Int} (h : Byts l) : Byts (sealS l) := (seal60_byts h).append (leB_byts _ _)
theorem numP_seal (l : List Int) : numP (seal60 l) (of02 (seal60 l)) 4 = sealS l := by
  have h := of02_lt (seal60 l)
  have hr : numR (of02 (seal60 l) : Nat) 4 = true := by
    unfold numR
    rw [show numW 4 = true from rfl, show (8 * (4 : Int).toNat) = 32 from rfl]
    simp only [Bool.true_and, Bool.and_eq_true, decide_eq_true_eq]
    omega
  unfold numP sealS
  rw [if_pos hr]; rfl
theorem seal60_self {l : List Int} (h : l.length = 60) : seal60 l = l := by
  unfold seal60
  rw [h, show 60 - 60 = 0 from rfl, List.replicate_zero, List.append_nil, List.take_of_length_le (by omega)]
theorem sealS_take (l : List Int) : (sealS l).take 60 = seal60 l := by
  unfold sealS
  rw [List.take_append_of_le_length (by rw [seal60_length]; omega), List.take_of_length_le (by rw [seal60_length]; omega)]
theorem sealS_seal60 (l : List Int) : sealS (seal60 l) = sealS l := by
  unfold sealS
  rw [seal60_self (seal60_length l)]
theorem sealed_seal (l : List Int) : sealedS (sealS l) = true := by
  unfold sealedS
  rw [sealS_take, sealS_seal60, sealS_length]
  simp
theorem leB4_mod {a b : Int} (h : leB a 4 = leB b 4) : a % 65536 = b % 65536 := by
  rw [leB_cons a, leB_cons (a / 256), leB_cons b, leB_cons (b / 256)] at h
  injection h with h1 h
  injection h with h2 h
  omega
theorem changed_not (l : List Int) (hl : Byts l) {k : Nat} (hk : k < 64) {v : Int} (h0 : 0 ≤ v) (h1 : v < 256) (hv : v ≠ (sealS l)[k]'(by rw [sealS_length]; exact hk)) : sealedS ((sealS l).set k v) = false := by
  have hlen := sealS_length l
  cases hb : sealedS ((sealS l).set k v) with
  | false => rfl
  | true =>
    exfalso
    unfold sealedS at hb
    simp only [Bool.and_eq_true, decide_eq_true_eq] at hb
    obtain ⟨_, he⟩ := hb
    by_cases h60 : 60 ≤ k
    · have ht : ((sealS l).set k v).take 60 = seal60 l := by rw [List.take_set, List.set_eq_of_length_le (by simp [sealS_length]; omega), sealS_take]
      rw [ht, sealS_seal60] at he
      have : ((sealS l).set k v)[k]'(by rw [List.length_set]; omega) = (sealS l)[k]'(by omega) := by congr 1
      rw [List.getElem_set_self] at this
      exact hv this
    · have hk60 : k < (seal60 l).length := by rw [seal60_length]; omega
      have hs : (sealS l).set k v = (seal60 l).set k v ++ leB (of02 (seal60 l)) 4 := by
        unfold sealS
        rw [List.set_append_left _ _ hk60]
      have ht : ((sealS l).set k v).take 60 = (seal60 l).set k v := by
        rw [hs, List.take_append_of_le_length (by simp [seal60_length]), List.take_of_length_le (by simp [seal60_length])]
      rw [ht, hs] at he
      have hse : sealS ((seal60 l).set k v) = (seal60 l).set k v ++ leB (of02 ((seal60 l).set k v)) 4 := by
        unfold sealS
        rw [seal60_self (by rw [List.length_set, seal60_length])]
      rw [hse] at he
      have h4 := leB4_mod (List.append_cancel_left he)
      have hd := total_set (seal60 l) k hk60 v
      have hx : (sealS l)[k]'(by omega) = (seal60 l)[k] := by
        unfold sealS
        rw [List.getElem_append_left hk60]
      rw [hx] at hv
      have hbk := seal60_byts hl _ (List.getElem_mem hk60)
      have e1 := s02_fst (seal60 l)
      have e2 := s02_fst ((seal60 l).set k v)
      have b1 := s02_lt (seal60 l)
      have b2 := s02_lt ((seal60 l).set k v)
      unfold of02 at h4
      omega
end Go.Proofs.Ytdknolnoimpgeaa.K
