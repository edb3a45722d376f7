/- The plain law of ClaimOnce. -/
import Derived.Test.YtdkbhbolkieeiaaY113
namespace Go.Proofs.Ytdkbhbolkieeiaa.Y11
open Go.RowKit Go.Proofs.YtdkbhbolkieeiaaW.PrintWords Go.Proofs.YtdkbhbolkieeiaaW.PrintLast Go.Proofs.YtdkbhbolkieeiaaW.PrintMore Go.Proofs.Ytdkbhbolkieeiaa.K
set_option linter.unusedVariables false
set_option linter.unusedSimpArgs false
theorem w64 {x : Nat} (h : x ≤ 1000000) : wrap64 ((x : Int) + 1) = ((x + 1 : Nat) : Int) := by unfold wrap64; omega
theorem pt_all {l : List S70} (h : l.all inoB = true) (i k : Nat) : -9223372036854775808 ≤ ptS l i k ∧ ptS l i k ≤ 9223372036854775807 := ptL_ok (inoB_all h) i k
theorem validS {l : List S70} {blocks : Int} {a b : Nat} (hc : inoCond l blocks = true) :
    claim_Valid.f l blocks (((a + 1 : Nat) : Int)) (b : Int) = some (decide (validN (ptS l) l.length blocks (a, b))) := by
  unfold claim_Valid.f
  rw [if_pos hc]
  congr 1
  unfold validB
  have e1 : ((((a + 1 : Nat) : Int)) - 1).toNat = a := by omega
  rw [e1, Int.toNat_natCast]
  congr 1
  rw [eq_iff_iff]
  exact ⟨fun h => h.2.2, fun h => ⟨by omega, by omega, h⟩⟩
theorem awake10 : craquelurelaw11_awake.f 10 = some true := by kernel_rfl
theorem awake_at : ∀ d : Nat, craquelurelaw11_awake.f (10 + d) = some true
  | 0 => awake10
  | d + 1 => (craquelurelaw11_awake.mono (10 + d)) _ (awake_at d)
theorem awake_ge {k : Nat} (hk : 10 ≤ k) : craquelurelaw11_awake.f k = some true := by
  have := awake_at (k - 10)
  rwa [show 10 + (k - 10) = k by omega] at this
/-- How many of the places count. -/
def cntV (l : List S70) (blocks : Int) (L : List (Nat × Nat)) : Nat := (L.filter (fun s => decide (validN (ptS l) l.length blocks s))).length
theorem cntV_len (l : List S70) (blocks : Int) (L : List (Nat × Nat)) : cntV l blocks L ≤ L.length := List.length_filter_le _ _
theorem cntV_step (l : List S70) (blocks : Int) (a b : Nat) : cntV l blocks (sl5to a (b + 1)) = cntV l blocks (sl5to a b) + if validN (ptS l) l.length blocks (a, b) then 1 else 0 := by
  unfold cntV
  rw [sl5to_succ, List.filter_append, List.length_append]
  congr 1
  by_cases h : validN (ptS l) l.length blocks (a, b) <;> simp [h]
theorem once_loop {l : List S70} {B : Nat} (hc : inoCond l (B : Int) = true) (hN : l.length ≤ 1000) {U : List Bool} {R : Nat}
    (h2 : ∀ k, R ≤ k → craquelurelaw11_ClaimOnce.l2 k l (B : Int) (cntV l (B : Int) (sl5 l.length) : Int) U (U.length : Int) 0 = some true) : ∀ k : Nat,
    (∀ a : Nat, a ≤ l.length → 7 * (l.length - a) + 1 + R ≤ k → craquelurelaw11_ClaimOnce.l0 k l (B : Int) U (cntV l (B : Int) (sl5 a) : Int) (l.length : Int) (a : Int) = some true) ∧
    (∀ a b : Nat, a < l.length → b ≤ 5 → 7 * (l.length - 1 - a) + (6 - b) + 1 + R ≤ k → craquelurelaw11_ClaimOnce.l1 k l (B : Int) U (cntV l (B : Int) (sl5to a b) : Int) (a : Int) (l.length : Int) (a : Int) (b : Int) = some true)
  | 0 => ⟨fun a _ h => absurd h (by omega), fun a b _ _ h => absurd h (by omega)⟩
  | k + 1 => by
    obtain ⟨ih0, ih1⟩ := once_loop hc hN h2 k
    constructor
    · intro a hal hk
      simp only [craquelurelaw11_ClaimOnce.l0]
      by_cases ha : a < l.length
      · rw [if_pos (by omega), ← sl5to_zero]
        exact ih1 a 0 ha (by omega) (by omega)
      · rw [if_neg (by omega), show a = l.length by omega]
        exact h2 k (by omega)
    · intro a b ha hb hk
      simp only [craquelurelaw11_ClaimOnce.l1]
      by_cases hb5 : b < 5
      · rw [if_pos (by omega), w64 (x := a) (by omega), validS hc]
        simp only [Option.bind_some]
        have next := ih1 a (b + 1) ha (by omega) (by omega)
        rw [cntV_step] at next
        have hcl := cntV_len l (B : Int) (sl5to a b)
        rw [sl5to_length] at hcl
        by_cases hv : validN (ptS l) l.length (B : Int) (a, b)
        · rw [if_pos (by simpa using hv), w64 (x := b) (by omega), w64 (x := cntV l (B : Int) (sl5to a b)) (by omega)]
          rw [if_pos hv] at next
          exact next
        · rw [if_neg (by simpa using hv), w64 (x := b) (by omega)]
          rw [if_neg hv, Nat.add_zero] at next
          exact next
      · rw [if_neg (by omega), w64 (by omega), show b = 5 by omega, sl5to_five]
        exact ih0 (a + 1) (by omega) (by omega)
theorem own_valid {pt : Nat → Nat → Int} {n : Nat} {blocks b : Int} {s : Nat × Nat} (h : ownN pt n blocks b = some s) : validN pt n blocks (s.1, s.2) := (ownN_some.1 h).1
theorem cntN_le (pt : Nat → Nat → Int) (n : Nat) (blocks : Int) (m : Int) : cntN pt n blocks m ≤ 5 * n := by
  unfold cntN
  exact Nat.le_trans (List.length_filter_le _ _) (Nat.le_of_eq (sl5_length n))
theorem once_loop2 {l : List S70} {B : Nat} (hc : inoCond l (B : Int) = true) (hN : l.length ≤ 1000) (hB : B ≤ 1000) : ∀ d k : Nat, d ≤ B → 2 * d + 20 ≤ k →
    craquelurelaw11_ClaimOnce.l2 k l (B : Int) ((cntN (ptS l) l.length (B : Int) (B : Int) : Int) - (cntN (ptS l) l.length (B : Int) ((B - d : Nat) : Int) : Int)) ((List.range B).map fun b : Nat => (ownN (ptS l) l.length (B : Int) (b : Int)).isSome) (((List.range B).map fun b : Nat => (ownN (ptS l) l.length (B : Int) (b : Int)).isSome).length : Int) ((B - d : Nat) : Int) = some true
  | 0, k, _, hk => by
    obtain ⟨k, rfl⟩ : ∃ m, k = m + 1 := ⟨k - 1, by omega⟩
    simp only [craquelurelaw11_ClaimOnce.l2, List.length_map, List.length_range, Nat.sub_zero]
    rw [if_neg (by omega), if_pos (by omega), awake_ge (by omega)]
    rfl
  | d + 1, k, hd, hk => by
    obtain ⟨k, rfl⟩ : ∃ m, k = m + 1 + 1 := ⟨k - 2, by omega⟩
    have next := once_loop2 hc hN hB d k (by omega) (by omega)
    obtain ⟨m, hm⟩ : ∃ m, m = B - (d + 1) := ⟨_, rfl⟩
    have hm1 : B - d = m + 1 := by omega
    rw [hm1] at next
    rw [← hm]
    have e3 : (((m + 1 : Nat)) : Int) = (m : Int) + 1 := by omega
    rw [show cntN (ptS l) l.length (B : Int) (((m + 1 : Nat)) : Int) = cntN (ptS l) l.length (B : Int) (m : Int) + (if (ownN (ptS l) l.length (B : Int) (m : Int)).isSome then 1 else 0) by rw [e3]; exact cntN_succ _ _ _ _] at next
    have hrd : rdOf false ((List.range B).map fun b : Nat => (ownN (ptS l) l.length (B : Int) (b : Int)).isSome) (m : Int) = (ownN (ptS l) l.length (B : Int) (m : Int)).isSome := by
      unfold rdOf
      rw [Int.toNat_natCast, List.getD_eq_getElem?_getD, List.getElem?_map, List.getElem?_range (by omega)]
      rfl
    have hO : claim_Owner.f l (B : Int) (m : Int) = some (ownV (ownN (ptS l) l.length (B : Int) (m : Int))) := by
      unfold claim_Owner.f
      rw [if_pos ⟨hc, i64B_iff.2 (by omega)⟩]
    have hc1 := cntN_le (ptS l) l.length (B : Int) (B : Int)
    have hc2 := cntN_le (ptS l) l.length (B : Int) (m : Int)
    simp only [craquelurelaw11_ClaimOnce.l2]
    rw [if_pos (by rw [List.length_map, List.length_range]; omega), if_pos (by omega), if_pos (by rw [List.length_map, List.length_range]; omega), hO, hrd]
    simp only [Option.bind_some]
    cases ho : ownN (ptS l) l.length (B : Int) (m : Int) with
    | none =>
      rw [ho] at next
      simp only [ownV, Option.isSome_none, bne_self_eq_false, Bool.false_eq_true, if_false, craquelurelaw11_ClaimOnce.j3]
      rw [w64 (by omega)]
      simpa using next
    | some s =>
      rw [ho] at next
      have hv := validS (a := s.1) (b := s.2) hc
      rw [decide_eq_true (own_valid ho)] at hv
      simp only [ownV, Option.isSome_some, bne_self_eq_false, Bool.false_eq_true, if_false, if_true]
      rw [show (s.1 : Int) + 1 = ((s.1 + 1 : Nat) : Int) by omega, hv]
      simp only [Option.bind_some, Bool.not_true, craquelurelaw11_ClaimOnce.j3, Bool.false_eq_true, if_false, if_true]
      rw [w64 (by omega), show wrap64 ((cntN (ptS l) l.length (B : Int) (B : Int) : Int) - (cntN (ptS l) l.length (B : Int) (m : Int) : Int) - 1) = (cntN (ptS l) l.length (B : Int) (B : Int) : Int) - ((cntN (ptS l) l.length (B : Int) (m : Int) + 1 : Nat) : Int) by unfold wrap64; omega]
      simpa using next
theorem once_true {l : List S70} (hok : l.all inoB = true) {a1 : Int} (h0 : 0 ≤ a1) (h1 : a1 < 256) : craquelurelaw11_ClaimOnce.f 2000 l a1 = some true := by
  unfold craquelurelaw11_ClaimOnce.f craquelureplain_Inodes.f
  simp only [Option.bind_some]
  obtain ⟨B, hB, hB1, hB2⟩ : ∃ B : Nat, wrap64 (1 + (Int.tmod (wrap64 (a1)) 60)) = (B : Int) ∧ 1 ≤ B ∧ B ≤ 60 := by
    have e1 : wrap64 a1 = a1 := by unfold wrap64; omega
    rw [e1, Int.tmod_eq_emod_of_nonneg h0]
    exact ⟨(1 + a1 % 60).toNat, by unfold wrap64; omega, by omega, by omega⟩
  rw [hB]
  by_cases hN : (l.length : Int) ≤ 30
  · have hN' : l.length ≤ 30 := by omega
    have hc : inoCond l (B : Int) = true := inoCond_iff.2 ⟨by omega, hok, by omega⟩
    rw [if_pos (by simpa using hN)]
    have hU : claim_Used.f l (B : Int) = some ((List.range B).map fun b : Nat => (ownN (ptS l) l.length (B : Int) (b : Int)).isSome) := by
      unfold claim_Used.f usedN
      rw [if_pos hc, if_neg (by omega), Int.toNat_natCast]
    rw [hU]
    simp only [Option.bind_some]
    rw [if_pos (by simp)]
    refine (once_loop hc (by omega) (R := 300) (fun k hk => ?_) 2000).1 0 (by omega) (by omega)
    have := once_loop2 hc (by omega) (by omega) B k (Nat.le_refl _) (by omega)
    rw [Nat.sub_self, show ((0 : Nat) : Int) = 0 from rfl, cntN_zero, cntN_all] at this
    simpa [cntV] using this
  · rw [if_neg (by simpa using hN), awake_ge (by omega)]
    rfl
end Go.Proofs.Ytdkbhbolkieeiaa.Y11
