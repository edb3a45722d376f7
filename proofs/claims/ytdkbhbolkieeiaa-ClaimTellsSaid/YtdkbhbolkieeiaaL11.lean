/- The plain law of ClaimTells: what package claim answers is what the reference answers. -/
import Derived.Test.YtdkbhbolkieeiaaX112
namespace Go.Proofs.Ytdkbhbolkieeiaa.X11
open Go.RowKit Go.Proofs.YtdkbhbolkieeiaaW.PrintWords Go.Proofs.YtdkbhbolkieeiaaW.PrintLast Go.Proofs.YtdkbhbolkieeiaaW.PrintMore Go.Proofs.Ytdkbhbolkieeiaa.K
set_option linter.unusedVariables false
set_option linter.unusedSimpArgs false
theorem w64 {x : Nat} (h : x ≤ 1000000) : wrap64 ((x : Int) + 1) = ((x + 1 : Nat) : Int) := by unfold wrap64; omega
theorem pt_all {l : List S70} (h : l.all inoB = true) (i k : Nat) : -9223372036854775808 ≤ ptS l i k ∧ ptS l i k ≤ 9223372036854775807 := ptL_ok (inoB_all h) i k
theorem rdS {l : List S70} {a : Nat} (h : a < l.length) : rd_T70 l (a : Int) = l[a] := by
  unfold rd_T70
  rw [Int.toNat_natCast, List.getD_eq_getElem?_getD, List.getElem?_eq_getElem h]
  rfl
theorem ptr_rd {l : List S70} {a b : Nat} (h : a < l.length) (hb : b < 5) :
    craquelureref11_pointer.f ((rd_T70 l (a : Int)).f0) ((rd_T70 l (a : Int)).f1) ((rd_T70 l (a : Int)).f2) ((rd_T70 l (a : Int)).f3) ((rd_T70 l (a : Int)).f4) ((rd_T70 l (a : Int)).f5.f0) ((rd_T70 l (a : Int)).f5.f1) ((rd_T70 l (a : Int)).f5.f2) ((rd_T70 l (a : Int)).f5.f3) ((rd_T70 l (a : Int)).f6) (b : Int) = some (ptS l a b) := by
  rw [rdS h]
  show ptr11 (inoTo l[a]).p0 (inoTo l[a]).p1 (inoTo l[a]).p2 (inoTo l[a]).p3 (inoTo l[a]).at_ (b : Int) = _
  rw [ptr11_pt _ hb]
  unfold ptS
  rw [ptL_get (by rw [List.length_map]; exact h), List.getElem_map]
theorem validS {l : List S70} {blocks : Int} {a b : Nat} (hN : l.length ≤ 1000000) (h : a < l.length) :
    craquelureref11_Valid.f l blocks (wrap64 ((a : Int) + 1)) (b : Int) = some (decide (validN (ptS l) l.length blocks (a, b))) := by
  unfold craquelureref11_Valid.f
  rw [if_pos hN, w64 (by omega)]
  congr 1
  unfold validB
  have e1 : ((((a + 1 : Nat) : Int)) - 1).toNat = a := by omega
  rw [e1, Int.toNat_natCast]
  congr 1
  rw [eq_iff_iff]
  exact ⟨fun h => h.2.2, fun h => ⟨by omega, by omega, h⟩⟩
theorem own_test {l : List S70} (hok : l.all inoB = true) {blocks x2 : Int} {a b : Nat} (h2 : -9223372036854775808 ≤ x2 ∧ x2 ≤ 9223372036854775807) :
    ownN (ptS l) l.length blocks x2 = some (a, b) ↔ x2 ≥ 0 ∧ validN (ptS l) l.length blocks (a, b) ∧ ptS l a b = wrap64 (x2 + 1) := by
  rw [ownN_some]
  have hp := pt_all hok a b
  constructor
  · rintro ⟨hv, hp2⟩
    have := hv.2.2.1
    simp only at this hp2
    exact ⟨by omega, hv, by unfold wrap64; omega⟩
  · rintro ⟨h0, hv, hp2⟩
    have := hv.2.2.1
    simp only at this hp2
    refine ⟨hv, ?_⟩
    simp only
    unfold wrap64 at hp2
    omega
theorem owner_loop {l : List S70} (hok : l.all inoB = true) (hN : l.length ≤ 1000) {blocks x2 : Int} (h2 : -9223372036854775808 ≤ x2 ∧ x2 ≤ 9223372036854775807) : ∀ k : Nat,
    (∀ a : Nat, 7 * (l.length - a) + 1 ≤ k → (∀ t, ownN (ptS l) l.length blocks x2 = some t → ¬ t.1 < a) → craquelureref11_Owner.l0 k l blocks x2 (a : Int) = some (ownV (ownN (ptS l) l.length blocks x2))) ∧
    (∀ a b : Nat, a < l.length → b ≤ 5 → 7 * (l.length - 1 - a) + (6 - b) + 1 ≤ k → (∀ t, ownN (ptS l) l.length blocks x2 = some t → ¬ lexlt t (a, b)) → craquelureref11_Owner.l1 k l blocks x2 (a : Int) (b : Int) = some (ownV (ownN (ptS l) l.length blocks x2)))
  | 0 => ⟨fun a h => absurd h (by omega), fun a b _ _ h => absurd h (by omega)⟩
  | k + 1 => by
    obtain ⟨ih0, ih1⟩ := owner_loop hok hN h2 (blocks := blocks) k
    constructor
    · intro a hk hno
      simp only [craquelureref11_Owner.l0]
      by_cases ha : a < l.length
      · rw [if_pos (by omega)]
        exact ih1 a 0 ha (by omega) (by omega) (fun t ht hl => by
          rcases hl with h | ⟨_, h⟩
          · exact hno t ht h
          · exact absurd h (by omega))
      · rw [if_neg (by omega)]
        cases h : ownN (ptS l) l.length blocks x2 with
        | none => rfl
        | some t =>
          have := (ownN_some.1 h).1.1
          exact absurd this (by have := hno t h; omega)
    · intro a b ha hb hk hno
      simp only [craquelureref11_Owner.l1]
      by_cases hb5 : b < 5
      · rw [if_pos (by omega)]
        have next : ownN (ptS l) l.length blocks x2 ≠ some (a, b) → craquelureref11_Owner.l1 k l blocks x2 (a : Int) (wrap64 ((b : Int) + 1)) = some (ownV (ownN (ptS l) l.length blocks x2)) := fun hne => by
          rw [w64 (by omega)]
          refine ih1 a (b + 1) ha (by omega) (by omega) (fun t ht hl => ?_)
          rcases lexlt_tri t (a, b) with h | h | h
          · exact hno t ht h
          · exact hne (by rw [ht, h])
          · rcases hl with h3 | ⟨h3, h4⟩ <;> rcases h with h5 | ⟨h5, h6⟩ <;> simp only at * <;> omega
        by_cases h0 : x2 ≥ 0
        · rw [if_pos h0, validS (by omega) ha]
          simp only [Option.bind_some]
          by_cases hv : validN (ptS l) l.length blocks (a, b)
          · rw [if_pos (by simpa using hv), if_pos (by omega), if_pos (by omega), ptr_rd ha hb5]
            simp only [Option.bind_some]
            by_cases hp : ptS l a b = wrap64 (x2 + 1)
            · rw [if_pos hp]
              have := (own_test hok h2).2 ⟨h0, hv, hp⟩
              rw [this, w64 (by omega)]
              simp [ownV]
            · rw [if_neg hp]
              exact next (fun h => hp ((own_test hok h2).1 h).2.2)
          · rw [if_neg (by simpa using hv)]
            exact next (fun h => hv ((own_test hok h2).1 h).2.1)
        · rw [if_neg h0]
          exact next (fun h => h0 ((own_test hok h2).1 h).1)
      · rw [if_neg (by omega), w64 (by omega)]
        refine ih0 (a + 1) (by omega) (fun t ht hl => ?_)
        have h5 := (ownN_some.1 ht).1.2.1
        exact hno t ht (by
          by_cases e : t.1 < a
          · exact .inl e
          · exact .inr ⟨by show t.1 = a; omega, by show t.2 < b; omega⟩)
theorem owner_eq {l : List S70} (hok : l.all inoB = true) (hN : l.length ≤ 30) {blocks x2 : Int} (h2 : -9223372036854775808 ≤ x2 ∧ x2 ≤ 9223372036854775807) {k : Nat} (hk : 300 ≤ k) : craquelureref11_Owner.f k l blocks x2 = some (ownV (ownN (ptS l) l.length blocks x2)) :=
  (owner_loop hok (by omega) h2 k).1 0 (by omega) (fun t _ h => absurd h (by omega))
theorem valid_own {pt : Nat → Nat → Int} (hw : ∀ i k, -9223372036854775808 ≤ pt i k ∧ pt i k ≤ 9223372036854775807) {n : Nat} {blocks : Int} {s : Nat × Nat} : ownN pt n blocks (wrap64 (pt s.1 s.2 - 1)) = some s ↔ validN pt n blocks s := by
  constructor
  · intro h; exact (ownN_some.1 h).1
  · intro h
    have h1 := h.2.2.1
    have := hw s.1 s.2
    rw [show wrap64 (pt s.1 s.2 - 1) = pt s.1 s.2 - 1 by unfold wrap64; omega]
    exact ownN_of_valid h
abbrev toS (x : Int × Int) : S30 := ⟨x.1, x.2⟩
/-- The pointers among L that do not count. -/
def badB (l : List S70) (blocks : Int) (L : List (Nat × Nat)) : List S30 := (badE (ownN (ptS l) l.length blocks) (ptS l) (nzN (ptS l) L)).map toS
theorem badB_len (l : List S70) (blocks : Int) (L : List (Nat × Nat)) : (badB l blocks L).length ≤ L.length := by
  unfold badB
  rw [List.length_map]
  exact Nat.le_trans (badE_le _ _ _) (nzN_len _ _)
theorem badB_step {l : List S70} (hok : l.all inoB = true) (blocks : Int) (a b : Nat) : badB l blocks (sl5to a (b + 1)) = badB l blocks (sl5to a b) ++ (if ptS l a b = 0 then [] else if validN (ptS l) l.length blocks (a, b) then [] else [(⟨(a : Int) + 1, (b : Int)⟩ : S30)]) := by
  unfold badB
  rw [sl5to_succ, nzN_append, nzN_one]
  by_cases h0 : ptS l a b = 0
  · rw [if_pos h0, if_pos h0, List.append_nil, List.append_nil]
  · rw [if_neg h0, if_neg h0, badE_snoc, List.map_append]
    congr 1
    by_cases hv : validN (ptS l) l.length blocks (a, b)
    · rw [if_pos hv, if_neg]
      · rfl
      · unfold isBad
        rw [(valid_own (pt_all hok)).2 hv]
        simp
    · rw [if_neg hv, if_pos]
      · rfl
      · unfold isBad
        rw [Bool.not_eq_true', decide_eq_false_iff_not]
        exact fun h => hv ((valid_own (pt_all hok)).1 h)
theorem bad_loop {l : List S70} (hok : l.all inoB = true) (hN : l.length ≤ 1000) {blocks : Int} : ∀ k : Nat,
    (∀ a : Nat, a ≤ l.length → 7 * (l.length - a) + 1 ≤ k → craquelureref11_Bad.l0 k l blocks (badB l blocks (sl5 a)) (a : Int) = some (badB l blocks (sl5 l.length))) ∧
    (∀ a b : Nat, a < l.length → b ≤ 5 → 7 * (l.length - 1 - a) + (6 - b) + 1 ≤ k → craquelureref11_Bad.l1 k l blocks (badB l blocks (sl5to a b)) (a : Int) (b : Int) = some (badB l blocks (sl5 l.length)))
  | 0 => ⟨fun a _ h => absurd h (by omega), fun a b _ _ h => absurd h (by omega)⟩
  | k + 1 => by
    obtain ⟨ih0, ih1⟩ := bad_loop hok hN (blocks := blocks) k
    constructor
    · intro a hal hk
      simp only [craquelureref11_Bad.l0]
      by_cases ha : a < l.length
      · rw [if_pos (by omega), ← sl5to_zero]
        exact ih1 a 0 ha (by omega) (by omega)
      · rw [if_neg (by omega), show a = l.length by omega]
    · intro a b ha hb hk
      simp only [craquelureref11_Bad.l1]
      by_cases hb5 : b < 5
      · rw [if_pos (by omega), if_pos (by omega), if_pos (by omega), ptr_rd ha hb5]
        simp only [Option.bind_some]
        have next := ih1 a (b + 1) ha (by omega) (by omega)
        rw [badB_step hok] at next
        rw [w64 (x := b) (by omega)]
        by_cases h0 : ptS l a b = 0
        · rw [if_pos h0]
          rw [if_pos h0, List.append_nil] at next
          exact next
        · rw [if_neg h0, validS (by omega) ha]
          simp only [Option.bind_some]
          rw [if_neg h0] at next
          by_cases hv : validN (ptS l) l.length blocks (a, b)
          · rw [if_pos (by simpa using hv)]
            rw [if_pos hv, List.append_nil] at next
            exact next
          · rw [if_neg (by simpa using hv), if_pos]
            · rw [if_neg hv] at next
              rw [w64 (x := a) (by omega)]
              exact next
            · have := badB_len l blocks (sl5to a b)
              rw [sl5to_length] at this
              omega
      · rw [if_neg (by omega), w64 (by omega), show b = 5 by omega, sl5to_five]
        exact ih0 (a + 1) (by omega) (by omega)
theorem bad_eq {l : List S70} (hok : l.all inoB = true) (hN : l.length ≤ 30) {blocks : Int} {k : Nat} (hk : 300 ≤ k) : craquelureref11_Bad.f k l blocks = some (badB l blocks (sl5 l.length)) :=
  (bad_loop hok (by omega) k).1 0 (by omega) (by omega)
theorem used_loop {l : List S70} (hok : l.all inoB = true) (hN : l.length ≤ 30) {n : Nat} (hn : n ≤ 512) : ∀ d k : Nat, d ≤ n → d + 301 ≤ k → craquelureref11_Used.l0 k l (n : Int) ((List.range (n - d)).map fun b : Nat => (ownN (ptS l) l.length (n : Int) (b : Int)).isSome) ((n - d : Nat) : Int) = some ((List.range n).map fun b : Nat => (ownN (ptS l) l.length (n : Int) (b : Int)).isSome)
  | 0, k, _, hk => by
    obtain ⟨k, rfl⟩ : ∃ m, k = m + 1 := ⟨k - 1, by omega⟩
    simp only [craquelureref11_Used.l0]
    rw [if_neg (by omega)]
    rfl
  | d + 1, k, hd, hk => by
    obtain ⟨k, rfl⟩ : ∃ m, k = m + 1 := ⟨k - 1, by omega⟩
    have ih := used_loop hok hN hn d k (by omega) (by omega)
    simp only [craquelureref11_Used.l0]
    rw [if_pos (by omega), owner_eq hok hN (by omega) (by omega)]
    simp only [Option.bind_some]
    rw [if_pos (by simp; omega), w64 (by omega)]
    have e : n - (d + 1) + 1 = n - d := by omega
    rw [e]
    rw [← e, List.range_succ (n := n - (d + 1)), List.map_append, e] at ih
    have e2 : (ownV (ownN (ptS l) l.length (n : Int) ((n - (d + 1) : Nat) : Int))).2.2 = (ownN (ptS l) l.length (n : Int) ((n - (d + 1) : Nat) : Int)).isSome := by
      cases ownN (ptS l) l.length (n : Int) ((n - (d + 1) : Nat) : Int) <;> rfl
    rw [e2]
    exact ih
theorem used_eq {l : List S70} (hok : l.all inoB = true) (hN : l.length ≤ 30) {blocks : Int} {k : Nat} (hk : 900 ≤ k) : craquelureref11_Used.f k l blocks = some (usedN (ptS l) l.length blocks) := by
  obtain ⟨k, rfl⟩ : ∃ m, k = m + 1 := ⟨k - 1, by omega⟩
  unfold craquelureref11_Used.f usedN
  simp only [Option.bind_some]
  by_cases h1 : blocks < 1
  · rw [if_pos h1, if_pos (Or.inl h1)]
    simp [craquelureref11_Used.j0]
  · rw [if_neg h1]
    by_cases h2 : blocks > 512
    · rw [if_pos (Or.inr h2)]
      simp [craquelureref11_Used.j0, h2]
    · rw [if_neg (by omega)]
      have e : decide (blocks > 512) = false := by simp; omega
      rw [e]
      simp only [craquelureref11_Used.j0]
      rw [if_neg (by simp)]
      obtain ⟨n, rfl⟩ : ∃ n : Nat, blocks = (n : Int) := ⟨blocks.toNat, by omega⟩
      have := used_loop hok hN (n := n) (by omega) n k (Nat.le_refl _) (by omega)
      rw [Nat.sub_self] at this
      rw [Int.toNat_natCast]
      exact this
theorem eqb_loop (t : List Bool) (ht : t.length ≤ 1000) : ∀ d k : Nat, d ≤ t.length → d < k → slices_Equal_bool_bool.l0 k t t (t.length : Int) ((t.length - d : Nat) : Int) = some true
  | 0, k, _, hk => by
    obtain ⟨k, rfl⟩ : ∃ m, k = m + 1 := ⟨k - 1, by omega⟩
    simp only [slices_Equal_bool_bool.l0]
    rw [if_neg (by omega)]
  | d + 1, k, hd, hk => by
    obtain ⟨k, rfl⟩ : ∃ m, k = m + 1 := ⟨k - 1, by omega⟩
    simp only [slices_Equal_bool_bool.l0]
    rw [if_pos (by omega), if_pos (by omega), if_pos (by omega), if_pos (by omega), if_neg (by simp), w64 (by omega), show t.length - (d + 1) + 1 = t.length - d by omega]
    exact eqb_loop t ht d k (by omega) (by omega)
theorem eqb_eq {t : List Bool} (ht : t.length ≤ 1000) {k : Nat} (hk : 1001 ≤ k) : slices_Equal_bool_bool.f k t t = some true := by
  unfold slices_Equal_bool_bool.f
  rw [if_pos rfl]
  have := eqb_loop t ht t.length k (Nat.le_refl _) (by omega)
  rwa [Nat.sub_self] at this
theorem awake10 : craquelurelaw11_awake.f 10 = some true := by kernel_rfl
theorem awake_at : ∀ d : Nat, craquelurelaw11_awake.f (10 + d) = some true
  | 0 => awake10
  | d + 1 => (craquelurelaw11_awake.mono (10 + d)) _ (awake_at d)
theorem awake_ge {k : Nat} (hk : 10 ≤ k) : craquelurelaw11_awake.f k = some true := by
  have := awake_at (k - 10)
  rwa [show 10 + (k - 10) = k by omega] at this
theorem tells_true {l : List S70} (hok : l.all inoB = true) {blocks ino k block : Int} (hb : -9223372036854775808 ≤ blocks ∧ blocks ≤ 9223372036854775807) (hbl : -9223372036854775808 ≤ block ∧ block ≤ 9223372036854775807) : craquelurelaw11_ClaimTells.f 2000 l blocks ino k block = some true := by
  unfold craquelurelaw11_ClaimTells.f craquelureplain_Inodes.f
  simp only [Option.bind_some]
  by_cases hN : (l.length : Int) ≤ 30
  · have hN' : l.length ≤ 30 := by omega
    have hc : inoCond l blocks = true := inoCond_iff.2 ⟨by omega, hok, hb.2⟩
    rw [if_pos (by simpa using hN)]
    unfold claim_Owner.f claim_Valid.f craquelureref11_Valid.f claim_Bad.f
    rw [if_pos ⟨hc, i64B_iff.2 hbl⟩, owner_eq hok hN' hbl (by omega), if_pos hc, if_pos (by omega), if_pos hc, bad_eq hok hN' (by omega)]
    simp only [Option.bind_some, if_true, bne_self_eq_false, Bool.false_eq_true, if_false]
    unfold slices_Equal_2_int_2_int.f
    rw [if_pos]
    · have e : (badE (ownN (ptS l) l.length blocks) (ptS l) (nzN (ptS l) (sl5 l.length))).map (fun x => (⟨x.1, x.2⟩ : S30)) = badB l blocks (sl5 l.length) := rfl
      rw [e]
      simp only [Option.bind_some, decide_true, Bool.not_true]
      simp only [craquelurelaw11_ClaimTells.j0, Bool.false_eq_true, if_false]
      have hU : claim_Used.f l blocks = some (usedN (ptS l) l.length blocks) := by unfold claim_Used.f; rw [if_pos hc]
      have hL : (usedN (ptS l) l.length blocks).length ≤ 1000 := by
        unfold usedN
        split
        · simp
        · rw [List.length_map, List.length_range]; omega
      by_cases h1 : blocks > 100
      · rw [if_pos h1]
        by_cases h2 : blocks ≤ 512
        · rw [if_pos h2, awake_ge (by omega)]; rfl
        · rw [if_neg h2, hU, used_eq hok hN' (by omega)]
          simp only [Option.bind_some]
          rw [eqb_eq hL (by omega)]
          simp only [Option.bind_some, if_true]
          rw [awake_ge (by omega)]; rfl
      · rw [if_neg h1, hU, used_eq hok hN' (by omega)]
        simp only [Option.bind_some]
        rw [eqb_eq hL (by omega)]
        simp only [Option.bind_some, if_true]
        rw [awake_ge (by omega)]; rfl
    · rw [List.length_map]
      have h1 := badE_le (ownN (ptS l) l.length blocks) (ptS l) (nzN (ptS l) (sl5 l.length))
      have h2 := nzN_len (ptS l) (sl5 l.length)
      rw [sl5_length] at h2
      omega
  · rw [if_neg (by simpa using hN), awake_ge (by omega)]
    rfl
end Go.Proofs.Ytdkbhbolkieeiaa.X11
