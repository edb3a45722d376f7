/- The plain law of chapter 11: pointers, owners (no program). -/
import Derived.Test.YtdkbhbolkieeiaaKC
namespace Go.Proofs.Ytdkbhbolkieeiaa.K
open Go.RowKit
set_option linter.unusedVariables false
set_option linter.unusedSimpArgs false
/-- All pointers' places, in order. -/
def sl5 (n : Nat) : List (Nat × Nat) := (List.range n).flatMap fun i => (List.range 5).map fun k => (i, k)
def lexlt (a b : Nat × Nat) : Prop := a.1 < b.1 ∨ a.1 = b.1 ∧ a.2 < b.2
theorem lexlt_irrefl {a : Nat × Nat} : ¬ lexlt a a := by rintro (h | ⟨_, h⟩) <;> omega
theorem lexlt_asymm {a b : Nat × Nat} (h : lexlt a b) : ¬ lexlt b a := by
  rcases h with h | ⟨h, k⟩ <;> rintro (h2 | ⟨h2, k2⟩) <;> omega
theorem lexlt_tri (a b : Nat × Nat) : lexlt a b ∨ a = b ∨ lexlt b a := by
  obtain ⟨a1, a2⟩ := a; obtain ⟨b1, b2⟩ := b
  unfold lexlt
  simp only [Prod.mk.injEq]
  omega
theorem sl5_succ (n : Nat) : sl5 (n + 1) = sl5 n ++ (List.range 5).map fun k => (n, k) := by
  unfold sl5
  rw [List.range_succ (n := n), List.flatMap_append]
  simp
theorem mem_sl5 {n : Nat} {s : Nat × Nat} : s ∈ sl5 n ↔ s.1 < n ∧ s.2 < 5 := by
  unfold sl5
  obtain ⟨i, k⟩ := s
  simp only [List.mem_flatMap, List.mem_map, List.mem_range, Prod.mk.injEq]
  constructor
  · rintro ⟨a, ha, b, hb, rfl, rfl⟩; exact ⟨ha, hb⟩
  · rintro ⟨h1, h2⟩; exact ⟨i, h1, k, h2, rfl, rfl⟩
theorem sl5_sorted : ∀ n, (sl5 n).Pairwise lexlt
  | 0 => by simp [sl5]
  | n + 1 => by
    rw [sl5_succ, List.pairwise_append]
    refine ⟨sl5_sorted n, ?_, ?_⟩
    · rw [List.pairwise_map]
      have : (List.range 5).Pairwise (· < ·) := List.pairwise_lt_range
      exact this.imp (fun h => .inr ⟨rfl, h⟩)
    · intro a ha b hb
      have h1 := (mem_sl5.1 ha).1
      obtain ⟨k, _, rfl⟩ := List.mem_map.1 hb
      exact .inl h1
/-- The first place in order where p holds. -/
theorem find_first {L : List (Nat × Nat)} (hL : L.Pairwise lexlt) (p : Nat × Nat → Bool) (s : Nat × Nat) : L.find? p = some s ↔ s ∈ L ∧ p s = true ∧ ∀ t ∈ L, lexlt t s → p t = false := by
  induction L with
  | nil => simp
  | cons a L ih =>
    rw [List.pairwise_cons] at hL
    rw [List.find?_cons]
    cases ha : p a with
    | true =>
      simp only [Option.some.injEq]
      constructor
      · rintro rfl
        refine ⟨List.mem_cons_self, ha, fun t ht hlt => ?_⟩
        rcases List.mem_cons.1 ht with rfl | ht
        · exact absurd hlt lexlt_irrefl
        · exact absurd hlt (lexlt_asymm (hL.1 t ht))
      · rintro ⟨hs, hps, hall⟩
        rcases List.mem_cons.1 hs with rfl | hs
        · rfl
        · have := hall a List.mem_cons_self (hL.1 s hs)
          rw [ha] at this; cases this
    | false =>
      simp only
      rw [ih hL.2]
      constructor
      · rintro ⟨hs, hps, hall⟩
        refine ⟨List.mem_cons_of_mem _ hs, hps, fun t ht hlt => ?_⟩
        rcases List.mem_cons.1 ht with rfl | ht
        · exact ha
        · exact hall t ht hlt
      · rintro ⟨hs, hps, hall⟩
        rcases List.mem_cons.1 hs with rfl | hs
        · rw [ha] at hps; cases hps
        · exact ⟨hs, hps, fun t ht => hall t (List.mem_cons_of_mem _ ht)⟩
/-- Who names a block first. -/
def ownN (pt : Nat → Nat → Int) (n : Nat) (blocks b : Int) : Option (Nat × Nat) := if 0 ≤ b ∧ b < blocks then (sl5 n).find? (fun s => pt s.1 s.2 == b + 1) else none
/-- Whether a pointer counts. -/
def validN (pt : Nat → Nat → Int) (n : Nat) (blocks : Int) (s : Nat × Nat) : Prop := s.1 < n ∧ s.2 < 5 ∧ 1 ≤ pt s.1 s.2 ∧ pt s.1 s.2 ≤ blocks ∧ ∀ t : Nat × Nat, t.1 < n → t.2 < 5 → lexlt t s → pt t.1 t.2 ≠ pt s.1 s.2
theorem ownN_some {pt : Nat → Nat → Int} {n : Nat} {blocks b : Int} {s : Nat × Nat} : ownN pt n blocks b = some s ↔ validN pt n blocks s ∧ pt s.1 s.2 = b + 1 := by
  unfold ownN validN
  split
  case isTrue h =>
    rw [find_first (sl5_sorted n), mem_sl5]
    constructor
    · rintro ⟨⟨h1, h2⟩, h3, h4⟩
      have h3' : pt s.1 s.2 = b + 1 := by simpa using h3
      refine ⟨⟨h1, h2, by omega, by omega, fun t t1 t2 tl => ?_⟩, h3'⟩
      have := h4 t (mem_sl5.2 ⟨t1, t2⟩) tl
      rw [h3']
      simpa using this
    · rintro ⟨⟨h1, h2, _, _, h5⟩, h3⟩
      refine ⟨⟨h1, h2⟩, by simpa using h3, fun t ht tl => ?_⟩
      obtain ⟨t1, t2⟩ := mem_sl5.1 ht
      have := h5 t t1 t2 tl
      rw [h3] at this
      simpa using this
  case isFalse h =>
    constructor
    · intro h; cases h
    · rintro ⟨⟨_, _, h3, h4, _⟩, h5⟩
      exact absurd ⟨by omega, by omega⟩ h
theorem ownN_of_valid {pt : Nat → Nat → Int} {n : Nat} {blocks : Int} {s : Nat × Nat} (h : validN pt n blocks s) : ownN pt n blocks (pt s.1 s.2 - 1) = some s := ownN_some.2 ⟨h, by omega⟩
theorem ownN_nil {pt : Nat → Nat → Int} {n : Nat} {blocks b : Int} (h : ¬ (0 ≤ b ∧ b < blocks)) : ownN pt n blocks b = none := by unfold ownN; rw [if_neg h]
instance (pt : Nat → Nat → Int) (n : Nat) (blocks : Int) (s : Nat × Nat) : Decidable (validN pt n blocks s) :=
  if h : ownN pt n blocks (pt s.1 s.2 - 1) = some s then .isTrue (ownN_some.1 h).1 else .isFalse fun hv => h (ownN_of_valid hv)
/-- The pointers that are not 0, as they are told. -/
def ptrsN (pt : Nat → Nat → Int) (L : List (Nat × Nat)) : List ((Nat × Nat) × Int) := L.filterMap fun s => if pt s.1 s.2 = 0 then none else some (s, wrap64 (pt s.1 s.2 - 1))
theorem ptrsN_append (pt : Nat → Nat → Int) (L M : List (Nat × Nat)) : ptrsN pt (L ++ M) = ptrsN pt L ++ ptrsN pt M := List.filterMap_append
/-- A map behind pointers that were told. -/
def mapN (blocks : Int) (pre : List ((Nat × Nat) × Int)) (b : Int) : Option (Nat × Nat) := if 0 ≤ b ∧ b < blocks then (pre.find? (fun x => x.2 == b)).map (·.1) else none
theorem mapN_snoc (blocks : Int) (pre : List ((Nat × Nat) × Int)) (s : Nat × Nat) (c b : Int) : mapN blocks (pre ++ [(s, c)]) b = if mapN blocks pre b = none ∧ 0 ≤ b ∧ b < blocks ∧ c = b then some s else mapN blocks pre b := by
  unfold mapN
  by_cases h : 0 ≤ b ∧ b < blocks
  · rw [if_pos h, if_pos h, List.find?_append]
    cases hf : pre.find? (fun x => x.2 == b) with
    | some y => simp
    | none =>
      by_cases hc : c = b
      · subst hc; simp [h]
      · simp [hc]
  · rw [if_neg h, if_neg h, if_neg]
    rintro ⟨_, h1, h2, _⟩; exact h ⟨h1, h2⟩
theorem mapN_ptrs {pt : Nat → Nat → Int} (hw : ∀ i k, -9223372036854775808 ≤ pt i k ∧ pt i k ≤ 9223372036854775807) (n : Nat) {blocks : Int} (hb : blocks ≤ 9223372036854775807) (b : Int) : mapN blocks (ptrsN pt (sl5 n)) b = ownN pt n blocks b := by
  unfold mapN ownN
  by_cases h : 0 ≤ b ∧ b < blocks
  · rw [if_pos h, if_pos h]
    generalize sl5 n = L
    induction L with
    | nil => rfl
    | cons s L ih =>
      have := hw s.1 s.2
      rw [show s :: L = [s] ++ L from rfl, ptrsN_append, List.find?_append, List.find?_append]
      by_cases h0 : pt s.1 s.2 = 0
      · have e1 : ptrsN pt [s] = [] := by simp [ptrsN, h0]
        have e2 : ((pt s.1 s.2) == b + 1) = false := by rw [h0]; simp; omega
        rw [e1]
        simp only [List.find?_nil, List.find?_cons, e2, Option.none_or]
        exact ih
      · have e1 : ptrsN pt [s] = [(s, wrap64 (pt s.1 s.2 - 1))] := by simp [ptrsN, h0]
        rw [e1]
        by_cases hb1 : pt s.1 s.2 = b + 1
        · have e2 : (wrap64 (pt s.1 s.2 - 1) == b) = true := by rw [hb1]; unfold wrap64; simp; omega
          have e3 : (pt s.1 s.2 == b + 1) = true := by simpa using hb1
          simp only [List.find?_cons, e2, e3]
          simp
        · have e2 : (wrap64 (pt s.1 s.2 - 1) == b) = false := by unfold wrap64; simp; omega
          have e3 : (pt s.1 s.2 == b + 1) = false := by simpa using hb1
          simp only [List.find?_cons, e2, e3, List.find?_nil, Option.none_or]
          exact ih
  · rw [if_neg h, if_neg h]
theorem mem_ptrsN {pt : Nat → Nat → Int} {L : List (Nat × Nat)} {x : (Nat × Nat) × Int} : x ∈ ptrsN pt L ↔ x.1 ∈ L ∧ pt x.1.1 x.1.2 ≠ 0 ∧ x.2 = wrap64 (pt x.1.1 x.1.2 - 1) := by
  unfold ptrsN
  rw [List.mem_filterMap]
  constructor
  · rintro ⟨s, hs, h⟩
    split at h
    · cases h
    · cases h; exact ⟨hs, by assumption, rfl⟩
  · rintro ⟨h1, h2, h3⟩
    exact ⟨x.1, h1, by rw [if_neg h2, ← h3]⟩
/-- How many pointers of value b + 1 count. -/
theorem count_own {pt : Nat → Nat → Int} {n : Nat} {blocks b : Int} : ((sl5 n).filter (fun s => decide (ownN pt n blocks b = some s))).length = if (ownN pt n blocks b).isSome then 1 else 0 := by
  cases h : ownN pt n blocks b with
  | none => simp
  | some s =>
    have hs : s ∈ sl5 n := mem_sl5.2 ⟨(ownN_some.1 h).1.1, (ownN_some.1 h).1.2.1⟩
    have hso := sl5_sorted n
    generalize sl5 n = L at hs hso
    simp only [Option.some.injEq, Option.isSome_some, if_true]
    induction L with
    | nil => cases hs
    | cons a L ih =>
      rw [List.pairwise_cons] at hso
      rw [List.filter_cons]
      by_cases ha : s = a
      · subst ha
        have : L.filter (fun t => decide (s = t)) = [] := List.filter_eq_nil_iff.2 fun t ht => by
          have := hso.1 t ht
          simp only [decide_eq_true_eq]
          rintro rfl
          exact lexlt_irrefl this
        simp [this]
      · rcases List.mem_cons.1 hs with h1 | h1
        · exact absurd h1 ha
        · simp [ha, ih h1 hso.2]
/-- Pointers that count, and name one of the first B blocks. -/
def cntN (pt : Nat → Nat → Int) (n : Nat) (blocks B : Int) : Nat := ((sl5 n).filter (fun s => decide (validN pt n blocks s ∧ pt s.1 s.2 ≤ B))).length
theorem filter_split {α : Type} (p q r : α → Bool) : ∀ L : List α, (∀ x ∈ L, (p x = (q x || r x)) ∧ (q x && r x) = false) → (L.filter p).length = (L.filter q).length + (L.filter r).length
  | [], _ => rfl
  | x :: L, h => by
    have ih := filter_split p q r L (fun y hy => h y (List.mem_cons_of_mem _ hy))
    obtain ⟨h1, h2⟩ := h x List.mem_cons_self
    rw [List.filter_cons, List.filter_cons, List.filter_cons]
    cases hq : q x <;> cases hr : r x <;> rw [hq, hr] at h1 h2 <;> simp at h1 h2 <;> simp [h1, ih] <;> omega
theorem cntN_succ (pt : Nat → Nat → Int) (n : Nat) (blocks : Int) (B : Nat) : cntN pt n blocks (B + 1) = cntN pt n blocks B + if (ownN pt n blocks B).isSome then 1 else 0 := by
  rw [← count_own]
  unfold cntN
  refine filter_split _ _ _ _ fun s _ => ?_
  have h1 : (ownN pt n blocks (B : Int) = some s) ↔ validN pt n blocks s ∧ pt s.1 s.2 = B + 1 := ownN_some
  constructor
  · rw [Bool.eq_iff_iff]
    simp only [Bool.or_eq_true, decide_eq_true_eq, h1]
    constructor
    · rintro ⟨h2, h3⟩
      by_cases h4 : pt s.1 s.2 = B + 1
      · exact .inr ⟨h2, h4⟩
      · exact .inl ⟨h2, by omega⟩
    · rintro (⟨h2, h3⟩ | ⟨h2, h3⟩)
      · exact ⟨h2, by omega⟩
      · exact ⟨h2, by omega⟩
  · rw [Bool.eq_false_iff]
    simp only [ne_eq, Bool.and_eq_true, decide_eq_true_eq, h1]
    rintro ⟨⟨_, h3⟩, _, h4⟩
    omega
theorem cntN_zero (pt : Nat → Nat → Int) (n : Nat) (blocks : Int) : cntN pt n blocks 0 = 0 := by
  unfold cntN
  rw [List.length_eq_zero_iff, List.filter_eq_nil_iff]
  intro s _
  simp only [decide_eq_true_eq]
  rintro ⟨⟨_, _, h1, _⟩, h2⟩
  omega
theorem cntN_all (pt : Nat → Nat → Int) (n : Nat) (blocks : Int) : cntN pt n blocks blocks = ((sl5 n).filter (fun s => decide (validN pt n blocks s))).length := by
  unfold cntN
  congr 1
  refine List.filter_congr fun s _ => ?_
  rw [Bool.eq_iff_iff]
  simp only [decide_eq_true_eq]
  exact ⟨fun h => h.1, fun h => ⟨h, h.2.2.2.1⟩⟩
end Go.Proofs.Ytdkbhbolkieeiaa.K
