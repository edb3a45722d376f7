/- Chapter 31: what is answered. Plain. -/
import Derived.Test.YtfbcnmjahpbbeaaKFn31
namespace Go.Proofs.Ytfbcnmjahpbbeaa.K
set_option linter.unusedVariables false
def canB (c : Int) : Bool := decide (1 ≤ c) && decide (c ≤ 21)
def ansFor (f : Fnd) (a : Ans) : Bool := a.cl == f.cl && (a.ino == f.ino && a.sl == f.sl)
def yesP (mode : Int) (l : List Ans) (d : Bool) (f : Fnd) : Bool :=
  if canB f.cl = true ∧ f.la = 0 then (if mode = 1 then true else if mode = 2 then (match l.find? (ansFor f) with | some a => a.yes | none => d) else false) else false
theorem yesP_no {mode : Int} {l : List Ans} {d : Bool} {f : Fnd} (h : ¬ (canB f.cl = true ∧ f.la = 0)) : yesP mode l d f = false := by unfold yesP; rw [if_neg h]
theorem yesP_auto {l : List Ans} {d : Bool} {f : Fnd} (h : canB f.cl = true ∧ f.la = 0) : yesP 1 l d f = true := by unfold yesP; rw [if_pos h, if_pos rfl]
theorem yesP_other {mode : Int} {l : List Ans} {d : Bool} {f : Fnd} (h1 : mode ≠ 1) (h2 : mode ≠ 2) : yesP mode l d f = false := by
  unfold yesP; rw [if_neg h1, if_neg h2]; split <;> rfl
theorem yesP_hit {l : List Ans} {d : Bool} {f : Fnd} (h : canB f.cl = true ∧ f.la = 0) {k : Nat} (hk : k < l.length) (hp : ansFor f l[k] = true) (h0 : ∀ j (hj : j < k), ansFor f (l[j]'(by omega)) = false) : yesP 2 l d f = l[k].yes := by
  unfold yesP
  rw [if_pos h, if_neg (by decide), if_pos rfl]
  have : l.find? (ansFor f) = some l[k] := by
    rw [List.find?_eq_some_iff_getElem]
    exact ⟨hp, k, hk, rfl, fun j hj => by simp [h0 j hj]⟩
  rw [this]
theorem yesP_miss {l : List Ans} {d : Bool} {f : Fnd} (h : canB f.cl = true ∧ f.la = 0) (h0 : ∀ j (hj : j < l.length), ansFor f l[j] = false) : yesP 2 l d f = d := by
  unfold yesP
  rw [if_pos h, if_neg (by decide), if_pos rfl]
  have : l.find? (ansFor f) = none := by
    rw [List.find?_eq_none]
    intro x hx
    obtain ⟨j, hj, rfl⟩ := List.getElem_of_mem hx
    simp [h0 j hj]
  rw [this]
/-- The first that fits, or none. -/
theorem ans_cases (f : Fnd) (l : List Ans) : (∃ k, ∃ hk : k < l.length, ansFor f l[k] = true ∧ ∀ j (hj : j < k), ansFor f (l[j]'(by omega)) = false) ∨ ∀ j (hj : j < l.length), ansFor f l[j] = false := by
  cases h : l.findIdx? (ansFor f) with
  | some k =>
    obtain ⟨hk, h1, h2⟩ := List.findIdx?_eq_some_iff_getElem.1 h
    exact .inl ⟨k, hk, h1, fun j hj => by simpa using h2 j hj⟩
  | none =>
    rw [List.findIdx?_eq_none_iff] at h
    exact .inr fun j hj => h _ (List.getElem_mem hj)
end Go.Proofs.Ytfbcnmjahpbbeaa.K
