/- A store of one element into an own row of plain structs. -/
import Derived.Test.YtdknolnoimpgeaaKFlat2
import Derived.Test.YtdknolnoimpgeaaKBlk2
import Derived.Deep.MidRow
namespace Go.Proofs.YtdknolnoimpgeaaW.PrintWords
open Go.RowKit Go.Proofs.Ytdknolnoimpgeaa.K
namespace Kd
theorem R_putF {α : Type} {n : Nat} {enc : α → List Value} {hn : ∀ x, (enc x).length = n} {h1 : ∀ x, ∀ u ∈ enc x, u.oneCell' = true} {W : World} {e base : Nat} {ok : Nat → Prop} {v : Value} {xs : List α} (h : (flat n enc hn h1).R e W base ok v xs) {m : Nat} (hm : m < xs.length) (x : α) :
    ∃ g c cs, v = .slice (some ⟨g, 0, none⟩) xs.length c ∧ base ≤ g ∧ W.heap[g]? = some (.cells cs e (0, 0)) ∧ W.there g (m * n) n ∧ (flat n enc hn h1).R e (W.setCells g (m * n) (enc x)) base ok v (xs.set m x) ∧ W.grownBy (W.setCells g (m * n) (enc x)) (some g) := by
  obtain ⟨hok, inner, hown, hrep⟩ := h
  rcases hown.2 with ⟨_, hx0⟩ | ⟨g, cap, cur, hv, hb, hh, hnc, hcm, hcs, htake⟩
  · omega
  replace hcs : cur.size = cap * n := hcs
  have hin : inner = xs.flatMap enc := by
    obtain ⟨hl, hp⟩ := hrep
    exact reps_flat xs inner hl hp
  have q1 : (m + 1) * n ≤ xs.length * n := Nat.mul_le_mul_right n (by omega)
  have q2 : xs.length * n ≤ cap * n := Nat.mul_le_mul_right n hnc
  rw [Nat.succ_mul] at q1
  obtain ⟨cur', h2, h3, h4⟩ := setCells_row (enc x) (m * n) W cur hh (by rw [hn]; omega)
  have hset : xs.set m x = xs.take m ++ x :: xs.drop (m + 1) := by rw [List.set_eq_take_append_cons_drop, if_pos hm]
  refine ⟨g, cap, cur, hv, hb, hh, there_of_blk hh (by omega), ⟨hok, (xs.set m x).flatMap enc, ⟨flat_len hn _, .inr ⟨g, cap, cur', by rw [List.length_set]; exact hv, hb, h2, by rw [List.length_set]; exact hnc, hcm, by rw [h3]; exact hcs, ?_⟩⟩, flat_len hn _, fun j p hp => ?_⟩, grown_setCells _ _ _ _⟩
  · rw [List.length_set, h4]
    refine (lay_take (N := xs.length * n) (ys := inner) htake (by rw [hn]; exact q1) (by have e_ : cur.toList.length = cap * n := hcs; omega)).trans ?_
    rw [hin, hset, hn, ← Nat.succ_mul, flat_take hn, flat_drop hn, List.flatMap_append, List.flatMap_cons, List.append_assoc]
  · obtain ⟨hj, rfl⟩ := List.getElem?_eq_some_iff.1 hp
    show ((List.flatMap enc (xs.set m x)).drop (j * n)).take n = _
    rw [flat_drop hn, List.drop_eq_getElem_cons hj, List.flatMap_cons, List.take_append_of_le_length (by rw [hn]; exact Nat.le_refl _), List.take_of_length_le (by rw [hn]; exact Nat.le_refl _)]
end Kd
end Go.Proofs.YtdknolnoimpgeaaW.PrintWords
