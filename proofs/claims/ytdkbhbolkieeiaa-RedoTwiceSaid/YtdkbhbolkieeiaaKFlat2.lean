/- Lists of plain structs as cells of a block. -/
import Derived.Test.YtdkbhbolkieeiaaKFlat
import Derived.Test.YtdkbhbolkieeiaaKBlk2
namespace Go.Proofs.Ytdkbhbolkieeiaa.K
open Go.RowKit Go.Proofs.YtdkbhbolkieeiaaW.PrintWords Go.Proofs.YtdkbhbolkieeiaaW.PrintLast Go.Proofs.YtdkbhbolkieeiaaW.PrintMore
set_option linter.unusedVariables false
section
variable {α : Type} {n : Nat} {enc : α → List Value}
theorem flat_len (hn : ∀ x, (enc x).length = n) : ∀ l : List α, (l.flatMap enc).length = l.length * n
  | [] => by simp
  | x :: l => by rw [List.flatMap_cons, List.length_append, hn, flat_len hn l, List.length_cons, Nat.succ_mul]; omega
theorem flat_take (hn : ∀ x, (enc x).length = n) : ∀ (l : List α) (k : Nat), (l.flatMap enc).take (k * n) = (l.take k).flatMap enc
  | [], k => by simp
  | x :: l, 0 => by simp
  | x :: l, k + 1 => by
    rw [List.flatMap_cons, List.take_succ_cons, List.flatMap_cons, ← flat_take hn l k, Nat.succ_mul, List.take_append, hn]
    rw [List.take_of_length_le (by rw [hn]; omega), show k * n + n - n = k * n by omega]
theorem flat_drop (hn : ∀ x, (enc x).length = n) : ∀ (l : List α) (k : Nat), (l.flatMap enc).drop (k * n) = (l.drop k).flatMap enc
  | [], k => by simp
  | x :: l, 0 => by simp
  | x :: l, k + 1 => by
    rw [List.flatMap_cons, List.drop_succ_cons, ← flat_drop hn l k, Nat.succ_mul, List.drop_append, hn]
    rw [List.drop_eq_nil_of_le (by rw [hn]; omega), List.nil_append, show k * n + n - n = k * n by omega]
theorem flat_get (hn : ∀ x, (enc x).length = n) (l : List α) {j i : Nat} (hj : j < l.length) (hi : i < n) : (l.flatMap enc)[j * n + i]? = (enc l[j])[i]? := by
  have h := flat_drop hn l j
  have h2 : ((l.flatMap enc).drop (j * n))[i]? = (l.flatMap enc)[j * n + i]? := List.getElem?_drop
  rw [← h2, h, List.drop_eq_getElem_cons hj, List.flatMap_cons, List.getElem?_append_left (by rw [hn]; exact hi)]
/-- A piece laid over a list, seen up to a place. -/
theorem lay_take {β : Type} {xs ys vs : List β} {N o : Nat} (h : xs.take N = ys) (ho : o + vs.length ≤ N) (hN : N ≤ xs.length) : (xs.take o ++ vs ++ xs.drop (o + vs.length)).take N = ys.take o ++ vs ++ ys.drop (o + vs.length) := by
  subst h
  rw [List.append_assoc, List.append_assoc, List.take_append, List.length_take, Nat.min_eq_left (by omega), List.take_of_length_le (by rw [List.length_take]; omega), List.take_append, List.take_of_length_le (l := vs) (by omega), List.take_drop, List.drop_take]
  rw [List.take_take, Nat.min_eq_left (by omega)]
  congr 2
  rw [List.drop_take]
  congr 1
  omega
theorem reps_flat : ∀ (xs : List α) (inner : List Value), inner.length = xs.length * n → (∀ j p, xs[j]? = some p → (inner.drop (j * n)).take n = enc p) → inner = xs.flatMap enc
  | [], inner, hl, _ => List.eq_nil_of_length_eq_zero (by simpa using hl)
  | x :: xs, inner, hl, hp => by
    have h0 := hp 0 x rfl
    rw [Nat.zero_mul, List.drop_zero] at h0
    have hr := reps_flat xs (inner.drop n) (by rw [List.length_drop, hl, List.length_cons, Nat.succ_mul]; omega) (fun j p hj => by
      have := hp (j + 1) p (by simpa using hj)
      rw [Nat.succ_mul] at this
      rw [List.drop_drop, show n + j * n = j * n + n by omega]
      exact this)
    rw [List.flatMap_cons, ← h0, ← hr, List.take_append_drop]
end
end Go.Proofs.Ytdkbhbolkieeiaa.K
namespace Go.Proofs.YtdkbhbolkieeiaaW.PrintWords
open Go.RowKit Go.Proofs.Ytdkbhbolkieeiaa.K
namespace Kd
/-- A block whose cells begin with a list's reads as that list. -/
theorem C_blk {α : Type} {n : Nat} {enc : α → List Value} {hn : ∀ x, (enc x).length = n} {h1 : ∀ x, ∀ u ∈ enc x, u.oneCell' = true} {W : World} {g : Nat} {cs : Array Value} {t : TypeId} {xs : List α} (BK : W.heap[g]? = some (.cells cs t (0, 0)))
    (h : cs.toList.take (xs.length * n) = xs.flatMap enc) (hm : xs.length ≤ 9223372036854775807) : (flat n enc hn h1).C W (some ⟨g, 0, none⟩) xs.length xs := by
  refine ⟨rfl, hm, fun _ => ⟨⟨g, 0, none⟩, rfl, fun j p hp => ?_⟩⟩
  obtain ⟨hj, rfl⟩ := List.getElem?_eq_some_iff.1 hp
  refine ⟨enc xs[j], hn _, rfl, fun i u hu => ?_⟩
  have hi : i < n := by
    have := (List.getElem?_eq_some_iff.1 hu).1
    rw [hn] at this; exact this
  have hlt : j * n + i < xs.length * n := by
    have : (j + 1) * n ≤ xs.length * n := Nat.mul_le_mul_right n (by omega)
    rw [Nat.succ_mul] at this
    omega
  show W.cell? ((⟨g, 0, none⟩ : Addr).add (j * n + i)) = some u
  rw [add_plain, blk_cell BK, ← hu, ← flat_get hn xs hj hi, ← h, List.getElem?_take_of_lt hlt, Array.getElem?_toList]
/-- An own row of plain structs is such a block. -/
theorem R_blk {α : Type} {n : Nat} {enc : α → List Value} {hn : ∀ x, (enc x).length = n} {h1 : ∀ x, ∀ u ∈ enc x, u.oneCell' = true} {W : World} {e base : Nat} {ok : Nat → Prop} {v : Value} {xs : List α} (h : (flat n enc hn h1).R e W base ok v xs) (h0 : 0 < xs.length) :
    ∃ g c cs, v = .slice (some ⟨g, 0, none⟩) xs.length c ∧ base ≤ g ∧ xs.length ≤ c ∧ W.heap[g]? = some (.cells cs e (0, 0)) ∧ cs.size = c * n ∧ cs.toList.take (xs.length * n) = xs.flatMap enc := by
  obtain ⟨_, inner, hown, hrep⟩ := h
  rcases hown.2 with ⟨_, hx0⟩ | ⟨g, cap, cur, hv, hb, hh, hnc, hcm, hcs, htake⟩
  · omega
  refine ⟨g, cap, cur, hv, hb, hnc, hh, hcs, ?_⟩
  have hin : inner = xs.flatMap enc := by
    obtain ⟨hl, hp⟩ := hrep
    exact reps_flat xs inner hl hp
  rw [← hin]
  exact htake
end Kd
end Go.Proofs.YtdkbhbolkieeiaaW.PrintWords
