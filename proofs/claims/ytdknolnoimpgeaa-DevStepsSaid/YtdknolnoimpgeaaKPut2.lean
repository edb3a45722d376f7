/- copy of a whole row of plain structs into an own row as long. -/
import Derived.Test.YtdknolnoimpgeaaKPut
import Derived.Laws.CopyRow
import Derived.Laws.Append
namespace Go.Proofs.YtdknolnoimpgeaaW.PrintWords
open Go.RowKit Go.Proofs.Ytdknolnoimpgeaa.K
set_option linter.unusedVariables false
namespace Kd
theorem run_copyF {P : Program} {α : Type} {n : Nat} {enc : α → List Value} {hn : ∀ x, (enc x).length = n} {h1 : ∀ x, ∀ u ∈ enc x, u.oneCell' = true} {W : World} {e base : Nat} {ok : Nat → Prop} {v : Value} {xs ys : List α} (t t' ty : TypeId)
    (ht : P.underlying t = some (.slice e)) (hinfo : (P.info? e).map (·.size) = some n) (h : (flat n enc hn h1).R e W base ok v xs) {A : Option Addr} {c : Nat} (hr : (flat n enc hn h1).C W A ys.length ys) (hl : ys.length = xs.length) :
    ∃ w1, (Builtin.copy_ #[t, t'] ty #[v, .slice A ys.length c]).run P W = .ok (goInt (ys.length : Int)) w1 ∧ (flat n enc hn h1).R e w1 base ok v ys ∧ W.grownBy w1 v.ownBlock := by
  obtain ⟨ie, hie, hsz⟩ := Option.map_eq_some_iff.1 hinfo
  rcases Nat.eq_zero_or_pos ys.length with h0 | h0
  · have hx0 : xs = [] := List.length_eq_zero_iff.1 (by omega)
    have hy0 : ys = [] := List.length_eq_zero_iff.1 h0
    subst hx0 hy0
    obtain ⟨A', c', hv⟩ := R_slice h
    subst hv
    refine ⟨W, ?_, h, grown_of_below (Below.refl _ _) _⟩
    have hf : ∀ A, (Builtin.firstCells ie.size 0 (.slice A 0 c)).run P W = .ok #[] W := by
      intro A
      cases A with
      | none => exact run_firstCells_none (P := P) W _ 0 0 c
      | some a => exact run_firstCells_some (P := P) W _ 0 a 0 c [] (by simp) (by simp)
    cases A' <;> simp [Builtin.copy_, run_underlying ht, Builtin.lenOf, sizeOf, typeInfo, hie, hf, storeCells]
  obtain ⟨hok, inner, hown, hrep⟩ := h
  rcases hown.2 with ⟨_, hx0⟩ | ⟨g, cap, cur, hv, hb, hh, hnc, hcm, hcs, htake⟩
  · omega
  replace hcs : cur.size = cap * n := hcs
  have q2 : ys.length * n ≤ cap * n := Nat.mul_le_mul_right n (by omega)
  have hfl : (ys.flatMap enc).length = ys.length * n := flat_len hn ys
  obtain ⟨ad, rfl, _⟩ := at_flat hr (j := 0) h0
  have hsrc : ∀ j u, (ys.flatMap enc)[j]? = some u → W.cell? (ad.add j) = some u := by
    intro j u hu
    have hj : j < ys.length * n := by have := (List.getElem?_eq_some_iff.1 hu).1; omega
    have hn0 : 0 < n := by rcases Nat.eq_zero_or_pos n with h | h; subst h; omega; exact h
    have hm : j / n < ys.length := (Nat.div_lt_iff_lt_mul hn0).2 hj
    obtain ⟨ad', he, hx⟩ := at_flat hr hm
    cases he
    have h2 := flat_get (n := n) (enc := enc) hn ys (j := j / n) (i := j % n) hm (Nat.mod_lt _ hn0)
    rw [Nat.div_add_mod' j n] at h2
    rw [hu] at h2
    have h3 := hx (j % n) u h2.symm
    rwa [Nat.div_add_mod' j n] at h3
  have hf := run_firstCells_some (P := P) W n ys.length ad ys.length c (ys.flatMap enc) hfl hsrc
  have hst := run_storeCells_at P g 0 e (ys.flatMap enc) 0 cur W hh (by rw [hfl]; omega) (fun u hu => by obtain ⟨x, _, hx⟩ := List.mem_flatMap.1 hu; exact h1 x u hx)
  subst hv
  have hsf : (cur.toList.take (0 + 0) ++ ys.flatMap enc ++ cur.toList.drop (0 + 0 + (ys.flatMap enc).length)).toArray.size = cur.size := by simp [hfl]; omega
  refine ⟨W.setRow g _, ?_, ⟨hok, ys.flatMap enc, ⟨flat_len hn _, .inr ⟨g, cap, _, by rw [hl], hb, setRow_heap W g cur _ e _ hh, by omega, hcm, hsf.trans hcs, ?_⟩⟩, flat_len hn _, fun j p hp => ?_⟩, ?_⟩
  · simp [Builtin.copy_, run_underlying ht, Builtin.lenOf, sizeOf, typeInfo, hie, hsz, hl] at hst ⊢
    rw [hl] at hf
    simp [hf, hst]
  · show List.take (ys.length * n) _ = _
    rw [← hfl]
    simp only [Nat.add_zero, List.take_zero, List.nil_append, Nat.zero_add]
    rw [List.take_append_of_le_length (Nat.le_refl _), List.take_length]
  · obtain ⟨hj, rfl⟩ := List.getElem?_eq_some_iff.1 hp
    show ((List.flatMap enc ys).drop (j * n)).take n = _
    rw [flat_drop hn, List.drop_eq_getElem_cons hj, List.flatMap_cons, List.take_append_of_le_length (by rw [hn]; exact Nat.le_refl _), List.take_of_length_le (by rw [hn]; exact Nat.le_refl _)]
  · exact ⟨rfl, rfl, rfl, by simp [World.setRow], fun k _ hk => setRow_other _ _ _ _ (fun he => hk (by rw [he]; rfl))⟩
end Kd
end Go.Proofs.YtdknolnoimpgeaaW.PrintWords
