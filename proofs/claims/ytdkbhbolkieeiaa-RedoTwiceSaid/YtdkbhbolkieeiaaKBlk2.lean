/- A store of a struct, and clear, in the middle of a block that is known whole: the world behind is a letter. -/
import Derived.Test.YtdkbhbolkieeiaaKBlk
namespace Go.Proofs.YtdkbhbolkieeiaaW.PrintWords
open Go.RowKit
theorem there_of_blk {w : World} {g o n : Nat} {cs : Array Value} {t : TypeId} (BK : w.heap[g]? = some (.cells cs t (0, 0))) (h : o + n ≤ cs.size) : ∀ j, j < n → (w.cell? ⟨g, o + j, none⟩).isSome = true ∧ w.frozen? ⟨g, o + j, none⟩ = false := fun j hj =>
  ⟨by rw [blk_cell BK, Array.getElem?_eq_getElem (show o + j < cs.size by omega)]; rfl, blk_frozen BK _⟩
theorem grown_setCells (w : World) (g o : Nat) (vs : List Value) : w.grownBy (w.setCells g o vs) (some g) := by
  obtain ⟨s1, s2, s3, s4⟩ := setCells_same g vs o w
  exact ⟨s1, s2, s3, by rw [s4]; exact Nat.le_refl _, fun k _ hk => setCells_far _ _ k (fun he => hk (by rw [he]))⟩
/-- A struct stored at offset o of a block. -/
theorem wpList_store_midL {P : Program} {ops : Array Oper} {rest : List Oper} {op : Oper} {a : Act} {w : World} {Q : Exit → Act → World → Prop} (hgd : op.guard = none) (hd : op.dst = none) (ty : TypeId) (x y : Operand) (ho : op.op = .store ty x y)
    (g o : Nat) (vs : List Value) (hx : a.eval x = .pointer (some ⟨g, o, none⟩)) (hy : a.eval y = .agg vs.toArray) (hi : (P.info? ty).map (·.size) = some vs.length) (h1 : ∀ u ∈ vs, u.oneCell' = true)
    {cs : Array Value} {t : TypeId} (BK : w.heap[g]? = some (.cells cs t (0, 0))) (hlt : o + vs.length ≤ cs.size)
    (h : ∀ w1 cs', w1.heap[g]? = some (.cells cs' t (0, 0)) → cs'.size = cs.size → cs'.toList = cs.toList.take o ++ vs ++ cs.toList.drop (o + vs.length) → w.grownBy w1 (some g) → wpList P ops Q rest a w1) : wpList P ops Q (op :: rest) a w := by
  obtain ⟨cs', h2, h3, h4⟩ := setCells_row vs o w cs BK hlt
  refine wpList_store_mid hgd ty x y ho g o vs.toArray hx hy (by have := there_of_blk BK hlt; simpa [World.there] using this) (by simpa using hi) (all_oneCell_toArray h1) ?_
  rw [hd]
  exact h _ cs' h2 h3 h4 (grown_setCells _ _ _ _)
/-- clear(s) of a slice of a block. -/
theorem wpList_clearL {P : Program} {ops : Array Oper} {rest : List Oper} {op : Oper} {a : Act} {w : World} {Q : Exit → Act → World → Prop} (hgd : op.guard = none) (hd : op.dst = none) (t e : TypeId) (x : Operand)
    (ho : op.op = .call { callee := .builtin .clear, args := #[x], argTypes := #[t] }) (ht : P.underlying t = some (.slice e)) {z : Value} {sz : Nat} (hinfo : (P.info? e).map (fun i => i.zero) = some (some z)) (hz : z.cells.size = sz) (hz1 : ∀ u ∈ z.cells.toList, u.oneCell' = true) (hs0 : 0 < sz)
    (g o n c : Nat) (hx : a.eval x = .slice (some ⟨g, o, none⟩) n c) {cs : Array Value} {te : TypeId} (BK : w.heap[g]? = some (.cells cs te (0, 0))) (hlt : o + n * sz ≤ cs.size)
    (h : ∀ w1 cs', w1.heap[g]? = some (.cells cs' te (0, 0)) → cs'.size = cs.size → cs'.toList.take o = cs.toList.take o → cs'.toList.drop (o + n * sz) = cs.toList.drop (o + n * sz) → (∀ j, j < n * sz → cs'.toList[o + j]? = z.cells[j % sz]?) → w.grownBy w1 (some g) → wpList P ops Q rest a w1) : wpList P ops Q (op :: rest) a w := by
  obtain ⟨i0, hi, hz0⟩ := Option.map_eq_some_iff.1 hinfo
  have hzl : (Builtin.zeroCells z.cells n).toList.length = n * sz := by simp [Builtin.zeroCells, hz]
  have hgz : ∀ j, j < n * sz → (Builtin.zeroCells z.cells n).toList[j]? = z.cells[j % sz]? := by
    intro j hj
    have hm : j % sz < z.cells.size := by rw [hz]; exact Nat.mod_lt _ hs0
    simp only [Builtin.zeroCells, Array.toList_map, Array.toList_range, List.getElem?_map]
    rw [List.getElem?_range (by rw [hz]; exact hj)]
    rw [Option.map_some, Array.getElem?_eq_getElem hm, hz, getElem!_pos z.cells _ hm]
  have h1z : ∀ u ∈ (Builtin.zeroCells z.cells n).toList, u.oneCell' = true := by
    intro u hu
    obtain ⟨j, hj, rfl⟩ := List.getElem_of_mem hu
    have h2 := hgz j (by rw [hzl] at hj; exact hj)
    rw [List.getElem?_eq_getElem hj] at h2
    have hm : j % sz < z.cells.size := by rw [hz]; exact Nat.mod_lt _ hs0
    rw [Array.getElem?_eq_getElem hm] at h2
    rw [Option.some.inj h2]
    exact hz1 _ (by simp)
  obtain ⟨cs', h2, h3, h4⟩ := setCells_row (Builtin.zeroCells z.cells n).toList o w cs BK (by rw [hzl]; exact hlt)
  have hrun : (Builtin.clear_ #[t] op.type #[.slice (some ⟨g, o, none⟩) n c]).run P w = .ok (.tuple #[]) (w.setCells g o (Builtin.zeroCells z.cells n).toList) := by
    rcases Nat.eq_zero_or_pos n with rfl | hn
    · have e0 : (Builtin.zeroCells z.cells 0).toList = [] := List.eq_nil_of_length_eq_zero (by rw [hzl]; simp)
      rw [e0]
      simp [Builtin.clear_, run_underlying ht, Result.andThen, World.setCells]
    · have hT := there_of_blk BK (n := n * sz) hlt
      have hst := run_storeCells_cells (P := P) g o (Builtin.zeroCells z.cells n).toList 0 w (fun j hj => by rw [Nat.add_zero]; exact (hT j (by rw [hzl] at hj; exact hj)).1) (fun j hj => by rw [Nat.add_zero]; exact (hT j (by rw [hzl] at hj; exact hj)).2) h1z
      obtain ⟨n', rfl⟩ : ∃ n', n = n' + 1 := ⟨n - 1, by omega⟩
      simp only [Nat.add_zero] at hst
      simp [Builtin.clear_, run_underlying ht, zeroValue, typeInfo, hi, hz0, hst, Result.andThen]
  have hlo : o ≤ cs.toList.length := by rw [Array.length_toList]; omega
  refine wpList_plain hgd fun K hK => ?_
  unfold Oper.wp execOp
  simp only [ho, resolve, invoke, builtin, Sem.run_bind, Sem.run_pure, Result.andThen_ok, List.map_toArray, List.map_cons, List.map_nil, hx, hrun]
  refine hK _ _ ?_
  rw [hd]
  refine h _ cs' h2 h3 ?_ ?_ ?_ (grown_setCells _ _ _ _)
  · rw [h4, List.append_assoc, List.take_append_of_le_length (by simp; omega), List.take_take, Nat.min_self]
  · rw [h4, hzl, List.drop_append_of_le_length (by simp [hzl]; omega), List.drop_eq_nil_of_le (by simp [hzl]; omega), List.nil_append]
  · intro j hj
    rw [h4, List.append_assoc, List.getElem?_append_right (by simp; omega), List.length_take, Nat.min_eq_left hlo, Nat.add_sub_cancel_left, List.getElem?_append_left (by rw [hzl]; exact hj)]
    exact hgz j hj
end Go.Proofs.YtdkbhbolkieeiaaW.PrintWords
