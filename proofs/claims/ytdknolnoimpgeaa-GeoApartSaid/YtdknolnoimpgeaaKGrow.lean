/- append onto a full row that is only read: a new row of one's own. -/
import Derived.Test.YtdknolnoimpgeaaKC
import Derived.ArgAppend
import Derived.Lib.SlBytesConst
namespace Go.Proofs.YtdknolnoimpgeaaW.PrintWords
open Go.RowKit
namespace Kd
section
variable {P : Program} {ops : Array Oper} {rest : List Oper} {o : Oper} {a : Act} {Q : Exit → Act → World → Prop}
theorem R_grows {k : IntKind} {w0 W : World} (base : Nat) (hgd : o.guard = none) (s x : Operand) (t e : TypeId) (z : Value) (bytes : Nat)
    (ho : o.op = .call { callee := .builtin .append, args := #[s, x], argTypes := #[t, t] })
    (ht : P.underlying t = some (.slice e)) (hinfo : (P.info? e).map (fun i => (i.zero, i.size, i.bytes)) = some (some z, 1, bytes)) (hz : z.cells.size = 1) (hb0 : 0 < bytes)
    (ad ad2 : Addr) (n c m c2 : Nat) (xs ys : List Int) (hs : a.eval s = .slice (some ad) n c) (hx : a.eval x = .slice (some ad2) m c2)
    (hxn : xs.length = n) (hym : ys.length = m) (HX : ∀ j, j < n → W.cell? (ad.add j) = some (.int k (xs.getD j 0))) (HY : ∀ j, j < m → W.cell? (ad2.add j) = some (.int k (ys.getD j 0)))
    (hfull : c < n + m) (HB : Below base w0 W) (hbase : base ≤ W.heap.size) (hl : (n + m) * bytes ≤ 140737488355328)
    (h : ∀ v1 w1, (Kd.int k).R e w1 base (fun _ => True) v1 (xs ++ ys) → Below base w0 w1 → wpList P ops Q rest (a.put o.dst v1) w1) : wpList P ops Q (o :: rest) a W := by
  subst hxn
  subst hym
  obtain ⟨i0, hi, hzz⟩ := Option.map_eq_some_iff.1 hinfo
  simp only [Prod.mk.injEq] at hzz
  obtain ⟨hz0, hz1, hz2⟩ := hzz
  have hlen : xs.length + ys.length ≤ 140737488355328 := Nat.le_trans (Nat.le_mul_of_pos_right _ hb0) hl
  have hget : ∀ (zs : List Int) (b : Addr), (∀ j, j < zs.length → W.cell? (b.add j) = some (.int k (zs.getD j 0))) → ∀ (j : Nat) (u : Value), (zs.map (Value.int k))[j]? = some u → W.cell? (b.add j) = some u := by
    intro zs b hb j u hu
    rcases Nat.lt_or_ge j zs.length with hj | hj
    · rw [hb j hj, ← hu]
      simp [List.getD_eq_getElem?_getD, hj]
    · rw [List.getElem?_eq_none (by simpa using hj)] at hu
      cases hu
  refine wpList_append_grows (P := P) W hgd s x t ho e i0 z 1 bytes ht hi hz0 hz1 hz2 hz Nat.one_pos (some ad) xs.length c (xs.map (Value.int k)) hs (by simp) (by simp)
    (fun b hb j u hu => by cases hb; exact hget xs ad HX j u hu) ad2 ys.length c2 (ys.map (Value.int k)) hx (by simp) (hget ys ad2 HY)
    (by intro u hu; simp only [List.mem_map] at hu; obtain ⟨q, _, rfl⟩ := hu; rfl) hfull (by simp only [maxLen]; omega) hl ?_
  intro v' w' hown hg
  have hR : (Kd.int k).R e w' W.heap.size (fun _ => True) v' (xs ++ ys) := R_of_own (by rw [List.length_append]; simpa [encs] using hown) (fun _ _ => trivial)
  exact h v' w' (R_lower hR hbase) (HB.grown hg hbase (fun k hk => by cases hk))
theorem conv_bytes_at {P : Program} (W : World) (t e : TypeId) (C : Array Value) (n c g : Nat) (hg : W.heap.size = g) (ht : P.underlying t = some (.slice e)) (he : P.underlying e = some (.int .u8)) :
    (convert t t (.slice (some ⟨g, 0, none⟩) n c)).run P (W.alloc (.cells C e)) = .ok (.slice (some ⟨g, 0, none⟩) n c) (W.alloc (.cells C e (C.size, C.size + 1))) := by
  subst hg
  exact Lib.run_convert_bytes_const W t e C n c ht he
theorem cell_new {W : World} {C : Array Value} {e : TypeId} {fz : Nat × Nat} {g j : Nat} {v : Value} (hg : W.heap.size = g) (h : C[j]? = some v) : (W.alloc (.cells C e fz)).cell? ⟨g, j, none⟩ = some v := by
  subst hg
  have h1 := heap_alloc_new W (.cells C e fz)
  unfold World.cell?
  rw [h1]
  exact h
theorem cell_old {W : World} {a : Addr} {v : Value} (o : Obj) (h : W.cell? a = some v) : (W.alloc o).cell? a = some v := Lib.cell?_alloc_marked o h
end
end Kd
end Go.Proofs.YtdknolnoimpgeaaW.PrintWords
