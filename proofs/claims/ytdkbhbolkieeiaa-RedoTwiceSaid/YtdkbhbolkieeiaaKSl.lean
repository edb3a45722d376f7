/- Slices of bytes as values; what is made empty. -/
import Derived.Test.YtdkbhbolkieeiaaKCopyB
import Derived.Test.YtdkbhbolkieeiaaKBytes
namespace Go.Proofs.YtdkbhbolkieeiaaW.PrintWords
open Go.RowKit Go.Proofs.Ytdkbhbolkieeiaa.K
namespace Kd
/-- A kind that is only read. -/
def ofK {α : Type} (sz : Nat) (K : World → α → List Value → Prop) (hl : ∀ {w x cs}, K w x cs → cs.length = sz) (ho : ∀ {w x cs}, K w x cs → ∀ u ∈ cs, u.oneCell' = true) (hb : ∀ {w w1 : World} {x cs}, Below w.heap.size w w1 → K w x cs → K w1 x cs) : Kd α where
  sz := sz
  E := []
  K := K
  M := fun _ _ _ _ _ => False
  K_len := hl
  K_one := ho
  K_below := hb
  K_of_M := fun h => h.elim
  M_mono := fun _ h => h.elim
  M_bound := fun h => h.elim
  M_move := fun _ h => h.elim
  M_lower := fun _ h => h.elim
theorem C_blkJ {k : IntKind} {W : World} {g : Nat} {cs : Array Value} {t : TypeId} {xs : List Int} (BK : W.heap[g]? = some (.cells cs t (0, 0))) (h : cs.toList.take xs.length = xs.map (fun v => Value.int k v)) (hm : xs.length ≤ 9223372036854775807) : (Kd.int k).C W (some ⟨g, 0, none⟩) xs.length xs := by
  refine ⟨rfl, hm, fun _ => ⟨⟨g, 0, none⟩, rfl, fun j p hp => ⟨[.int k p], rfl, rfl, fun i u hu => ?_⟩⟩⟩
  obtain ⟨hj, rfl⟩ := List.getElem?_eq_some_iff.1 hp
  have hi : i = 0 := by have := (List.getElem?_eq_some_iff.1 hu).1; simp at this; exact this
  subst hi
  show W.cell? ((⟨g, 0, none⟩ : Addr).add (j * 1 + 0)) = some u
  rw [add_plain, blk_cell BK, ← hu, Nat.mul_one, Nat.add_zero]
  have h2 : (cs.toList.take xs.length)[j]? = (xs.map (fun v => Value.int k v))[j]? := by rw [h]
  rw [List.getElem?_take_of_lt hj, Array.getElem?_toList] at h2
  rw [h2, List.getElem?_map, List.getElem?_eq_getElem hj]
  rfl
end Kd
end Go.Proofs.YtdkbhbolkieeiaaW.PrintWords
namespace Go.Proofs.Ytdkbhbolkieeiaa.K
open Go.RowKit Go.Proofs.YtdkbhbolkieeiaaW.PrintWords Go.Proofs.YtdkbhbolkieeiaaW.PrintLast Go.Proofs.YtdkbhbolkieeiaaW.PrintMore
set_option linter.unusedVariables false
set_option linter.unusedSimpArgs false
/-- A slice of bytes, and where it lies. -/
structure Sl where
  A : Option Addr
  c : Nat
  l : List Int
def Sl.enc (x : Sl) : Value := .slice x.A x.l.length x.c
abbrev kSl : Kd Sl := Kd.scalar Sl.enc (fun _ => rfl)
abbrev TBs : TypeId := 44
theorem slinfo : (Try.prog.info? TBs).map (fun i => (i.zero, i.size, i.bytes)) = some (some (.slice none 0 0), 1, 24) := by kernel_rfl
theorem R_empty (W : World) (t : TypeId) : Kd.R (Kd.int .u8) t (W.alloc (.cells #[] t)) W.heap.size (fun _ => True) (.slice (some ⟨W.heap.size, 0, none⟩) 0 0) [] :=
  Kd.R_of_own ⟨by simp [encs], .inr ⟨W.heap.size, 0, #[], rfl, Nat.le_refl _, heap_alloc_new _ _, Nat.zero_le _, by decide, by simp, by simp [encs]⟩⟩ (fun _ _ => trivial)
/-- A slice of bytes that is a block of bytes from its head on. -/
def U8 (W : World) (x : Sl) : Prop := ∃ (g : Nat) (cs : Array Value), x.A = some ⟨g, 0, none⟩ ∧ W.heap[g]? = some (.cells cs 5 (0, 0)) ∧ cs.toList.take x.l.length = x.l.map (fun v => Value.int .u8 v) ∧ x.l.length ≤ 9223372036854775807
theorem U8.below {W W' : World} {x : Sl} (h : U8 W x) (hb : Below W.heap.size W W') : U8 W' x := by
  obtain ⟨g, cs, hA, bk, hc, hl⟩ := h
  exact ⟨g, cs, hA, blk_below bk hb, hc, hl⟩
theorem U8.grown {W W' : World} {x : Sl} (h : U8 W x) {row : Option Nat} (hg : W.grownBy W' row) (hn : ∀ g cs, W.heap[g]? = some (.cells cs 5 (0, 0)) → some g ≠ row) : U8 W' x := by
  obtain ⟨g, cs, hA, bk, hc, hl⟩ := h
  exact ⟨g, cs, hA, blk_grown bk hg (fun e => hn g cs bk e), hc, hl⟩
theorem U8.ofR {W : World} {b : Nat} {ok : Nat → Prop} {A : Option Addr} {n c : Nat} {xs : List Int} (h : (Kd.int .u8).R 5 W b ok (.slice A n c) xs) (h0 : 0 < xs.length) : U8 W ⟨A, c, xs⟩ := by
  obtain ⟨g, c', cs, hv, _, hl, hm, bk, _, ht⟩ := Kd.R_blkS h h0
  cases hv
  exact ⟨g, cs, rfl, bk, ht, Nat.le_trans hl hm⟩
theorem U8.set {W : World} {x : Sl} (h : U8 W x) {k t : Nat} {cs0 : Array Value} (bk0 : W.heap[k]? = some (.cells cs0 t (0, 0))) (ht : t ≠ 5) (j : Nat) (u : Value) : U8 (W.setCell ⟨k, j, none⟩ u) x := by
  obtain ⟨g, cs, hA, bk, hc, hl⟩ := h
  refine ⟨g, cs, hA, (Below.heap_setCell W ⟨k, j, none⟩ u g fun e => ?_).trans bk, hc, hl⟩
  have e : g = k := e
  subst e
  rw [bk] at bk0
  simp only [Option.some.injEq, Obj.cells.injEq] at bk0
  exact ht bk0.2.1.symm
theorem exec_empty {P : Program} {o : Oper} {a : Act} {t e : TypeId} (ho : o.op = .buildSlice t 0 #[]) (hu : P.underlying t = some (.slice e)) (hi : (P.info? e).isSome = true) (W : World) :
    (execOp a.eval o).run P W = .ok (.value (.slice (some ⟨W.heap.size, 0, none⟩) 0 0)) (W.alloc (.cells #[] e)) := by
  obtain ⟨i, hi⟩ := Option.isSome_iff_exists.1 hi
  simp [execOp, ho, Instr.buildSlice, run_underlying hu, sizeOf, typeInfo, hi, Instr.fill, newRow, Result.andThen, show Array.range 0 = #[] from rfl]
/-- Rows of elements of two types are apart. -/
theorem R_typed_ne {α β : Type} {d : Kd α} {d' : Kd β} {e e' b b' : Nat} {W : World} {ok ok' : Nat → Prop} {v u : Value} {xs : List α} {ys : List β} (h : d.R e W b ok v xs) (h' : d'.R e' W b' ok' u ys) (_hE : d.E = []) (ht : e' ≠ e) : ∀ k, v.ownBlock = some k → some k ≠ u.ownBlock := fun k hk => by
  obtain ⟨inner, ho⟩ := Kd.R_own h
  obtain ⟨cells, hc⟩ := own_typed ho k hk
  exact Kd.R_ne h' hc ht
theorem exec_copy {P : Program} {o : Oper} {a : Act} {W W' : World} {d x : Operand} {t t' : TypeId} {u v r : Value} (ho : o.op = .call { callee := .builtin .copy, args := #[d, x], argTypes := #[t, t'] }) (hd : a.eval d = u) (hx : a.eval x = v) (h : (Builtin.copy_ #[t, t'] o.type #[u, v]).run P W = .ok r W') : (execOp a.eval o).run P W = .ok (.value r) W' := by
  simp [execOp, ho, resolve, invoke, builtin, hd, hx, h, Result.andThen]
/-- copy(s, ys) into a block, whatever ys' length. -/
theorem run_copyBlkG {P : Program} {W : World} (ty t t' e : TypeId) (ht : P.underlying t = some (.slice e)) (hinfo : (P.info? e).map (·.size) = some 1) (g off n cap : Nat) (ys : List Int) (A : Option Addr) (m c : Nat)
    {cs : Array Value} {te : TypeId} (BK : W.heap[g]? = some (.cells cs te (0, 0))) (hlt : off + n ≤ cs.size) (HR : (Kd.int .u8).C W A m ys) :
    ∃ w1 cs', (Builtin.copy_ #[t, t'] ty #[.slice (some ⟨g, off, none⟩) n cap, .slice A m c]).run P W = .ok (goInt ((min m n : Nat) : Int)) w1 ∧ w1.heap[g]? = some (.cells cs' te (0, 0)) ∧ cs'.size = cs.size ∧ cs'.toList = cs.toList.take off ++ (ys.take (min m n)).map (Value.int .u8) ++ cs.toList.drop (off + min m n) ∧ W.grownBy w1 (some g) := by
  rcases Nat.eq_zero_or_pos m with h0 | h0
  · subst h0
    have hmn : min 0 n = 0 := by omega
    have hr := run_copy_none (P := P) W t t' ty e (some ⟨g, off, none⟩) A n cap 0 c ht hinfo hmn
    refine ⟨W, cs, ?_, BK, rfl, by rw [hmn]; simp, grown_of_below (Below.refl _ _) _⟩
    rw [hmn]
    exact hr
  · exact Kd.run_copyBlk (h1 := fun _ => rfl) (0 : Int) ty t t' e ht hinfo g off n cap ys A m c h0 BK hlt HR
/-- make([]byte, 0, n): room of one's own. -/
theorem R_roomJ (W : World) (Zc : Array Value) (n : Nat) (hn : Zc.size = n) (hm : n ≤ 9223372036854775807) : Kd.R (Kd.int .u8) 5 (W.alloc (.cells Zc 5)) W.heap.size (fun _ => True) (.slice (some ⟨W.heap.size, 0, none⟩) 0 n) [] :=
  Kd.R_of_own ⟨by simp [encs], .inr ⟨W.heap.size, n, Zc, rfl, Nat.le_refl _, heap_alloc_new _ _, Nat.zero_le _, by simpa [maxLen] using hm, by omega, by simp [encs]⟩⟩ (fun _ _ => trivial)
end Go.Proofs.Ytdkbhbolkieeiaa.K
