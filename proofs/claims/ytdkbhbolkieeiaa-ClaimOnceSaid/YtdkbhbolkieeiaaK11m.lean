/- Maps from blocks to slots (chapter 11): what a map in memory says, as a function. -/
import Derived.Test.YtdkbhbolkieeiaaKIn
import Derived.Test.YtdkbhbolkieeiaaKS11
import Derived.Maps.Own
import Derived.Maps.OwnSet
import Derived.Maps.Range
import Derived.Maps.RangeWalk
namespace Go.Proofs.Ytdkbhbolkieeiaa.K
open Go.RowKit Go.Maps Go.ChangeMaps Go.Proofs.YtdkbhbolkieeiaaW.PrintWords Go.Proofs.YtdkbhbolkieeiaaW.PrintLast Go.Proofs.YtdkbhbolkieeiaaW.PrintMore
set_option linter.unusedVariables false
set_option linter.unusedSimpArgs false
abbrev DU := DataW Unit
theorem keyI : Keyed Try.prog 3 := int_keyed Try.underlying3
def slotElem : Value → Option (DU × List MemPlace)
  | .agg cs => match cs.toList with
    | [.int .i64 a, .int .i64 b] => some (.agg [.lit (.int .i64 a), .lit (.int .i64 b)], [])
    | _ => none
  | _ => none
theorem slotElem_mk (a b : Int) : slotElem (.agg #[.int .i64 a, .int .i64 b]) = some (.agg [.lit (.int .i64 a), .lit (.int .i64 b)], []) := rfl
theorem slotElem_inv {v : Value} {z : DU × List MemPlace} (h : slotElem v = some z) : ∃ a b, v = .agg #[.int .i64 a, .int .i64 b] ∧ z = (.agg [.lit (.int .i64 a), .lit (.int .i64 b)], []) := by
  unfold slotElem at h
  split at h
  · rename_i cs
    split at h
    · rename_i a b he
      cases h
      refine ⟨a, b, ?_, rfl⟩
      have : cs = #[.int .i64 a, .int .i64 b] := Array.toList_inj.1 he
      rw [this]
    · cases h
  · cases h
/-- A slot as a value, as a datum. -/
abbrev slotV (s : Nat × Nat) : Value := .agg #[.int .i64 ((s.1 : Int) + 1), .int .i64 (s.2 : Int)]
def slotD (s : Nat × Nat) : DU := .agg [.lit (.int .i64 ((s.1 : Int) + 1)), .lit (.int .i64 (s.2 : Int))]
theorem slotD_inj {s t : Nat × Nat} (h : slotD s = slotD t) : s = t := by
  unfold slotD at h
  injection h with h
  injection h with h1 h
  injection h with h2 _
  injection h1 with h1
  injection h2 with h2
  injection h1 with _ h1
  injection h2 with _ h2
  obtain ⟨a, b⟩ := s
  obtain ⟨c, d⟩ := t
  simp only [Prod.mk.injEq]
  simp only at h1 h2
  omega
theorem slotV_of {v : Value} {s : Nat × Nat} {ps : List MemPlace} (h : slotElem v = some (slotD s, ps)) : v = slotV s := by
  obtain ⟨a, b, rfl, hz⟩ := slotElem_inv h
  unfold slotD at hz
  injection hz with h1 _
  injection h1 with h1
  injection h1 with h2 h1
  injection h1 with h3 _
  injection h2 with h2
  injection h3 with h3
  injection h2 with _ h2
  injection h3 with _ h3
  rw [← h2, ← h3]
/-- What a datum says as a map. -/
structure Says (D : DU) (f : Int → Option (Nat × Nat)) : Prop where
  no : ∀ i, f i = none → has D (.int .i64 i) = false
  yes : ∀ i s, f i = some s → has D (.int .i64 i) = true ∧ ∀ zd, D.atKey (.int .i64 i) zd = slotD s
theorem Says.of_has {D : DU} {f : Int → Option (Nat × Nat)} (h : Says D f) (i : Int) : has D (.int .i64 i) = (f i).isSome := by
  cases hf : f i with
  | none => exact h.no i hf
  | some s => exact (h.yes i s hf).1
theorem Says.put {D : DU} {f : Int → Option (Nat × Nat)} (h : Says D f) (hD : IsMap D) (i : Int) (s : Nat × Nat) : Says (D.put (.int .i64 i) (slotD s)) (fun j => if j = i then some s else f j) := by
  constructor
  · intro j hj
    by_cases e : j = i
    · rw [if_pos e] at hj; cases hj
    · rw [if_neg e] at hj
      rw [has_put_other (by simpa using e)]
      exact h.no j hj
  · intro j t hj
    by_cases e : j = i
    · rw [if_pos e] at hj
      cases hj
      subst e
      exact ⟨has_put_same hD (show WideAt.IsKeyLit (Lit.int .i64 j) from trivial) _, fun zd => atKey_put_same hD (show WideAt.IsKeyLit (Lit.int .i64 j) from trivial) _ _⟩
    · rw [if_neg e] at hj
      obtain ⟨h1, h2⟩ := h.yes j t hj
      exact ⟨by rw [has_put_other (by simpa using e)]; exact h1, fun zd => by rw [atKey_put_other (by simpa using e)]; exact h2 zd⟩
/-- A map in block b says f. -/
def MapOk (w : World) (b n : Nat) (f : Int → Option (Nat × Nat)) : Prop := ∃ D : DU, w.ownsMap Try.prog 3 slotElem b n D ∧ Says D f
theorem MapOk.lt {w : World} {b n : Nat} {f : Int → Option (Nat × Nat)} (h : MapOk w b n f) : b < w.heap.size := by
  obtain ⟨D, h, _⟩ := h
  exact h.lt
theorem MapOk.kept {w w' : World} {b n : Nat} {f : Int → Option (Nat × Nat)} (h : MapOk w b n f) {row : Option Nat} (hg : w.grownBy w' row) (hne : some b ≠ row) : MapOk w' b n f := by
  obtain ⟨D, h, hs⟩ := h
  exact ⟨D, h.kept hg hne, hs⟩
theorem grown_below {w w' : World} (h : Below w.heap.size w w') : w.grownBy w' none := ⟨h.os, h.tape, h.output, h.size, fun k hk _ => h.block k hk⟩
theorem MapOk.below {w w' : World} {b n : Nat} {f : Int → Option (Nat × Nat)} (h : MapOk w b n f) (hb : Below w.heap.size w w') : MapOk w' b n f := h.kept (grown_below hb) (by simp)
theorem MapOk.congr {w : World} {b n : Nat} {f f' : Int → Option (Nat × Nat)} (h : MapOk w b n f) (e : ∀ i, f i = f' i) : MapOk w b n f' := by
  have : f = f' := funext e
  rwa [← this]
theorem MapOk.mono {w : World} {b n n' : Nat} {f : Int → Option (Nat × Nat)} (h : MapOk w b n f) (e : n ≤ n') : MapOk w b n' f := by
  obtain ⟨D, h, hs⟩ := h
  exact ⟨D, h.mono e, hs⟩
theorem mapOk_made (w : World) : MapOk (w.alloc (.map #[] 0)) w.heap.size 0 (fun _ => none) :=
  ⟨_, World.ownsMap_made w _ _ _, ⟨fun _ _ => rfl, fun _ _ h => by cases h⟩⟩
section
variable {ops : Array Oper} {rest : List Oper} {o : Oper} {a : Act} {Q : Exit → Act → World → Prop}
theorem zeroSlot (w : World) : (zeroValue 72).run Try.prog w = .ok (.agg #[.int .i64 0, .int .i64 0]) w := by kernel_rfl
/-- 'm[i] = s'. -/
theorem wpList_mput (w : World) (hg : o.guard = none) (m x v : Operand) (t : TypeId) (hop : o.op = Op.mapUpdate t m x v) (ht : Try.prog.underlying t = some (.map 3 72)) (b n : Nat) (f : Int → Option (Nat × Nat)) (i : Int) (s : Nat × Nat)
    (hm : a.eval m = .map (some b)) (h : MapOk w b n f) (hn : n < maxLen) (hx : a.eval x = .int .i64 i) (hv : a.eval v = slotV s) (hi : (Lit.int .i64 i).wf = true)
    (hK : ∀ w', MapOk w' b (n + 1) (fun j => if j = i then some s else f j) → w.grownBy w' (some b) → wpList Try.prog ops Q rest (a.put o.dst undef) w') :
    wpList Try.prog ops Q (o :: rest) a w := by
  obtain ⟨D, hD, hs⟩ := h
  exact wpList_mapUpdate_own w hg m x v t hop 3 72 keyI ht slotElem b n D hm hD hn (.int .i64 i) (slotV s) (.int .i64 i) hx hv (keyOf_int_mk Try.underlying3 hi) (slotD s) [] rfl (fun w' h1 h2 => hK w' ⟨_, h1, hs.put hD.isMap i s⟩ h2)
def lookV : Option (Nat × Nat) → Value
  | none => .agg #[.int .i64 0, .int .i64 0]
  | some s => slotV s
set_option maxRecDepth 100000 in
/-- 's, ok := m[i]'. -/
theorem wpList_mlook (w : World) (hg : o.guard = none) (m x : Operand) (t : TypeId) (hop : o.op = Op.lookup t m x true) (ht : Try.prog.underlying t = some (.map 3 72)) (b n : Nat) (f : Int → Option (Nat × Nat)) (i : Int)
    (hm : a.eval m = .map (some b)) (h : MapOk w b n f) (hx : a.eval x = .int .i64 i) (hi : (Lit.int .i64 i).wf = true) (r : Option (Nat × Nat)) (hr : f i = r)
    (hK : wpList Try.prog ops Q rest (a.put o.dst (.tuple #[lookV r, .bool r.isSome])) w) :
    wpList Try.prog ops Q (o :: rest) a w := by
  obtain ⟨D, hD, hs⟩ := h
  refine wpList_lookup_own_ok w hg m x t hop 3 72 keyI ht slotElem (zeroSlot w) _ [] (slotElem_mk 0 0) b n D hm hD (.int .i64 i) (.int .i64 i) hx (keyOf_int_mk Try.underlying3 hi) (fun v ps hv => ?_)
  rw [hs.of_has, hr]
  cases r with
  | none =>
    have : v = lookV none := by
      rw [atKey_of_not_has (hs.no i hr)] at hv
      obtain ⟨a, b, rfl, hz⟩ := slotElem_inv hv
      injection hz with h1 _
      injection h1 with h1
      injection h1 with h2 h1
      injection h1 with h3 _
      injection h2 with h2
      injection h3 with h3
      injection h2 with _ h2
      injection h3 with _ h3
      rw [← h2, ← h3]; rfl
    rw [this]; exact hK
  | some s =>
    rw [(hs.yes i s hr).2] at hv
    rw [slotV_of hv]; exact hK
/-- A range over a map under way: L i: key i is still to come. -/
def MapRg (w : World) (b r n : Nat) (f : Int → Option (Nat × Nat)) (L : Int → Bool) (cnt : Nat) : Prop := ∃ (D : DU) (left : Lit → Bool), w.ranges Try.prog 3 slotElem b r n D left cnt ∧ Says D f ∧ ∀ i, left (.int .i64 i) = L i
theorem MapRg.left_eq {w : World} {b r n : Nat} {f : Int → Option (Nat × Nat)} {L : Int → Bool} {cnt : Nat} (h : MapRg w b r n f L cnt) : w.rangeLeft b r = cnt := by
  obtain ⟨D, left, h, _⟩ := h
  exact h.left_eq
theorem MapRg.kept {w w' : World} {b r n : Nat} {f : Int → Option (Nat × Nat)} {L : Int → Bool} {cnt : Nat} (h : MapRg w b r n f L cnt) {row : Option Nat} (hg : w.grownBy w' row) (hb : some b ≠ row) (hr : some r ≠ row) : MapRg w' b r n f L cnt := by
  obtain ⟨D, left, h, k⟩ := h
  exact ⟨D, left, h.kept hg hb hr, k⟩
theorem MapRg.lt {w : World} {b r n : Nat} {f : Int → Option (Nat × Nat)} {L : Int → Bool} {cnt : Nat} (h : MapRg w b r n f L cnt) : r < w.heap.size ∧ b < w.heap.size := by
  obtain ⟨D, left, h, _⟩ := h
  exact ⟨h.lt, h.owns.lt⟩
/-- 'range m'. -/
theorem wpList_mrange (w : World) (hg : o.guard = none) (m : Operand) (t : TypeId) (hop : o.op = Op.range t m) (ht : Try.prog.underlying t = some (.map 3 72)) (b n : Nat) (f : Int → Option (Nat × Nat))
    (hm : a.eval m = .map (some b)) (h : MapOk w b n f)
    (hK : ∀ w' cnt, MapRg w' b w.heap.size n f (fun i => (f i).isSome) cnt → Below w.heap.size w w' → w'.heap.size = w.heap.size + 1 → wpList Try.prog ops Q rest (a.put o.dst (.pointer (some ⟨w.heap.size, 0, none⟩))) w') :
    wpList Try.prog ops Q (o :: rest) a w := by
  obtain ⟨D, hD, hs⟩ := h
  exact wpList_range_own w hg m t hop 3 72 keyI ht slotElem b n D hm hD (fun w' h1 h2 h3 => hK w' _ ⟨D, _, h1, hs, fun i => hs.of_has i⟩ ⟨h2.os, h2.tape, h2.output, h2.size, fun k hk => h2.block k hk (by simp)⟩ h3)
set_option maxRecDepth 100000 in
/-- The step. -/
theorem wpList_mnext (w : World) (hg : o.guard = none) (it : Operand) (hop : o.op = Op.next it false) (b r n : Nat) (f : Int → Option (Nat × Nat)) (L : Int → Bool) (cnt : Nat)
    (hit : a.eval it = .pointer (some ⟨r, 0, none⟩)) (h : MapRg w b r n f L cnt)
    (hDone : cnt = 0 → (∀ i, L i = false) → wpList Try.prog ops Q rest (a.put o.dst (.tuple #[.bool false])) w)
    (hMore : ∀ (i : Int) (s : Nat × Nat) (w' : World) (cnt' : Nat), (Lit.int .i64 i).wf = true → L i = true → f i = some s → MapRg w' b r n f (fun j => L j && !decide (j = i)) cnt' → cnt' < cnt → w.grownBy w' (some r) → w'.heap.size = w.heap.size →
      (Instr.entry (.pointer (some ⟨r, 0, none⟩))).run Try.prog w' = .ok (.tuple #[.int .i64 i, slotV s]) w' → wpList Try.prog ops Q rest (a.put o.dst (.tuple #[.bool true, .int .i64 i, slotV s])) w') :
    wpList Try.prog ops Q (o :: rest) a w := by
  obtain ⟨D, left, hR, hs, hL⟩ := h
  refine wpList_next_ranges (α := Int) (β := Int × Int) w hg it hop 3 keyI slotElem (Value.int .i64) (fun c => .agg #[.int .i64 c.1, .int .i64 c.2]) (fun key kl hkey => by obtain ⟨x, rfl, _⟩ := Maps.keyOf_int_inv Try.underlying3 hkey; exact ⟨x, rfl⟩) (fun v y hv => by obtain ⟨a, b, rfl, _⟩ := slotElem_inv hv; exact ⟨(a, b), rfl⟩)
    b r n D left cnt hit hR (fun h0 hl => hDone h0 (fun i => by rw [← hL i]; exact hl _)) (fun x c kl y w' cnt' hkey hlk hv hat hrg hlt hgr hsz hen => ?_)
  obtain ⟨x', ex, rfl, hwx⟩ := Maps.keyOf_int_inv Try.underlying3 hkey
  cases ex
  have hh : has D (.int .i64 x) = true := has_true_of_atKey hat
  rw [hs.of_has] at hh
  obtain ⟨s, hf⟩ := Option.isSome_iff_exists.1 hh
  have hy : y.1 = slotD s := by rw [← hat .nil]; exact (hs.yes x s hf).2 _
  have hvs : (Value.agg #[.int .i64 c.1, .int .i64 c.2]) = slotV s := slotV_of (ps := y.2) (by rw [hv, ← hy])
  rw [hvs] at hen ⊢
  refine hMore x s w' cnt' hwx (by rw [← hL x]; exact hlk) hf ⟨D, _, hrg, hs, fun i => ?_⟩ hlt hgr hsz hen
  simp only [hL]
  congr 1
  by_cases e : i = x
  · subst e; simp [Lit.sameKey]
  · simp [Lit.sameKey, e]
end
end Go.Proofs.Ytdkbhbolkieeiaa.K
