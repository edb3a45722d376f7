/- What comes in as data is of a kind: a row's arguments opened, whatever their type's depth. -/
import Derived.Test.YtdkbhbolkieeiaaKC
import Derived.Deep.Slices
import Derived.ChangeArms
import Derived.OpenShut
namespace Go.Proofs.Ytdkbhbolkieeiaa.K
open Go.RowKit Go.Deep Go.Proofs.YtdkbhbolkieeiaaW.PrintWords Go.Proofs.YtdkbhbolkieeiaaW.PrintLast Go.Proofs.YtdkbhbolkieeiaaW.PrintMore
set_option linter.unusedVariables false
set_option linter.unusedSimpArgs false
/-- What reads as data of type t is of this kind, and good. -/
def Opens {α : Type} (P : Program) (d : Kd α) (t : TypeId) (good : α → Prop) : Prop :=
  ∀ (H : Type) (enc : TypeId × Value → H) (w : World) (base : Nat) (spare : Nat → Bool) (held : Bool) (fuel : Nat) (cs : List Value) (x : DataW H × List MemPlace),
    DataW.trod enc P w base spare held fuel t cs = some x → ∃ a, d.K w a cs ∧ good a
theorem opens_int {P : Program} {k : IntKind} {t : TypeId} (ht : P.underlying t = some (.int k)) : Opens P (Kd.int k) t (fun n => (Lit.int k n).wf = true) := by
  intro H enc w base spare held fuel cs x h
  obtain ⟨n, rfl, _, hw⟩ := DataW.trod_int ht h
  exact ⟨n, rfl, hw⟩
theorem opens_bool {P : Program} {t : TypeId} (ht : P.underlying t = some .bool) : Opens P Kd.bool t (fun _ => True) := by
  intro H enc w base spare held fuel cs x h
  obtain ⟨b, rfl, _⟩ := DataW.trod_bool ht h
  exact ⟨b, rfl, trivial⟩
theorem opens_string {P : Program} {t : TypeId} (ht : P.underlying t = some .string) : Opens P Kd.string t (fun s => s.size ≤ maxLen) := by
  intro H enc w base spare held fuel cs x h
  obtain ⟨s, rfl, _, hs⟩ := DataW.trod_string ht h
  exact ⟨s, rfl, hs⟩
theorem opens_mono {α : Type} {P : Program} {d : Kd α} {t : TypeId} {good good' : α → Prop} (h : Opens P d t good) (hg : ∀ a, good a → good' a) : Opens P d t good' := by
  intro H enc w base spare held fuel cs x hx
  obtain ⟨a, hk, hga⟩ := h H enc w base spare held fuel cs x hx
  exact ⟨a, hk, hg a hga⟩
theorem opens_iso {α β : Type} {P : Program} {d : Kd α} {t : TypeId} {good : α → Prop} (f : β → α) (g : α → β) (hfg : ∀ a, f (g a) = a) (h : Opens P d t good) : Opens P (Kd.iso d f) t (fun b => good (f b)) := by
  intro H enc w base spare held fuel cs x hx
  obtain ⟨a, hk, hga⟩ := h H enc w base spare held fuel cs x hx
  refine ⟨g a, ?_, by show good (f (g a)); rw [hfg]; exact hga⟩
  show d.K w (f (g a)) cs
  rw [hfg]
  exact hk
theorem opens_slice {α : Type} {P : Program} {d : Kd α} {t e : TypeId} {good : α → Prop} (ht : P.underlying t = some (.slice e)) (hc : P.cellsOf e = d.sz) (he : Opens P d e good) :
    Opens P (Kd.slice e d) t (fun xs => xs.length ≤ 9223372036854775807 ∧ ∀ x ∈ xs, good x) := by
  intro H enc w base spare held fuel cs x h
  rcases open_slice ht h with ⟨rfl, _⟩ | ⟨a, len, cap, m, n, D, Pl, rfl, hb, hl, hm, hmm, _, hx⟩
  · exact ⟨[], ⟨none, 0, rfl, Nat.le_refl _, Kd.C_nil _ _⟩, by simp, fun x hx => by cases hx⟩
  · have hlm : len ≤ m := by rw [hmm]; split <;> omega
    have key : ∀ k, k ≤ len → ∃ xs : List α, xs.length = k ∧ (∀ y ∈ xs, good y) ∧ ∀ j p, xs[j]? = some p → ∃ c, c.length = d.sz ∧ d.K w p c ∧ ∀ i u, c[i]? = some u → w.cell? (a.add (j * d.sz + i)) = some u := by
      intro k
      induction k with
      | zero => exact fun _ => ⟨[], rfl, fun y hy => (List.not_mem_nil hy).elim, fun j p hj => by simp at hj⟩
      | succ k ih =>
        intro hk
        obtain ⟨xs, h1, h2, h3⟩ := ih (by omega)
        obtain ⟨cs', hcs, htr⟩ := hx k (by omega)
        obtain ⟨y, hy, hg⟩ := he H enc w base spare held n cs' _ htr
        obtain ⟨_, hlen, hcell⟩ := World.cells?_some hcs
        rw [hc] at hlen hcell
        refine ⟨xs ++ [y], by simp [h1], fun z hz => ?_, fun j p hj => ?_⟩
        · rcases List.mem_append.1 hz with hz | hz
          · exact h2 z hz
          · rw [List.mem_singleton.1 hz]; exact hg
        · rcases Nat.lt_or_ge j xs.length with g | g
          · rw [List.getElem?_append_left g] at hj
            exact h3 j p hj
          · rw [List.getElem?_append_right g] at hj
            have hj0 : j - xs.length = 0 := by
              rcases Nat.eq_zero_or_pos (j - xs.length) with h0 | h0
              · exact h0
              · rw [List.getElem?_eq_none (by simp; omega)] at hj; cases hj
            rw [hj0] at hj
            obtain rfl := Option.some.inj hj
            have hjk : j = k := by omega
            subst hjk
            refine ⟨cs', hlen, hy, fun i u hu => ?_⟩
            have hi : i < d.sz := by rw [← hlen]; exact (List.getElem?_eq_some_iff.1 hu).1
            have := hcell i hi
            rw [hu] at this
            rw [← this]
            congr 1
            exact (addr_add_add a (j * d.sz) i).symm
    obtain ⟨xs, h1, h2, h3⟩ := key len (Nat.le_refl _)
    have hmax : cap ≤ 9223372036854775807 := by simpa [maxLen] using hm
    exact ⟨xs, ⟨some a, cap, by rw [h1], by omega, h1.symm ▸ rfl, by omega, fun _ => ⟨a, rfl, h3⟩⟩, by omega, h2⟩
/-- The fields of a struct, one behind the other. -/
def fieldsFrom (P : Program) : List Field → Nat → Nat → Bool
  | [], off, tot => off == tot
  | f :: fs, off, tot => f.offset == off && decide (off + P.cellsOf f.type ≤ tot) && fieldsFrom P fs (off + P.cellsOf f.type) tot
theorem cat_from {P : Program} {cs : List Value} {tot : Nat} (hl : cs.length = tot) : ∀ (fs : List Field) (off : Nat), fieldsFrom P fs off tot = true → fs.flatMap (fun f => (cs.drop f.offset).take (P.cellsOf f.type)) = cs.drop off := by
  intro fs
  induction fs with
  | nil =>
    intro off h
    have : off = tot := by simpa [fieldsFrom] using h
    rw [List.flatMap_nil, List.drop_eq_nil_of_le (by omega)]
  | cons f fs ih =>
    intro off h
    simp only [fieldsFrom, Bool.and_eq_true, beq_iff_eq, decide_eq_true_eq] at h
    obtain ⟨⟨h1, h2⟩, h3⟩ := h
    rw [List.flatMap_cons, ih _ h3, h1, ← List.drop_drop, List.take_append_drop]
def OpensFs {α : Type} (P : Program) (d : Kd α) (fs : List Field) (good : α → Prop) : Prop :=
  ∀ (H : Type) (enc : TypeId × Value → H) (w : World) (base : Nat) (spare : Nat → Bool) (held : Bool) (n : Nat) (g : Field → List Value),
    (∀ f ∈ fs, ∃ x, DataW.trod enc P w base spare held n f.type (g f) = some x) → ∃ a, d.K w a (fs.flatMap g) ∧ good a
theorem opensFs_one {α : Type} {P : Program} {d : Kd α} {f : Field} {t : TypeId} {good : α → Prop} (hf : f.type = t) (h : Opens P d t good) : OpensFs P d [f] good := by
  intro H enc w base spare held n g hx
  obtain ⟨x, hx⟩ := hx f List.mem_cons_self
  rw [hf] at hx
  obtain ⟨a, hk, hg⟩ := h H enc w base spare held n _ _ hx
  exact ⟨a, by simpa using hk, hg⟩
theorem opensFs_cons {α β : Type} {P : Program} {d : Kd α} {d' : Kd β} {f : Field} {t : TypeId} {fs : List Field} {good : α → Prop} {good' : β → Prop} (hf : f.type = t) (h : Opens P d t good) (h' : OpensFs P d' fs good') :
    OpensFs P (Kd.pair d d') (f :: fs) (fun x => good x.1 ∧ good' x.2) := by
  intro H enc w base spare held n g hx
  obtain ⟨x, hx0⟩ := hx f List.mem_cons_self
  rw [hf] at hx0
  obtain ⟨a, hk, hg⟩ := h H enc w base spare held n _ _ hx0
  obtain ⟨b, hk', hg'⟩ := h' H enc w base spare held n g (fun f' hf' => hx f' (List.mem_cons_of_mem _ hf'))
  exact ⟨(a, b), ⟨_, _, by rw [List.flatMap_cons], hk, hk'⟩, hg, hg'⟩
theorem opens_struct {α : Type} {P : Program} {d : Kd α} {t : TypeId} {fs : Array Field} {good : α → Prop} (ht : P.underlying t = some (.struct fs)) (hl : fieldsFrom P fs.toList 0 (P.cellsOf t) = true) (hf : OpensFs P d fs.toList good) :
    Opens P d t good := by
  intro H enc w base spare held fuel cs x h
  obtain ⟨xs, n, _, _, hlen, hxl, hx⟩ := DataW.trod_struct ht h
  obtain ⟨a, hk, hg⟩ := hf H enc w base spare held n (fun f => (cs.drop f.offset).take (P.cellsOf f.type)) (fun f hmem => by
    obtain ⟨i, hi, he⟩ := List.getElem_of_mem hmem
    have hi' : i < fs.size := by simpa using hi
    have := hx i f (by rw [Array.getElem?_eq_getElem hi']; simpa using he)
    rw [List.getElem?_eq_getElem (by omega)] at this
    exact ⟨_, this⟩)
  refine ⟨a, ?_, hg⟩
  rw [cat_from hlen fs.toList 0 hl] at hk
  simpa using hk
end Go.Proofs.Ytdkbhbolkieeiaa.K
