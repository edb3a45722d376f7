/- Structs of a fixed number of plain cells: a kind of one's own; lists of them. -/
import Derived.Test.YtdkbhbolkieeiaaKBlk
import Derived.Test.YtdkbhbolkieeiaaKEqArr
import Derived.Shelf.Abstract
namespace Go.Proofs.YtdkbhbolkieeiaaW.PrintWords
open Go.RowKit Go.Proofs.Ytdkbhbolkieeiaa.K
namespace Kd
/-- A value that lies as the cells 'enc x'. -/
def flat {α : Type} (n : Nat) (enc : α → List Value) (hn : ∀ x, (enc x).length = n) (h1 : ∀ x, ∀ u ∈ enc x, u.oneCell' = true) : Kd α where
  sz := n
  E := []
  K := fun _ x cs => cs = enc x
  M := fun _ _ _ x cs => cs = enc x
  K_len := fun h => by rw [h]; exact hn _
  K_one := fun h u hu => by rw [h] at hu; exact h1 _ u hu
  K_below := fun _ h => h
  K_of_M := fun h => h
  M_mono := fun _ h => h
  M_bound := fun h => h
  M_move := fun _ h => h
  M_lower := fun _ h => h
theorem at_flat {α : Type} {n : Nat} {enc : α → List Value} {hn : ∀ x, (enc x).length = n} {h1 : ∀ x, ∀ u ∈ enc x, u.oneCell' = true} {W : World} {A : Option Addr} {m : Nat} {xs : List α}
    (h : (flat n enc hn h1).C W A m xs) {j : Nat} (hj : j < xs.length) : ∃ ad, A = some ad ∧ ∀ i u, (enc xs[j])[i]? = some u → W.cell? (ad.add (j * n + i)) = some u := by
  have hm := h.1
  obtain ⟨ad, he, hx⟩ := h.2.2 (by omega)
  refine ⟨ad, he, fun i u hu => ?_⟩
  obtain ⟨c, hc1, hc2, hc3⟩ := hx j xs[j] (List.getElem?_eq_getElem hj)
  have hc2' : c = enc xs[j] := hc2
  subst hc2'
  exact hc3 i u hu
/-- .. at the addresses as a walk reckons them. -/
theorem at_flatA {α : Type} {n : Nat} {enc : α → List Value} {hn : ∀ x, (enc x).length = n} {h1 : ∀ x, ∀ u ∈ enc x, u.oneCell' = true} {W : World} {A : Option Addr} {m : Nat} {xs : List α}
    (h : (flat n enc hn h1).C W A m xs) {j : Nat} (hj : j < xs.length) : ∃ ad, A = some ad ∧ (∀ u, (enc xs[j])[0]? = some u → W.cell? (ad.add (j * n)) = some u) ∧
      ∀ i u, (enc xs[j])[i + 1]? = some u → W.cell? ⟨(ad.add (j * n)).block, (ad.add (j * n)).off + (i + 1), none⟩ = some u := by
  obtain ⟨ad, he, hx⟩ := at_flat h hj
  refine ⟨ad, he, fun u hu => ?_, fun i u hu => ?_⟩
  · simpa using hx 0 u hu
  · have h2 := hx (i + 1) u hu
    have e : ad.add (j * n + (i + 1)) = ⟨(ad.add (j * n)).block, (ad.add (j * n)).off + (i + 1), none⟩ := by
      rw [← addr_add_add]
      unfold Addr.add
      simp
    rw [e] at h2
    exact h2
theorem R_okFlat {α : Type} {n : Nat} {enc : α → List Value} {hn : ∀ x, (enc x).length = n} {h1 : ∀ x, ∀ u ∈ enc x, u.oneCell' = true} {e : Nat} {w : World} {base : Nat} {ok ok' : Nat → Prop} {v : Value} {xs : List α}
    (h : (flat n enc hn h1).R e w base ok v xs) (hok : ∀ k, v.ownBlock = some k → ok' k) : (flat n enc hn h1).R e w base ok' v xs := ⟨hok, h.2⟩
/-- A row that was laid as a literal just now. -/
theorem R_lay {α : Type} (d : Kd α) (W : World) (base : Nat) (e : TypeId) (hbase : base ≤ W.heap.size) {xs : List α} {inner : List Value} {ok okp : Nat → Prop} (hrep : Reps (d.M W base okp) d.sz xs inner) (hok : ∀ k, okp k → ok k) (hfresh : ok W.heap.size) (hm : xs.length ≤ 9223372036854775807) :
    d.R e (W.alloc (.cells inner.toArray e)) base ok (.slice (some ⟨W.heap.size, 0, none⟩) xs.length xs.length) xs := by
  refine ⟨fun k hk => ?_, inner, ?_, ?_⟩
  · have : W.heap.size = k := by simpa [Value.ownBlock] using hk
    subst this
    exact hfresh
  · have h2 := World.ownsRow_lit (base := base) (e := e) (size := d.sz) W inner.toArray xs.length hbase (by simpa [maxLen] using hm) (by simpa using hrep.1)
    simpa using h2
  · refine hrep.imp_ (fun p c hp => d.M_mono (fun k hk => ⟨hok k hk.1, fun he => ?_⟩) (Kd.M_below (d.M_bound hp) (below_alloc (Below.refl _ _) _)))
    have h3 : k = W.heap.size := by simpa [Value.ownBlock] using he
    have := hk.2.2.1
    omega
theorem R_lay0 {α : Type} (d : Kd α) {W : World} {base g : Nat} (e : TypeId) (hg : W.heap.size = g) (hbase : base ≤ g) : d.R e (W.alloc (.cells #[] e)) base (fun _ => True) (.slice (some ⟨g, 0, none⟩) 0 0) [] := by
  subst hg
  exact R_lay d W base e hbase (xs := []) (inner := []) (okp := fun _ => True) (Reps.none _ _) (fun _ h => h) trivial (by simp)
/-- Two rows apart: one has grown, the other lies as it lay, and they are apart again. -/
theorem R_apart {α β : Type} {n n' : Nat} {enc : α → List Value} {hn : ∀ x, (enc x).length = n} {h1 : ∀ x, ∀ u ∈ enc x, u.oneCell' = true} {enc' : β → List Value} {hn' : ∀ x, (enc' x).length = n'} {h1' : ∀ x, ∀ u ∈ enc' x, u.oneCell' = true} {e e' : Nat} {W w9 : World} {base : Nat} {vy vn v9 : Value} {ys : List α} {ns : List β}
    (_RY : (flat n enc hn h1).R e W base (fun _ => True) vy ys) (RN : (flat n' enc' hn' h1').R e' W base (fun _ => True) vn ns) (hne : ∀ b, vy.ownBlock = some b → vn.ownBlock ≠ some b) (hg : W.grownBy w9 vy.ownBlock) (hat : v9.ownBlock = vy.ownBlock ∨ ∃ b, v9.ownBlock = some b ∧ W.heap.size ≤ b) :
    (flat n' enc' hn' h1').R e' w9 base (fun _ => True) vn ns ∧ ∀ b, v9.ownBlock = some b → vn.ownBlock ≠ some b := by
  refine ⟨R_mono (R_grown (R_okFlat (ok' := fun k => some k ≠ vy.ownBlock) RN (fun k hk he => hne k he.symm hk)) hg (fun k h => h)) (fun _ _ => trivial), fun b hb hb' => ?_⟩
  rcases hat with h | ⟨c, hc, hcl⟩
  · exact hne b (h ▸ hb) hb'
  · rw [hc] at hb
    obtain rfl := Option.some.inj hb
    have := ((R_bound RN).1 c hb').2.2.1
    omega
end Kd
end Go.Proofs.YtdkbhbolkieeiaaW.PrintWords
namespace Go.Proofs.Ytdkbhbolkieeiaa.K
open Go.RowKit Go.Proofs.YtdkbhbolkieeiaaW.PrintWords Go.Proofs.YtdkbhbolkieeiaaW.PrintLast Go.Proofs.YtdkbhbolkieeiaaW.PrintMore
theorem heap_at2 {W : World} {o : Obj} {g : Nat} (hg : W.heap.size = g) : (W.alloc o).heap[g]? = some o := by
  subst hg
  exact heap_alloc_new _ _
/-- The first place where p holds; -1. -/
def idxP {α : Type} (p : α → Bool) (l : List α) : Int := match l.findIdx? p with | some i => i | none => -1
theorem idxP_hit {α : Type} {p : α → Bool} {l : List α} {k : Nat} (hk : k < l.length) (h : p l[k] = true) (h0 : ∀ j (hj : j < k), p (l[j]'(by omega)) = false) : idxP p l = k := by
  unfold idxP
  rw [List.findIdx?_eq_some_iff_getElem.2 ⟨hk, h, fun j hj => by simp [h0 j hj]⟩]
theorem idxP_miss {α : Type} {p : α → Bool} {l : List α} (h0 : ∀ j (hj : j < l.length), p l[j] = false) : idxP p l = -1 := by
  unfold idxP
  rw [List.findIdx?_eq_none_iff.2 (fun x hx => by obtain ⟨j, hj, rfl⟩ := List.getElem_of_mem hx; exact h0 j hj)]
end Go.Proofs.Ytdkbhbolkieeiaa.K
